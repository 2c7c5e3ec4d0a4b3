/- The reference's carries and sum of two registers. -/
import Derived.IntWalk
import Derived.Maps.AppendAt
import Derived.Deep.RegionLaw
import Derived.Deep.QuietTactic
import Derived.BigQuiet
import Derived.Test.YtkhjmokjbiepgaaWit2
namespace Go.Proofs.Ytkhjmokjbiepgaa
open Go.ChangeShapes Go.WideShapes Go.ChangeAt Go.RowKit
set_option maxHeartbeats 4000000 in
theorem spec_l02Carries {B1 B2 ga gb : Nat} {u v : Value} {xs ys : List Int} {n : Nat} (b : Int) (w : World) (h1 : Own w B1 u xs) (h2 : Own w B2 v ys) (l1 : xs.length = n) (l2 : ys.length = n) (hn : n ≤ 1048576) (hb : 2 ≤ b) (hb2 : b ≤ 16)
    (ca0 : w.cell? ⟨ga, 0, none⟩ = some (.int .i64 b)) (ca1 : w.cell? ⟨ga, 1, none⟩ = some u) (cb1 : w.cell? ⟨gb, 1, none⟩ = some v)
    (hx : ∀ k, k < n → 0 ≤ nth xs k ∧ nth xs k < b) (hy : ∀ k, k < n → 0 ≤ nth ys k ∧ nth ys k < b) :
    Calls Try.prog 92 #[.pointer (some ⟨ga, 0, none⟩), .pointer (some ⟨gb, 0, none⟩)] w (RetOwn w (cfN b xs ys (n + 1))) := by
  have HCY := Lib.hid (cf_bd (kd := 0) (lv := 0) hb hx hy)
  have HX := Lib.hid hx; have HY := Lib.hid hy; clear hx hy
  obtain ⟨a1, p1, rfl, m1, q1⟩ := own_form h1
  obtain ⟨a2, p2, rfl, m2, q2⟩ := own_form h2
  have Q1 := Lib.hid q1; have Q2 := Lib.hid q2; clear q1 q2 h1 h2
  have CA0 := Lib.hid ca0; have CA1 := Lib.hid ca1; have CB1 := Lib.hid cb1
  have gla : ga < w.heap.size := World.block_lt_of_cell? w _ ca0
  have glb : gb < w.heap.size := World.block_lt_of_cell? w _ cb1
  rw [l1] at CA1; rw [l2] at CB1
  rw [l1] at Q1; rw [l2] at Q2
  clear ca0 ca1 cb1 l1 l2
  go_enter Try.func92, Try.ntmps92
  go_wp2_with fail
  go_loopw [5, 6, 7] (fun vv cc kk wr => ∃ (t : Nat) (z : Value), kk = .int .i64 t ∧ t ≤ n ∧ vv = z ∧ cc = .int .i64 (cf b xs ys 0 0 t) ∧ Own wr w.heap.size z (cfN b xs ys (t + 1)) ∧ Below w.heap.size w wr ∧ w.heap.size ≤ wr.heap.size) (fun _ _ kk _ => n - (intOf kk).toNat)
  case atStart => exact ⟨0, _, rfl, Nat.zero_le _, rfl, rfl, ob_lit1 w 0, (Below.refl _ _).alloc (Nat.le_refl _) _, by simp⟩
  case round =>
    obtain ⟨t, z, rfl, ht, rfl, rfl, ho, hbw, hs⟩ := hrel
    have k0 := (hbw.cell gla).trans CA0.out
    have k1 := (hbw.cell gla).trans CA1.out
    have k2 := (hbw.cell glb).trans CB1.out
    have HOL := Lib.hid ho; have HBW := Lib.hid hbw
    obtain ⟨C0, C1⟩ := HCY.out t ht
    have gla2 : ga < wr.heap.size := by omega
    have glb2 : gb < wr.heap.size := by omega
    by_cases hlt : t < n
    · obtain ⟨g1, rfl, r1⟩ := Q1.out t hlt
      obtain ⟨g2, rfl, r2⟩ := Q2.out t hlt
      have gl1 : g1 < w.heap.size := World.block_lt_of_cell? w _ r1
      have gl2 : g2 < w.heap.size := World.block_lt_of_cell? w _ r2
      have s1 := (hbw.cell gl1).trans r1
      have s2 := (hbw.cell gl2).trans r2
      obtain ⟨X0, X1⟩ := HX.out t hlt
      obtain ⟨Y0, Y1⟩ := HY.out t hlt
      have hlb : (cfN b xs ys (t + 1)).length ≤ 1048577 := by simp [cfN]; omega
      have HN := Lib.hid (show cfN b xs ys (t + 1) ++ [cf b xs ys 0 0 (t + 1)] = cfN b xs ys (t + 1 + 1) from (range_snoc _ _).symm)
      have hC : cf b xs ys 0 0 (t + 1) = (nth xs t + nth ys t + cf b xs ys 0 0 t) / b := cf_zero _ _ _ _
      have hCb := HCY.out (t + 1) (by omega)
      generalize cfN b xs ys (t + 1) = L at *
      generalize hCC : cf b xs ys 0 0 (t + 1) = C' at *
      have HCC := Lib.hid hCC; clear hCC
      generalize cf b xs ys 0 0 t = C at *
      generalize nth xs t = X at *
      generalize nth ys t = Y at *
      have zb : ¬ b = 0 := by omega
      have tq : (X + Y + C).tdiv b = C' := by rw [hC]; exact Int.tdiv_eq_ediv_of_nonneg (by omega)
      have w1 : IntKind.i64.wrap (X + Y) = X + Y := IntWalk.i64_in _ (by omega)
      have w2 : IntKind.i64.wrap (X + Y + C) = X + Y + C := IntWalk.i64_in _ (by omega)
      have w3 : IntKind.i64.wrap C' = C' := IntWalk.i64_in _ (by omega)
      have i0 : (0 : Int) ≤ (t : Int) := by omega
      have i1 : (t : Int) < (n : Int) := by omega
      obtain ⟨az, cz, rfl, -, -⟩ := own_form ho
      clear hC r1 r2 hbw ho
      go_wp2_with fail
      go_quiet (fail)
      clear i0 i1 tq w1 w2 w3
      go_wp2_with (at_builtin; go_loud (refine wp_app rfl _ _ rfl _ _ (own_alloc (own_drewN HOL.out _) _) rfl rfl (by first | (simp; rfl) | exact cell_blk (heap_last _ _) 0) (by omega) (by first | (simp; done) | (simp; omega) | (show w.heap.size ≤ _ + 1; omega)) ?_; intro v' w9 ho' hg'; obtain ⟨hb', hs'⟩ := app_below (HBW.out.trans (drewN_below _ _ _)) (own_drewN HOL.out _) hg' (Nat.le_refl _) hs; have O9 := Lib.hid ho'; have B9 := Lib.hid hb'; have s9 := hs'; clear ho' hb' hg'))
      go_wp2_with fail
      go_roundw
      case rel => exact ⟨t + 1, _, by go_num, by omega, rfl, by rw [HCC.out], by rw [← HN.out]; exact O9.out, B9.out, s9⟩
      case measure => first | (simp [intOf]; done) | (simp [intOf]; omega)
    · obtain rfl : t = n := by omega
      clear ho hbw
      go_wp2_with fail
      go_ret
      exact ⟨_, rfl, HOL.out, HBW.out⟩
end Go.Proofs.Ytkhjmokjbiepgaa
