/- l02Add of the reference: the sum of two registers. -/
import Derived.IntWalk
import Derived.Maps.AppendAt
import Derived.Deep.RegionLaw
import Derived.Deep.QuietTactic
import Derived.BigQuiet
import Derived.OrdersHeld
import Derived.Test.YtkhjmokjbiepgaaWc
import Derived.Test.YtkhjmokjbiepgaaXany
namespace Go.Proofs.Ytkhjmokjbiepgaa
open Go.ChangeShapes Go.WideShapes Go.ChangeAt Go.RowKit
theorem al_cell {w : World} {p : Addr} {v : Value} (h : w.cell? p = some v) (o : Obj) : (w.alloc o).cell? p = some v := ((below_al w o).cell (World.block_lt_of_cell? w p h)).trans h
set_option maxHeartbeats 1000000 in
set_option maxRecDepth 100000 in
theorem spec_l02Add {B1 B2 ga gb : Nat} {u v : Value} {xs ys : List Int} (b : Int) (n : Nat) (w : World) (h1 : Own w B1 u xs) (h2 : Own w B2 v ys) (l1 : xs.length = n) (l2 : ys.length = n) (hn : n ≤ 16) (hb : 2 ≤ b) (hb2 : b ≤ 16)
    (hx : ∀ k, k < n → 0 ≤ nth xs k ∧ nth xs k < b) (hy : ∀ k, k < n → 0 ≤ nth ys k ∧ nth ys k < b)
    (ca0 : w.cell? ⟨ga, 0, none⟩ = some (.int .i64 b)) (ca1 : w.cell? ⟨ga, 1, none⟩ = some u) (cb1 : w.cell? ⟨gb, 1, none⟩ = some v) :
    Calls Try.prog 81 #[.pointer (some ⟨ga, 0, none⟩), .pointer (some ⟨gb, 0, none⟩)] w (RetAggI w b (faL b xs ys 0 0 n) (cf b xs ys 0 0 n)) := by
  have HCF := Lib.hid (cf_bd (kd := 0) (lv := 0) hb hx hy)
  have HX := Lib.hid hx; have HY := Lib.hid hy
  have H1 := Lib.hid h1; have H2 := Lib.hid h2
  have SC := Lib.hid (fun wx (k1 : Own wx B1 u xs) (k2 : Own wx B2 v ys) c0 c1 c2 => spec_l02Carries (ga := ga) (gb := gb) b wx k1 k2 l1 l2 (by omega) hb hb2 c0 c1 c2 hx hy)
  have gla : ga < w.heap.size := World.block_lt_of_cell? w _ ca0
  have glb : gb < w.heap.size := World.block_lt_of_cell? w _ cb1
  have CA0 := Lib.hid ca0; have CA1 := Lib.hid ca1; have CB1 := Lib.hid cb1
  obtain ⟨a1, p1, rfl, m1, q1⟩ := own_form h1
  obtain ⟨a2, p2, rfl, m2, q2⟩ := own_form h2
  rw [l1] at *; rw [l2] at *
  have Q1 := Lib.hid q1; have Q2 := Lib.hid q2; clear q1 q2 h1 h2 l1 l2 hx hy
  go_enter Try.func81, Try.ntmps81
  go_wp2_with fail
  have A0 := below_al w (.cells #[.int .i64 0, .slice none 0 0] 41)
  refine (SC.out _ (own_alloc H1.out _) (own_alloc H2.out _) ((A0.cell gla).trans CA0.out) ((A0.cell gla).trans CA1.out) ((A0.cell glb).trans CB1.out)).mono ?_; rintro e w1 ⟨vk, rfl, ok, b1⟩
  obtain ⟨yR, bw1, s1, e1⟩ := blk1 b1
  have YR := Lib.hid yR; have BW1 := Lib.hid bw1
  have lk : (cfN b xs ys (n + 1)).length = n + 1 := by simp [cfN]
  have GK := own_block_lt ok
  obtain ⟨ak, ck, hk, -, qk⟩ := own_form ok
  rw [lk] at hk qk
  subst hk
  rw [e1] at GK
  have GK2 := Lib.hid (fun g (h : ak = some ⟨g, 0, none⟩) => (GK g (by rw [h]; rfl)).1)
  have QK := Lib.hid (show ∀ i, i < n + 1 → ∃ g, ak = some ⟨g, 0, none⟩ ∧ w1.cell? ⟨g, i, none⟩ = some (.int .i64 (cf b xs ys 0 0 i)) from fun i hi => by
    obtain ⟨g, h3, h4⟩ := qk i hi
    rw [show nth (cfN b xs ys (n + 1)) i = cf b xs ys 0 0 i from nth_range_map _ hi] at h4
    exact ⟨g, h3, h4⟩)
  have ka0 := (bw1.cell (p := ⟨ga, 0, none⟩) gla).trans CA0.out
  have ka1 := (bw1.cell (p := ⟨ga, 1, none⟩) gla).trans CA1.out
  have kb1 := (bw1.cell (p := ⟨gb, 1, none⟩) glb).trans CB1.out
  have K0 := Lib.hid ka0; have K1 := Lib.hid ka1; have K2 := Lib.hid kb1
  have ga1 : ga < w1.heap.size := by omega
  have gb1 : gb < w1.heap.size := by omega
  clear ca0 ca1 cb1 A0 ok b1 yR bw1 qk e1 kb1 lk GK
  go_wp2_with fail
  clear ka0 ka1
  go_loopw [8] (fun kk wr => ∃ (t : Nat) (z : Value), kk = .int .i64 (t : Int) ∧ t ≤ n ∧ Own wr w1.heap.size z (faL b xs ys 0 0 t) ∧ some w1.heap.size ≠ z.ownBlock ∧ wr.heap[w1.heap.size]? = some (.cells #[.int .i64 b, z] 41) ∧ Below w1.heap.size w1 wr ∧ w1.heap.size + 1 ≤ wr.heap.size) (fun kk _ => n - (intOf kk).toNat)
  case atStart => exact ⟨0, _, rfl, Nat.zero_le _, own_nil, by simp [Value.ownBlock], heap_last _ _, (Below.refl _ _).alloc (Nat.le_refl _) _, by simp⟩
  case round =>
    obtain ⟨t, z, rfl, ht, ho, hne, h4, hbz, hsz⟩ := hrel
    have HZ := Lib.hid hbz; have HO := Lib.hid ho; have NE := Lib.hid hne; have Y4 := Lib.hid h4
    obtain ⟨az, cz, rfl, -, -⟩ := own_form ho
    have lz : (faL b xs ys 0 0 t).length = t := by simp [faL]
    have lz16 : (faL b xs ys 0 0 t).length ≤ 16 := by rw [lz]; omega
    have sA0 := (hbz.cell (p := ⟨ga, 0, none⟩) ga1).trans K0.out
    have sA1 := (hbz.cell (p := ⟨ga, 1, none⟩) ga1).trans K1.out
    have sB1 := (hbz.cell (p := ⟨gb, 1, none⟩) gb1).trans K2.out
    have la : ga < wr.heap.size := by omega
    have lb : gb < wr.heap.size := by omega
    by_cases hlt : t < n
    · obtain ⟨g1, e1, r1⟩ := Q1.out t hlt
      obtain ⟨g2, e2, r2⟩ := Q2.out t hlt
      obtain ⟨gk, e3, r3⟩ := QK.out t (by omega)
      have gw1 : g1 < w.heap.size := World.block_lt_of_cell? w _ r1
      have gw2 : g2 < w.heap.size := World.block_lt_of_cell? w _ r2
      have gkl : gk < w1.heap.size := World.block_lt_of_cell? w1 _ r3
      have s1' := (hbz.cell (p := ⟨g1, t, none⟩) (show g1 < w1.heap.size by omega)).trans ((BW1.out.cell (p := ⟨g1, t, none⟩) gw1).trans r1)
      have s2' := (hbz.cell (p := ⟨g2, t, none⟩) (show g2 < w1.heap.size by omega)).trans ((BW1.out.cell (p := ⟨g2, t, none⟩) gw2).trans r2)
      have s3' := (hbz.cell (p := ⟨gk, t, none⟩) gkl).trans r3
      subst e1; subst e2; subst e3
      obtain ⟨X0, X1⟩ := HX.out t hlt; obtain ⟨Y0, Y1⟩ := HY.out t hlt; obtain ⟨C0', C1'⟩ := HCF.out t (by omega)
      have HN := Lib.hid (show faL b xs ys 0 0 t ++ [(nth xs t + nth ys t + cf b xs ys 0 0 t) % b] = faL b xs ys 0 0 (t + 1) from (range_snoc _ _).symm)
      have c0 := cell_blk h4 0; have c1 := cell_blk h4 1; have f1 := frozen_blk h4 1
      have P1 := Lib.hid ((BW1.out.cell (p := ⟨g1, t, none⟩) gw1).trans r1); have P2 := Lib.hid ((BW1.out.cell (p := ⟨g2, t, none⟩) gw2).trans r2); have P3 := Lib.hid r3
      have gz1 : g1 < w1.heap.size := by omega
      have gz2 : g2 < w1.heap.size := by omega
      clear r1 r2 r3 hbz ho hne h4 lz
      generalize faL b xs ys 0 0 t = L at *
      generalize cf b xs ys 0 0 t = C at *
      generalize nth xs t = X at *
      generalize nth ys t = Y at *
      have zb : ¬ b = 0 := by omega
      have tm : (X + Y + C).tmod b = (X + Y + C) % b := Int.tmod_eq_emod_of_nonneg (by omega)
      have D0 : 0 ≤ (X + Y + C) % b := Int.emod_nonneg _ zb
      have D1 : (X + Y + C) % b < b := Int.emod_lt_of_pos _ (by omega)
      generalize (X + Y + C) % b = D at *
      have v1 : IntKind.i64.wrap (X + Y) = X + Y := IntWalk.i64_in _ (by omega)
      have v2 : IntKind.i64.wrap (X + Y + C) = X + Y + C := IntWalk.i64_in _ (by omega)
      have v3 : IntKind.i64.wrap D = D := IntWalk.i64_in _ (by omega)
      have i0 : (0 : Int) ≤ (t : Int) := by omega
      have i1 : (t : Int) < (n : Int) := by omega
      have i2 : (t : Int) < (n : Int) + 1 := by omega
      have i3 : (t : Int) < ((n + 1 : Nat) : Int) := by omega
      have l1 : w1.heap.size < wr.heap.size := by omega
      have lg1 : g1 < wr.heap.size := by omega
      have lg2 : g2 < wr.heap.size := by omega
      have lgk : gk < wr.heap.size := by omega
      go_wp2_with fail
      refine anyX_region (fun w' => w'.cell? ⟨w1.heap.size, 1, none⟩ = some (.slice az L.length cz) ∧ w'.cell? ⟨ga, 1, none⟩ = some (.slice (some ⟨g1, 0, none⟩) n p1) ∧ w'.cell? ⟨g1, t, none⟩ = some (.int .i64 X) ∧ w'.cell? ⟨gb, 1, none⟩ = some (.slice (some ⟨g2, 0, none⟩) n p2) ∧ w'.cell? ⟨g2, t, none⟩ = some (.int .i64 Y) ∧ w'.cell? ⟨gk, t, none⟩ = some (.int .i64 C) ∧ w'.cell? ⟨ga, 0, none⟩ = some (.int .i64 b)) 30 (by kernel_rfl) ?_
      have hS : wr.drew.cell? ⟨w1.heap.size, 1, none⟩ = some (.slice az L.length cz) ∧ wr.drew.cell? ⟨ga, 1, none⟩ = some (.slice (some ⟨g1, 0, none⟩) n p1) ∧ wr.drew.cell? ⟨g1, t, none⟩ = some (.int .i64 X) ∧ wr.drew.cell? ⟨gb, 1, none⟩ = some (.slice (some ⟨g2, 0, none⟩) n p2) ∧ wr.drew.cell? ⟨g2, t, none⟩ = some (.int .i64 Y) ∧ wr.drew.cell? ⟨gk, t, none⟩ = some (.int .i64 C) ∧ wr.drew.cell? ⟨ga, 0, none⟩ = some (.int .i64 b) := ⟨c1, sA1, s1', sB1, s2', s3', sA0⟩
      refine anyX_take (i := 0) (v := ?_) rfl (by kernel_rfl) (by kernel_rfl) (by kernel_rfl) (by kernel_rfl) (fun _ _ _ h => h) (Or.inl ⟨by rfl, ?_⟩) hS ?_
      rotate_left
      · intro wy hy; obtain ⟨y0, y1, y2, y3, y4, y5, y6⟩ := hy; go_simp; (try with_reducible rfl)
      simp only [List.getElem_toArray, List.getElem_cons_zero, Act.put, List.setIfInBounds_toArray, List.set_cons_zero, List.set_cons_succ]
      refine anyX_take (i := 1) (v := ?_) rfl (by kernel_rfl) (by kernel_rfl) (by kernel_rfl) (by kernel_rfl) (fun _ _ _ h => h) (Or.inl ⟨by rfl, ?_⟩) hS ?_
      rotate_left
      · intro wy hy; obtain ⟨y0, y1, y2, y3, y4, y5, y6⟩ := hy; go_simp; (try with_reducible rfl)
      simp only [List.getElem_toArray, List.getElem_cons_succ, List.getElem_cons_zero, Act.put, List.setIfInBounds_toArray, List.set_cons_zero, List.set_cons_succ]
      refine anyX_take (i := 2) (v := ?_) rfl (by kernel_rfl) (by kernel_rfl) (by kernel_rfl) (by kernel_rfl) (fun _ _ _ h => h) (Or.inl ⟨by rfl, ?_⟩) hS ?_
      rotate_left
      · intro wy hy; obtain ⟨y0, y1, y2, y3, y4, y5, y6⟩ := hy; go_simp; (try with_reducible rfl)
      simp only [List.getElem_toArray, List.getElem_cons_succ, List.getElem_cons_zero, Act.put, List.setIfInBounds_toArray, List.set_cons_zero, List.set_cons_succ]
      refine anyX_take (i := 3) (v := ?_) rfl (by kernel_rfl) (by kernel_rfl) (by kernel_rfl) (by kernel_rfl) (fun _ _ _ h => h) (Or.inl ⟨by rfl, ?_⟩) hS ?_
      rotate_left
      · intro wy hy; obtain ⟨y0, y1, y2, y3, y4, y5, y6⟩ := hy; go_simp; (try with_reducible rfl)
      simp only [List.getElem_toArray, List.getElem_cons_succ, List.getElem_cons_zero, Act.put, List.setIfInBounds_toArray, List.set_cons_zero, List.set_cons_succ]
      refine anyX_take (i := 4) (v := ?_) rfl (by kernel_rfl) (by kernel_rfl) (by kernel_rfl) (by kernel_rfl) (fun _ _ _ h => h) (Or.inl ⟨by rfl, ?_⟩) hS ?_
      rotate_left
      · intro wy hy; obtain ⟨y0, y1, y2, y3, y4, y5, y6⟩ := hy; go_simp; (try with_reducible rfl)
      simp only [List.getElem_toArray, List.getElem_cons_succ, List.getElem_cons_zero, Act.put, List.setIfInBounds_toArray, List.set_cons_zero, List.set_cons_succ]
      refine anyX_take (i := 5) (v := ?_) rfl (by kernel_rfl) (by kernel_rfl) (by kernel_rfl) (by kernel_rfl) (fun _ _ _ h => h) (Or.inl ⟨by rfl, ?_⟩) hS ?_
      rotate_left
      · intro wy hy; obtain ⟨y0, y1, y2, y3, y4, y5, y6⟩ := hy; go_simp; (try with_reducible rfl)
      simp only [List.getElem_toArray, List.getElem_cons_succ, List.getElem_cons_zero, Act.put, List.setIfInBounds_toArray, List.set_cons_zero, List.set_cons_succ]
      refine anyX_take (i := 6) (v := ?_) rfl (by kernel_rfl) (by kernel_rfl) (by kernel_rfl) (by kernel_rfl) (fun _ _ _ h => h) (Or.inl ⟨by rfl, ?_⟩) hS ?_
      rotate_left
      · intro wy hy; obtain ⟨y0, y1, y2, y3, y4, y5, y6⟩ := hy; go_simp; (try with_reducible rfl)
      simp only [List.getElem_toArray, List.getElem_cons_succ, List.getElem_cons_zero, Act.put, List.setIfInBounds_toArray, List.set_cons_zero, List.set_cons_succ]
      refine anyX_take (i := 7) (v := ?_) rfl (by kernel_rfl) (by kernel_rfl) (by kernel_rfl) (by kernel_rfl) (fun _ _ _ h => h) (Or.inl ⟨by rfl, ?_⟩) hS ?_
      rotate_left
      · intro wy hy; obtain ⟨y0, y1, y2, y3, y4, y5, y6⟩ := hy; go_simp; (try with_reducible rfl)
      simp only [List.getElem_toArray, List.getElem_cons_succ, List.getElem_cons_zero, Act.put, List.setIfInBounds_toArray, List.set_cons_zero, List.set_cons_succ]
      refine anyX_take (i := 8) (v := ?_) rfl (by kernel_rfl) (by kernel_rfl) (by kernel_rfl) (by kernel_rfl) (fun _ _ _ h => h) (Or.inl ⟨by rfl, ?_⟩) hS ?_
      rotate_left
      · intro wy hy; obtain ⟨y0, y1, y2, y3, y4, y5, y6⟩ := hy; go_simp; (try with_reducible rfl)
      simp only [List.getElem_toArray, List.getElem_cons_succ, List.getElem_cons_zero, Act.put, List.setIfInBounds_toArray, List.set_cons_zero, List.set_cons_succ]
      refine anyX_take (i := 9) (v := ?_) rfl (by kernel_rfl) (by kernel_rfl) (by kernel_rfl) (by kernel_rfl) (fun _ _ _ h => h) (Or.inl ⟨by rfl, ?_⟩) hS ?_
      rotate_left
      · intro wy hy; obtain ⟨y0, y1, y2, y3, y4, y5, y6⟩ := hy; go_simp; (try with_reducible rfl)
      simp only [List.getElem_toArray, List.getElem_cons_succ, List.getElem_cons_zero, Act.put, List.setIfInBounds_toArray, List.set_cons_zero, List.set_cons_succ]
      refine anyX_take (i := 10) (v := ?_) rfl (by kernel_rfl) (by kernel_rfl) (by kernel_rfl) (by kernel_rfl) (fun _ _ _ h => h) (Or.inl ⟨by rfl, ?_⟩) hS ?_
      rotate_left
      · intro wy hy; obtain ⟨y0, y1, y2, y3, y4, y5, y6⟩ := hy; go_simp; (try with_reducible rfl)
      simp only [List.getElem_toArray, List.getElem_cons_succ, List.getElem_cons_zero, Act.put, List.setIfInBounds_toArray, List.set_cons_zero, List.set_cons_succ]
      refine anyX_take (i := 11) (v := ?_) rfl (by kernel_rfl) (by kernel_rfl) (by kernel_rfl) (by kernel_rfl) (fun _ _ _ h => h) (Or.inl ⟨by rfl, ?_⟩) hS ?_
      rotate_left
      · intro wy hy; obtain ⟨y0, y1, y2, y3, y4, y5, y6⟩ := hy; go_simp; (try with_reducible rfl)
      simp only [List.getElem_toArray, List.getElem_cons_succ, List.getElem_cons_zero, Act.put, List.setIfInBounds_toArray, List.set_cons_zero, List.set_cons_succ]
      refine anyX_take (i := 12) (v := ?_) rfl (by kernel_rfl) (by kernel_rfl) (by kernel_rfl) (by kernel_rfl) (fun _ _ _ h => h) (Or.inl ⟨by rfl, ?_⟩) hS ?_
      rotate_left
      · intro wy hy; obtain ⟨y0, y1, y2, y3, y4, y5, y6⟩ := hy; go_simp; (try with_reducible rfl)
      simp only [List.getElem_toArray, List.getElem_cons_succ, List.getElem_cons_zero, Act.put, List.setIfInBounds_toArray, List.set_cons_zero, List.set_cons_succ]
      refine anyX_take (i := 13) (v := ?_) rfl (by kernel_rfl) (by kernel_rfl) (by kernel_rfl) (by kernel_rfl) (fun _ _ _ h => h) (Or.inl ⟨by rfl, ?_⟩) hS ?_
      rotate_left
      · intro wy hy; obtain ⟨y0, y1, y2, y3, y4, y5, y6⟩ := hy; go_simp; (try with_reducible rfl)
      simp only [List.getElem_toArray, List.getElem_cons_succ, List.getElem_cons_zero, Act.put, List.setIfInBounds_toArray, List.set_cons_zero, List.set_cons_succ]
      refine anyX_take (i := 14) (v := ?_) rfl (by kernel_rfl) (by kernel_rfl) (by kernel_rfl) (by kernel_rfl) (fun _ _ _ h => h) (Or.inl ⟨by rfl, ?_⟩) hS ?_
      rotate_left
      · intro wy hy; obtain ⟨y0, y1, y2, y3, y4, y5, y6⟩ := hy; go_simp; (try with_reducible rfl)
      simp only [List.getElem_toArray, List.getElem_cons_succ, List.getElem_cons_zero, Act.put, List.setIfInBounds_toArray, List.set_cons_zero, List.set_cons_succ]
      refine anyX_take (i := 15) (v := ?_) rfl (by kernel_rfl) (by kernel_rfl) (by kernel_rfl) (by kernel_rfl) (fun _ _ _ h => h) (Or.inl ⟨by rfl, ?_⟩) hS ?_
      rotate_left
      · intro wy hy; obtain ⟨y0, y1, y2, y3, y4, y5, y6⟩ := hy; go_simp; (try with_reducible rfl)
      simp only [List.getElem_toArray, List.getElem_cons_succ, List.getElem_cons_zero, Act.put, List.setIfInBounds_toArray, List.set_cons_zero, List.set_cons_succ]
      refine anyX_take (i := 16) (v := ?_) rfl (by kernel_rfl) (by kernel_rfl) (by kernel_rfl) (by kernel_rfl) (fun _ _ _ h => h) (Or.inl ⟨by rfl, ?_⟩) hS ?_
      rotate_left
      · intro wy hy; obtain ⟨y0, y1, y2, y3, y4, y5, y6⟩ := hy; go_simp; (try with_reducible rfl)
      simp only [List.getElem_toArray, List.getElem_cons_succ, List.getElem_cons_zero, Act.put, List.setIfInBounds_toArray, List.set_cons_zero, List.set_cons_succ]
      refine anyX_take (i := 17) (v := ?_) rfl (by kernel_rfl) (by kernel_rfl) (by kernel_rfl) (by kernel_rfl) (fun _ _ _ h => h) (Or.inl ⟨by rfl, ?_⟩) hS ?_
      rotate_left
      · intro wy hy; obtain ⟨y0, y1, y2, y3, y4, y5, y6⟩ := hy; go_simp; (try with_reducible rfl)
      simp only [List.getElem_toArray, List.getElem_cons_succ, List.getElem_cons_zero, Act.put, List.setIfInBounds_toArray, List.set_cons_zero, List.set_cons_succ]
      refine anyX_take (i := 18) (v := ?_) rfl (by kernel_rfl) (by kernel_rfl) (by kernel_rfl) (by kernel_rfl) (fun _ _ _ h => h) (Or.inl ⟨by rfl, ?_⟩) hS ?_
      rotate_left
      · intro wy hy; obtain ⟨y0, y1, y2, y3, y4, y5, y6⟩ := hy; go_simp; (try with_reducible rfl)
      simp only [List.getElem_toArray, List.getElem_cons_succ, List.getElem_cons_zero, Act.put, List.setIfInBounds_toArray, List.set_cons_zero, List.set_cons_succ]
      refine anyX_take (i := 19) (v := ?_) rfl (by kernel_rfl) (by kernel_rfl) (by kernel_rfl) (by kernel_rfl) (fun _ _ _ h => h) (Or.inl ⟨by rfl, ?_⟩) hS ?_
      rotate_left
      · intro wy hy; obtain ⟨y0, y1, y2, y3, y4, y5, y6⟩ := hy; go_simp; (try with_reducible rfl)
      simp only [List.getElem_toArray, List.getElem_cons_succ, List.getElem_cons_zero, Act.put, List.setIfInBounds_toArray, List.set_cons_zero, List.set_cons_succ]
      refine anyX_take (i := 20) (v := ?_) rfl (by kernel_rfl) (by kernel_rfl) (by kernel_rfl) (by kernel_rfl) (fun _ _ _ h => h) (Or.inl ⟨by rfl, ?_⟩) hS ?_
      rotate_left
      · intro wy hy; obtain ⟨y0, y1, y2, y3, y4, y5, y6⟩ := hy; go_simp; (try with_reducible rfl)
      simp only [List.getElem_toArray, List.getElem_cons_succ, List.getElem_cons_zero, Act.put, List.setIfInBounds_toArray, List.set_cons_zero, List.set_cons_succ]
      refine anyX_take (i := 21) (v := ?_) rfl (by kernel_rfl) (by kernel_rfl) (by kernel_rfl) (by kernel_rfl) (fun _ _ _ h => h) (Or.inl ⟨by rfl, ?_⟩) hS ?_
      rotate_left
      · intro wy hy; obtain ⟨y0, y1, y2, y3, y4, y5, y6⟩ := hy; go_simp; (try with_reducible rfl)
      simp only [List.getElem_toArray, List.getElem_cons_succ, List.getElem_cons_zero, Act.put, List.setIfInBounds_toArray, List.set_cons_zero, List.set_cons_succ]
      refine anyX_take (i := 22) (v := ?_) rfl (by kernel_rfl) (by kernel_rfl) (by kernel_rfl) (by kernel_rfl) (fun _ _ _ h => h) (Or.inl ⟨by rfl, ?_⟩) hS ?_
      rotate_left
      · intro wy hy; obtain ⟨y0, y1, y2, y3, y4, y5, y6⟩ := hy; go_simp; (try with_reducible rfl)
      simp only [List.getElem_toArray, List.getElem_cons_succ, List.getElem_cons_zero, Act.put, List.setIfInBounds_toArray, List.set_cons_zero, List.set_cons_succ]
      refine anyX_take (i := 23) (v := ?_) rfl (by kernel_rfl) (by kernel_rfl) (by kernel_rfl) (by kernel_rfl) (fun _ _ _ h => h) (Or.inl ⟨by rfl, ?_⟩) hS ?_
      rotate_left
      · intro wy hy; obtain ⟨y0, y1, y2, y3, y4, y5, y6⟩ := hy; go_simp; (try with_reducible rfl)
      simp only [List.getElem_toArray, List.getElem_cons_succ, List.getElem_cons_zero, Act.put, List.setIfInBounds_toArray, List.set_cons_zero, List.set_cons_succ]
      refine anyX_take (i := 24) (v := ?_) rfl (by kernel_rfl) (by kernel_rfl) (by kernel_rfl) (by kernel_rfl) (fun _ _ _ h => h) (Or.inl ⟨by rfl, ?_⟩) hS ?_
      rotate_left
      · intro wy hy; obtain ⟨y0, y1, y2, y3, y4, y5, y6⟩ := hy; go_simp; (try with_reducible rfl)
      simp only [List.getElem_toArray, List.getElem_cons_succ, List.getElem_cons_zero, Act.put, List.setIfInBounds_toArray, List.set_cons_zero, List.set_cons_succ]
      refine anyX_take (i := 25) (v := ?_) rfl (by kernel_rfl) (by kernel_rfl) (by kernel_rfl) (by kernel_rfl) (fun _ _ _ h => h) (Or.inl ⟨by rfl, ?_⟩) hS ?_
      rotate_left
      · intro wy hy; obtain ⟨y0, y1, y2, y3, y4, y5, y6⟩ := hy; go_simp; (try with_reducible rfl)
      simp only [List.getElem_toArray, List.getElem_cons_succ, List.getElem_cons_zero, Act.put, List.setIfInBounds_toArray, List.set_cons_zero, List.set_cons_succ]
      refine anyX_take (i := 26) (v := ?_) rfl (by kernel_rfl) (by kernel_rfl) (by kernel_rfl) (by kernel_rfl) (fun _ _ _ h => h) (Or.inl ⟨by rfl, ?_⟩) hS ?_
      rotate_left
      · intro wy hy; obtain ⟨y0, y1, y2, y3, y4, y5, y6⟩ := hy; go_simp; (try with_reducible rfl)
      simp only [List.getElem_toArray, List.getElem_cons_succ, List.getElem_cons_zero, Act.put, List.setIfInBounds_toArray, List.set_cons_zero, List.set_cons_succ]
      refine anyX_one 27 (by kernel_rfl) rfl (fun K hK => ?_)
      go_simp
      refine hK.out _ _ (.inr ?_) ?_
      · exact ⟨al_cell c1 _, al_cell sA1 _, al_cell s1' _, al_cell sB1 _, al_cell s2' _, al_cell s3' _, al_cell sA0 _⟩
      try simp only [Act.put, List.setIfInBounds_toArray, List.set_cons_zero, List.set_cons_succ]
      refine anyX_one 28 (by kernel_rfl) rfl (fun K hK => ?_)
      refine step_app_at (by rfl) _ _ (by rfl) _ _ (own_alloc (own_drew HO.out) _) (by rfl) (by rfl) (by simp; rfl) (by omega) (by simp; omega) ?_
      intro v' w9 ho' hg' hloc
      obtain ⟨hb', hs'⟩ := app_below HZ.out.drew (own_drew HO.out) hg' (Nat.le_refl _) (show w1.heap.size ≤ wr.heap.size by omega)
      have x4 := (hg'.block w1.heap.size (by simp; omega) NE.out).trans ((Below.heap_alloc wr.drew _ _ (show w1.heap.size < wr.heap.size by omega)).trans Y4.out)
      have hs9 := hg'.size
      have M4 := Lib.hid (loc_ne hloc NE.out (by simp; omega))
      have hU : w9.cell? ⟨w1.heap.size, 1, none⟩ = some (.slice az L.length cz) := (cell_blk x4 1).trans rfl
      have hS9 : w9.cell? ⟨w1.heap.size, 1, none⟩ = some (.slice az L.length cz) ∧ w9.cell? ⟨ga, 1, none⟩ = some (.slice (some ⟨g1, 0, none⟩) n p1) ∧ w9.cell? ⟨g1, t, none⟩ = some (.int .i64 X) ∧ w9.cell? ⟨gb, 1, none⟩ = some (.slice (some ⟨g2, 0, none⟩) n p2) ∧ w9.cell? ⟨g2, t, none⟩ = some (.int .i64 Y) ∧ w9.cell? ⟨gk, t, none⟩ = some (.int .i64 C) ∧ w9.cell? ⟨ga, 0, none⟩ = some (.int .i64 b) :=
        ⟨hU, (hb'.cell (p := ⟨ga, 1, none⟩) ga1).trans K1.out, (hb'.cell (p := ⟨g1, t, none⟩) gz1).trans P1.out, (hb'.cell (p := ⟨gb, 1, none⟩) gb1).trans K2.out, (hb'.cell (p := ⟨g2, t, none⟩) gz2).trans P2.out, (hb'.cell (p := ⟨gk, t, none⟩) gkl).trans P3.out, (hb'.cell (p := ⟨ga, 0, none⟩) ga1).trans K0.out⟩
      refine hK.out _ _ (.inr hS9) ?_
      clear hS hK K
      obtain ⟨av, cv, rfl, -, -⟩ := own_form ho'
      have d0 := cell_blk x4 0; have d1 := cell_blk x4 1; have f1 := frozen_blk x4 1; have X4 := Lib.hid x4; have O9 := Lib.hid ho'; have B9 := Lib.hid hb'
      clear ho' hb' hg' hloc x4 hU
      try simp only [Act.put, List.setIfInBounds_toArray]
      have hS := hS9
      refine anyX_take (i := 29) (v := ?_) rfl (by kernel_rfl) (by kernel_rfl) (by kernel_rfl) (by kernel_rfl) (fun _ _ _ h => h) (Or.inl ⟨by rfl, ?_⟩) hS ?_
      rotate_left
      · intro wy hy; obtain ⟨y0, y1, y2, y3, y4, y5, y6⟩ := hy; go_simp; (try with_reducible rfl)
      simp only [List.getElem_toArray, List.getElem_cons_succ, List.getElem_cons_zero, Act.put, List.setIfInBounds_toArray, List.set_cons_zero, List.set_cons_succ]
      refine anyX_one 30 (by kernel_rfl) rfl (fun K hK => ?_)
      clear hS hS9
      go_simp
      refine hK.out _ _ (.inl rfl) ?_
      clear hK K
      refine anyX_done (by kernel_rfl) ?_ _
      clear tm v1 v2 v3
      go_wp2_with fail
      go_roundw
      case rel => exact ⟨t + 1, _, by go_num, by omega, by rw [← HN.out]; exact own_setCell_ne O9.out M4.out, fun e => M4.out e.symm, by simpa using setCell_blk X4.out (.slice av (L.length + 1) cv), B9.out.setCell (p := ⟨w1.heap.size, 1, none⟩) (Nat.le_refl _) _, by show w1.heap.size + 1 ≤ (World.setCell w9 _ _).heap.size; simp at *; omega⟩
      case measure => first | (simp [intOf]; done) | (simp [intOf]; omega)
    · obtain rfl : t = n := by omega
      obtain ⟨gk, e3, r3⟩ := QK.out t (by omega)
      have s3' := (hbz.cell (p := ⟨gk, t, none⟩) (World.block_lt_of_cell? w1 _ r3)).trans r3
      have d0 := cell_blk h4 0; have d1 := cell_blk h4 1
      have zR := (hbz.block w.heap.size (by omega)).trans YR.out
      have r0 := cell_blk zR 0; have r1 := cell_blk zR 1; have g0 := frozen_blk zR 0; have g1 := frozen_blk zR 1
      have NR := Lib.hid (show (Value.slice az (faL b xs ys 0 0 t).length cz).ownBlock ≠ some w.heap.size from fun h => by have := (own_block_lt ho _ h).1; omega)
      have BW := Lib.hid (Below.trans_size BW1.out HZ.out)
      have gkl : gk < w1.heap.size := World.block_lt_of_cell? w1 _ r3
      have lgk : gk < wr.heap.size := by have := hbz.size; omega
      have nk0 := GK2.out gk e3
      have na : ¬ ga = w.heap.size := by omega
      have nk : ¬ gk = w.heap.size := by omega
      have lw : w.heap.size < wr.heap.size := by omega
      have lo : w1.heap.size < wr.heap.size := by omega
      have no : ¬ w1.heap.size = w.heap.size := by omega
      subst e3
      generalize cf b xs ys 0 0 t = C at *
      generalize faL b xs ys 0 0 t = L at *
      have i0 : (0 : Int) ≤ (t : Int) := by omega
      have i2 : (t : Int) < (t : Int) + 1 := by omega
      clear ho hne h4 hbz zR lz r3
      go_wp2_with fail
      go_region_law (fail)
      all_goals (
      go_wp2_with fail
      refine bodyPost_ret (v := .tuple #[.agg #[.int .i64 b, .slice az L.length cz], .int .i64 C]) (by simp [results, Try.results81, go_sem, *]) rfl ?_
      exact ⟨_, rfl, own_base (own_setCell_ne (own_setCell_ne (own_drew HO.out) NR.out) NR.out) (by omega), (BW.out.drew.setCell (by simp <;> omega) _).setCell (by simp <;> omega) _⟩)
end Go.Proofs.Ytkhjmokjbiepgaa
