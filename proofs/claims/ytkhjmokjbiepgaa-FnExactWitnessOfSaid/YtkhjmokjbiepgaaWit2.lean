/- l08Add of the reference: the sum with a fault. -/
import Derived.IntWalk
import Derived.Maps.AppendAt
import Derived.Deep.RegionLaw
import Derived.Deep.QuietTactic
import Derived.BigQuiet
import Derived.Test.YtkhjmokjbiepgaaWis
import Derived.Test.YtkhjmokjbiepgaaWib
namespace Go.Proofs.Ytkhjmokjbiepgaa
open Go.ChangeShapes Go.WideShapes Go.ChangeAt Go.RowKit
set_option maxHeartbeats 8000000 in
theorem spec_l08Add {B1 B2 gl ga gb : Nat} {u v : Value} {xs ys : List Int} (b kd : Int) (lv n : Nat) (w : World) (h1 : Own w B1 u xs) (h2 : Own w B2 v ys) (l1 : xs.length = n) (l2 : ys.length = n) (hn : n ≤ 16) (hb : 2 ≤ b) (hb2 : b ≤ 16)
    (hx : ∀ k, k < n → 0 ≤ nth xs k ∧ nth xs k < b) (hy : ∀ k, k < n → 0 ≤ nth ys k ∧ nth ys k < b) (hk1 : 1 ≤ kd) (hk2 : kd ≤ 3) (hl : lv < n)
    (ca0 : w.cell? ⟨ga, 0, none⟩ = some (.int .i64 b)) (ca1 : w.cell? ⟨ga, 1, none⟩ = some u) (cb1 : w.cell? ⟨gb, 1, none⟩ = some v)
    (c0 : w.cell? ⟨gl, 0, none⟩ = some (.int .i64 kd)) (c1 : w.cell? ⟨gl, 1, none⟩ = some (.int .i64 (lv : Int))) :
    Calls Try.prog 80 #[.pointer (some ⟨ga, 0, none⟩), .pointer (some ⟨gb, 0, none⟩), .slice (some ⟨gl, 0, none⟩) 1 1] w (RetAggI w b (faL b xs ys kd lv n) (cf b xs ys kd lv n)) := by
  have HCF := Lib.hid (cf_bd (kd := kd) (lv := lv) hb hx hy)
  have HX := Lib.hid hx; have HY := Lib.hid hy; clear hx hy
  obtain ⟨a1, p1, rfl, m1, q1⟩ := own_form h1
  obtain ⟨a2, p2, rfl, m2, q2⟩ := own_form h2
  rw [l1] at *; rw [l2] at *
  have Q1 := Lib.hid q1; have Q2 := Lib.hid q2; clear q1 q2 h1 h2 l1 l2
  have gla : ga < w.heap.size := World.block_lt_of_cell? w _ ca0
  have glb : gb < w.heap.size := World.block_lt_of_cell? w _ cb1
  have gll : gl < w.heap.size := World.block_lt_of_cell? w _ c0
  have CA0 := Lib.hid ca0; have CA1 := Lib.hid ca1; have CB1 := Lib.hid cb1; have C0 := Lib.hid c0; have C1 := Lib.hid c1
  go_enter Try.func80, Try.ntmps80
  go_wp2_with fail
  have A0 := below_al w (.cells #[.int .i64 0, .slice none 0 0] 41)
  refine (spec_l08Kinds n lv kd gl _ hn hl ((A0.cell gll).trans C0.out) ((A0.cell gll).trans C1.out)).mono ?_; rintro e w1 ⟨vk, rfl, ok, b1⟩
  obtain ⟨yR, bw1, s1, e1⟩ := blk1 b1
  have YR := Lib.hid yR; have BW1 := Lib.hid bw1
  obtain ⟨ak, ck, rfl, -, qk⟩ := own_form ok
  rw [kdL_len] at *
  have QK := Lib.hid (show ∀ i, i < n → ∃ g, ak = some ⟨g, 0, none⟩ ∧ w1.cell? ⟨g, i, none⟩ = some (.int .i64 (kdA kd lv i)) from fun i hi => by
    obtain ⟨g, h3, h4⟩ := qk i hi
    rw [kdL_nth hi] at h4
    exact ⟨g, h3, h4⟩)
  have ka0 := (bw1.cell (p := ⟨ga, 0, none⟩) gla).trans CA0.out
  have ka1 := (bw1.cell (p := ⟨ga, 1, none⟩) gla).trans CA1.out
  have kb1 := (bw1.cell (p := ⟨gb, 1, none⟩) glb).trans CB1.out
  have K0 := Lib.hid ka0; have K1 := Lib.hid ka1; have K2 := Lib.hid kb1
  have ga1 : ga < w1.heap.size := by omega
  have gb1 : gb < w1.heap.size := by omega
  clear ca0 ca1 cb1 c0 c1 A0 ok b1 yR bw1 qk e1 kb1
  go_wp2_with fail
  clear ka0 ka1
  go_loopw [10, 11, 12] (fun cc kk _ wr => ∃ (t : Nat) (z : Value), kk = .int .i64 (t : Int) ∧ t ≤ n ∧ cc = .int .i64 (cf b xs ys kd lv t) ∧ Own wr w1.heap.size z (faL b xs ys kd lv t) ∧ some w1.heap.size ≠ z.ownBlock ∧ wr.heap[w1.heap.size]? = some (.cells #[.int .i64 b, z] 41) ∧ Below w1.heap.size w1 wr ∧ w1.heap.size + 1 ≤ wr.heap.size) (fun _ kk _ _ => n - (intOf kk).toNat)
  case atStart => exact ⟨0, _, rfl, Nat.zero_le _, rfl, own_nil, by simp [Value.ownBlock], heap_last _ _, (Below.refl _ _).alloc (Nat.le_refl _) _, by simp⟩
  case round =>
    obtain ⟨t, z, rfl, ht, rfl, ho, hne, h4, hbz, hsz⟩ := hrel
    have HZ := Lib.hid hbz; have HO := Lib.hid ho; have NE := Lib.hid hne; have Y4 := Lib.hid h4
    obtain ⟨az, cz, rfl, -, -⟩ := own_form ho
    have lz : (faL b xs ys kd lv t).length = t := by simp [faL]
    have lz16 : (faL b xs ys kd lv t).length ≤ 16 := by rw [lz]; omega
    have sA0 := (hbz.cell (p := ⟨ga, 0, none⟩) ga1).trans K0.out
    have sA1 := (hbz.cell (p := ⟨ga, 1, none⟩) ga1).trans K1.out
    have sB1 := (hbz.cell (p := ⟨gb, 1, none⟩) gb1).trans K2.out
    have la : ga < wr.heap.size := by omega
    have lb : gb < wr.heap.size := by omega
    by_cases hlt : t < n
    · obtain ⟨g1, e1, r1⟩ := Q1.out t hlt
      obtain ⟨g2, e2, r2⟩ := Q2.out t hlt
      obtain ⟨gk, e3, r3⟩ := QK.out t hlt
      have gw1 : g1 < w.heap.size := World.block_lt_of_cell? w _ r1
      have gw2 : g2 < w.heap.size := World.block_lt_of_cell? w _ r2
      have gkl : gk < w1.heap.size := World.block_lt_of_cell? w1 _ r3
      have s1' := (hbz.cell (p := ⟨g1, t, none⟩) (show g1 < w1.heap.size by omega)).trans ((BW1.out.cell (p := ⟨g1, t, none⟩) gw1).trans r1)
      have s2' := (hbz.cell (p := ⟨g2, t, none⟩) (show g2 < w1.heap.size by omega)).trans ((BW1.out.cell (p := ⟨g2, t, none⟩) gw2).trans r2)
      have rk := Lib.hid r3
      subst e1; subst e2; subst e3
      obtain ⟨X0, X1⟩ := HX.out t hlt; obtain ⟨Y0, Y1⟩ := HY.out t hlt; obtain ⟨C0', C1'⟩ := HCF.out t (by omega)
      have KB0 : 0 ≤ kdA kd lv t ∧ kdA kd lv t ≤ 3 := by unfold kdA; split <;> omega
      have HN := Lib.hid (show faL b xs ys kd lv t ++ [(nth xs t + nth ys t + cf b xs ys kd lv t) % b] = faL b xs ys kd lv (t + 1) from (range_snoc _ _).symm)
      have HCN := Lib.hid (show outF b (nth xs t + nth ys t) (cf b xs ys kd lv t) (kdA kd lv t) = cf b xs ys kd lv (t + 1) from rfl)
      have LC := Lib.hid (fun wx => spec_l08Carry b (nth xs t + nth ys t) (cf b xs ys kd lv t) (kdA kd lv t) wx hb hb2 (by omega) (by omega) C0' C1' KB0.1 KB0.2)
      clear r1 r2 r3 hbz ho hne h4 lz KB0
      generalize faL b xs ys kd lv t = L at *
      generalize outF b (nth xs t + nth ys t) (cf b xs ys kd lv t) (kdA kd lv t) = CN at *
      generalize kdA kd lv t = KD at *
      generalize cf b xs ys kd lv t = C at *
      generalize nth xs t = X at *
      generalize nth ys t = Y at *
      have zb : ¬ b = 0 := by omega
      have tm : (X + Y + C).tmod b = (X + Y + C) % b := Int.tmod_eq_emod_of_nonneg (by omega)
      have D0 : 0 ≤ (X + Y + C) % b := Int.emod_nonneg _ zb
      have D1 : (X + Y + C) % b < b := Int.emod_lt_of_pos _ (by omega)
      generalize (X + Y + C) % b = D at *
      have v1 : IntKind.i64.wrap (X + Y) = X + Y := IntWalk.i64_in _ (by omega)
      have v2 : IntKind.i64.wrap (X + Y + C) = X + Y + C := IntWalk.i64_in _ (by omega)
      have v3 : IntKind.i64.wrap D = D := IntWalk.i64_in _ (by omega)
      have i0 : (0 : Int) ≤ (t : Int) := by omega
      have i1 : (t : Int) < (n : Int) := by omega
      go_wp2_with fail
      go_quiet (fail)
      clear sA0 sA1 sB1 s1' s2'
      go_wp2_with fail
      generalize hwn : wr.drewN nq = wn
      have BN : Below wr.heap.size wr wn := by rw [← hwn]; exact below_drewN wr nq
      have sn : wr.heap.size ≤ wn.heap.size := BN.size
      have HBn := Lib.hid (Below.trans_size HZ.out BN)
      have OZn := Lib.hid (own_keep BN HO.out)
      have Y4n := Lib.hid ((BN.block w1.heap.size (by omega)).trans Y4.out)
      have zA0 := (HBn.out.cell (p := ⟨ga, 0, none⟩) ga1).trans K0.out
      have c0 := cell_blk Y4n.out 0; have c1 := cell_blk Y4n.out 1; have f1 := frozen_blk Y4n.out 1
      have l1 : w1.heap.size < wn.heap.size := by omega
      have l3 : ga < wn.heap.size := by omega
      clear hwn BN
      go_region_law ((refine step_app_at (by rfl) _ _ (by rfl) _ _ (own_alloc (own_drew OZn.out) _) (by rfl) (by rfl) (by simp; rfl) (by omega) (by simp; omega) ?_; intro v' w9 ho' hg' hloc; obtain ⟨hb', hs'⟩ := app_below HBn.out.drew (own_drew OZn.out) hg' (Nat.le_refl _) (show w1.heap.size ≤ wn.heap.size by omega); have x4 := (hg'.block w1.heap.size (by simp; omega) NE.out).trans ((Below.heap_alloc wn.drew _ _ (show w1.heap.size < wn.heap.size by omega)).trans Y4n.out); have hs9 := hg'.size; have M4 := Lib.hid (loc_ne hloc NE.out (by simp; omega)); obtain ⟨av, cv, rfl, -, -⟩ := own_form ho'; have c0 := cell_blk x4 0; have c1 := cell_blk x4 1; have f1 := frozen_blk x4 1; have X4 := Lib.hid x4; have O9 := Lib.hid ho'; have B9 := Lib.hid hb'; have zA9 := (hb'.cell (p := ⟨ga, 0, none⟩) ga1).trans K0.out; have zK9 := (hb'.cell (p := ⟨gk, t, none⟩) gkl).trans rk.out; have b9 : ga < w9.heap.size := (by omega); have b92 : gk < w9.heap.size := (by omega); clear ho' hb' hg' hloc x4))
      all_goals (
      clear tm v2 v3
      go_wp2_with fail
      go_quiet ((go_at_call 91; first | with_reducible exact quiet_same (LC.out _) | with_reducible exact quiet_same2 (LC.out _)))
      go_wp2_with fail
      go_roundw
      case rel => exact ⟨t + 1, _, by go_num, by omega, by rw [HCN.out], by rw [← HN.out]; exact own_drewN (own_setCell_ne O9.out M4.out) _, fun e => M4.out e.symm, by simpa using setCell_blk X4.out (.slice av (L.length + 1) cv), (fun h : Below w1.heap.size w1 _ => ⟨h.os, h.tape, h.output, h.size, h.block⟩) (B9.out.setCell (p := ⟨w1.heap.size, 1, none⟩) (Nat.le_refl _) _), by show w1.heap.size + 1 ≤ (World.setCell w9 _ _).heap.size; simp at *; omega⟩
      case measure => first | (simp [intOf]; done) | (simp [intOf]; omega))
    · obtain rfl : t = n := by omega
      have d0 := cell_blk h4 0; have d1 := cell_blk h4 1
      have zR := (hbz.block w.heap.size (by omega)).trans YR.out
      have r0 := cell_blk zR 0; have r1 := cell_blk zR 1; have g0 := frozen_blk zR 0; have g1 := frozen_blk zR 1
      have NR := Lib.hid (show (Value.slice az (faL b xs ys kd lv t).length cz).ownBlock ≠ some w.heap.size from fun h => by have := (own_block_lt ho _ h).1; omega)
      have BW := Lib.hid (Below.trans_size BW1.out HZ.out)
      generalize cf b xs ys kd lv t = C at *
      generalize faL b xs ys kd lv t = L at *
      clear ho hne h4 hbz zR lz
      go_wp2_with fail
      refine bodyPost_ret (v := .tuple #[.agg #[.int .i64 b, .slice az L.length cz], .int .i64 C]) (by simp [results, Try.results80, go_sem, *]) rfl ?_
      exact ⟨_, rfl, own_base (own_setCell_ne (own_setCell_ne HO.out NR.out) NR.out) (by omega), (BW.out.setCell (by simp <;> omega) _).setCell (by simp <;> omega) _⟩
end Go.Proofs.Ytkhjmokjbiepgaa
