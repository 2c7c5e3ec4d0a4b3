/- WitnessOf of the reference: faults of a kind. -/
import Derived.IntWalk
import Derived.Deep.RegionLaw
import Derived.Deep.QuietTactic
import Derived.BigQuiet
import Derived.Deep.Cut
import Derived.Deep.RegionHeld3
import Derived.Deep.CutRange
import Derived.Deep.CutBlock
import Derived.Test.YtkhjmokjbiepgaaWi
namespace Go.Proofs.Ytkhjmokjbiepgaa
open Go.ChangeShapes Go.WideShapes Go.ChangeAt Go.RowKit
set_option maxHeartbeats 2000000 in
set_option maxRecDepth 100000 in
theorem spec_WitnessOf_4 (b : Int) (n : Nat) (w : World) (hb : 2 ≤ b) (hb2 : b ≤ 16) (hn : 1 ≤ n) (hn2 : n ≤ 16) :
    Calls Try.prog 27 #[.int .i64 b, .int .i64 n, .agg #[.int .i64 3, .int .i64 0]] w (RetRegs w (wiB b n 3 0) (wiX b n 3 0) (wiY b n 3 0) (wiC b n 3 0)) := by
  have RB := Lib.hid (inB_true hb hb2)
  have RF := Lib.hid (show (inB (n : Int) 1 16 && (inB 3 1 3 && inB 0 0 ((n : Int) - 1))) = true from by rw [inB_true (by omega) (by omega), inB_true (by omega) (by omega), inB_true (by omega) (by omega)]; rfl)
  have RG := spec_l02New b 0 n
  rw [digL_zero] at RG
  have RR := Lib.hid (fun wx => RG wx hb hb2 (by omega) (by omega) hn2)
  clear RG
  go_enter Try.func27, Try.ntmps27
  go_wp2_with fail
  refine (spec_l02Base _ _).mono ?_; rintro e w1 ⟨rfl, rfl⟩; rw [RB.out]
  go_wp2_with fail
  obtain ⟨y0, y1, y2, bw, t3, e3⟩ := blk3 (Below.refl (((w.alloc (.cells #[.int .i64 3, .int .i64 0] 54)).alloc (.cells #[.int .i64 0, .slice none 0 0] 41)).alloc (.cells #[.int .i64 0, .slice none 0 0] 41)).heap.size (((w.alloc (.cells #[.int .i64 3, .int .i64 0] 54)).alloc (.cells #[.int .i64 0, .slice none 0 0] 41)).alloc (.cells #[.int .i64 0, .slice none 0 0] 41)))
  rw [← e3]
  generalize (((w.alloc (.cells #[.int .i64 3, .int .i64 0] 54)).alloc (.cells #[.int .i64 0, .slice none 0 0] 41)).alloc (.cells #[.int .i64 0, .slice none 0 0] 41)) = wa at *
  have yl := heap_last wa (.cells #[.int .i64 3, .int .i64 0] 54)
  refine (spec_l08Ok (n : Int) 3 0 wa.heap.size _ (cell_blk yl 0) (cell_blk yl 1)).mono ?_; rintro e w1 ⟨rfl, m, hw1⟩; rw [RF.out]
  have Y0 := Lib.hid (show w1.heap[w.heap.size]? = some (.cells #[.int .i64 3, .int .i64 0] 54) from by rw [hw1]; exact wk_al (A := (.cells #[.int .i64 3, .int .i64 0] 54)) y0)
  have Y1 := Lib.hid (show w1.heap[w.heap.size + 1]? = some (.cells #[.int .i64 0, .slice none 0 0] 41) from by rw [hw1]; exact wk_al (A := (.cells #[.int .i64 3, .int .i64 0] 54)) y1)
  have Y2 := Lib.hid (show w1.heap[w.heap.size + 1 + 1]? = some (.cells #[.int .i64 0, .slice none 0 0] 41) from by rw [hw1]; exact wk_al (A := (.cells #[.int .i64 3, .int .i64 0] 54)) y2)
  have BW := Lib.hid (show Below w.heap.size w w1 from by rw [hw1]; exact (bw.alloc bw.size (.cells #[.int .i64 3, .int .i64 0] 54)).trans (drewN_below _ _ _))
  have s1 : w.heap.size + 1 + 1 + 1 ≤ w1.heap.size := by rw [hw1]; show _ ≤ (wa.alloc (.cells #[.int .i64 3, .int .i64 0] 54)).heap.size; simp; omega
  clear y0 y1 y2 bw yl hw1 t3 e3
  go_wp2_with fail
  refine (RR.out _).mono ?_; rintro e w2 ⟨va, rfl, oa, b2⟩
  have B2 := Lib.hid b2; have OA := Lib.hid oa; have s2 := b2.size
  obtain ⟨pa, ca, hva, -, -⟩ := own_form oa
  rw [zL_len] at hva; subst hva
  clear oa b2
  go_wp2_with fail
  refine (RR.out _).mono ?_; rintro e w3 ⟨vb, rfl, ob, b3⟩
  obtain ⟨ya, bw3, s3, e3⟩ := blk1 b3
  have OA3 := Lib.hid (own_keep b3 (own_alloc OA.out _))
  have lB := own_block_lt ob
  obtain ⟨pb, cb, hvb, -, qb⟩ := own_form ob
  rw [zL_len] at hvb qb; subst hvb
  obtain ⟨xb, rfl, -⟩ := qb 0 (by omega)
  have lA := own_block_lt OA.out
  obtain ⟨pa', ca', hva, -, qa⟩ := own_form OA.out
  rw [zL_len] at hva qa
  injection hva with hva1 hva2 hva3; subst hva1; subst hva3
  obtain ⟨xa, rfl, -⟩ := qa 0 (by omega)
  have lA1 := (lA xa rfl).1; have lA2 := (lA xa rfl).2
  have lB1 := (lB xb rfl).1; have lB2 := (lB xb rfl).2
  rw [e3] at lB1
  clear lA lB qa qb hva2
  have OB4 := Lib.hid (own_base (B' := w1.heap.size) (own_alloc ob (.cells #[.int .i64 b, .slice (some ⟨xb, 0, none⟩) n cb] 41)) (by simp; omega))
  have OA4 := Lib.hid (own_alloc OA3.out (.cells #[.int .i64 b, .slice (some ⟨xb, 0, none⟩) n cb] 41))
  have ya4 := wk_al (A := .cells #[.int .i64 b, .slice (some ⟨xb, 0, none⟩) n cb] 41) ya
  have yb4 := heap_last w3 (.cells #[.int .i64 b, .slice (some ⟨xb, 0, none⟩) n cb] 41)
  have BW2 := Below.trans_size BW.out B2.out
  have b14 := (Below.trans_size B2.out bw3).alloc (Nat.le_trans s2 (Below.size bw3)) (.cells #[.int .i64 b, .slice (some ⟨xb, 0, none⟩) n cb] 41)
  have BW4 := Lib.hid (Below.trans_size BW.out b14)
  have y04 := (b14.block w.heap.size (by omega)).trans Y0.out
  have y14 := (b14.block (w.heap.size + 1) (by omega)).trans Y1.out
  have y24 := (b14.block (w.heap.size + 1 + 1) (by omega)).trans Y2.out
  have s4 : w3.heap.size + 1 = (w3.alloc (.cells #[.int .i64 b, .slice (some ⟨xb, 0, none⟩) n cb] 41)).heap.size := by simp
  have g23 : w2.heap.size < w3.heap.size := by omega
  clear ob b3 ya bw3 e3 BW2 b14
  go_upto_region 5 with fail
  have n4 : ¬ xa = xb := by omega
  have OAB := Lib.hid (show Apart (.slice (some ⟨xa, 0, none⟩) n ca) (.slice (some ⟨xb, 0, none⟩) n cb) from fun k hk e => n4 (Option.some.inj (show some xa = some xb from hk.trans e.symm)))
  generalize hw4 : (w3.alloc (.cells #[.int .i64 b, .slice (some ⟨xb, 0, none⟩) n cb] 41)) = w4 at *
  have p0 := cell_blk y04 0; have p1 := cell_blk y04 1
  have a0 := cell_blk ya4 0; have a1 := cell_blk ya4 1
  have b0 := cell_blk yb4 0; have b1 := cell_blk yb4 1
  have da := (own_at OA4.out (zL_len n).symm (show 0 < n by omega)).1; have fa := (own_at OA4.out (zL_len n).symm (show 0 < n by omega)).2
  have db := (own_at OB4.out (zL_len n).symm (show 0 < n by omega)).1; have fb := (own_at OB4.out (zL_len n).symm (show 0 < n by omega)).2
  have Y04 := Lib.hid y04; have Y14 := Lib.hid y14; have Y24 := Lib.hid y24; have YA4 := Lib.hid ya4; have YB4 := Lib.hid yb4
  clear y04 y14 y24 ya4 yb4 hw4
  have n1 : ¬ xa = w.heap.size := by omega
  have n2 : ¬ xa = w2.heap.size := by omega
  have n3 : ¬ xa = w3.heap.size := by omega
  have n5 : ¬ xb = w.heap.size := by omega
  have n6 : ¬ xb = w2.heap.size := by omega
  have n7 : ¬ xb = w3.heap.size := by omega
  have n1' : ¬ w.heap.size = xa := by omega
  have n2' : ¬ w2.heap.size = xa := by omega
  have n3' : ¬ w3.heap.size = xa := by omega
  have n4' : ¬ xb = xa := by omega
  have n5' : ¬ w.heap.size = xb := by omega
  have n6' : ¬ w2.heap.size = xb := by omega
  have n7' : ¬ w3.heap.size = xb := by omega
  have j1 : w.heap.size < w4.heap.size := by omega
  have j2 : w2.heap.size < w4.heap.size := by omega
  have j3 : w3.heap.size < w4.heap.size := by omega
  have j4 : xa < w4.heap.size := by omega
  have j5 : xb < w4.heap.size := by omega
  have ra1 : ¬ xa = w.heap.size + 1 := by omega
  have ra2 : ¬ xa = w.heap.size + 1 + 1 := by omega
  have rb1 : ¬ xb = w.heap.size + 1 := by omega
  have rb2 : ¬ xb = w.heap.size + 1 + 1 := by omega
  have HG := Lib.hid (show wiG b n 3 0 = true from by unfold wiG; rw [RB.out, RF.out]; rfl)
  have HC0 := Lib.hid (wiC_eq (b := b) (kd := 3) (n := n) (lv := 0) HG.out)
  have HWC := Lib.hid (show wiC b n 3 0 = 3 from (show wiC b n 3 ((0 : Nat) : Int) = 3 from by rw [HC0.out, if_pos ⟨rfl, rfl⟩]))
  have HWB := Lib.hid (show wiB b n 3 0 = 0 from if_neg (by rw [HWC.out]; omega))
  have HWX := Lib.hid (show wiX b n 3 0 = [] from if_neg (by rw [HWC.out]; omega))
  have HWY := Lib.hid (show wiY b n 3 0 = [] from if_neg (by rw [HWC.out]; omega))
  have c2 := cell_blk Y14.out 0; have c3 := cell_blk Y14.out 1; have c4 := cell_blk Y24.out 0; have c5 := cell_blk Y24.out 1; have f2 := frozen_blk Y14.out 0; have f3 := frozen_blk Y14.out 1; have f4 := frozen_blk Y24.out 0; have f5 := frozen_blk Y24.out 1; have k1 : w.heap.size + 1 < w4.heap.size := (Array.getElem?_eq_some_iff.1 Y14.out).1; have k2 : w.heap.size + 1 + 1 < w4.heap.size := (Array.getElem?_eq_some_iff.1 Y24.out).1
  go_wp2_with fail
  refine bodyPost_ret (v := .tuple #[.agg #[.int .i64 0, .slice none 0 0], .agg #[.int .i64 0, .slice none 0 0], .int .i64 3]) (by simp [results, Try.results27, go_sem, *]) rfl ?_
  rw [HWB.out, HWX.out, HWY.out, HWC.out]
  exact ⟨_, _, rfl, own_nil, own_nil, apart_nn _ _ rfl, (((BW4.out.setCell (by simp) _).setCell (by simp) _).setCell (by simp; omega) _).setCell (by simp; omega) _⟩
end Go.Proofs.Ytkhjmokjbiepgaa
