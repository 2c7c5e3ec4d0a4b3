/- WitnessOf of the reference: faults of a kind. -/
import Derived.IntWalk
import Derived.Deep.RegionLaw
import Derived.Deep.QuietTactic
import Derived.BigQuiet
import Derived.Deep.Cut
import Derived.Deep.RegionHeld3
import Derived.Deep.CutRange
import Derived.Deep.CutBlock
import Derived.Test.YtkhjmokjbiepgaaWi
namespace Go.Proofs.Ytkhjmokjbiepgaa
open Go.ChangeShapes Go.WideShapes Go.ChangeAt Go.RowKit
set_option maxHeartbeats 2000000 in
set_option maxRecDepth 100000 in
theorem spec_WitnessOf_3 (b : Int) (n lv : Nat) (w : World) (hb : 2 ≤ b) (hb2 : b ≤ 16) (hn : 1 ≤ n) (hn2 : n ≤ 16) (hl : lv < n) (hz : 0 < lv) :
    Calls Try.prog 27 #[.int .i64 b, .int .i64 n, .agg #[.int .i64 3, .int .i64 lv]] w (RetRegs w (wiB b n 3 lv) (wiX b n 3 lv) (wiY b n 3 lv) (wiC b n 3 lv)) := by
  have RB := Lib.hid (inB_true hb hb2)
  have RF := Lib.hid (show (inB (n : Int) 1 16 && (inB 3 1 3 && inB (lv : Int) 0 ((n : Int) - 1))) = true from by rw [inB_true (by omega) (by omega), inB_true (by omega) (by omega), inB_true (by omega) (by omega)]; rfl)
  have RG := spec_l02New b 0 n
  rw [digL_zero] at RG
  have RR := Lib.hid (fun wx => RG wx hb hb2 (by omega) (by omega) hn2)
  clear RG
  go_enter Try.func27, Try.ntmps27
  go_wp2_with fail
  refine (spec_l02Base _ _).mono ?_; rintro e w1 ⟨rfl, rfl⟩; rw [RB.out]
  go_wp2_with fail
  obtain ⟨y0, y1, y2, bw, t3, e3⟩ := blk3 (Below.refl (((w.alloc (.cells #[.int .i64 3, .int .i64 (lv : Int)] 54)).alloc (.cells #[.int .i64 0, .slice none 0 0] 41)).alloc (.cells #[.int .i64 0, .slice none 0 0] 41)).heap.size (((w.alloc (.cells #[.int .i64 3, .int .i64 (lv : Int)] 54)).alloc (.cells #[.int .i64 0, .slice none 0 0] 41)).alloc (.cells #[.int .i64 0, .slice none 0 0] 41)))
  rw [← e3]
  generalize (((w.alloc (.cells #[.int .i64 3, .int .i64 (lv : Int)] 54)).alloc (.cells #[.int .i64 0, .slice none 0 0] 41)).alloc (.cells #[.int .i64 0, .slice none 0 0] 41)) = wa at *
  have yl := heap_last wa (.cells #[.int .i64 3, .int .i64 (lv : Int)] 54)
  refine (spec_l08Ok (n : Int) 3 (lv : Int) wa.heap.size _ (cell_blk yl 0) (cell_blk yl 1)).mono ?_; rintro e w1 ⟨rfl, m, hw1⟩; rw [RF.out]
  have Y0 := Lib.hid (show w1.heap[w.heap.size]? = some (.cells #[.int .i64 3, .int .i64 (lv : Int)] 54) from by rw [hw1]; exact wk_al (A := (.cells #[.int .i64 3, .int .i64 (lv : Int)] 54)) y0)
  have Y1 := Lib.hid (show w1.heap[w.heap.size + 1]? = some (.cells #[.int .i64 0, .slice none 0 0] 41) from by rw [hw1]; exact wk_al (A := (.cells #[.int .i64 3, .int .i64 (lv : Int)] 54)) y1)
  have Y2 := Lib.hid (show w1.heap[w.heap.size + 1 + 1]? = some (.cells #[.int .i64 0, .slice none 0 0] 41) from by rw [hw1]; exact wk_al (A := (.cells #[.int .i64 3, .int .i64 (lv : Int)] 54)) y2)
  have BW := Lib.hid (show Below w.heap.size w w1 from by rw [hw1]; exact (bw.alloc bw.size (.cells #[.int .i64 3, .int .i64 (lv : Int)] 54)).trans (drewN_below _ _ _))
  have s1 : w.heap.size + 1 + 1 + 1 ≤ w1.heap.size := by rw [hw1]; show _ ≤ (wa.alloc (.cells #[.int .i64 3, .int .i64 (lv : Int)] 54)).heap.size; simp; omega
  clear y0 y1 y2 bw yl hw1 t3 e3
  go_wp2_with fail
  refine (RR.out _).mono ?_; rintro e w2 ⟨va, rfl, oa, b2⟩
  have B2 := Lib.hid b2; have OA := Lib.hid oa; have s2 := b2.size
  obtain ⟨pa, ca, hva, -, -⟩ := own_form oa
  rw [zL_len] at hva; subst hva
  clear oa b2
  go_wp2_with fail
  refine (RR.out _).mono ?_; rintro e w3 ⟨vb, rfl, ob, b3⟩
  obtain ⟨ya, bw3, s3, e3⟩ := blk1 b3
  have OA3 := Lib.hid (own_keep b3 (own_alloc OA.out _))
  have lB := own_block_lt ob
  obtain ⟨pb, cb, hvb, -, qb⟩ := own_form ob
  rw [zL_len] at hvb qb; subst hvb
  obtain ⟨xb, rfl, -⟩ := qb 0 (by omega)
  have lA := own_block_lt OA.out
  obtain ⟨pa', ca', hva, -, qa⟩ := own_form OA.out
  rw [zL_len] at hva qa
  injection hva with hva1 hva2 hva3; subst hva1; subst hva3
  obtain ⟨xa, rfl, -⟩ := qa 0 (by omega)
  have lA1 := (lA xa rfl).1; have lA2 := (lA xa rfl).2
  have lB1 := (lB xb rfl).1; have lB2 := (lB xb rfl).2
  rw [e3] at lB1
  clear lA lB qa qb hva2
  have OB4 := Lib.hid (own_base (B' := w1.heap.size) (own_alloc ob (.cells #[.int .i64 b, .slice (some ⟨xb, 0, none⟩) n cb] 41)) (by simp; omega))
  have OA4 := Lib.hid (own_alloc OA3.out (.cells #[.int .i64 b, .slice (some ⟨xb, 0, none⟩) n cb] 41))
  have ya4 := wk_al (A := .cells #[.int .i64 b, .slice (some ⟨xb, 0, none⟩) n cb] 41) ya
  have yb4 := heap_last w3 (.cells #[.int .i64 b, .slice (some ⟨xb, 0, none⟩) n cb] 41)
  have BW2 := Below.trans_size BW.out B2.out
  have b14 := (Below.trans_size B2.out bw3).alloc (Nat.le_trans s2 (Below.size bw3)) (.cells #[.int .i64 b, .slice (some ⟨xb, 0, none⟩) n cb] 41)
  have BW4 := Lib.hid (Below.trans_size BW.out b14)
  have y04 := (b14.block w.heap.size (by omega)).trans Y0.out
  have y14 := (b14.block (w.heap.size + 1) (by omega)).trans Y1.out
  have y24 := (b14.block (w.heap.size + 1 + 1) (by omega)).trans Y2.out
  have s4 : w3.heap.size + 1 = (w3.alloc (.cells #[.int .i64 b, .slice (some ⟨xb, 0, none⟩) n cb] 41)).heap.size := by simp
  have g23 : w2.heap.size < w3.heap.size := by omega
  clear ob b3 ya bw3 e3 BW2 b14
  go_upto_region 5 with fail
  have n4 : ¬ xa = xb := by omega
  have OAB := Lib.hid (show Apart (.slice (some ⟨xa, 0, none⟩) n ca) (.slice (some ⟨xb, 0, none⟩) n cb) from fun k hk e => n4 (Option.some.inj (show some xa = some xb from hk.trans e.symm)))
  generalize hw4 : (w3.alloc (.cells #[.int .i64 b, .slice (some ⟨xb, 0, none⟩) n cb] 41)) = w4 at *
  have p0 := cell_blk y04 0; have p1 := cell_blk y04 1
  have a0 := cell_blk ya4 0; have a1 := cell_blk ya4 1
  have b0 := cell_blk yb4 0; have b1 := cell_blk yb4 1
  have da := (own_at OA4.out (zL_len n).symm hl).1; have fa := (own_at OA4.out (zL_len n).symm hl).2
  have db := (own_at OB4.out (zL_len n).symm hl).1; have fb := (own_at OB4.out (zL_len n).symm hl).2
  have Y04 := Lib.hid y04; have Y14 := Lib.hid y14; have Y24 := Lib.hid y24; have YA4 := Lib.hid ya4; have YB4 := Lib.hid yb4
  clear y04 y14 y24 ya4 yb4 hw4
  have n1 : ¬ xa = w.heap.size := by omega
  have n2 : ¬ xa = w2.heap.size := by omega
  have n3 : ¬ xa = w3.heap.size := by omega
  have n5 : ¬ xb = w.heap.size := by omega
  have n6 : ¬ xb = w2.heap.size := by omega
  have n7 : ¬ xb = w3.heap.size := by omega
  have n1' : ¬ w.heap.size = xa := by omega
  have n2' : ¬ w2.heap.size = xa := by omega
  have n3' : ¬ w3.heap.size = xa := by omega
  have n4' : ¬ xb = xa := by omega
  have n5' : ¬ w.heap.size = xb := by omega
  have n6' : ¬ w2.heap.size = xb := by omega
  have n7' : ¬ w3.heap.size = xb := by omega
  have j1 : w.heap.size < w4.heap.size := by omega
  have j2 : w2.heap.size < w4.heap.size := by omega
  have j3 : w3.heap.size < w4.heap.size := by omega
  have j4 : xa < w4.heap.size := by omega
  have j5 : xb < w4.heap.size := by omega
  have i0 : (0 : Int) ≤ (lv : Int) := by omega
  have i1 : (lv : Int) < (n : Int) := by omega
  have hz3 : ¬ (lv : Int) = 0 := by omega
  have hz4 : (0 : Int) < (lv : Int) := by omega
  have hz5 : ((lv : Int) == 0) = false := by simp; omega
  have i2 : (0 : Int) ≤ (lv : Int) - 1 := by omega
  have i3 : (lv : Int) - 1 < (n : Int) := by omega
  have i4 : ((lv : Int) - 1).toNat = lv - 1 := by omega
  have i5 : IntKind.i64.wrap ((lv : Int) - 1) = (lv : Int) - 1 := IntWalk.i64_in _ (by omega)
  have i6 : ¬ lv = lv - 1 := by omega
  have i7 : ¬ lv - 1 = lv := by omega
  have da2 := (own_at OA4.out (zL_len n).symm (show lv - 1 < n by omega)).1; have fa2 := (own_at OA4.out (zL_len n).symm (show lv - 1 < n by omega)).2
  have db2 := (own_at OB4.out (zL_len n).symm (show lv - 1 < n by omega)).1; have fb2 := (own_at OB4.out (zL_len n).symm (show lv - 1 < n by omega)).2
  go_wp2_with fail
  have s5 : (((w4.setCell ⟨xa, (lv - 1), none⟩ (.int .i64 (b - 1))).setCell ⟨xb, (lv - 1), none⟩ (.int .i64 1)).setCell ⟨xa, lv, none⟩ (.int .i64 (b - 1))).heap.size = w4.heap.size := by simp
  have EX : wX b 3 lv n = ((zL n).set (lv - 1) (b - 1)).set lv (b - 1) := by unfold wX; rw [if_neg (by omega), if_pos ⟨rfl, hz⟩]
  have EY : wY 3 lv n = (zL n).set (lv - 1) 1 := by unfold wY; rw [if_neg (by omega), if_pos ⟨rfl, hz⟩]
  have oA5 : Own (((w4.setCell ⟨xa, (lv - 1), none⟩ (.int .i64 (b - 1))).setCell ⟨xb, (lv - 1), none⟩ (.int .i64 1)).setCell ⟨xa, lv, none⟩ (.int .i64 (b - 1))) w1.heap.size (.slice (some ⟨xa, 0, none⟩) n ca) (wX b 3 lv n) := by rw [EX]; exact (own_store (own_setCell_ne (g := xb) (j := (lv - 1)) (u := .int .i64 1) (own_store OA4.out (by simp [zL]) (lv - 1) (b - 1)).1 (fun h => n4 (Option.some.inj h))) (by simp [zL]) lv (b - 1)).1
  have oB5 : Own (((w4.setCell ⟨xa, (lv - 1), none⟩ (.int .i64 (b - 1))).setCell ⟨xb, (lv - 1), none⟩ (.int .i64 1)).setCell ⟨xa, lv, none⟩ (.int .i64 (b - 1))) w1.heap.size (.slice (some ⟨xb, 0, none⟩) n cb) (wY 3 lv n) := by rw [EY]; exact (own_setCell_ne (g := xa) (j := lv) (u := .int .i64 (b - 1)) (own_store (own_setCell_ne (g := xa) (j := (lv - 1)) (u := .int .i64 (b - 1)) OB4.out (fun h => n4' (Option.some.inj h))) (by simp [zL]) (lv - 1) 1).1 (fun h => n4' (Option.some.inj h)))
  have y05 := (wk_keep (g := xa) (i := lv) (u := .int .i64 (b - 1)) (wk_keep (g := xb) (i := (lv - 1)) (u := .int .i64 1) (wk_keep (g := xa) (i := (lv - 1)) (u := .int .i64 (b - 1)) Y04.out (by omega)) (by omega)) (by omega))
  have y15 := (wk_keep (g := xa) (i := lv) (u := .int .i64 (b - 1)) (wk_keep (g := xb) (i := (lv - 1)) (u := .int .i64 1) (wk_keep (g := xa) (i := (lv - 1)) (u := .int .i64 (b - 1)) Y14.out (by omega)) (by omega)) (by omega))
  have y25 := (wk_keep (g := xa) (i := lv) (u := .int .i64 (b - 1)) (wk_keep (g := xb) (i := (lv - 1)) (u := .int .i64 1) (wk_keep (g := xa) (i := (lv - 1)) (u := .int .i64 (b - 1)) Y24.out (by omega)) (by omega)) (by omega))
  have yA5 := (wk_keep (g := xa) (i := lv) (u := .int .i64 (b - 1)) (wk_keep (g := xb) (i := (lv - 1)) (u := .int .i64 1) (wk_keep (g := xa) (i := (lv - 1)) (u := .int .i64 (b - 1)) YA4.out (by omega)) (by omega)) (by omega))
  have yB5 := (wk_keep (g := xa) (i := lv) (u := .int .i64 (b - 1)) (wk_keep (g := xb) (i := (lv - 1)) (u := .int .i64 1) (wk_keep (g := xa) (i := (lv - 1)) (u := .int .i64 (b - 1)) YB4.out (by omega)) (by omega)) (by omega))
  have bW5 := (((BW4.out.setCell (p := ⟨xa, (lv - 1), none⟩) (by show w.heap.size ≤ xa; omega) (.int .i64 (b - 1))).setCell (p := ⟨xb, (lv - 1), none⟩) (by show w.heap.size ≤ xb; omega) (.int .i64 1)).setCell (p := ⟨xa, lv, none⟩) (by show w.heap.size ≤ xa; omega) (.int .i64 (b - 1)))
  generalize (((w4.setCell ⟨xa, (lv - 1), none⟩ (.int .i64 (b - 1))).setCell ⟨xb, (lv - 1), none⟩ (.int .i64 1)).setCell ⟨xa, lv, none⟩ (.int .i64 (b - 1))) = w5 at *
  have OA5 := Lib.hid oA5
  have OB5 := Lib.hid oB5
  have Y05 := Lib.hid y05
  have Y15 := Lib.hid y15
  have Y25 := Lib.hid y25
  have YA5 := Lib.hid yA5
  have YB5 := Lib.hid yB5
  have BW5 := Lib.hid bW5
  clear oA5 oB5 y05 y15 y25 yA5 yB5 bW5
  have LX := wX_len b 3 lv n
  have LY := wY_len 3 lv n
  have HX := wX_bd 3 lv n hb
  have HY := wY_bd 3 lv n hb
  clear p0 p1 a0 a1 b0 b1 da fa db fb OA4 OB4 Y04 Y14 Y24 YA4 YB4 BW4
  have c0 := cell_blk (heap_last w5 (.cells #[.int .i64 3, .int .i64 (lv : Int)] 54)) 0
  have c1 := cell_blk (heap_last w5 (.cells #[.int .i64 3, .int .i64 (lv : Int)] 54)) 1
  have SH := Lib.hid (spec_l08Shows (ga := w2.heap.size) (gb := w3.heap.size) b 3 lv n _ (own_alloc OA5.out _) (own_alloc OB5.out _) LX LY hn2 hb hb2 HX HY (by omega) (by omega) (by omega) (al_cell (cell_blk YA5.out 0) _) (al_cell (cell_blk YA5.out 1) _) (al_cell (cell_blk YB5.out 1) _) c0 c1)
  rw [s5] at SH
  have VA := Lib.hid (fun g0 wx (k1 : Own wx w1.heap.size (.slice (some ⟨xa, 0, none⟩) n ca) (wX b 3 lv n)) d0 d1 => spec_l02Ok b g0 wx k1 d0 d1 (by rw [LX]; omega))
  have VB := Lib.hid (fun g0 wx (k1 : Own wx w1.heap.size (.slice (some ⟨xb, 0, none⟩) n cb) (wY 3 lv n)) d0 d1 => spec_l02Ok b g0 wx k1 d0 d1 (by rw [LY]; omega))
  have HOK := Lib.hid (show wOk b 3 lv n = (validR b (wX b 3 lv n) && (validR b (wY 3 lv n) && (validR b (faL b (wX b 3 lv n) (wY 3 lv n) 3 lv n) && validR b (faL b (wX b 3 lv n) (wY 3 lv n) 0 0 n)))) from rfl)
  clear HX HY EX EY c0 c1
  have ra1 : ¬ xa = w.heap.size + 1 := by omega
  have ra2 : ¬ xa = w.heap.size + 1 + 1 := by omega
  have rb1 : ¬ xb = w.heap.size + 1 := by omega
  have rb2 : ¬ xb = w.heap.size + 1 + 1 := by omega
  have HG := Lib.hid (show wiG b n 3 lv = true from by unfold wiG; rw [RB.out, RF.out]; rfl)
  have HC0 := Lib.hid (wiC_eq (b := b) (kd := 3) (n := n) (lv := lv) HG.out)
  cases hk : (validR b (faL b (wX b 3 lv n) (wY 3 lv n) 3 lv n) && validR b (faL b (wX b 3 lv n) (wY 3 lv n) 0 0 n))
  · have VKH := Lib.hid hk; clear hk
    have HWC := Lib.hid (show wiC b n 3 lv = 5 from (by rw [HC0.out, if_neg (fun h => by have := h.2; omega), HOK.out, VKH.out]; simp))
    have HWB := Lib.hid (show wiB b n 3 lv = 0 from if_neg (by rw [HWC.out]; omega))
    have HWX := Lib.hid (show wiX b n 3 lv = [] from if_neg (by rw [HWC.out]; omega))
    have HWY := Lib.hid (show wiY b n 3 lv = [] from if_neg (by rw [HWC.out]; omega))
    refine SH.out.mono ?_; rintro e w6 ⟨sb, rfl, b6⟩
    clear SH
    rw [VKH.out]
    obtain ⟨-, bw6, -, -⟩ := blk1 b6
    have OA6 := Lib.hid (own_keep b6 (own_alloc OA5.out _)); have OB6 := Lib.hid (own_keep b6 (own_alloc OB5.out _))
    clear b6
    have Y06 := Lib.hid ((bw6.block _ (Array.getElem?_eq_some_iff.1 Y05.out).1).trans Y05.out)
    have Y16 := Lib.hid ((bw6.block _ (Array.getElem?_eq_some_iff.1 Y15.out).1).trans Y15.out)
    have Y26 := Lib.hid ((bw6.block _ (Array.getElem?_eq_some_iff.1 Y25.out).1).trans Y25.out)
    have YA6 := Lib.hid ((bw6.block _ (Array.getElem?_eq_some_iff.1 YA5.out).1).trans YA5.out)
    have YB6 := Lib.hid ((bw6.block _ (Array.getElem?_eq_some_iff.1 YB5.out).1).trans YB5.out)
    have BW6 := Lib.hid (Below.trans_size BW5.out bw6)
    clear bw6
    have p0 := cell_blk Y06.out 0; have p1 := cell_blk Y06.out 1; have a0 := cell_blk YA6.out 0; have a1 := cell_blk YA6.out 1; have b0 := cell_blk YB6.out 0; have b1 := cell_blk YB6.out 1
    have k0 : w.heap.size < w6.heap.size := (Array.getElem?_eq_some_iff.1 Y06.out).1; have ka : w2.heap.size < w6.heap.size := (Array.getElem?_eq_some_iff.1 YA6.out).1; have kb : w3.heap.size < w6.heap.size := (Array.getElem?_eq_some_iff.1 YB6.out).1
    have c2 := cell_blk Y16.out 0; have c3 := cell_blk Y16.out 1; have c4 := cell_blk Y26.out 0; have c5 := cell_blk Y26.out 1; have f2 := frozen_blk Y16.out 0; have f3 := frozen_blk Y16.out 1; have f4 := frozen_blk Y26.out 0; have f5 := frozen_blk Y26.out 1; have k1 : w.heap.size + 1 < w6.heap.size := (Array.getElem?_eq_some_iff.1 Y16.out).1; have k2 : w.heap.size + 1 + 1 < w6.heap.size := (Array.getElem?_eq_some_iff.1 Y26.out).1
    go_wp2_with fail
    refine bodyPost_ret (v := .tuple #[.agg #[.int .i64 0, .slice none 0 0], .agg #[.int .i64 0, .slice none 0 0], .int .i64 5]) (by simp [results, Try.results27, go_sem, *]) rfl ?_
    rw [HWB.out, HWX.out, HWY.out, HWC.out]
    exact ⟨_, _, rfl, own_nil, own_nil, apart_nn _ _ rfl, (((BW6.out.setCell (by simp) _).setCell (by simp) _).setCell (by simp; omega) _).setCell (by simp; omega) _⟩
  have VKH := Lib.hid hk; clear hk
  cases hv1 : validR b (wX b 3 lv n)
  · have V1 := Lib.hid hv1; clear hv1
    have HWC := Lib.hid (show wiC b n 3 lv = 5 from (by rw [HC0.out, if_neg (fun h => by have := h.2; omega), HOK.out, V1.out]; simp))
    have HWB := Lib.hid (show wiB b n 3 lv = 0 from if_neg (by rw [HWC.out]; omega))
    have HWX := Lib.hid (show wiX b n 3 lv = [] from if_neg (by rw [HWC.out]; omega))
    have HWY := Lib.hid (show wiY b n 3 lv = [] from if_neg (by rw [HWC.out]; omega))
    refine SH.out.mono ?_; rintro e w6 ⟨sb, rfl, b6⟩
    clear SH
    rw [VKH.out]
    obtain ⟨-, bw6, -, -⟩ := blk1 b6
    have OA6 := Lib.hid (own_keep b6 (own_alloc OA5.out _)); have OB6 := Lib.hid (own_keep b6 (own_alloc OB5.out _))
    clear b6
    have Y06 := Lib.hid ((bw6.block _ (Array.getElem?_eq_some_iff.1 Y05.out).1).trans Y05.out)
    have Y16 := Lib.hid ((bw6.block _ (Array.getElem?_eq_some_iff.1 Y15.out).1).trans Y15.out)
    have Y26 := Lib.hid ((bw6.block _ (Array.getElem?_eq_some_iff.1 Y25.out).1).trans Y25.out)
    have YA6 := Lib.hid ((bw6.block _ (Array.getElem?_eq_some_iff.1 YA5.out).1).trans YA5.out)
    have YB6 := Lib.hid ((bw6.block _ (Array.getElem?_eq_some_iff.1 YB5.out).1).trans YB5.out)
    have BW6 := Lib.hid (Below.trans_size BW5.out bw6)
    clear bw6
    have p0 := cell_blk Y06.out 0; have p1 := cell_blk Y06.out 1; have a0 := cell_blk YA6.out 0; have a1 := cell_blk YA6.out 1; have b0 := cell_blk YB6.out 0; have b1 := cell_blk YB6.out 1
    have k0 : w.heap.size < w6.heap.size := (Array.getElem?_eq_some_iff.1 Y06.out).1; have ka : w2.heap.size < w6.heap.size := (Array.getElem?_eq_some_iff.1 YA6.out).1; have kb : w3.heap.size < w6.heap.size := (Array.getElem?_eq_some_iff.1 YB6.out).1
    have c2 := cell_blk Y16.out 0; have c3 := cell_blk Y16.out 1; have c4 := cell_blk Y26.out 0; have c5 := cell_blk Y26.out 1; have f2 := frozen_blk Y16.out 0; have f3 := frozen_blk Y16.out 1; have f4 := frozen_blk Y26.out 0; have f5 := frozen_blk Y26.out 1; have k1 : w.heap.size + 1 < w6.heap.size := (Array.getElem?_eq_some_iff.1 Y16.out).1; have k2 : w.heap.size + 1 + 1 < w6.heap.size := (Array.getElem?_eq_some_iff.1 Y26.out).1
    go_wp2_with fail
    clear p0 p1 a0 a1 b0 b1 k0 ka kb c2 c3 c4 c5 f2 f3 f4 f5 k1 k2
    refine (VA.out w2.heap.size _ OA6.out (cell_blk YA6.out 0) (cell_blk YA6.out 1)).mono ?_; rintro e w7 ⟨rfl, m7, hw7⟩; rw [V1.out]
    have bw7 : Below w6.heap.size w6 w7 := by rw [hw7]; exact drewN_below _ _ _
    clear hw7
    have Y07 := Lib.hid ((bw7.block _ (Array.getElem?_eq_some_iff.1 Y06.out).1).trans Y06.out)
    have Y17 := Lib.hid ((bw7.block _ (Array.getElem?_eq_some_iff.1 Y16.out).1).trans Y16.out)
    have Y27 := Lib.hid ((bw7.block _ (Array.getElem?_eq_some_iff.1 Y26.out).1).trans Y26.out)
    have YA7 := Lib.hid ((bw7.block _ (Array.getElem?_eq_some_iff.1 YA6.out).1).trans YA6.out)
    have YB7 := Lib.hid ((bw7.block _ (Array.getElem?_eq_some_iff.1 YB6.out).1).trans YB6.out)
    have OA7 := Lib.hid (own_keep bw7 OA6.out)
    have OB7 := Lib.hid (own_keep bw7 OB6.out)
    have BW7 := Lib.hid (Below.trans_size BW6.out bw7)
    clear bw7
    have p0 := cell_blk Y07.out 0; have p1 := cell_blk Y07.out 1; have a0 := cell_blk YA7.out 0; have a1 := cell_blk YA7.out 1; have b0 := cell_blk YB7.out 0; have b1 := cell_blk YB7.out 1
    have k0 : w.heap.size < w7.heap.size := (Array.getElem?_eq_some_iff.1 Y07.out).1; have ka : w2.heap.size < w7.heap.size := (Array.getElem?_eq_some_iff.1 YA7.out).1; have kb : w3.heap.size < w7.heap.size := (Array.getElem?_eq_some_iff.1 YB7.out).1
    have c2 := cell_blk Y17.out 0; have c3 := cell_blk Y17.out 1; have c4 := cell_blk Y27.out 0; have c5 := cell_blk Y27.out 1; have f2 := frozen_blk Y17.out 0; have f3 := frozen_blk Y17.out 1; have f4 := frozen_blk Y27.out 0; have f5 := frozen_blk Y27.out 1; have k1 : w.heap.size + 1 < w7.heap.size := (Array.getElem?_eq_some_iff.1 Y17.out).1; have k2 : w.heap.size + 1 + 1 < w7.heap.size := (Array.getElem?_eq_some_iff.1 Y27.out).1
    go_wp2_with fail
    refine bodyPost_ret (v := .tuple #[.agg #[.int .i64 0, .slice none 0 0], .agg #[.int .i64 0, .slice none 0 0], .int .i64 5]) (by simp [results, Try.results27, go_sem, *]) rfl ?_
    rw [HWB.out, HWX.out, HWY.out, HWC.out]
    exact ⟨_, _, rfl, own_nil, own_nil, apart_nn _ _ rfl, (((BW7.out.setCell (by simp) _).setCell (by simp) _).setCell (by simp; omega) _).setCell (by simp; omega) _⟩
  have V1 := Lib.hid hv1; clear hv1
  cases hv2 : validR b (wY 3 lv n)
  · have V2 := Lib.hid hv2; clear hv2
    have HWC := Lib.hid (show wiC b n 3 lv = 5 from (by rw [HC0.out, if_neg (fun h => by have := h.2; omega), HOK.out, V1.out, V2.out]; simp))
    have HWB := Lib.hid (show wiB b n 3 lv = 0 from if_neg (by rw [HWC.out]; omega))
    have HWX := Lib.hid (show wiX b n 3 lv = [] from if_neg (by rw [HWC.out]; omega))
    have HWY := Lib.hid (show wiY b n 3 lv = [] from if_neg (by rw [HWC.out]; omega))
    refine SH.out.mono ?_; rintro e w6 ⟨sb, rfl, b6⟩
    clear SH
    rw [VKH.out]
    obtain ⟨-, bw6, -, -⟩ := blk1 b6
    have OA6 := Lib.hid (own_keep b6 (own_alloc OA5.out _)); have OB6 := Lib.hid (own_keep b6 (own_alloc OB5.out _))
    clear b6
    have Y06 := Lib.hid ((bw6.block _ (Array.getElem?_eq_some_iff.1 Y05.out).1).trans Y05.out)
    have Y16 := Lib.hid ((bw6.block _ (Array.getElem?_eq_some_iff.1 Y15.out).1).trans Y15.out)
    have Y26 := Lib.hid ((bw6.block _ (Array.getElem?_eq_some_iff.1 Y25.out).1).trans Y25.out)
    have YA6 := Lib.hid ((bw6.block _ (Array.getElem?_eq_some_iff.1 YA5.out).1).trans YA5.out)
    have YB6 := Lib.hid ((bw6.block _ (Array.getElem?_eq_some_iff.1 YB5.out).1).trans YB5.out)
    have BW6 := Lib.hid (Below.trans_size BW5.out bw6)
    clear bw6
    have p0 := cell_blk Y06.out 0; have p1 := cell_blk Y06.out 1; have a0 := cell_blk YA6.out 0; have a1 := cell_blk YA6.out 1; have b0 := cell_blk YB6.out 0; have b1 := cell_blk YB6.out 1
    have k0 : w.heap.size < w6.heap.size := (Array.getElem?_eq_some_iff.1 Y06.out).1; have ka : w2.heap.size < w6.heap.size := (Array.getElem?_eq_some_iff.1 YA6.out).1; have kb : w3.heap.size < w6.heap.size := (Array.getElem?_eq_some_iff.1 YB6.out).1
    have c2 := cell_blk Y16.out 0; have c3 := cell_blk Y16.out 1; have c4 := cell_blk Y26.out 0; have c5 := cell_blk Y26.out 1; have f2 := frozen_blk Y16.out 0; have f3 := frozen_blk Y16.out 1; have f4 := frozen_blk Y26.out 0; have f5 := frozen_blk Y26.out 1; have k1 : w.heap.size + 1 < w6.heap.size := (Array.getElem?_eq_some_iff.1 Y16.out).1; have k2 : w.heap.size + 1 + 1 < w6.heap.size := (Array.getElem?_eq_some_iff.1 Y26.out).1
    go_wp2_with fail
    clear p0 p1 a0 a1 b0 b1 k0 ka kb c2 c3 c4 c5 f2 f3 f4 f5 k1 k2
    refine (VA.out w2.heap.size _ OA6.out (cell_blk YA6.out 0) (cell_blk YA6.out 1)).mono ?_; rintro e w7 ⟨rfl, m7, hw7⟩; rw [V1.out]
    have bw7 : Below w6.heap.size w6 w7 := by rw [hw7]; exact drewN_below _ _ _
    clear hw7
    have Y07 := Lib.hid ((bw7.block _ (Array.getElem?_eq_some_iff.1 Y06.out).1).trans Y06.out)
    have Y17 := Lib.hid ((bw7.block _ (Array.getElem?_eq_some_iff.1 Y16.out).1).trans Y16.out)
    have Y27 := Lib.hid ((bw7.block _ (Array.getElem?_eq_some_iff.1 Y26.out).1).trans Y26.out)
    have YA7 := Lib.hid ((bw7.block _ (Array.getElem?_eq_some_iff.1 YA6.out).1).trans YA6.out)
    have YB7 := Lib.hid ((bw7.block _ (Array.getElem?_eq_some_iff.1 YB6.out).1).trans YB6.out)
    have OA7 := Lib.hid (own_keep bw7 OA6.out)
    have OB7 := Lib.hid (own_keep bw7 OB6.out)
    have BW7 := Lib.hid (Below.trans_size BW6.out bw7)
    clear bw7
    have p0 := cell_blk Y07.out 0; have p1 := cell_blk Y07.out 1; have a0 := cell_blk YA7.out 0; have a1 := cell_blk YA7.out 1; have b0 := cell_blk YB7.out 0; have b1 := cell_blk YB7.out 1
    have k0 : w.heap.size < w7.heap.size := (Array.getElem?_eq_some_iff.1 Y07.out).1; have ka : w2.heap.size < w7.heap.size := (Array.getElem?_eq_some_iff.1 YA7.out).1; have kb : w3.heap.size < w7.heap.size := (Array.getElem?_eq_some_iff.1 YB7.out).1
    have c2 := cell_blk Y17.out 0; have c3 := cell_blk Y17.out 1; have c4 := cell_blk Y27.out 0; have c5 := cell_blk Y27.out 1; have f2 := frozen_blk Y17.out 0; have f3 := frozen_blk Y17.out 1; have f4 := frozen_blk Y27.out 0; have f5 := frozen_blk Y27.out 1; have k1 : w.heap.size + 1 < w7.heap.size := (Array.getElem?_eq_some_iff.1 Y17.out).1; have k2 : w.heap.size + 1 + 1 < w7.heap.size := (Array.getElem?_eq_some_iff.1 Y27.out).1
    go_wp2_with fail
    clear p0 p1 a0 a1 b0 b1 k0 ka kb c2 c3 c4 c5 f2 f3 f4 f5 k1 k2
    refine (VB.out w3.heap.size _ OB7.out (cell_blk YB7.out 0) (cell_blk YB7.out 1)).mono ?_; rintro e w8 ⟨rfl, m8, hw8⟩; rw [V2.out]
    have bw8 : Below w7.heap.size w7 w8 := by rw [hw8]; exact drewN_below _ _ _
    clear hw8
    have Y08 := Lib.hid ((bw8.block _ (Array.getElem?_eq_some_iff.1 Y07.out).1).trans Y07.out)
    have Y18 := Lib.hid ((bw8.block _ (Array.getElem?_eq_some_iff.1 Y17.out).1).trans Y17.out)
    have Y28 := Lib.hid ((bw8.block _ (Array.getElem?_eq_some_iff.1 Y27.out).1).trans Y27.out)
    have YA8 := Lib.hid ((bw8.block _ (Array.getElem?_eq_some_iff.1 YA7.out).1).trans YA7.out)
    have YB8 := Lib.hid ((bw8.block _ (Array.getElem?_eq_some_iff.1 YB7.out).1).trans YB7.out)
    have OA8 := Lib.hid (own_keep bw8 OA7.out)
    have OB8 := Lib.hid (own_keep bw8 OB7.out)
    have BW8 := Lib.hid (Below.trans_size BW7.out bw8)
    clear bw8
    have p0 := cell_blk Y08.out 0; have p1 := cell_blk Y08.out 1; have a0 := cell_blk YA8.out 0; have a1 := cell_blk YA8.out 1; have b0 := cell_blk YB8.out 0; have b1 := cell_blk YB8.out 1
    have k0 : w.heap.size < w8.heap.size := (Array.getElem?_eq_some_iff.1 Y08.out).1; have ka : w2.heap.size < w8.heap.size := (Array.getElem?_eq_some_iff.1 YA8.out).1; have kb : w3.heap.size < w8.heap.size := (Array.getElem?_eq_some_iff.1 YB8.out).1
    have c2 := cell_blk Y18.out 0; have c3 := cell_blk Y18.out 1; have c4 := cell_blk Y28.out 0; have c5 := cell_blk Y28.out 1; have f2 := frozen_blk Y18.out 0; have f3 := frozen_blk Y18.out 1; have f4 := frozen_blk Y28.out 0; have f5 := frozen_blk Y28.out 1; have k1 : w.heap.size + 1 < w8.heap.size := (Array.getElem?_eq_some_iff.1 Y18.out).1; have k2 : w.heap.size + 1 + 1 < w8.heap.size := (Array.getElem?_eq_some_iff.1 Y28.out).1
    go_wp2_with fail
    refine bodyPost_ret (v := .tuple #[.agg #[.int .i64 0, .slice none 0 0], .agg #[.int .i64 0, .slice none 0 0], .int .i64 5]) (by simp [results, Try.results27, go_sem, *]) rfl ?_
    rw [HWB.out, HWX.out, HWY.out, HWC.out]
    exact ⟨_, _, rfl, own_nil, own_nil, apart_nn _ _ rfl, (((BW8.out.setCell (by simp) _).setCell (by simp) _).setCell (by simp; omega) _).setCell (by simp; omega) _⟩
  have V2 := Lib.hid hv2; clear hv2
  have HWC := Lib.hid (show wiC b n 3 lv = 0 from (by rw [HC0.out, if_neg (fun h => by have := h.2; omega), HOK.out, V1.out, V2.out, VKH.out]; rfl))
  have HWB := Lib.hid (show wiB b n 3 lv = b from if_pos HWC.out)
  have HWX := Lib.hid (show wiX b n 3 lv = wX b 3 lv n from by unfold wiX; rw [if_pos HWC.out]; simp)
  have HWY := Lib.hid (show wiY b n 3 lv = wY 3 lv n from by unfold wiY; rw [if_pos HWC.out]; simp)
  refine SH.out.mono ?_; rintro e w6 ⟨sb, rfl, b6⟩
  clear SH
  rw [VKH.out]
  obtain ⟨-, bw6, -, -⟩ := blk1 b6
  have OA6 := Lib.hid (own_keep b6 (own_alloc OA5.out _)); have OB6 := Lib.hid (own_keep b6 (own_alloc OB5.out _))
  clear b6
  have Y06 := Lib.hid ((bw6.block _ (Array.getElem?_eq_some_iff.1 Y05.out).1).trans Y05.out)
  have Y16 := Lib.hid ((bw6.block _ (Array.getElem?_eq_some_iff.1 Y15.out).1).trans Y15.out)
  have Y26 := Lib.hid ((bw6.block _ (Array.getElem?_eq_some_iff.1 Y25.out).1).trans Y25.out)
  have YA6 := Lib.hid ((bw6.block _ (Array.getElem?_eq_some_iff.1 YA5.out).1).trans YA5.out)
  have YB6 := Lib.hid ((bw6.block _ (Array.getElem?_eq_some_iff.1 YB5.out).1).trans YB5.out)
  have BW6 := Lib.hid (Below.trans_size BW5.out bw6)
  clear bw6
  have p0 := cell_blk Y06.out 0; have p1 := cell_blk Y06.out 1; have a0 := cell_blk YA6.out 0; have a1 := cell_blk YA6.out 1; have b0 := cell_blk YB6.out 0; have b1 := cell_blk YB6.out 1
  have k0 : w.heap.size < w6.heap.size := (Array.getElem?_eq_some_iff.1 Y06.out).1; have ka : w2.heap.size < w6.heap.size := (Array.getElem?_eq_some_iff.1 YA6.out).1; have kb : w3.heap.size < w6.heap.size := (Array.getElem?_eq_some_iff.1 YB6.out).1
  have c2 := cell_blk Y16.out 0; have c3 := cell_blk Y16.out 1; have c4 := cell_blk Y26.out 0; have c5 := cell_blk Y26.out 1; have f2 := frozen_blk Y16.out 0; have f3 := frozen_blk Y16.out 1; have f4 := frozen_blk Y26.out 0; have f5 := frozen_blk Y26.out 1; have k1 : w.heap.size + 1 < w6.heap.size := (Array.getElem?_eq_some_iff.1 Y16.out).1; have k2 : w.heap.size + 1 + 1 < w6.heap.size := (Array.getElem?_eq_some_iff.1 Y26.out).1
  go_wp2_with fail
  clear p0 p1 a0 a1 b0 b1 k0 ka kb c2 c3 c4 c5 f2 f3 f4 f5 k1 k2
  refine (VA.out w2.heap.size _ OA6.out (cell_blk YA6.out 0) (cell_blk YA6.out 1)).mono ?_; rintro e w7 ⟨rfl, m7, hw7⟩; rw [V1.out]
  have bw7 : Below w6.heap.size w6 w7 := by rw [hw7]; exact drewN_below _ _ _
  clear hw7
  have Y07 := Lib.hid ((bw7.block _ (Array.getElem?_eq_some_iff.1 Y06.out).1).trans Y06.out)
  have Y17 := Lib.hid ((bw7.block _ (Array.getElem?_eq_some_iff.1 Y16.out).1).trans Y16.out)
  have Y27 := Lib.hid ((bw7.block _ (Array.getElem?_eq_some_iff.1 Y26.out).1).trans Y26.out)
  have YA7 := Lib.hid ((bw7.block _ (Array.getElem?_eq_some_iff.1 YA6.out).1).trans YA6.out)
  have YB7 := Lib.hid ((bw7.block _ (Array.getElem?_eq_some_iff.1 YB6.out).1).trans YB6.out)
  have OA7 := Lib.hid (own_keep bw7 OA6.out)
  have OB7 := Lib.hid (own_keep bw7 OB6.out)
  have BW7 := Lib.hid (Below.trans_size BW6.out bw7)
  clear bw7
  have p0 := cell_blk Y07.out 0; have p1 := cell_blk Y07.out 1; have a0 := cell_blk YA7.out 0; have a1 := cell_blk YA7.out 1; have b0 := cell_blk YB7.out 0; have b1 := cell_blk YB7.out 1
  have k0 : w.heap.size < w7.heap.size := (Array.getElem?_eq_some_iff.1 Y07.out).1; have ka : w2.heap.size < w7.heap.size := (Array.getElem?_eq_some_iff.1 YA7.out).1; have kb : w3.heap.size < w7.heap.size := (Array.getElem?_eq_some_iff.1 YB7.out).1
  have c2 := cell_blk Y17.out 0; have c3 := cell_blk Y17.out 1; have c4 := cell_blk Y27.out 0; have c5 := cell_blk Y27.out 1; have f2 := frozen_blk Y17.out 0; have f3 := frozen_blk Y17.out 1; have f4 := frozen_blk Y27.out 0; have f5 := frozen_blk Y27.out 1; have k1 : w.heap.size + 1 < w7.heap.size := (Array.getElem?_eq_some_iff.1 Y17.out).1; have k2 : w.heap.size + 1 + 1 < w7.heap.size := (Array.getElem?_eq_some_iff.1 Y27.out).1
  go_wp2_with fail
  clear p0 p1 a0 a1 b0 b1 k0 ka kb c2 c3 c4 c5 f2 f3 f4 f5 k1 k2
  refine (VB.out w3.heap.size _ OB7.out (cell_blk YB7.out 0) (cell_blk YB7.out 1)).mono ?_; rintro e w8 ⟨rfl, m8, hw8⟩; rw [V2.out]
  have bw8 : Below w7.heap.size w7 w8 := by rw [hw8]; exact drewN_below _ _ _
  clear hw8
  have Y08 := Lib.hid ((bw8.block _ (Array.getElem?_eq_some_iff.1 Y07.out).1).trans Y07.out)
  have Y18 := Lib.hid ((bw8.block _ (Array.getElem?_eq_some_iff.1 Y17.out).1).trans Y17.out)
  have Y28 := Lib.hid ((bw8.block _ (Array.getElem?_eq_some_iff.1 Y27.out).1).trans Y27.out)
  have YA8 := Lib.hid ((bw8.block _ (Array.getElem?_eq_some_iff.1 YA7.out).1).trans YA7.out)
  have YB8 := Lib.hid ((bw8.block _ (Array.getElem?_eq_some_iff.1 YB7.out).1).trans YB7.out)
  have OA8 := Lib.hid (own_keep bw8 OA7.out)
  have OB8 := Lib.hid (own_keep bw8 OB7.out)
  have BW8 := Lib.hid (Below.trans_size BW7.out bw8)
  clear bw8
  have p0 := cell_blk Y08.out 0; have p1 := cell_blk Y08.out 1; have a0 := cell_blk YA8.out 0; have a1 := cell_blk YA8.out 1; have b0 := cell_blk YB8.out 0; have b1 := cell_blk YB8.out 1
  have k0 : w.heap.size < w8.heap.size := (Array.getElem?_eq_some_iff.1 Y08.out).1; have ka : w2.heap.size < w8.heap.size := (Array.getElem?_eq_some_iff.1 YA8.out).1; have kb : w3.heap.size < w8.heap.size := (Array.getElem?_eq_some_iff.1 YB8.out).1
  have c2 := cell_blk Y18.out 0; have c3 := cell_blk Y18.out 1; have c4 := cell_blk Y28.out 0; have c5 := cell_blk Y28.out 1; have f2 := frozen_blk Y18.out 0; have f3 := frozen_blk Y18.out 1; have f4 := frozen_blk Y28.out 0; have f5 := frozen_blk Y28.out 1; have k1 : w.heap.size + 1 < w8.heap.size := (Array.getElem?_eq_some_iff.1 Y18.out).1; have k2 : w.heap.size + 1 + 1 < w8.heap.size := (Array.getElem?_eq_some_iff.1 Y28.out).1
  go_wp2_with fail
  have OAF := Lib.hid (own_base OA8.out (show w.heap.size ≤ w1.heap.size by omega))
  have OBF := Lib.hid (own_base OB8.out (show w.heap.size ≤ w1.heap.size by omega))
  have BF := Lib.hid BW8.out
  have YR6 := Lib.hid Y18.out
  have YR7 := Lib.hid Y28.out
  have lr6 : w.heap.size ≤ w.heap.size + 1 := by omega
  have lr7 : w.heap.size ≤ w.heap.size + 1 + 1 := by omega
  have na1 : ¬ w2.heap.size = w.heap.size + 1 := by omega
  have na2 : ¬ w2.heap.size = w.heap.size + 1 + 1 := by omega
  have nb1 : ¬ w3.heap.size = w.heap.size + 1 := by omega
  have nb2 : ¬ w3.heap.size = w.heap.size + 1 + 1 := by omega
  have n67 : ¬ w.heap.size + 1 + 1 = w.heap.size + 1 := by omega
  have n67' : ¬ w.heap.size + 1 = w.heap.size + 1 + 1 := by omega
  clear p0 p1 k0
  clear RB RF RR Y0 Y1 Y2 BW OA OA3 B2 VA VB HOK HG HC0 V1 V2 VKH LX LY
  clear n1 n2 n3 n5 n6 n7 n1' n2' n3' n5' n6' n7' j1 j2 j3 j4 j5 i0 i1 s1 s2 s3 g23 s4 s5 lA1 lA2 lB1 lB2
  clear OA5 OB5 Y05 Y15 Y25 YA5 YB5 BW5
  clear Y06 Y16 Y26 YA6 YB6 OA6 OB6 BW6 Y07 Y17 Y27 YA7 YB7 OA7 OB7 BW7 Y08 Y18 Y28 YA8 YB8 OA8 OB8 BW8
  generalize w.heap.size + 1 + 1 = r7 at *
  generalize w.heap.size + 1 = r6 at *
  generalize w2.heap.size = gA at *
  generalize w3.heap.size = gB at *
  go_region_held3 (fun w' => w'.cell? ⟨gA, 0, none⟩ = some (.int .i64 b) ∧ w'.cell? ⟨gA, 1, none⟩ = some (.slice (some ⟨xa, 0, none⟩) n ca) ∧ w'.cell? ⟨gB, 0, none⟩ = some (.int .i64 b) ∧ w'.cell? ⟨gB, 1, none⟩ = some (.slice (some ⟨xb, 0, none⟩) n cb)) (first | exact ⟨a0, a1, b0, b1⟩ | exact ⟨kc2 a0 na1, kc2 a1 na1, kc2 b0 nb1, kc2 b1 nb1⟩ | exact ⟨kc4 a0 na1 na2, kc4 a1 na1 na2, kc4 b0 nb1 nb2, kc4 b1 nb1 nb2⟩) (fail)
  have y6 : (((((w8.setCell ⟨r6, 0, none⟩ (.int .i64 b)).setCell ⟨r6, 1, none⟩ (.slice (some ⟨xa, 0, none⟩) n ca)).setCell ⟨r7, 0, none⟩ (.int .i64 b)).setCell ⟨r7, 1, none⟩ (.slice (some ⟨xb, 0, none⟩) n cb)).drew).heap[r6]? = some (.cells #[.int .i64 b, .slice (some ⟨xa, 0, none⟩) n ca] 41) := wk_keep (wk_keep (setCell_blk (setCell0_blk YR6.out (.int .i64 b)) (.slice (some ⟨xa, 0, none⟩) n ca)) n67') n67'
  have y7 : (((((w8.setCell ⟨r6, 0, none⟩ (.int .i64 b)).setCell ⟨r6, 1, none⟩ (.slice (some ⟨xa, 0, none⟩) n ca)).setCell ⟨r7, 0, none⟩ (.int .i64 b)).setCell ⟨r7, 1, none⟩ (.slice (some ⟨xb, 0, none⟩) n cb)).drew).heap[r7]? = some (.cells #[.int .i64 b, .slice (some ⟨xb, 0, none⟩) n cb] 41) := setCell_blk (setCell0_blk (wk_keep (wk_keep YR7.out n67) n67) (.int .i64 b)) (.slice (some ⟨xb, 0, none⟩) n cb)
  have oz : Own (((((w8.setCell ⟨r6, 0, none⟩ (.int .i64 b)).setCell ⟨r6, 1, none⟩ (.slice (some ⟨xa, 0, none⟩) n ca)).setCell ⟨r7, 0, none⟩ (.int .i64 b)).setCell ⟨r7, 1, none⟩ (.slice (some ⟨xb, 0, none⟩) n cb)).drew) w.heap.size (.slice (some ⟨xa, 0, none⟩) n ca) _ := (own_setCell_ne (own_setCell_ne (own_setCell_ne (own_setCell_ne (own_drew OAF.out) (fun h => ra1 (Option.some.inj h))) (fun h => ra1 (Option.some.inj h))) (fun h => ra2 (Option.some.inj h))) (fun h => ra2 (Option.some.inj h)))
  have oy : Own (((((w8.setCell ⟨r6, 0, none⟩ (.int .i64 b)).setCell ⟨r6, 1, none⟩ (.slice (some ⟨xa, 0, none⟩) n ca)).setCell ⟨r7, 0, none⟩ (.int .i64 b)).setCell ⟨r7, 1, none⟩ (.slice (some ⟨xb, 0, none⟩) n cb)).drew) w.heap.size (.slice (some ⟨xb, 0, none⟩) n cb) _ := (own_setCell_ne (own_setCell_ne (own_setCell_ne (own_setCell_ne (own_drew OBF.out) (fun h => rb1 (Option.some.inj h))) (fun h => rb1 (Option.some.inj h))) (fun h => rb2 (Option.some.inj h))) (fun h => rb2 (Option.some.inj h)))
  have bz : Below w.heap.size w (((((w8.setCell ⟨r6, 0, none⟩ (.int .i64 b)).setCell ⟨r6, 1, none⟩ (.slice (some ⟨xa, 0, none⟩) n ca)).setCell ⟨r7, 0, none⟩ (.int .i64 b)).setCell ⟨r7, 1, none⟩ (.slice (some ⟨xb, 0, none⟩) n cb)).drew) := ((((BF.out.setCell (p := ⟨r6, 0, none⟩) lr6 _).setCell (p := ⟨r6, 1, none⟩) lr6 _).setCell (p := ⟨r7, 0, none⟩) lr7 _).setCell (p := ⟨r7, 1, none⟩) lr7 _).drew
  clear a0 a1 b0 b1 c2 c3 c4 c5 f2 f3 f4 f5 ka kb k1 k2 YR6 YR7 OAF OBF BF
  generalize (((((w8.setCell ⟨r6, 0, none⟩ (.int .i64 b)).setCell ⟨r6, 1, none⟩ (.slice (some ⟨xa, 0, none⟩) n ca)).setCell ⟨r7, 0, none⟩ (.int .i64 b)).setCell ⟨r7, 1, none⟩ (.slice (some ⟨xb, 0, none⟩) n cb)).drew) = wz at *
  have e0 := cell_blk y6 0; have e1 := cell_blk y6 1; have e2 := cell_blk y7 0; have e3 := cell_blk y7 1
  have OZ := Lib.hid oz; have OY := Lib.hid oy; have BZ := Lib.hid bz
  clear y6 y7 oz oy bz
  rename_i K hK hH
  simp only [Exit.then]
  refine hK _ _ ?_
  clear hH hK
  refine wp_ret ?_
  clear n4 n4' ra1 ra2 rb1 rb2 lr6 lr7 n67 n67' na1 na2 nb1 nb2 hb hb2 hn hn2
  refine bodyPost_ret (v := .tuple #[.agg #[.int .i64 b, .slice (some ⟨xa, 0, none⟩) n ca], .agg #[.int .i64 b, .slice (some ⟨xb, 0, none⟩) n cb], .int .i64 0]) (by simp [results, Try.results27, go_sem, *]) rfl ?_
  rw [HWB.out, HWX.out, HWY.out, HWC.out]
  exact ⟨_, _, rfl, OZ.out, OY.out, OAB.out, BZ.out⟩
end Go.Proofs.Ytkhjmokjbiepgaa
