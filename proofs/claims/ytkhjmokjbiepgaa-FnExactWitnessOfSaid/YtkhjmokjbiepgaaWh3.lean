/- WitnessOf of the program: faults of a kind. -/
import Derived.IntWalk
import Derived.Deep.RegionLaw
import Derived.Deep.QuietTactic
import Derived.BigQuiet
import Derived.Deep.Cut
import Derived.Deep.RegionHeld3
import Derived.Deep.CutRange
import Derived.Deep.CutBlock
import Derived.Test.YtkhjmokjbiepgaaWg
namespace Go.Proofs.Ytkhjmokjbiepgaa
open Go.ChangeShapes Go.WideShapes Go.ChangeAt Go.RowKit
set_option maxHeartbeats 2000000 in
set_option maxRecDepth 100000 in
theorem impl_WitnessOf_3 (b : Int) (n lv : Nat) (w : World) (hb : 2 ≤ b) (hb2 : b ≤ 16) (hn : 1 ≤ n) (hn2 : n ≤ 16) (hl : lv < n) (hz : 0 < lv) :
    Calls Try.prog 29 #[.int .i64 b, .int .i64 n, .agg #[.int .i64 3, .int .i64 lv]] w (RetRegs w (wiB b n 3 lv) (wiX b n 3 lv) (wiY b n 3 lv) (wiC b n 3 lv)) := by
  have RB := Lib.hid (inB_true hb hb2)
  have RW := Lib.hid (inB_true (n := (n : Int)) (lo := 1) (hi := 16) (by omega) (by omega))
  have RF := Lib.hid (show (inB 3 1 3 && inB (lv : Int) 0 ((n : Int) - 1)) = true from by rw [inB_true (by omega) (by omega), inB_true (by omega) (by omega)]; rfl)
  have RG := impl_registerOf b 0 n
  rw [digL_zero] at RG
  have RR := Lib.hid (fun wx => RG wx hb hb2 (by omega) (by omega) hn2)
  clear RG
  go_enter Try.func29, Try.ntmps29
  go_wp2_with fail
  refine (impl_isBase _ _).mono ?_; rintro e w1 ⟨rfl, rfl⟩; rw [RB.out]
  go_wp2_with fail
  refine (impl_isRegisterWidth _ _).mono ?_; rintro e w1 ⟨rfl, rfl⟩; rw [RW.out]
  go_wp2_with fail
  refine (impl_isFault _ _ _ _ (by omega) (by omega)).mono ?_; rintro e w1 ⟨rfl, b1⟩; rw [RF.out]
  obtain ⟨y0, y1, y2, bw, s1, -⟩ := blk3 b1
  have Y0 := Lib.hid y0; have Y1 := Lib.hid y1; have Y2 := Lib.hid y2; have BW := Lib.hid bw
  clear b1 bw y0 y1 y2
  go_wp2_with fail
  refine (RR.out _).mono ?_; rintro e w2 ⟨va, rfl, oa, b2⟩
  have B2 := Lib.hid b2; have OA := Lib.hid oa; have s2 := b2.size
  obtain ⟨pa, ca, hva, -, -⟩ := own_form oa
  rw [zL_len] at hva; subst hva
  clear oa b2
  go_wp2_with fail
  refine (RR.out _).mono ?_; rintro e w3 ⟨vb, rfl, ob, b3⟩
  obtain ⟨ya, bw3, s3, e3⟩ := blk1 b3
  have OA3 := Lib.hid (own_keep b3 (own_alloc OA.out _))
  have lB := own_block_lt ob
  obtain ⟨pb, cb, hvb, -, qb⟩ := own_form ob
  rw [zL_len] at hvb qb; subst hvb
  obtain ⟨xb, rfl, -⟩ := qb 0 (by omega)
  have lA := own_block_lt OA.out
  obtain ⟨pa', ca', hva, -, qa⟩ := own_form OA.out
  rw [zL_len] at hva qa
  injection hva with hva1 hva2 hva3; subst hva1; subst hva3
  obtain ⟨xa, rfl, -⟩ := qa 0 (by omega)
  have lA1 := (lA xa rfl).1; have lA2 := (lA xa rfl).2
  have lB1 := (lB xb rfl).1; have lB2 := (lB xb rfl).2
  rw [e3] at lB1
  clear lA lB qa qb hva2
  have OB4 := Lib.hid (own_base (B' := w1.heap.size) (own_alloc ob (.cells #[.int .i64 b, .slice (some ⟨xb, 0, none⟩) n cb] 41)) (by simp; omega))
  have OA4 := Lib.hid (own_alloc OA3.out (.cells #[.int .i64 b, .slice (some ⟨xb, 0, none⟩) n cb] 41))
  have ya4 := wk_al (A := .cells #[.int .i64 b, .slice (some ⟨xb, 0, none⟩) n cb] 41) ya
  have yb4 := heap_last w3 (.cells #[.int .i64 b, .slice (some ⟨xb, 0, none⟩) n cb] 41)
  have BW2 := Below.trans_size BW.out B2.out
  have b14 := (Below.trans_size B2.out bw3).alloc (Nat.le_trans s2 (Below.size bw3)) (.cells #[.int .i64 b, .slice (some ⟨xb, 0, none⟩) n cb] 41)
  have BW4 := Lib.hid (Below.trans_size BW.out b14)
  have y04 := (b14.block w.heap.size (by omega)).trans Y0.out
  have y14 := (b14.block (w.heap.size + 1) (by omega)).trans Y1.out
  have y24 := (b14.block (w.heap.size + 1 + 1) (by omega)).trans Y2.out
  have s4 : w3.heap.size + 1 = (w3.alloc (.cells #[.int .i64 b, .slice (some ⟨xb, 0, none⟩) n cb] 41)).heap.size := by simp
  have g23 : w2.heap.size < w3.heap.size := by omega
  clear ob b3 ya bw3 e3 BW2 b14
  go_upto_region 5 with fail
  have n4 : ¬ xa = xb := by omega
  have OAB := Lib.hid (show Apart (.slice (some ⟨xa, 0, none⟩) n ca) (.slice (some ⟨xb, 0, none⟩) n cb) from fun k hk e => n4 (Option.some.inj (show some xa = some xb from hk.trans e.symm)))
  generalize hw4 : (w3.alloc (.cells #[.int .i64 b, .slice (some ⟨xb, 0, none⟩) n cb] 41)) = w4 at *
  have p0 := cell_blk y04 0; have p1 := cell_blk y04 1
  have a0 := cell_blk ya4 0; have a1 := cell_blk ya4 1
  have b0 := cell_blk yb4 0; have b1 := cell_blk yb4 1
  have da := (own_at OA4.out (zL_len n).symm hl).1; have fa := (own_at OA4.out (zL_len n).symm hl).2
  have db := (own_at OB4.out (zL_len n).symm hl).1; have fb := (own_at OB4.out (zL_len n).symm hl).2
  have Y04 := Lib.hid y04; have Y14 := Lib.hid y14; have Y24 := Lib.hid y24; have YA4 := Lib.hid ya4; have YB4 := Lib.hid yb4
  clear y04 y14 y24 ya4 yb4 hw4
  have n1 : ¬ xa = w.heap.size := by omega
  have n2 : ¬ xa = w2.heap.size := by omega
  have n3 : ¬ xa = w3.heap.size := by omega
  have n5 : ¬ xb = w.heap.size := by omega
  have n6 : ¬ xb = w2.heap.size := by omega
  have n7 : ¬ xb = w3.heap.size := by omega
  have n1' : ¬ w.heap.size = xa := by omega
  have n2' : ¬ w2.heap.size = xa := by omega
  have n3' : ¬ w3.heap.size = xa := by omega
  have n4' : ¬ xb = xa := by omega
  have n5' : ¬ w.heap.size = xb := by omega
  have n6' : ¬ w2.heap.size = xb := by omega
  have n7' : ¬ w3.heap.size = xb := by omega
  have j1 : w.heap.size < w4.heap.size := by omega
  have j2 : w2.heap.size < w4.heap.size := by omega
  have j3 : w3.heap.size < w4.heap.size := by omega
  have j4 : xa < w4.heap.size := by omega
  have j5 : xb < w4.heap.size := by omega
  have i0 : (0 : Int) ≤ (lv : Int) := by omega
  have i1 : (lv : Int) < (n : Int) := by omega
  have hz3 : ¬ (lv : Int) = 0 := by omega
  have hz4 : (0 : Int) < (lv : Int) := by omega
  have hz5 : ((lv : Int) == 0) = false := by simp; omega
  have i2 : (0 : Int) ≤ (lv : Int) - 1 := by omega
  have i3 : (lv : Int) - 1 < (n : Int) := by omega
  have i4 : ((lv : Int) - 1).toNat = lv - 1 := by omega
  have i5 : IntKind.i64.wrap ((lv : Int) - 1) = (lv : Int) - 1 := IntWalk.i64_in _ (by omega)
  have i6 : ¬ lv = lv - 1 := by omega
  have i7 : ¬ lv - 1 = lv := by omega
  have da2 := (own_at OA4.out (zL_len n).symm (show lv - 1 < n by omega)).1; have fa2 := (own_at OA4.out (zL_len n).symm (show lv - 1 < n by omega)).2
  have db2 := (own_at OB4.out (zL_len n).symm (show lv - 1 < n by omega)).1; have fb2 := (own_at OB4.out (zL_len n).symm (show lv - 1 < n by omega)).2
  go_wp2_with fail
  have s5 : (((w4.setCell ⟨xa, (lv - 1), none⟩ (.int .i64 (b - 1))).setCell ⟨xb, (lv - 1), none⟩ (.int .i64 1)).setCell ⟨xa, lv, none⟩ (.int .i64 (b - 1))).heap.size = w4.heap.size := by simp
  have EX : wX b 3 lv n = ((zL n).set (lv - 1) (b - 1)).set lv (b - 1) := by unfold wX; rw [if_neg (by omega), if_pos ⟨rfl, hz⟩]
  have EY : wY 3 lv n = (zL n).set (lv - 1) 1 := by unfold wY; rw [if_neg (by omega), if_pos ⟨rfl, hz⟩]
  have oA5 : Own (((w4.setCell ⟨xa, (lv - 1), none⟩ (.int .i64 (b - 1))).setCell ⟨xb, (lv - 1), none⟩ (.int .i64 1)).setCell ⟨xa, lv, none⟩ (.int .i64 (b - 1))) w1.heap.size (.slice (some ⟨xa, 0, none⟩) n ca) (wX b 3 lv n) := by rw [EX]; exact (own_store (own_setCell_ne (g := xb) (j := (lv - 1)) (u := .int .i64 1) (own_store OA4.out (by simp [zL]) (lv - 1) (b - 1)).1 (fun h => n4 (Option.some.inj h))) (by simp [zL]) lv (b - 1)).1
  have oB5 : Own (((w4.setCell ⟨xa, (lv - 1), none⟩ (.int .i64 (b - 1))).setCell ⟨xb, (lv - 1), none⟩ (.int .i64 1)).setCell ⟨xa, lv, none⟩ (.int .i64 (b - 1))) w1.heap.size (.slice (some ⟨xb, 0, none⟩) n cb) (wY 3 lv n) := by rw [EY]; exact (own_setCell_ne (g := xa) (j := lv) (u := .int .i64 (b - 1)) (own_store (own_setCell_ne (g := xa) (j := (lv - 1)) (u := .int .i64 (b - 1)) OB4.out (fun h => n4' (Option.some.inj h))) (by simp [zL]) (lv - 1) 1).1 (fun h => n4' (Option.some.inj h)))
  have y05 := (wk_keep (g := xa) (i := lv) (u := .int .i64 (b - 1)) (wk_keep (g := xb) (i := (lv - 1)) (u := .int .i64 1) (wk_keep (g := xa) (i := (lv - 1)) (u := .int .i64 (b - 1)) Y04.out (by omega)) (by omega)) (by omega))
  have y15 := (wk_keep (g := xa) (i := lv) (u := .int .i64 (b - 1)) (wk_keep (g := xb) (i := (lv - 1)) (u := .int .i64 1) (wk_keep (g := xa) (i := (lv - 1)) (u := .int .i64 (b - 1)) Y14.out (by omega)) (by omega)) (by omega))
  have y25 := (wk_keep (g := xa) (i := lv) (u := .int .i64 (b - 1)) (wk_keep (g := xb) (i := (lv - 1)) (u := .int .i64 1) (wk_keep (g := xa) (i := (lv - 1)) (u := .int .i64 (b - 1)) Y24.out (by omega)) (by omega)) (by omega))
  have yA5 := (wk_keep (g := xa) (i := lv) (u := .int .i64 (b - 1)) (wk_keep (g := xb) (i := (lv - 1)) (u := .int .i64 1) (wk_keep (g := xa) (i := (lv - 1)) (u := .int .i64 (b - 1)) YA4.out (by omega)) (by omega)) (by omega))
  have yB5 := (wk_keep (g := xa) (i := lv) (u := .int .i64 (b - 1)) (wk_keep (g := xb) (i := (lv - 1)) (u := .int .i64 1) (wk_keep (g := xa) (i := (lv - 1)) (u := .int .i64 (b - 1)) YB4.out (by omega)) (by omega)) (by omega))
  have bW5 := (((BW4.out.setCell (p := ⟨xa, (lv - 1), none⟩) (by show w.heap.size ≤ xa; omega) (.int .i64 (b - 1))).setCell (p := ⟨xb, (lv - 1), none⟩) (by show w.heap.size ≤ xb; omega) (.int .i64 1)).setCell (p := ⟨xa, lv, none⟩) (by show w.heap.size ≤ xa; omega) (.int .i64 (b - 1)))
  generalize (((w4.setCell ⟨xa, (lv - 1), none⟩ (.int .i64 (b - 1))).setCell ⟨xb, (lv - 1), none⟩ (.int .i64 1)).setCell ⟨xa, lv, none⟩ (.int .i64 (b - 1))) = w5 at *
  have OA5 := Lib.hid oA5
  have OB5 := Lib.hid oB5
  have Y05 := Lib.hid y05
  have Y15 := Lib.hid y15
  have Y25 := Lib.hid y25
  have YA5 := Lib.hid yA5
  have YB5 := Lib.hid yB5
  have BW5 := Lib.hid bW5
  clear oA5 oB5 y05 y15 y25 yA5 yB5 bW5
  have LX := wX_len b 3 lv n
  have LY := wY_len 3 lv n
  have HX := wX_bd 3 lv n hb
  have HY := wY_bd 3 lv n hb
  clear p0 p1 a0 a1 b0 b1 da fa db fb OA4 OB4 Y04 Y14 Y24 YA4 YB4 BW4
  have c0 := cell_blk (heap_last w5 (.cells #[.int .i64 3, .int .i64 (lv : Int)] 54)) 0
  have c1 := cell_blk (heap_last w5 (.cells #[.int .i64 3, .int .i64 (lv : Int)] 54)) 1
  have AW := Lib.hid (impl_addedWith b b 3 lv n _ (own_alloc OA5.out _) (own_alloc OB5.out _) LX LY hn2 hb hb2 HX HY (by omega) (by omega) (by omega) c0 c1)
  rw [s5] at AW
  have AD := Lib.hid (fun wx (k1 : Own wx w1.heap.size (.slice (some ⟨xa, 0, none⟩) n ca) (wX b 3 lv n)) (k2 : Own wx w1.heap.size (.slice (some ⟨xb, 0, none⟩) n cb) (wY 3 lv n)) => impl_added b b n wx k1 k2 LX LY hn2 hb hb2 HX HY)
  have VA := Lib.hid (fun wx (k1 : Own wx w1.heap.size (.slice (some ⟨xa, 0, none⟩) n ca) (wX b 3 lv n)) => impl_ValidRegister b wx k1 (by rw [LX]; omega))
  have VB := Lib.hid (fun wx (k1 : Own wx w1.heap.size (.slice (some ⟨xb, 0, none⟩) n cb) (wY 3 lv n)) => impl_ValidRegister b wx k1 (by rw [LY]; omega))
  have LW : (faL b (wX b 3 lv n) (wY 3 lv n) 3 lv n).length = n := by simp [faL]
  have LR : (faL b (wX b 3 lv n) (wY 3 lv n) 0 0 n).length = n := by simp [faL]
  have VW := Lib.hid (fun wx (B : Nat) (z : Value) (k1 : Own wx B z (faL b (wX b 3 lv n) (wY 3 lv n) 3 lv n)) => impl_ValidRegister b wx k1 (by rw [LW]; omega))
  have VR := Lib.hid (fun wx (B : Nat) (z : Value) (k1 : Own wx B z (faL b (wX b 3 lv n) (wY 3 lv n) 0 0 n)) => impl_ValidRegister b wx k1 (by rw [LR]; omega))
  have HOK := Lib.hid (show wOk b 3 lv n = (validR b (wX b 3 lv n) && (validR b (wY 3 lv n) && (validR b (faL b (wX b 3 lv n) (wY 3 lv n) 3 lv n) && validR b (faL b (wX b 3 lv n) (wY 3 lv n) 0 0 n)))) from rfl)
  clear HX HY EX EY c0 c1
  refine AW.out.mono ?_; rintro e w6 ⟨vw, rfl, ow, b6⟩
  clear AW
  obtain ⟨-, bw6, s6, -⟩ := blk1 b6
  have OA6 := Lib.hid (own_keep b6 (own_alloc OA5.out _)); have OB6 := Lib.hid (own_keep b6 (own_alloc OB5.out _))
  obtain ⟨pw, cw, hvw, -, -⟩ := own_form ow
  rw [LW] at hvw; subst hvw
  have OW6 := Lib.hid ow
  have Y06 := Lib.hid ((bw6.block _ (Array.getElem?_eq_some_iff.1 Y05.out).1).trans Y05.out)
  have Y16 := Lib.hid ((bw6.block _ (Array.getElem?_eq_some_iff.1 Y15.out).1).trans Y15.out)
  have Y26 := Lib.hid ((bw6.block _ (Array.getElem?_eq_some_iff.1 Y25.out).1).trans Y25.out)
  have YA6 := Lib.hid ((bw6.block _ (Array.getElem?_eq_some_iff.1 YA5.out).1).trans YA5.out)
  have YB6 := Lib.hid ((bw6.block _ (Array.getElem?_eq_some_iff.1 YB5.out).1).trans YB5.out)
  have BW6 := Lib.hid (Below.trans_size BW5.out bw6)
  have p0 := cell_blk Y06.out 0; have p1 := cell_blk Y06.out 1; have a0 := cell_blk YA6.out 0; have a1 := cell_blk YA6.out 1; have b0 := cell_blk YB6.out 0; have b1 := cell_blk YB6.out 1
  have k0 : w.heap.size < w6.heap.size := (Array.getElem?_eq_some_iff.1 Y06.out).1; have ka : w2.heap.size < w6.heap.size := (Array.getElem?_eq_some_iff.1 YA6.out).1; have kb : w3.heap.size < w6.heap.size := (Array.getElem?_eq_some_iff.1 YB6.out).1
  clear b6 ow bw6
  go_wp2_with fail
  refine (AD.out _ (own_alloc OA6.out _) (own_alloc OB6.out _)).mono ?_; rintro e w8 ⟨vr, vq, rfl, or, b8⟩
  obtain ⟨yw8, bw8, s8, -⟩ := blk1 b8
  have OA8 := Lib.hid (own_keep b8 (own_alloc OA6.out _)); have OB8 := Lib.hid (own_keep b8 (own_alloc OB6.out _)); have OW8 := Lib.hid (own_keep b8 (own_alloc OW6.out _))
  have YW8 := Lib.hid yw8
  obtain ⟨pr, cr, hvr, -, -⟩ := own_form or
  rw [LR] at hvr; subst hvr
  have OR8 := Lib.hid or
  have Y08 := Lib.hid ((bw8.block _ (Array.getElem?_eq_some_iff.1 Y06.out).1).trans Y06.out)
  have Y18 := Lib.hid ((bw8.block _ (Array.getElem?_eq_some_iff.1 Y16.out).1).trans Y16.out)
  have Y28 := Lib.hid ((bw8.block _ (Array.getElem?_eq_some_iff.1 Y26.out).1).trans Y26.out)
  have YA8 := Lib.hid ((bw8.block _ (Array.getElem?_eq_some_iff.1 YA6.out).1).trans YA6.out)
  have YB8 := Lib.hid ((bw8.block _ (Array.getElem?_eq_some_iff.1 YB6.out).1).trans YB6.out)
  have BW8 := Lib.hid (Below.trans_size BW6.out bw8)
  clear p0 p1 a0 a1 b0 b1 k0 ka kb
  have p0 := cell_blk Y08.out 0; have p1 := cell_blk Y08.out 1; have a0 := cell_blk YA8.out 0; have a1 := cell_blk YA8.out 1; have b0 := cell_blk YB8.out 0; have b1 := cell_blk YB8.out 1
  have k0 : w.heap.size < w8.heap.size := (Array.getElem?_eq_some_iff.1 Y08.out).1; have ka : w2.heap.size < w8.heap.size := (Array.getElem?_eq_some_iff.1 YA8.out).1; have kb : w3.heap.size < w8.heap.size := (Array.getElem?_eq_some_iff.1 YB8.out).1
  have z0 := cell_blk YW8.out 0; have z1 := cell_blk YW8.out 1; have kw : w6.heap.size < w8.heap.size := (Array.getElem?_eq_some_iff.1 YW8.out).1
  clear b8 or bw8 yw8
  go_wp2_with fail
  have Y09 := Lib.hid (wk_al (A := (.cells #[.int .i64 b, .slice pr n cr] 41)) Y08.out)
  have Y19 := Lib.hid (wk_al (A := (.cells #[.int .i64 b, .slice pr n cr] 41)) Y18.out)
  have Y29 := Lib.hid (wk_al (A := (.cells #[.int .i64 b, .slice pr n cr] 41)) Y28.out)
  have YA9 := Lib.hid (wk_al (A := (.cells #[.int .i64 b, .slice pr n cr] 41)) YA8.out)
  have YB9 := Lib.hid (wk_al (A := (.cells #[.int .i64 b, .slice pr n cr] 41)) YB8.out)
  have YW9 := Lib.hid (wk_al (A := (.cells #[.int .i64 b, .slice pr n cr] 41)) YW8.out)
  have YR9 := Lib.hid (heap_last w8 (.cells #[.int .i64 b, .slice pr n cr] 41))
  have OA9 := Lib.hid (own_alloc OA8.out (.cells #[.int .i64 b, .slice pr n cr] 41))
  have OB9 := Lib.hid (own_alloc OB8.out (.cells #[.int .i64 b, .slice pr n cr] 41))
  have OW9 := Lib.hid (own_alloc OW8.out (.cells #[.int .i64 b, .slice pr n cr] 41))
  have OR9 := Lib.hid (own_alloc OR8.out (.cells #[.int .i64 b, .slice pr n cr] 41))
  have BW9 := Lib.hid (BW8.out.alloc BW8.out.size (.cells #[.int .i64 b, .slice pr n cr] 41))
  clear p0 p1 a0 a1 b0 b1 k0 ka kb z0 z1 kw
  generalize (w8.alloc (.cells #[.int .i64 b, .slice pr n cr] 41)) = w9 at *
  have ra1 : ¬ xa = w.heap.size + 1 := by omega
  have ra2 : ¬ xa = w.heap.size + 1 + 1 := by omega
  have rb1 : ¬ xb = w.heap.size + 1 := by omega
  have rb2 : ¬ xb = w.heap.size + 1 + 1 := by omega
  have HG := Lib.hid (show wiG b n 3 lv = true from by unfold wiG; rw [RB.out, RW.out, RF.out]; rfl)
  have HC0 := Lib.hid (wiC_eq (b := b) (kd := 3) (n := n) (lv := lv) HG.out)
  cases hv1 : validR b (wX b 3 lv n)
  · have V1 := Lib.hid hv1
    have HWC := Lib.hid (show wiC b n 3 lv = 5 from (by rw [HC0.out, if_neg (fun h => by have := h.2; omega), HOK.out, V1.out]; rfl))
    have HWB := Lib.hid (show wiB b n 3 lv = 0 from if_neg (by rw [HWC.out]; omega))
    have HWX := Lib.hid (show wiX b n 3 lv = [] from if_neg (by rw [HWC.out]; omega))
    have HWY := Lib.hid (show wiY b n 3 lv = [] from if_neg (by rw [HWC.out]; omega))
    clear hv1
    have p0 := cell_blk Y09.out 0; have p1 := cell_blk Y09.out 1; have a0 := cell_blk YA9.out 0; have a1 := cell_blk YA9.out 1; have b0 := cell_blk YB9.out 0; have b1 := cell_blk YB9.out 1
    have k0 : w.heap.size < w9.heap.size := (Array.getElem?_eq_some_iff.1 Y09.out).1; have ka : w2.heap.size < w9.heap.size := (Array.getElem?_eq_some_iff.1 YA9.out).1; have kb : w3.heap.size < w9.heap.size := (Array.getElem?_eq_some_iff.1 YB9.out).1
    have z0 := cell_blk YW9.out 0; have z1 := cell_blk YW9.out 1; have q0 := cell_blk YR9.out 0; have q1 := cell_blk YR9.out 1; have kw : w6.heap.size < w9.heap.size := (Array.getElem?_eq_some_iff.1 YW9.out).1; have kq : w8.heap.size < w9.heap.size := (Array.getElem?_eq_some_iff.1 YR9.out).1
    have c2 := cell_blk Y19.out 0; have c3 := cell_blk Y19.out 1; have c4 := cell_blk Y29.out 0; have c5 := cell_blk Y29.out 1; have f2 := frozen_blk Y19.out 0; have f3 := frozen_blk Y19.out 1; have f4 := frozen_blk Y29.out 0; have f5 := frozen_blk Y29.out 1; have k1 : w.heap.size + 1 < w9.heap.size := (Array.getElem?_eq_some_iff.1 Y19.out).1; have k2 : w.heap.size + 1 + 1 < w9.heap.size := (Array.getElem?_eq_some_iff.1 Y29.out).1
    clear p0 p1 a0 a1 b0 b1 k0 ka kb z0 z1 q0 q1 kw kq c2 c3 c4 c5 f2 f3 f4 f5 k1 k2
    refine (VA.out _ OA9.out).mono ?_; rintro e w10 ⟨rfl, bw10⟩; rw [V1.out]
    have Y010 := Lib.hid ((bw10.block _ (Array.getElem?_eq_some_iff.1 Y09.out).1).trans Y09.out)
    have Y110 := Lib.hid ((bw10.block _ (Array.getElem?_eq_some_iff.1 Y19.out).1).trans Y19.out)
    have Y210 := Lib.hid ((bw10.block _ (Array.getElem?_eq_some_iff.1 Y29.out).1).trans Y29.out)
    have YA10 := Lib.hid ((bw10.block _ (Array.getElem?_eq_some_iff.1 YA9.out).1).trans YA9.out)
    have YB10 := Lib.hid ((bw10.block _ (Array.getElem?_eq_some_iff.1 YB9.out).1).trans YB9.out)
    have YW10 := Lib.hid ((bw10.block _ (Array.getElem?_eq_some_iff.1 YW9.out).1).trans YW9.out)
    have YR10 := Lib.hid ((bw10.block _ (Array.getElem?_eq_some_iff.1 YR9.out).1).trans YR9.out)
    have OA10 := Lib.hid (own_keep bw10 OA9.out)
    have OB10 := Lib.hid (own_keep bw10 OB9.out)
    have OW10 := Lib.hid (own_keep bw10 OW9.out)
    have OR10 := Lib.hid (own_keep bw10 OR9.out)
    have BW10 := Lib.hid (Below.trans_size BW9.out bw10)
    clear bw10
    have p0 := cell_blk Y010.out 0; have p1 := cell_blk Y010.out 1; have a0 := cell_blk YA10.out 0; have a1 := cell_blk YA10.out 1; have b0 := cell_blk YB10.out 0; have b1 := cell_blk YB10.out 1
    have k0 : w.heap.size < w10.heap.size := (Array.getElem?_eq_some_iff.1 Y010.out).1; have ka : w2.heap.size < w10.heap.size := (Array.getElem?_eq_some_iff.1 YA10.out).1; have kb : w3.heap.size < w10.heap.size := (Array.getElem?_eq_some_iff.1 YB10.out).1
    have z0 := cell_blk YW10.out 0; have z1 := cell_blk YW10.out 1; have q0 := cell_blk YR10.out 0; have q1 := cell_blk YR10.out 1; have kw : w6.heap.size < w10.heap.size := (Array.getElem?_eq_some_iff.1 YW10.out).1; have kq : w8.heap.size < w10.heap.size := (Array.getElem?_eq_some_iff.1 YR10.out).1
    have c2 := cell_blk Y110.out 0; have c3 := cell_blk Y110.out 1; have c4 := cell_blk Y210.out 0; have c5 := cell_blk Y210.out 1; have f2 := frozen_blk Y110.out 0; have f3 := frozen_blk Y110.out 1; have f4 := frozen_blk Y210.out 0; have f5 := frozen_blk Y210.out 1; have k1 : w.heap.size + 1 < w10.heap.size := (Array.getElem?_eq_some_iff.1 Y110.out).1; have k2 : w.heap.size + 1 + 1 < w10.heap.size := (Array.getElem?_eq_some_iff.1 Y210.out).1
    go_wp2_with fail
    refine bodyPost_ret (v := .tuple #[.agg #[.int .i64 0, .slice none 0 0], .agg #[.int .i64 0, .slice none 0 0], .int .i64 5]) (by simp [results, Try.results29, go_sem, *]) rfl ?_
    rw [HWB.out, HWX.out, HWY.out, HWC.out]
    exact ⟨_, _, rfl, own_nil, own_nil, apart_nn _ _ rfl, (((BW10.out.setCell (by simp) _).setCell (by simp) _).setCell (by simp; omega) _).setCell (by simp; omega) _⟩
  have V1 := Lib.hid hv1; clear hv1
  cases hv2 : validR b (wY 3 lv n)
  · have V2 := Lib.hid hv2
    have HWC := Lib.hid (show wiC b n 3 lv = 5 from (by rw [HC0.out, if_neg (fun h => by have := h.2; omega), HOK.out, V1.out, V2.out]; rfl))
    have HWB := Lib.hid (show wiB b n 3 lv = 0 from if_neg (by rw [HWC.out]; omega))
    have HWX := Lib.hid (show wiX b n 3 lv = [] from if_neg (by rw [HWC.out]; omega))
    have HWY := Lib.hid (show wiY b n 3 lv = [] from if_neg (by rw [HWC.out]; omega))
    clear hv2
    have p0 := cell_blk Y09.out 0; have p1 := cell_blk Y09.out 1; have a0 := cell_blk YA9.out 0; have a1 := cell_blk YA9.out 1; have b0 := cell_blk YB9.out 0; have b1 := cell_blk YB9.out 1
    have k0 : w.heap.size < w9.heap.size := (Array.getElem?_eq_some_iff.1 Y09.out).1; have ka : w2.heap.size < w9.heap.size := (Array.getElem?_eq_some_iff.1 YA9.out).1; have kb : w3.heap.size < w9.heap.size := (Array.getElem?_eq_some_iff.1 YB9.out).1
    have z0 := cell_blk YW9.out 0; have z1 := cell_blk YW9.out 1; have q0 := cell_blk YR9.out 0; have q1 := cell_blk YR9.out 1; have kw : w6.heap.size < w9.heap.size := (Array.getElem?_eq_some_iff.1 YW9.out).1; have kq : w8.heap.size < w9.heap.size := (Array.getElem?_eq_some_iff.1 YR9.out).1
    have c2 := cell_blk Y19.out 0; have c3 := cell_blk Y19.out 1; have c4 := cell_blk Y29.out 0; have c5 := cell_blk Y29.out 1; have f2 := frozen_blk Y19.out 0; have f3 := frozen_blk Y19.out 1; have f4 := frozen_blk Y29.out 0; have f5 := frozen_blk Y29.out 1; have k1 : w.heap.size + 1 < w9.heap.size := (Array.getElem?_eq_some_iff.1 Y19.out).1; have k2 : w.heap.size + 1 + 1 < w9.heap.size := (Array.getElem?_eq_some_iff.1 Y29.out).1
    clear p0 p1 a0 a1 b0 b1 k0 ka kb z0 z1 q0 q1 kw kq c2 c3 c4 c5 f2 f3 f4 f5 k1 k2
    refine (VA.out _ OA9.out).mono ?_; rintro e w10 ⟨rfl, bw10⟩; rw [V1.out]
    have Y010 := Lib.hid ((bw10.block _ (Array.getElem?_eq_some_iff.1 Y09.out).1).trans Y09.out)
    have Y110 := Lib.hid ((bw10.block _ (Array.getElem?_eq_some_iff.1 Y19.out).1).trans Y19.out)
    have Y210 := Lib.hid ((bw10.block _ (Array.getElem?_eq_some_iff.1 Y29.out).1).trans Y29.out)
    have YA10 := Lib.hid ((bw10.block _ (Array.getElem?_eq_some_iff.1 YA9.out).1).trans YA9.out)
    have YB10 := Lib.hid ((bw10.block _ (Array.getElem?_eq_some_iff.1 YB9.out).1).trans YB9.out)
    have YW10 := Lib.hid ((bw10.block _ (Array.getElem?_eq_some_iff.1 YW9.out).1).trans YW9.out)
    have YR10 := Lib.hid ((bw10.block _ (Array.getElem?_eq_some_iff.1 YR9.out).1).trans YR9.out)
    have OA10 := Lib.hid (own_keep bw10 OA9.out)
    have OB10 := Lib.hid (own_keep bw10 OB9.out)
    have OW10 := Lib.hid (own_keep bw10 OW9.out)
    have OR10 := Lib.hid (own_keep bw10 OR9.out)
    have BW10 := Lib.hid (Below.trans_size BW9.out bw10)
    clear bw10
    have p0 := cell_blk Y010.out 0; have p1 := cell_blk Y010.out 1; have a0 := cell_blk YA10.out 0; have a1 := cell_blk YA10.out 1; have b0 := cell_blk YB10.out 0; have b1 := cell_blk YB10.out 1
    have k0 : w.heap.size < w10.heap.size := (Array.getElem?_eq_some_iff.1 Y010.out).1; have ka : w2.heap.size < w10.heap.size := (Array.getElem?_eq_some_iff.1 YA10.out).1; have kb : w3.heap.size < w10.heap.size := (Array.getElem?_eq_some_iff.1 YB10.out).1
    have z0 := cell_blk YW10.out 0; have z1 := cell_blk YW10.out 1; have q0 := cell_blk YR10.out 0; have q1 := cell_blk YR10.out 1; have kw : w6.heap.size < w10.heap.size := (Array.getElem?_eq_some_iff.1 YW10.out).1; have kq : w8.heap.size < w10.heap.size := (Array.getElem?_eq_some_iff.1 YR10.out).1
    have c2 := cell_blk Y110.out 0; have c3 := cell_blk Y110.out 1; have c4 := cell_blk Y210.out 0; have c5 := cell_blk Y210.out 1; have f2 := frozen_blk Y110.out 0; have f3 := frozen_blk Y110.out 1; have f4 := frozen_blk Y210.out 0; have f5 := frozen_blk Y210.out 1; have k1 : w.heap.size + 1 < w10.heap.size := (Array.getElem?_eq_some_iff.1 Y110.out).1; have k2 : w.heap.size + 1 + 1 < w10.heap.size := (Array.getElem?_eq_some_iff.1 Y210.out).1
    go_wp2_with fail
    clear p0 p1 a0 a1 b0 b1 k0 ka kb z0 z1 q0 q1 kw kq c2 c3 c4 c5 f2 f3 f4 f5 k1 k2
    refine (VB.out _ OB10.out).mono ?_; rintro e w11 ⟨rfl, bw11⟩; rw [V2.out]
    have Y011 := Lib.hid ((bw11.block _ (Array.getElem?_eq_some_iff.1 Y010.out).1).trans Y010.out)
    have Y111 := Lib.hid ((bw11.block _ (Array.getElem?_eq_some_iff.1 Y110.out).1).trans Y110.out)
    have Y211 := Lib.hid ((bw11.block _ (Array.getElem?_eq_some_iff.1 Y210.out).1).trans Y210.out)
    have YA11 := Lib.hid ((bw11.block _ (Array.getElem?_eq_some_iff.1 YA10.out).1).trans YA10.out)
    have YB11 := Lib.hid ((bw11.block _ (Array.getElem?_eq_some_iff.1 YB10.out).1).trans YB10.out)
    have YW11 := Lib.hid ((bw11.block _ (Array.getElem?_eq_some_iff.1 YW10.out).1).trans YW10.out)
    have YR11 := Lib.hid ((bw11.block _ (Array.getElem?_eq_some_iff.1 YR10.out).1).trans YR10.out)
    have OA11 := Lib.hid (own_keep bw11 OA10.out)
    have OB11 := Lib.hid (own_keep bw11 OB10.out)
    have OW11 := Lib.hid (own_keep bw11 OW10.out)
    have OR11 := Lib.hid (own_keep bw11 OR10.out)
    have BW11 := Lib.hid (Below.trans_size BW10.out bw11)
    clear bw11
    have p0 := cell_blk Y011.out 0; have p1 := cell_blk Y011.out 1; have a0 := cell_blk YA11.out 0; have a1 := cell_blk YA11.out 1; have b0 := cell_blk YB11.out 0; have b1 := cell_blk YB11.out 1
    have k0 : w.heap.size < w11.heap.size := (Array.getElem?_eq_some_iff.1 Y011.out).1; have ka : w2.heap.size < w11.heap.size := (Array.getElem?_eq_some_iff.1 YA11.out).1; have kb : w3.heap.size < w11.heap.size := (Array.getElem?_eq_some_iff.1 YB11.out).1
    have z0 := cell_blk YW11.out 0; have z1 := cell_blk YW11.out 1; have q0 := cell_blk YR11.out 0; have q1 := cell_blk YR11.out 1; have kw : w6.heap.size < w11.heap.size := (Array.getElem?_eq_some_iff.1 YW11.out).1; have kq : w8.heap.size < w11.heap.size := (Array.getElem?_eq_some_iff.1 YR11.out).1
    have c2 := cell_blk Y111.out 0; have c3 := cell_blk Y111.out 1; have c4 := cell_blk Y211.out 0; have c5 := cell_blk Y211.out 1; have f2 := frozen_blk Y111.out 0; have f3 := frozen_blk Y111.out 1; have f4 := frozen_blk Y211.out 0; have f5 := frozen_blk Y211.out 1; have k1 : w.heap.size + 1 < w11.heap.size := (Array.getElem?_eq_some_iff.1 Y111.out).1; have k2 : w.heap.size + 1 + 1 < w11.heap.size := (Array.getElem?_eq_some_iff.1 Y211.out).1
    go_wp2_with fail
    refine bodyPost_ret (v := .tuple #[.agg #[.int .i64 0, .slice none 0 0], .agg #[.int .i64 0, .slice none 0 0], .int .i64 5]) (by simp [results, Try.results29, go_sem, *]) rfl ?_
    rw [HWB.out, HWX.out, HWY.out, HWC.out]
    exact ⟨_, _, rfl, own_nil, own_nil, apart_nn _ _ rfl, (((BW11.out.setCell (by simp) _).setCell (by simp) _).setCell (by simp; omega) _).setCell (by simp; omega) _⟩
  have V2 := Lib.hid hv2; clear hv2
  cases hv3 : validR b (faL b (wX b 3 lv n) (wY 3 lv n) 3 lv n)
  · have V3 := Lib.hid hv3
    have HWC := Lib.hid (show wiC b n 3 lv = 5 from (by rw [HC0.out, if_neg (fun h => by have := h.2; omega), HOK.out, V1.out, V2.out, V3.out]; rfl))
    have HWB := Lib.hid (show wiB b n 3 lv = 0 from if_neg (by rw [HWC.out]; omega))
    have HWX := Lib.hid (show wiX b n 3 lv = [] from if_neg (by rw [HWC.out]; omega))
    have HWY := Lib.hid (show wiY b n 3 lv = [] from if_neg (by rw [HWC.out]; omega))
    clear hv3
    have p0 := cell_blk Y09.out 0; have p1 := cell_blk Y09.out 1; have a0 := cell_blk YA9.out 0; have a1 := cell_blk YA9.out 1; have b0 := cell_blk YB9.out 0; have b1 := cell_blk YB9.out 1
    have k0 : w.heap.size < w9.heap.size := (Array.getElem?_eq_some_iff.1 Y09.out).1; have ka : w2.heap.size < w9.heap.size := (Array.getElem?_eq_some_iff.1 YA9.out).1; have kb : w3.heap.size < w9.heap.size := (Array.getElem?_eq_some_iff.1 YB9.out).1
    have z0 := cell_blk YW9.out 0; have z1 := cell_blk YW9.out 1; have q0 := cell_blk YR9.out 0; have q1 := cell_blk YR9.out 1; have kw : w6.heap.size < w9.heap.size := (Array.getElem?_eq_some_iff.1 YW9.out).1; have kq : w8.heap.size < w9.heap.size := (Array.getElem?_eq_some_iff.1 YR9.out).1
    have c2 := cell_blk Y19.out 0; have c3 := cell_blk Y19.out 1; have c4 := cell_blk Y29.out 0; have c5 := cell_blk Y29.out 1; have f2 := frozen_blk Y19.out 0; have f3 := frozen_blk Y19.out 1; have f4 := frozen_blk Y29.out 0; have f5 := frozen_blk Y29.out 1; have k1 : w.heap.size + 1 < w9.heap.size := (Array.getElem?_eq_some_iff.1 Y19.out).1; have k2 : w.heap.size + 1 + 1 < w9.heap.size := (Array.getElem?_eq_some_iff.1 Y29.out).1
    clear p0 p1 a0 a1 b0 b1 k0 ka kb z0 z1 q0 q1 kw kq c2 c3 c4 c5 f2 f3 f4 f5 k1 k2
    refine (VA.out _ OA9.out).mono ?_; rintro e w10 ⟨rfl, bw10⟩; rw [V1.out]
    have Y010 := Lib.hid ((bw10.block _ (Array.getElem?_eq_some_iff.1 Y09.out).1).trans Y09.out)
    have Y110 := Lib.hid ((bw10.block _ (Array.getElem?_eq_some_iff.1 Y19.out).1).trans Y19.out)
    have Y210 := Lib.hid ((bw10.block _ (Array.getElem?_eq_some_iff.1 Y29.out).1).trans Y29.out)
    have YA10 := Lib.hid ((bw10.block _ (Array.getElem?_eq_some_iff.1 YA9.out).1).trans YA9.out)
    have YB10 := Lib.hid ((bw10.block _ (Array.getElem?_eq_some_iff.1 YB9.out).1).trans YB9.out)
    have YW10 := Lib.hid ((bw10.block _ (Array.getElem?_eq_some_iff.1 YW9.out).1).trans YW9.out)
    have YR10 := Lib.hid ((bw10.block _ (Array.getElem?_eq_some_iff.1 YR9.out).1).trans YR9.out)
    have OA10 := Lib.hid (own_keep bw10 OA9.out)
    have OB10 := Lib.hid (own_keep bw10 OB9.out)
    have OW10 := Lib.hid (own_keep bw10 OW9.out)
    have OR10 := Lib.hid (own_keep bw10 OR9.out)
    have BW10 := Lib.hid (Below.trans_size BW9.out bw10)
    clear bw10
    have p0 := cell_blk Y010.out 0; have p1 := cell_blk Y010.out 1; have a0 := cell_blk YA10.out 0; have a1 := cell_blk YA10.out 1; have b0 := cell_blk YB10.out 0; have b1 := cell_blk YB10.out 1
    have k0 : w.heap.size < w10.heap.size := (Array.getElem?_eq_some_iff.1 Y010.out).1; have ka : w2.heap.size < w10.heap.size := (Array.getElem?_eq_some_iff.1 YA10.out).1; have kb : w3.heap.size < w10.heap.size := (Array.getElem?_eq_some_iff.1 YB10.out).1
    have z0 := cell_blk YW10.out 0; have z1 := cell_blk YW10.out 1; have q0 := cell_blk YR10.out 0; have q1 := cell_blk YR10.out 1; have kw : w6.heap.size < w10.heap.size := (Array.getElem?_eq_some_iff.1 YW10.out).1; have kq : w8.heap.size < w10.heap.size := (Array.getElem?_eq_some_iff.1 YR10.out).1
    have c2 := cell_blk Y110.out 0; have c3 := cell_blk Y110.out 1; have c4 := cell_blk Y210.out 0; have c5 := cell_blk Y210.out 1; have f2 := frozen_blk Y110.out 0; have f3 := frozen_blk Y110.out 1; have f4 := frozen_blk Y210.out 0; have f5 := frozen_blk Y210.out 1; have k1 : w.heap.size + 1 < w10.heap.size := (Array.getElem?_eq_some_iff.1 Y110.out).1; have k2 : w.heap.size + 1 + 1 < w10.heap.size := (Array.getElem?_eq_some_iff.1 Y210.out).1
    go_wp2_with fail
    clear p0 p1 a0 a1 b0 b1 k0 ka kb z0 z1 q0 q1 kw kq c2 c3 c4 c5 f2 f3 f4 f5 k1 k2
    refine (VB.out _ OB10.out).mono ?_; rintro e w11 ⟨rfl, bw11⟩; rw [V2.out]
    have Y011 := Lib.hid ((bw11.block _ (Array.getElem?_eq_some_iff.1 Y010.out).1).trans Y010.out)
    have Y111 := Lib.hid ((bw11.block _ (Array.getElem?_eq_some_iff.1 Y110.out).1).trans Y110.out)
    have Y211 := Lib.hid ((bw11.block _ (Array.getElem?_eq_some_iff.1 Y210.out).1).trans Y210.out)
    have YA11 := Lib.hid ((bw11.block _ (Array.getElem?_eq_some_iff.1 YA10.out).1).trans YA10.out)
    have YB11 := Lib.hid ((bw11.block _ (Array.getElem?_eq_some_iff.1 YB10.out).1).trans YB10.out)
    have YW11 := Lib.hid ((bw11.block _ (Array.getElem?_eq_some_iff.1 YW10.out).1).trans YW10.out)
    have YR11 := Lib.hid ((bw11.block _ (Array.getElem?_eq_some_iff.1 YR10.out).1).trans YR10.out)
    have OA11 := Lib.hid (own_keep bw11 OA10.out)
    have OB11 := Lib.hid (own_keep bw11 OB10.out)
    have OW11 := Lib.hid (own_keep bw11 OW10.out)
    have OR11 := Lib.hid (own_keep bw11 OR10.out)
    have BW11 := Lib.hid (Below.trans_size BW10.out bw11)
    clear bw11
    have p0 := cell_blk Y011.out 0; have p1 := cell_blk Y011.out 1; have a0 := cell_blk YA11.out 0; have a1 := cell_blk YA11.out 1; have b0 := cell_blk YB11.out 0; have b1 := cell_blk YB11.out 1
    have k0 : w.heap.size < w11.heap.size := (Array.getElem?_eq_some_iff.1 Y011.out).1; have ka : w2.heap.size < w11.heap.size := (Array.getElem?_eq_some_iff.1 YA11.out).1; have kb : w3.heap.size < w11.heap.size := (Array.getElem?_eq_some_iff.1 YB11.out).1
    have z0 := cell_blk YW11.out 0; have z1 := cell_blk YW11.out 1; have q0 := cell_blk YR11.out 0; have q1 := cell_blk YR11.out 1; have kw : w6.heap.size < w11.heap.size := (Array.getElem?_eq_some_iff.1 YW11.out).1; have kq : w8.heap.size < w11.heap.size := (Array.getElem?_eq_some_iff.1 YR11.out).1
    have c2 := cell_blk Y111.out 0; have c3 := cell_blk Y111.out 1; have c4 := cell_blk Y211.out 0; have c5 := cell_blk Y211.out 1; have f2 := frozen_blk Y111.out 0; have f3 := frozen_blk Y111.out 1; have f4 := frozen_blk Y211.out 0; have f5 := frozen_blk Y211.out 1; have k1 : w.heap.size + 1 < w11.heap.size := (Array.getElem?_eq_some_iff.1 Y111.out).1; have k2 : w.heap.size + 1 + 1 < w11.heap.size := (Array.getElem?_eq_some_iff.1 Y211.out).1
    go_wp2_with fail
    clear p0 p1 a0 a1 b0 b1 k0 ka kb z0 z1 q0 q1 kw kq c2 c3 c4 c5 f2 f3 f4 f5 k1 k2
    refine (VW.out _ _ _ OW11.out).mono ?_; rintro e w12 ⟨rfl, bw12⟩; rw [V3.out]
    have Y012 := Lib.hid ((bw12.block _ (Array.getElem?_eq_some_iff.1 Y011.out).1).trans Y011.out)
    have Y112 := Lib.hid ((bw12.block _ (Array.getElem?_eq_some_iff.1 Y111.out).1).trans Y111.out)
    have Y212 := Lib.hid ((bw12.block _ (Array.getElem?_eq_some_iff.1 Y211.out).1).trans Y211.out)
    have YA12 := Lib.hid ((bw12.block _ (Array.getElem?_eq_some_iff.1 YA11.out).1).trans YA11.out)
    have YB12 := Lib.hid ((bw12.block _ (Array.getElem?_eq_some_iff.1 YB11.out).1).trans YB11.out)
    have YW12 := Lib.hid ((bw12.block _ (Array.getElem?_eq_some_iff.1 YW11.out).1).trans YW11.out)
    have YR12 := Lib.hid ((bw12.block _ (Array.getElem?_eq_some_iff.1 YR11.out).1).trans YR11.out)
    have OA12 := Lib.hid (own_keep bw12 OA11.out)
    have OB12 := Lib.hid (own_keep bw12 OB11.out)
    have OW12 := Lib.hid (own_keep bw12 OW11.out)
    have OR12 := Lib.hid (own_keep bw12 OR11.out)
    have BW12 := Lib.hid (Below.trans_size BW11.out bw12)
    clear bw12
    have p0 := cell_blk Y012.out 0; have p1 := cell_blk Y012.out 1; have a0 := cell_blk YA12.out 0; have a1 := cell_blk YA12.out 1; have b0 := cell_blk YB12.out 0; have b1 := cell_blk YB12.out 1
    have k0 : w.heap.size < w12.heap.size := (Array.getElem?_eq_some_iff.1 Y012.out).1; have ka : w2.heap.size < w12.heap.size := (Array.getElem?_eq_some_iff.1 YA12.out).1; have kb : w3.heap.size < w12.heap.size := (Array.getElem?_eq_some_iff.1 YB12.out).1
    have z0 := cell_blk YW12.out 0; have z1 := cell_blk YW12.out 1; have q0 := cell_blk YR12.out 0; have q1 := cell_blk YR12.out 1; have kw : w6.heap.size < w12.heap.size := (Array.getElem?_eq_some_iff.1 YW12.out).1; have kq : w8.heap.size < w12.heap.size := (Array.getElem?_eq_some_iff.1 YR12.out).1
    have c2 := cell_blk Y112.out 0; have c3 := cell_blk Y112.out 1; have c4 := cell_blk Y212.out 0; have c5 := cell_blk Y212.out 1; have f2 := frozen_blk Y112.out 0; have f3 := frozen_blk Y112.out 1; have f4 := frozen_blk Y212.out 0; have f5 := frozen_blk Y212.out 1; have k1 : w.heap.size + 1 < w12.heap.size := (Array.getElem?_eq_some_iff.1 Y112.out).1; have k2 : w.heap.size + 1 + 1 < w12.heap.size := (Array.getElem?_eq_some_iff.1 Y212.out).1
    go_wp2_with fail
    refine bodyPost_ret (v := .tuple #[.agg #[.int .i64 0, .slice none 0 0], .agg #[.int .i64 0, .slice none 0 0], .int .i64 5]) (by simp [results, Try.results29, go_sem, *]) rfl ?_
    rw [HWB.out, HWX.out, HWY.out, HWC.out]
    exact ⟨_, _, rfl, own_nil, own_nil, apart_nn _ _ rfl, (((BW12.out.setCell (by simp) _).setCell (by simp) _).setCell (by simp; omega) _).setCell (by simp; omega) _⟩
  have V3 := Lib.hid hv3; clear hv3
  cases hv4 : validR b (faL b (wX b 3 lv n) (wY 3 lv n) 0 0 n)
  · have V4 := Lib.hid hv4
    have HWC := Lib.hid (show wiC b n 3 lv = 5 from (by rw [HC0.out, if_neg (fun h => by have := h.2; omega), HOK.out, V1.out, V2.out, V3.out, V4.out]; rfl))
    have HWB := Lib.hid (show wiB b n 3 lv = 0 from if_neg (by rw [HWC.out]; omega))
    have HWX := Lib.hid (show wiX b n 3 lv = [] from if_neg (by rw [HWC.out]; omega))
    have HWY := Lib.hid (show wiY b n 3 lv = [] from if_neg (by rw [HWC.out]; omega))
    clear hv4
    have p0 := cell_blk Y09.out 0; have p1 := cell_blk Y09.out 1; have a0 := cell_blk YA9.out 0; have a1 := cell_blk YA9.out 1; have b0 := cell_blk YB9.out 0; have b1 := cell_blk YB9.out 1
    have k0 : w.heap.size < w9.heap.size := (Array.getElem?_eq_some_iff.1 Y09.out).1; have ka : w2.heap.size < w9.heap.size := (Array.getElem?_eq_some_iff.1 YA9.out).1; have kb : w3.heap.size < w9.heap.size := (Array.getElem?_eq_some_iff.1 YB9.out).1
    have z0 := cell_blk YW9.out 0; have z1 := cell_blk YW9.out 1; have q0 := cell_blk YR9.out 0; have q1 := cell_blk YR9.out 1; have kw : w6.heap.size < w9.heap.size := (Array.getElem?_eq_some_iff.1 YW9.out).1; have kq : w8.heap.size < w9.heap.size := (Array.getElem?_eq_some_iff.1 YR9.out).1
    have c2 := cell_blk Y19.out 0; have c3 := cell_blk Y19.out 1; have c4 := cell_blk Y29.out 0; have c5 := cell_blk Y29.out 1; have f2 := frozen_blk Y19.out 0; have f3 := frozen_blk Y19.out 1; have f4 := frozen_blk Y29.out 0; have f5 := frozen_blk Y29.out 1; have k1 : w.heap.size + 1 < w9.heap.size := (Array.getElem?_eq_some_iff.1 Y19.out).1; have k2 : w.heap.size + 1 + 1 < w9.heap.size := (Array.getElem?_eq_some_iff.1 Y29.out).1
    clear p0 p1 a0 a1 b0 b1 k0 ka kb z0 z1 q0 q1 kw kq c2 c3 c4 c5 f2 f3 f4 f5 k1 k2
    refine (VA.out _ OA9.out).mono ?_; rintro e w10 ⟨rfl, bw10⟩; rw [V1.out]
    have Y010 := Lib.hid ((bw10.block _ (Array.getElem?_eq_some_iff.1 Y09.out).1).trans Y09.out)
    have Y110 := Lib.hid ((bw10.block _ (Array.getElem?_eq_some_iff.1 Y19.out).1).trans Y19.out)
    have Y210 := Lib.hid ((bw10.block _ (Array.getElem?_eq_some_iff.1 Y29.out).1).trans Y29.out)
    have YA10 := Lib.hid ((bw10.block _ (Array.getElem?_eq_some_iff.1 YA9.out).1).trans YA9.out)
    have YB10 := Lib.hid ((bw10.block _ (Array.getElem?_eq_some_iff.1 YB9.out).1).trans YB9.out)
    have YW10 := Lib.hid ((bw10.block _ (Array.getElem?_eq_some_iff.1 YW9.out).1).trans YW9.out)
    have YR10 := Lib.hid ((bw10.block _ (Array.getElem?_eq_some_iff.1 YR9.out).1).trans YR9.out)
    have OA10 := Lib.hid (own_keep bw10 OA9.out)
    have OB10 := Lib.hid (own_keep bw10 OB9.out)
    have OW10 := Lib.hid (own_keep bw10 OW9.out)
    have OR10 := Lib.hid (own_keep bw10 OR9.out)
    have BW10 := Lib.hid (Below.trans_size BW9.out bw10)
    clear bw10
    have p0 := cell_blk Y010.out 0; have p1 := cell_blk Y010.out 1; have a0 := cell_blk YA10.out 0; have a1 := cell_blk YA10.out 1; have b0 := cell_blk YB10.out 0; have b1 := cell_blk YB10.out 1
    have k0 : w.heap.size < w10.heap.size := (Array.getElem?_eq_some_iff.1 Y010.out).1; have ka : w2.heap.size < w10.heap.size := (Array.getElem?_eq_some_iff.1 YA10.out).1; have kb : w3.heap.size < w10.heap.size := (Array.getElem?_eq_some_iff.1 YB10.out).1
    have z0 := cell_blk YW10.out 0; have z1 := cell_blk YW10.out 1; have q0 := cell_blk YR10.out 0; have q1 := cell_blk YR10.out 1; have kw : w6.heap.size < w10.heap.size := (Array.getElem?_eq_some_iff.1 YW10.out).1; have kq : w8.heap.size < w10.heap.size := (Array.getElem?_eq_some_iff.1 YR10.out).1
    have c2 := cell_blk Y110.out 0; have c3 := cell_blk Y110.out 1; have c4 := cell_blk Y210.out 0; have c5 := cell_blk Y210.out 1; have f2 := frozen_blk Y110.out 0; have f3 := frozen_blk Y110.out 1; have f4 := frozen_blk Y210.out 0; have f5 := frozen_blk Y210.out 1; have k1 : w.heap.size + 1 < w10.heap.size := (Array.getElem?_eq_some_iff.1 Y110.out).1; have k2 : w.heap.size + 1 + 1 < w10.heap.size := (Array.getElem?_eq_some_iff.1 Y210.out).1
    go_wp2_with fail
    clear p0 p1 a0 a1 b0 b1 k0 ka kb z0 z1 q0 q1 kw kq c2 c3 c4 c5 f2 f3 f4 f5 k1 k2
    refine (VB.out _ OB10.out).mono ?_; rintro e w11 ⟨rfl, bw11⟩; rw [V2.out]
    have Y011 := Lib.hid ((bw11.block _ (Array.getElem?_eq_some_iff.1 Y010.out).1).trans Y010.out)
    have Y111 := Lib.hid ((bw11.block _ (Array.getElem?_eq_some_iff.1 Y110.out).1).trans Y110.out)
    have Y211 := Lib.hid ((bw11.block _ (Array.getElem?_eq_some_iff.1 Y210.out).1).trans Y210.out)
    have YA11 := Lib.hid ((bw11.block _ (Array.getElem?_eq_some_iff.1 YA10.out).1).trans YA10.out)
    have YB11 := Lib.hid ((bw11.block _ (Array.getElem?_eq_some_iff.1 YB10.out).1).trans YB10.out)
    have YW11 := Lib.hid ((bw11.block _ (Array.getElem?_eq_some_iff.1 YW10.out).1).trans YW10.out)
    have YR11 := Lib.hid ((bw11.block _ (Array.getElem?_eq_some_iff.1 YR10.out).1).trans YR10.out)
    have OA11 := Lib.hid (own_keep bw11 OA10.out)
    have OB11 := Lib.hid (own_keep bw11 OB10.out)
    have OW11 := Lib.hid (own_keep bw11 OW10.out)
    have OR11 := Lib.hid (own_keep bw11 OR10.out)
    have BW11 := Lib.hid (Below.trans_size BW10.out bw11)
    clear bw11
    have p0 := cell_blk Y011.out 0; have p1 := cell_blk Y011.out 1; have a0 := cell_blk YA11.out 0; have a1 := cell_blk YA11.out 1; have b0 := cell_blk YB11.out 0; have b1 := cell_blk YB11.out 1
    have k0 : w.heap.size < w11.heap.size := (Array.getElem?_eq_some_iff.1 Y011.out).1; have ka : w2.heap.size < w11.heap.size := (Array.getElem?_eq_some_iff.1 YA11.out).1; have kb : w3.heap.size < w11.heap.size := (Array.getElem?_eq_some_iff.1 YB11.out).1
    have z0 := cell_blk YW11.out 0; have z1 := cell_blk YW11.out 1; have q0 := cell_blk YR11.out 0; have q1 := cell_blk YR11.out 1; have kw : w6.heap.size < w11.heap.size := (Array.getElem?_eq_some_iff.1 YW11.out).1; have kq : w8.heap.size < w11.heap.size := (Array.getElem?_eq_some_iff.1 YR11.out).1
    have c2 := cell_blk Y111.out 0; have c3 := cell_blk Y111.out 1; have c4 := cell_blk Y211.out 0; have c5 := cell_blk Y211.out 1; have f2 := frozen_blk Y111.out 0; have f3 := frozen_blk Y111.out 1; have f4 := frozen_blk Y211.out 0; have f5 := frozen_blk Y211.out 1; have k1 : w.heap.size + 1 < w11.heap.size := (Array.getElem?_eq_some_iff.1 Y111.out).1; have k2 : w.heap.size + 1 + 1 < w11.heap.size := (Array.getElem?_eq_some_iff.1 Y211.out).1
    go_wp2_with fail
    clear p0 p1 a0 a1 b0 b1 k0 ka kb z0 z1 q0 q1 kw kq c2 c3 c4 c5 f2 f3 f4 f5 k1 k2
    refine (VW.out _ _ _ OW11.out).mono ?_; rintro e w12 ⟨rfl, bw12⟩; rw [V3.out]
    have Y012 := Lib.hid ((bw12.block _ (Array.getElem?_eq_some_iff.1 Y011.out).1).trans Y011.out)
    have Y112 := Lib.hid ((bw12.block _ (Array.getElem?_eq_some_iff.1 Y111.out).1).trans Y111.out)
    have Y212 := Lib.hid ((bw12.block _ (Array.getElem?_eq_some_iff.1 Y211.out).1).trans Y211.out)
    have YA12 := Lib.hid ((bw12.block _ (Array.getElem?_eq_some_iff.1 YA11.out).1).trans YA11.out)
    have YB12 := Lib.hid ((bw12.block _ (Array.getElem?_eq_some_iff.1 YB11.out).1).trans YB11.out)
    have YW12 := Lib.hid ((bw12.block _ (Array.getElem?_eq_some_iff.1 YW11.out).1).trans YW11.out)
    have YR12 := Lib.hid ((bw12.block _ (Array.getElem?_eq_some_iff.1 YR11.out).1).trans YR11.out)
    have OA12 := Lib.hid (own_keep bw12 OA11.out)
    have OB12 := Lib.hid (own_keep bw12 OB11.out)
    have OW12 := Lib.hid (own_keep bw12 OW11.out)
    have OR12 := Lib.hid (own_keep bw12 OR11.out)
    have BW12 := Lib.hid (Below.trans_size BW11.out bw12)
    clear bw12
    have p0 := cell_blk Y012.out 0; have p1 := cell_blk Y012.out 1; have a0 := cell_blk YA12.out 0; have a1 := cell_blk YA12.out 1; have b0 := cell_blk YB12.out 0; have b1 := cell_blk YB12.out 1
    have k0 : w.heap.size < w12.heap.size := (Array.getElem?_eq_some_iff.1 Y012.out).1; have ka : w2.heap.size < w12.heap.size := (Array.getElem?_eq_some_iff.1 YA12.out).1; have kb : w3.heap.size < w12.heap.size := (Array.getElem?_eq_some_iff.1 YB12.out).1
    have z0 := cell_blk YW12.out 0; have z1 := cell_blk YW12.out 1; have q0 := cell_blk YR12.out 0; have q1 := cell_blk YR12.out 1; have kw : w6.heap.size < w12.heap.size := (Array.getElem?_eq_some_iff.1 YW12.out).1; have kq : w8.heap.size < w12.heap.size := (Array.getElem?_eq_some_iff.1 YR12.out).1
    have c2 := cell_blk Y112.out 0; have c3 := cell_blk Y112.out 1; have c4 := cell_blk Y212.out 0; have c5 := cell_blk Y212.out 1; have f2 := frozen_blk Y112.out 0; have f3 := frozen_blk Y112.out 1; have f4 := frozen_blk Y212.out 0; have f5 := frozen_blk Y212.out 1; have k1 : w.heap.size + 1 < w12.heap.size := (Array.getElem?_eq_some_iff.1 Y112.out).1; have k2 : w.heap.size + 1 + 1 < w12.heap.size := (Array.getElem?_eq_some_iff.1 Y212.out).1
    go_wp2_with fail
    clear p0 p1 a0 a1 b0 b1 k0 ka kb z0 z1 q0 q1 kw kq c2 c3 c4 c5 f2 f3 f4 f5 k1 k2
    refine (VR.out _ _ _ OR12.out).mono ?_; rintro e w13 ⟨rfl, bw13⟩; rw [V4.out]
    have Y013 := Lib.hid ((bw13.block _ (Array.getElem?_eq_some_iff.1 Y012.out).1).trans Y012.out)
    have Y113 := Lib.hid ((bw13.block _ (Array.getElem?_eq_some_iff.1 Y112.out).1).trans Y112.out)
    have Y213 := Lib.hid ((bw13.block _ (Array.getElem?_eq_some_iff.1 Y212.out).1).trans Y212.out)
    have YA13 := Lib.hid ((bw13.block _ (Array.getElem?_eq_some_iff.1 YA12.out).1).trans YA12.out)
    have YB13 := Lib.hid ((bw13.block _ (Array.getElem?_eq_some_iff.1 YB12.out).1).trans YB12.out)
    have YW13 := Lib.hid ((bw13.block _ (Array.getElem?_eq_some_iff.1 YW12.out).1).trans YW12.out)
    have YR13 := Lib.hid ((bw13.block _ (Array.getElem?_eq_some_iff.1 YR12.out).1).trans YR12.out)
    have OA13 := Lib.hid (own_keep bw13 OA12.out)
    have OB13 := Lib.hid (own_keep bw13 OB12.out)
    have OW13 := Lib.hid (own_keep bw13 OW12.out)
    have OR13 := Lib.hid (own_keep bw13 OR12.out)
    have BW13 := Lib.hid (Below.trans_size BW12.out bw13)
    clear bw13
    have p0 := cell_blk Y013.out 0; have p1 := cell_blk Y013.out 1; have a0 := cell_blk YA13.out 0; have a1 := cell_blk YA13.out 1; have b0 := cell_blk YB13.out 0; have b1 := cell_blk YB13.out 1
    have k0 : w.heap.size < w13.heap.size := (Array.getElem?_eq_some_iff.1 Y013.out).1; have ka : w2.heap.size < w13.heap.size := (Array.getElem?_eq_some_iff.1 YA13.out).1; have kb : w3.heap.size < w13.heap.size := (Array.getElem?_eq_some_iff.1 YB13.out).1
    have z0 := cell_blk YW13.out 0; have z1 := cell_blk YW13.out 1; have q0 := cell_blk YR13.out 0; have q1 := cell_blk YR13.out 1; have kw : w6.heap.size < w13.heap.size := (Array.getElem?_eq_some_iff.1 YW13.out).1; have kq : w8.heap.size < w13.heap.size := (Array.getElem?_eq_some_iff.1 YR13.out).1
    have c2 := cell_blk Y113.out 0; have c3 := cell_blk Y113.out 1; have c4 := cell_blk Y213.out 0; have c5 := cell_blk Y213.out 1; have f2 := frozen_blk Y113.out 0; have f3 := frozen_blk Y113.out 1; have f4 := frozen_blk Y213.out 0; have f5 := frozen_blk Y213.out 1; have k1 : w.heap.size + 1 < w13.heap.size := (Array.getElem?_eq_some_iff.1 Y113.out).1; have k2 : w.heap.size + 1 + 1 < w13.heap.size := (Array.getElem?_eq_some_iff.1 Y213.out).1
    go_wp2_with fail
    refine bodyPost_ret (v := .tuple #[.agg #[.int .i64 0, .slice none 0 0], .agg #[.int .i64 0, .slice none 0 0], .int .i64 5]) (by simp [results, Try.results29, go_sem, *]) rfl ?_
    rw [HWB.out, HWX.out, HWY.out, HWC.out]
    exact ⟨_, _, rfl, own_nil, own_nil, apart_nn _ _ rfl, (((BW13.out.setCell (by simp) _).setCell (by simp) _).setCell (by simp; omega) _).setCell (by simp; omega) _⟩
  have V4 := Lib.hid hv4; clear hv4
  have HWC := Lib.hid (show wiC b n 3 lv = 0 from (by rw [HC0.out, if_neg (fun h => by have := h.2; omega), HOK.out, V1.out, V2.out, V3.out, V4.out]; rfl))
  have HWB := Lib.hid (show wiB b n 3 lv = b from if_pos HWC.out)
  have HWX := Lib.hid (show wiX b n 3 lv = wX b 3 lv n from by unfold wiX; rw [if_pos HWC.out]; simp)
  have HWY := Lib.hid (show wiY b n 3 lv = wY 3 lv n from by unfold wiY; rw [if_pos HWC.out]; simp)
  refine (VA.out _ OA9.out).mono ?_; rintro e w10 ⟨rfl, bw10⟩; rw [V1.out]
  have Y010 := Lib.hid ((bw10.block _ (Array.getElem?_eq_some_iff.1 Y09.out).1).trans Y09.out)
  have Y110 := Lib.hid ((bw10.block _ (Array.getElem?_eq_some_iff.1 Y19.out).1).trans Y19.out)
  have Y210 := Lib.hid ((bw10.block _ (Array.getElem?_eq_some_iff.1 Y29.out).1).trans Y29.out)
  have YA10 := Lib.hid ((bw10.block _ (Array.getElem?_eq_some_iff.1 YA9.out).1).trans YA9.out)
  have YB10 := Lib.hid ((bw10.block _ (Array.getElem?_eq_some_iff.1 YB9.out).1).trans YB9.out)
  have YW10 := Lib.hid ((bw10.block _ (Array.getElem?_eq_some_iff.1 YW9.out).1).trans YW9.out)
  have YR10 := Lib.hid ((bw10.block _ (Array.getElem?_eq_some_iff.1 YR9.out).1).trans YR9.out)
  have OA10 := Lib.hid (own_keep bw10 OA9.out)
  have OB10 := Lib.hid (own_keep bw10 OB9.out)
  have OW10 := Lib.hid (own_keep bw10 OW9.out)
  have OR10 := Lib.hid (own_keep bw10 OR9.out)
  have BW10 := Lib.hid (Below.trans_size BW9.out bw10)
  clear bw10
  have p0 := cell_blk Y010.out 0; have p1 := cell_blk Y010.out 1; have a0 := cell_blk YA10.out 0; have a1 := cell_blk YA10.out 1; have b0 := cell_blk YB10.out 0; have b1 := cell_blk YB10.out 1
  have k0 : w.heap.size < w10.heap.size := (Array.getElem?_eq_some_iff.1 Y010.out).1; have ka : w2.heap.size < w10.heap.size := (Array.getElem?_eq_some_iff.1 YA10.out).1; have kb : w3.heap.size < w10.heap.size := (Array.getElem?_eq_some_iff.1 YB10.out).1
  have z0 := cell_blk YW10.out 0; have z1 := cell_blk YW10.out 1; have q0 := cell_blk YR10.out 0; have q1 := cell_blk YR10.out 1; have kw : w6.heap.size < w10.heap.size := (Array.getElem?_eq_some_iff.1 YW10.out).1; have kq : w8.heap.size < w10.heap.size := (Array.getElem?_eq_some_iff.1 YR10.out).1
  have c2 := cell_blk Y110.out 0; have c3 := cell_blk Y110.out 1; have c4 := cell_blk Y210.out 0; have c5 := cell_blk Y210.out 1; have f2 := frozen_blk Y110.out 0; have f3 := frozen_blk Y110.out 1; have f4 := frozen_blk Y210.out 0; have f5 := frozen_blk Y210.out 1; have k1 : w.heap.size + 1 < w10.heap.size := (Array.getElem?_eq_some_iff.1 Y110.out).1; have k2 : w.heap.size + 1 + 1 < w10.heap.size := (Array.getElem?_eq_some_iff.1 Y210.out).1
  go_wp2_with fail
  clear p0 p1 a0 a1 b0 b1 k0 ka kb z0 z1 q0 q1 kw kq c2 c3 c4 c5 f2 f3 f4 f5 k1 k2
  refine (VB.out _ OB10.out).mono ?_; rintro e w11 ⟨rfl, bw11⟩; rw [V2.out]
  have Y011 := Lib.hid ((bw11.block _ (Array.getElem?_eq_some_iff.1 Y010.out).1).trans Y010.out)
  have Y111 := Lib.hid ((bw11.block _ (Array.getElem?_eq_some_iff.1 Y110.out).1).trans Y110.out)
  have Y211 := Lib.hid ((bw11.block _ (Array.getElem?_eq_some_iff.1 Y210.out).1).trans Y210.out)
  have YA11 := Lib.hid ((bw11.block _ (Array.getElem?_eq_some_iff.1 YA10.out).1).trans YA10.out)
  have YB11 := Lib.hid ((bw11.block _ (Array.getElem?_eq_some_iff.1 YB10.out).1).trans YB10.out)
  have YW11 := Lib.hid ((bw11.block _ (Array.getElem?_eq_some_iff.1 YW10.out).1).trans YW10.out)
  have YR11 := Lib.hid ((bw11.block _ (Array.getElem?_eq_some_iff.1 YR10.out).1).trans YR10.out)
  have OA11 := Lib.hid (own_keep bw11 OA10.out)
  have OB11 := Lib.hid (own_keep bw11 OB10.out)
  have OW11 := Lib.hid (own_keep bw11 OW10.out)
  have OR11 := Lib.hid (own_keep bw11 OR10.out)
  have BW11 := Lib.hid (Below.trans_size BW10.out bw11)
  clear bw11
  have p0 := cell_blk Y011.out 0; have p1 := cell_blk Y011.out 1; have a0 := cell_blk YA11.out 0; have a1 := cell_blk YA11.out 1; have b0 := cell_blk YB11.out 0; have b1 := cell_blk YB11.out 1
  have k0 : w.heap.size < w11.heap.size := (Array.getElem?_eq_some_iff.1 Y011.out).1; have ka : w2.heap.size < w11.heap.size := (Array.getElem?_eq_some_iff.1 YA11.out).1; have kb : w3.heap.size < w11.heap.size := (Array.getElem?_eq_some_iff.1 YB11.out).1
  have z0 := cell_blk YW11.out 0; have z1 := cell_blk YW11.out 1; have q0 := cell_blk YR11.out 0; have q1 := cell_blk YR11.out 1; have kw : w6.heap.size < w11.heap.size := (Array.getElem?_eq_some_iff.1 YW11.out).1; have kq : w8.heap.size < w11.heap.size := (Array.getElem?_eq_some_iff.1 YR11.out).1
  have c2 := cell_blk Y111.out 0; have c3 := cell_blk Y111.out 1; have c4 := cell_blk Y211.out 0; have c5 := cell_blk Y211.out 1; have f2 := frozen_blk Y111.out 0; have f3 := frozen_blk Y111.out 1; have f4 := frozen_blk Y211.out 0; have f5 := frozen_blk Y211.out 1; have k1 : w.heap.size + 1 < w11.heap.size := (Array.getElem?_eq_some_iff.1 Y111.out).1; have k2 : w.heap.size + 1 + 1 < w11.heap.size := (Array.getElem?_eq_some_iff.1 Y211.out).1
  go_wp2_with fail
  clear p0 p1 a0 a1 b0 b1 k0 ka kb z0 z1 q0 q1 kw kq c2 c3 c4 c5 f2 f3 f4 f5 k1 k2
  refine (VW.out _ _ _ OW11.out).mono ?_; rintro e w12 ⟨rfl, bw12⟩; rw [V3.out]
  have Y012 := Lib.hid ((bw12.block _ (Array.getElem?_eq_some_iff.1 Y011.out).1).trans Y011.out)
  have Y112 := Lib.hid ((bw12.block _ (Array.getElem?_eq_some_iff.1 Y111.out).1).trans Y111.out)
  have Y212 := Lib.hid ((bw12.block _ (Array.getElem?_eq_some_iff.1 Y211.out).1).trans Y211.out)
  have YA12 := Lib.hid ((bw12.block _ (Array.getElem?_eq_some_iff.1 YA11.out).1).trans YA11.out)
  have YB12 := Lib.hid ((bw12.block _ (Array.getElem?_eq_some_iff.1 YB11.out).1).trans YB11.out)
  have YW12 := Lib.hid ((bw12.block _ (Array.getElem?_eq_some_iff.1 YW11.out).1).trans YW11.out)
  have YR12 := Lib.hid ((bw12.block _ (Array.getElem?_eq_some_iff.1 YR11.out).1).trans YR11.out)
  have OA12 := Lib.hid (own_keep bw12 OA11.out)
  have OB12 := Lib.hid (own_keep bw12 OB11.out)
  have OW12 := Lib.hid (own_keep bw12 OW11.out)
  have OR12 := Lib.hid (own_keep bw12 OR11.out)
  have BW12 := Lib.hid (Below.trans_size BW11.out bw12)
  clear bw12
  have p0 := cell_blk Y012.out 0; have p1 := cell_blk Y012.out 1; have a0 := cell_blk YA12.out 0; have a1 := cell_blk YA12.out 1; have b0 := cell_blk YB12.out 0; have b1 := cell_blk YB12.out 1
  have k0 : w.heap.size < w12.heap.size := (Array.getElem?_eq_some_iff.1 Y012.out).1; have ka : w2.heap.size < w12.heap.size := (Array.getElem?_eq_some_iff.1 YA12.out).1; have kb : w3.heap.size < w12.heap.size := (Array.getElem?_eq_some_iff.1 YB12.out).1
  have z0 := cell_blk YW12.out 0; have z1 := cell_blk YW12.out 1; have q0 := cell_blk YR12.out 0; have q1 := cell_blk YR12.out 1; have kw : w6.heap.size < w12.heap.size := (Array.getElem?_eq_some_iff.1 YW12.out).1; have kq : w8.heap.size < w12.heap.size := (Array.getElem?_eq_some_iff.1 YR12.out).1
  have c2 := cell_blk Y112.out 0; have c3 := cell_blk Y112.out 1; have c4 := cell_blk Y212.out 0; have c5 := cell_blk Y212.out 1; have f2 := frozen_blk Y112.out 0; have f3 := frozen_blk Y112.out 1; have f4 := frozen_blk Y212.out 0; have f5 := frozen_blk Y212.out 1; have k1 : w.heap.size + 1 < w12.heap.size := (Array.getElem?_eq_some_iff.1 Y112.out).1; have k2 : w.heap.size + 1 + 1 < w12.heap.size := (Array.getElem?_eq_some_iff.1 Y212.out).1
  go_wp2_with fail
  clear p0 p1 a0 a1 b0 b1 k0 ka kb z0 z1 q0 q1 kw kq c2 c3 c4 c5 f2 f3 f4 f5 k1 k2
  refine (VR.out _ _ _ OR12.out).mono ?_; rintro e w13 ⟨rfl, bw13⟩; rw [V4.out]
  have Y013 := Lib.hid ((bw13.block _ (Array.getElem?_eq_some_iff.1 Y012.out).1).trans Y012.out)
  have Y113 := Lib.hid ((bw13.block _ (Array.getElem?_eq_some_iff.1 Y112.out).1).trans Y112.out)
  have Y213 := Lib.hid ((bw13.block _ (Array.getElem?_eq_some_iff.1 Y212.out).1).trans Y212.out)
  have YA13 := Lib.hid ((bw13.block _ (Array.getElem?_eq_some_iff.1 YA12.out).1).trans YA12.out)
  have YB13 := Lib.hid ((bw13.block _ (Array.getElem?_eq_some_iff.1 YB12.out).1).trans YB12.out)
  have YW13 := Lib.hid ((bw13.block _ (Array.getElem?_eq_some_iff.1 YW12.out).1).trans YW12.out)
  have YR13 := Lib.hid ((bw13.block _ (Array.getElem?_eq_some_iff.1 YR12.out).1).trans YR12.out)
  have OA13 := Lib.hid (own_keep bw13 OA12.out)
  have OB13 := Lib.hid (own_keep bw13 OB12.out)
  have OW13 := Lib.hid (own_keep bw13 OW12.out)
  have OR13 := Lib.hid (own_keep bw13 OR12.out)
  have BW13 := Lib.hid (Below.trans_size BW12.out bw13)
  clear bw13
  have p0 := cell_blk Y013.out 0; have p1 := cell_blk Y013.out 1; have a0 := cell_blk YA13.out 0; have a1 := cell_blk YA13.out 1; have b0 := cell_blk YB13.out 0; have b1 := cell_blk YB13.out 1
  have k0 : w.heap.size < w13.heap.size := (Array.getElem?_eq_some_iff.1 Y013.out).1; have ka : w2.heap.size < w13.heap.size := (Array.getElem?_eq_some_iff.1 YA13.out).1; have kb : w3.heap.size < w13.heap.size := (Array.getElem?_eq_some_iff.1 YB13.out).1
  have z0 := cell_blk YW13.out 0; have z1 := cell_blk YW13.out 1; have q0 := cell_blk YR13.out 0; have q1 := cell_blk YR13.out 1; have kw : w6.heap.size < w13.heap.size := (Array.getElem?_eq_some_iff.1 YW13.out).1; have kq : w8.heap.size < w13.heap.size := (Array.getElem?_eq_some_iff.1 YR13.out).1
  have c2 := cell_blk Y113.out 0; have c3 := cell_blk Y113.out 1; have c4 := cell_blk Y213.out 0; have c5 := cell_blk Y213.out 1; have f2 := frozen_blk Y113.out 0; have f3 := frozen_blk Y113.out 1; have f4 := frozen_blk Y213.out 0; have f5 := frozen_blk Y213.out 1; have k1 : w.heap.size + 1 < w13.heap.size := (Array.getElem?_eq_some_iff.1 Y113.out).1; have k2 : w.heap.size + 1 + 1 < w13.heap.size := (Array.getElem?_eq_some_iff.1 Y213.out).1
  go_wp2_with fail
  have OAF := Lib.hid (own_base OA13.out (show w.heap.size ≤ w1.heap.size by omega))
  have OBF := Lib.hid (own_base OB13.out (show w.heap.size ≤ w1.heap.size by omega))
  have BF := Lib.hid BW13.out
  have YR6 := Lib.hid Y113.out
  have YR7 := Lib.hid Y213.out
  have lr6 : w.heap.size ≤ w.heap.size + 1 := by omega
  have lr7 : w.heap.size ≤ w.heap.size + 1 + 1 := by omega
  have na1 : ¬ w2.heap.size = w.heap.size + 1 := by omega
  have na2 : ¬ w2.heap.size = w.heap.size + 1 + 1 := by omega
  have nb1 : ¬ w3.heap.size = w.heap.size + 1 := by omega
  have nb2 : ¬ w3.heap.size = w.heap.size + 1 + 1 := by omega
  have n67 : ¬ w.heap.size + 1 + 1 = w.heap.size + 1 := by omega
  have n67' : ¬ w.heap.size + 1 = w.heap.size + 1 + 1 := by omega
  clear p0 p1 z0 z1 q0 q1 k0 kw kq
  clear RB RW RF RR Y0 Y1 Y2 BW OA OA3 B2 AD VA VB VW VR HOK HG HC0 V1 V2 V3 V4 LX LY LW LR
  clear n1 n2 n3 n5 n6 n7 n1' n2' n3' n5' n6' n7' j1 j2 j3 j4 j5 i0 i1 s1 s2 s3 g23 s4 s5 s6 s8 lA1 lA2 lB1 lB2
  clear OA5 OB5 Y05 Y15 Y25 YA5 YB5 BW5 OA6 OB6 OW6 Y06 Y16 Y26 YA6 YB6 BW6 OA8 OB8 OW8 OR8 YW8 Y08 Y18 Y28 YA8 YB8 BW8
  clear Y09 Y19 Y29 YA9 YB9 YW9 YR9 OA9 OB9 OW9 OR9 BW9
  clear Y010 Y110 Y210 YA10 YB10 YW10 YR10 OA10 OB10 OW10 OR10 BW10
  clear Y011 Y111 Y211 YA11 YB11 YW11 YR11 OA11 OB11 OW11 OR11 BW11
  clear Y012 Y112 Y212 YA12 YB12 YW12 YR12 OA12 OB12 OW12 OR12 BW12
  clear Y013 Y113 Y213 YA13 YB13 YW13 YR13 OA13 OB13 OW13 OR13 BW13
  generalize w.heap.size + 1 + 1 = r7 at *
  generalize w.heap.size + 1 = r6 at *
  generalize w2.heap.size = gA at *
  generalize w3.heap.size = gB at *
  go_region_held3 (fun w' => w'.cell? ⟨gA, 0, none⟩ = some (.int .i64 b) ∧ w'.cell? ⟨gA, 1, none⟩ = some (.slice (some ⟨xa, 0, none⟩) n ca) ∧ w'.cell? ⟨gB, 0, none⟩ = some (.int .i64 b) ∧ w'.cell? ⟨gB, 1, none⟩ = some (.slice (some ⟨xb, 0, none⟩) n cb)) (first | exact ⟨a0, a1, b0, b1⟩ | exact ⟨kc2 a0 na1, kc2 a1 na1, kc2 b0 nb1, kc2 b1 nb1⟩ | exact ⟨kc4 a0 na1 na2, kc4 a1 na1 na2, kc4 b0 nb1 nb2, kc4 b1 nb1 nb2⟩) (fail)
  have y6 : (((((w13.setCell ⟨r6, 0, none⟩ (.int .i64 b)).setCell ⟨r6, 1, none⟩ (.slice (some ⟨xa, 0, none⟩) n ca)).setCell ⟨r7, 0, none⟩ (.int .i64 b)).setCell ⟨r7, 1, none⟩ (.slice (some ⟨xb, 0, none⟩) n cb)).drew).heap[r6]? = some (.cells #[.int .i64 b, .slice (some ⟨xa, 0, none⟩) n ca] 41) := wk_keep (wk_keep (setCell_blk (setCell0_blk YR6.out (.int .i64 b)) (.slice (some ⟨xa, 0, none⟩) n ca)) n67') n67'
  have y7 : (((((w13.setCell ⟨r6, 0, none⟩ (.int .i64 b)).setCell ⟨r6, 1, none⟩ (.slice (some ⟨xa, 0, none⟩) n ca)).setCell ⟨r7, 0, none⟩ (.int .i64 b)).setCell ⟨r7, 1, none⟩ (.slice (some ⟨xb, 0, none⟩) n cb)).drew).heap[r7]? = some (.cells #[.int .i64 b, .slice (some ⟨xb, 0, none⟩) n cb] 41) := setCell_blk (setCell0_blk (wk_keep (wk_keep YR7.out n67) n67) (.int .i64 b)) (.slice (some ⟨xb, 0, none⟩) n cb)
  have oz : Own (((((w13.setCell ⟨r6, 0, none⟩ (.int .i64 b)).setCell ⟨r6, 1, none⟩ (.slice (some ⟨xa, 0, none⟩) n ca)).setCell ⟨r7, 0, none⟩ (.int .i64 b)).setCell ⟨r7, 1, none⟩ (.slice (some ⟨xb, 0, none⟩) n cb)).drew) w.heap.size (.slice (some ⟨xa, 0, none⟩) n ca) _ := (own_setCell_ne (own_setCell_ne (own_setCell_ne (own_setCell_ne (own_drew OAF.out) (fun h => ra1 (Option.some.inj h))) (fun h => ra1 (Option.some.inj h))) (fun h => ra2 (Option.some.inj h))) (fun h => ra2 (Option.some.inj h)))
  have oy : Own (((((w13.setCell ⟨r6, 0, none⟩ (.int .i64 b)).setCell ⟨r6, 1, none⟩ (.slice (some ⟨xa, 0, none⟩) n ca)).setCell ⟨r7, 0, none⟩ (.int .i64 b)).setCell ⟨r7, 1, none⟩ (.slice (some ⟨xb, 0, none⟩) n cb)).drew) w.heap.size (.slice (some ⟨xb, 0, none⟩) n cb) _ := (own_setCell_ne (own_setCell_ne (own_setCell_ne (own_setCell_ne (own_drew OBF.out) (fun h => rb1 (Option.some.inj h))) (fun h => rb1 (Option.some.inj h))) (fun h => rb2 (Option.some.inj h))) (fun h => rb2 (Option.some.inj h)))
  have bz : Below w.heap.size w (((((w13.setCell ⟨r6, 0, none⟩ (.int .i64 b)).setCell ⟨r6, 1, none⟩ (.slice (some ⟨xa, 0, none⟩) n ca)).setCell ⟨r7, 0, none⟩ (.int .i64 b)).setCell ⟨r7, 1, none⟩ (.slice (some ⟨xb, 0, none⟩) n cb)).drew) := ((((BF.out.setCell (p := ⟨r6, 0, none⟩) lr6 _).setCell (p := ⟨r6, 1, none⟩) lr6 _).setCell (p := ⟨r7, 0, none⟩) lr7 _).setCell (p := ⟨r7, 1, none⟩) lr7 _).drew
  clear a0 a1 b0 b1 c2 c3 c4 c5 f2 f3 f4 f5 ka kb k1 k2 YR6 YR7 OAF OBF BF
  generalize (((((w13.setCell ⟨r6, 0, none⟩ (.int .i64 b)).setCell ⟨r6, 1, none⟩ (.slice (some ⟨xa, 0, none⟩) n ca)).setCell ⟨r7, 0, none⟩ (.int .i64 b)).setCell ⟨r7, 1, none⟩ (.slice (some ⟨xb, 0, none⟩) n cb)).drew) = wz at *
  have e0 := cell_blk y6 0; have e1 := cell_blk y6 1; have e2 := cell_blk y7 0; have e3 := cell_blk y7 1
  have OZ := Lib.hid oz; have OY := Lib.hid oy; have BZ := Lib.hid bz
  clear y6 y7 oz oy bz
  rename_i K hK hH
  simp only [Exit.then]
  refine hK _ _ ?_
  clear hH hK
  refine wp_ret ?_
  clear n4 n4' ra1 ra2 rb1 rb2 lr6 lr7 n67 n67' na1 na2 nb1 nb2 hb hb2 hn hn2
  refine bodyPost_ret (v := .tuple #[.agg #[.int .i64 b, .slice (some ⟨xa, 0, none⟩) n ca], .agg #[.int .i64 b, .slice (some ⟨xb, 0, none⟩) n cb], .int .i64 0]) (by simp [results, Try.results29, go_sem, *]) rfl ?_
  rw [HWB.out, HWX.out, HWY.out, HWC.out]
  exact ⟨_, _, rfl, OZ.out, OY.out, OAB.out, BZ.out⟩
end Go.Proofs.Ytkhjmokjbiepgaa
