/- The law FnExactSameMachine returns true for every input, and its arguments read afterwards as they read before: no condition. -/
import Derived.Test.YtcooabjcikcpiaaMch3
import Derived.OpenShut
import Derived.ShutString
import Derived.ChangeOld
import Derived.Below
import Derived.Lib.SmallJoins
import Derived.Deep.RegionHeld3
namespace Go.Proofs.Ytcooabjcikcpiaa.fnExactSameMachine
open Go.ChangeShapes Go.WideShapes Go.ChangeAt Go.RowKit
open Go.ChangeMaps (open_string shut_string)
set_option linter.unusedVariables false

theorem own : ownKnob Try.prog.godebug = none := by kernel_rfl
theorem laidOut : laidOutB Try.prog = true := by kernel_rfl

set_option maxHeartbeats 1000000 in
theorem walk (ma0 mb0 mc0 mp0 : Int) (ss0 st0 sr0 : Option Addr) (la0 lb0 lc0 ca0 cb0 cc0 : Nat) (za0 zb0 zc0 : List Int) (ma1 mb1 mc1 mp1 : Int) (ss1 st1 sr1 : Option Addr) (la1 lb1 lc1 ca1 cb1 cc1 : Nat) (za1 zb1 zc1 : List Int) (w : World) (wa0 : IsRow .i64 w ss0 la0 ca0 za0) (wb0 : IsRow .i64 w st0 lb0 cb0 zb0) (wc0 : IsRow .i64 w sr0 lc0 cc0 zc0) (wa1 : IsRow .i64 w ss1 la1 ca1 za1) (wb1 : IsRow .i64 w st1 lb1 cb1 zb1) (wc1 : IsRow .i64 w sr1 lc1 cc1 zc1) :
    Calls Try.prog 3 #[.agg #[.int .i64 ma0, .slice ss0 la0 ca0, .int .i64 mb0, .slice st0 lb0 cb0, .int .i64 mc0, .slice sr0 lc0 cc0, .int .i64 mp0], .agg #[.int .i64 ma1, .slice ss1 la1 ca1, .int .i64 mb1, .slice st1 lb1 cb1, .int .i64 mc1, .slice sr1 lc1 cc1, .int .i64 mp1]] w fun e w' => e = .returned (.bool true) ∧ Below w.heap.size w w' := by
  have la0l := wa0.len_le; have Wa0 := Lib.hid wa0; clear wa0
  have lb0l := wb0.len_le; have Wb0 := Lib.hid wb0; clear wb0
  have lc0l := wc0.len_le; have Wc0 := Lib.hid wc0; clear wc0
  have la1l := wa1.len_le; have Wa1 := Lib.hid wa1; clear wa1
  have lb1l := wb1.len_le; have Wb1 := Lib.hid wb1; clear wb1
  have lc1l := wc1.len_le; have Wc1 := Lib.hid wc1; clear wc1
  by_cases g0 : la0 + lb0 + lc0 ≤ 1048576
  rotate_left
  · go_enter Try.func3, Try.ntmps3
    go_wp2_with fail
    refine (laws_szMachine ma0 mb0 mc0 mp0 ss0 st0 sr0 la0 lb0 lc0 ca0 cb0 cc0 (1048576) _ la0l lb0l lc0l (by omega) (by omega)).mono ?_; rintro e w1 ⟨rfl, b1⟩
    rw [if_neg (show ¬ ((la0 : Int) + lb0 + lc0 ≤ 1048576) by omega)]
    have B1 := Lib.hid b1; clear b1
    obtain ⟨zz0, zz1, -, hsz1, -⟩ := blk2 B1.out
    have pa0 := cell_blk zz0 0; have pa1 := cell_blk zz0 1; have pa2 := cell_blk zz0 2; have pa3 := cell_blk zz0 3; have pa4 := cell_blk zz0 4; have pa5 := cell_blk zz0 5; have pa6 := cell_blk zz0 6; have pb0 := cell_blk zz1 0; have pb1 := cell_blk zz1 1; have pb2 := cell_blk zz1 2; have pb3 := cell_blk zz1 3; have pb4 := cell_blk zz1 4; have pb5 := cell_blk zz1 5; have pb6 := cell_blk zz1 6
    clear zz0 zz1
    have lt0 : w.heap.size < w1.heap.size := (by omega); have lt1 : w.heap.size + 1 < w1.heap.size := (by omega)
    go_wp2_with fail
    go_ret
    exact ⟨rfl, (blk2 B1.out).2.2.1⟩
  by_cases g1 : la0 + lb0 + lc0 + (la1 + lb1 + lc1) ≤ 1048576
  rotate_left
  · go_enter Try.func3, Try.ntmps3
    go_wp2_with fail
    refine (laws_szMachine ma0 mb0 mc0 mp0 ss0 st0 sr0 la0 lb0 lc0 ca0 cb0 cc0 (1048576) _ la0l lb0l lc0l (by omega) (by omega)).mono ?_; rintro e w1 ⟨rfl, b1⟩
    rw [if_pos (show ((la0 : Int) + lb0 + lc0 ≤ 1048576) by omega)]
    have B1 := Lib.hid b1; clear b1
    obtain ⟨zz0, zz1, -, hsz1, -⟩ := blk2 B1.out
    have pa0 := cell_blk zz0 0; have pa1 := cell_blk zz0 1; have pa2 := cell_blk zz0 2; have pa3 := cell_blk zz0 3; have pa4 := cell_blk zz0 4; have pa5 := cell_blk zz0 5; have pa6 := cell_blk zz0 6; have pb0 := cell_blk zz1 0; have pb1 := cell_blk zz1 1; have pb2 := cell_blk zz1 2; have pb3 := cell_blk zz1 3; have pb4 := cell_blk zz1 4; have pb5 := cell_blk zz1 5; have pb6 := cell_blk zz1 6
    clear zz0 zz1
    have lt0 : w.heap.size < w1.heap.size := (by omega); have lt1 : w.heap.size + 1 < w1.heap.size := (by omega)
    go_wp2_with fail
    refine (laws_szMachine ma1 mb1 mc1 mp1 ss1 st1 sr1 la1 lb1 lc1 ca1 cb1 cc1 (1048576 - (la0 : Int) - (lb0 : Int) - (lc0 : Int)) _ la1l lb1l lc1l (by omega) (by omega)).mono ?_; rintro e w2 ⟨rfl, b2⟩
    rw [if_neg (show ¬ ((la1 : Int) + lb1 + lc1 ≤ 1048576 - (la0 : Int) - (lb0 : Int) - (lc0 : Int)) by omega)]
    have B2 := Lib.hid (Below.trans_size B1.out b2); clear b2
    clear pa0 pa1 pa2 pa3 pa4 pa5 pa6 pb0 pb1 pb2 pb3 pb4 pb5 pb6 lt0 lt1
    obtain ⟨zz0, zz1, -, hsz2, -⟩ := blk2 B2.out
    have pa0 := cell_blk zz0 0; have pa1 := cell_blk zz0 1; have pa2 := cell_blk zz0 2; have pa3 := cell_blk zz0 3; have pa4 := cell_blk zz0 4; have pa5 := cell_blk zz0 5; have pa6 := cell_blk zz0 6; have pb0 := cell_blk zz1 0; have pb1 := cell_blk zz1 1; have pb2 := cell_blk zz1 2; have pb3 := cell_blk zz1 3; have pb4 := cell_blk zz1 4; have pb5 := cell_blk zz1 5; have pb6 := cell_blk zz1 6
    clear zz0 zz1
    have lt0 : w.heap.size < w2.heap.size := (by omega); have lt1 : w.heap.size + 1 < w2.heap.size := (by omega)
    go_wp2_with fail
    go_ret
    exact ⟨rfl, (blk2 B2.out).2.2.1⟩
  generalize hZA0 : za0.take la0 = ZA0 at *; have HZA0 := Lib.hid hZA0; clear hZA0
  generalize hZB0 : zb0.take lb0 = ZB0 at *; have HZB0 := Lib.hid hZB0; clear hZB0
  generalize hZC0 : zc0.take lc0 = ZC0 at *; have HZC0 := Lib.hid hZC0; clear hZC0
  generalize hZA1 : za1.take la1 = ZA1 at *; have HZA1 := Lib.hid hZA1; clear hZA1
  generalize hZB1 : zb1.take lb1 = ZB1 at *; have HZB1 := Lib.hid hZB1; clear hZB1
  generalize hZC1 : zc1.take lc1 = ZC1 at *; have HZC1 := Lib.hid hZC1; clear hZC1
  go_enter Try.func3, Try.ntmps3
  go_wp2_with fail
  refine (laws_szMachine ma0 mb0 mc0 mp0 ss0 st0 sr0 la0 lb0 lc0 ca0 cb0 cc0 (1048576) _ la0l lb0l lc0l (by omega) (by omega)).mono ?_; rintro e w1 ⟨rfl, b1⟩
  rw [if_pos (show ((la0 : Int) + lb0 + lc0 ≤ 1048576) by omega)]
  have B1 := Lib.hid b1; clear b1
  obtain ⟨zz0, zz1, -, hsz1, -⟩ := blk2 B1.out
  have pa0 := cell_blk zz0 0; have pa1 := cell_blk zz0 1; have pa2 := cell_blk zz0 2; have pa3 := cell_blk zz0 3; have pa4 := cell_blk zz0 4; have pa5 := cell_blk zz0 5; have pa6 := cell_blk zz0 6; have pb0 := cell_blk zz1 0; have pb1 := cell_blk zz1 1; have pb2 := cell_blk zz1 2; have pb3 := cell_blk zz1 3; have pb4 := cell_blk zz1 4; have pb5 := cell_blk zz1 5; have pb6 := cell_blk zz1 6
  clear zz0 zz1
  have lt0 : w.heap.size < w1.heap.size := (by omega); have lt1 : w.heap.size + 1 < w1.heap.size := (by omega)
  go_wp2_with fail
  refine (laws_szMachine ma1 mb1 mc1 mp1 ss1 st1 sr1 la1 lb1 lc1 ca1 cb1 cc1 (1048576 - (la0 : Int) - (lb0 : Int) - (lc0 : Int)) _ la1l lb1l lc1l (by omega) (by omega)).mono ?_; rintro e w2 ⟨rfl, b2⟩
  rw [if_pos (show ((la1 : Int) + lb1 + lc1 ≤ 1048576 - (la0 : Int) - (lb0 : Int) - (lc0 : Int)) by omega)]
  have B2 := Lib.hid (Below.trans_size B1.out b2); clear b2
  clear pa0 pa1 pa2 pa3 pa4 pa5 pa6 pb0 pb1 pb2 pb3 pb4 pb5 pb6 lt0 lt1
  obtain ⟨zz0, zz1, -, hsz2, -⟩ := blk2 B2.out
  have pa0 := cell_blk zz0 0; have pa1 := cell_blk zz0 1; have pa2 := cell_blk zz0 2; have pa3 := cell_blk zz0 3; have pa4 := cell_blk zz0 4; have pa5 := cell_blk zz0 5; have pa6 := cell_blk zz0 6; have pb0 := cell_blk zz1 0; have pb1 := cell_blk zz1 1; have pb2 := cell_blk zz1 2; have pb3 := cell_blk zz1 3; have pb4 := cell_blk zz1 4; have pb5 := cell_blk zz1 5; have pb6 := cell_blk zz1 6
  clear zz0 zz1
  have lt0 : w.heap.size < w2.heap.size := (by omega); have lt1 : w.heap.size + 1 < w2.heap.size := (by omega)
  go_wp2_with fail
  go_region_held3 (fun w' => w'.cell? ⟨w.heap.size, 0, none⟩ = some (.int .i64 ma0) ∧ w'.cell? ⟨w.heap.size, 1, none⟩ = some (.slice ss0 la0 ca0) ∧ w'.cell? ⟨w.heap.size, 2, none⟩ = some (.int .i64 mb0) ∧ w'.cell? ⟨w.heap.size, 3, none⟩ = some (.slice st0 lb0 cb0) ∧ w'.cell? ⟨w.heap.size, 4, none⟩ = some (.int .i64 mc0) ∧ w'.cell? ⟨w.heap.size, 5, none⟩ = some (.slice sr0 lc0 cc0) ∧ w'.cell? ⟨w.heap.size, 6, none⟩ = some (.int .i64 mp0) ∧ w'.cell? ⟨w.heap.size + 1, 0, none⟩ = some (.int .i64 ma1) ∧ w'.cell? ⟨w.heap.size + 1, 1, none⟩ = some (.slice ss1 la1 ca1) ∧ w'.cell? ⟨w.heap.size + 1, 2, none⟩ = some (.int .i64 mb1) ∧ w'.cell? ⟨w.heap.size + 1, 3, none⟩ = some (.slice st1 lb1 cb1) ∧ w'.cell? ⟨w.heap.size + 1, 4, none⟩ = some (.int .i64 mc1) ∧ w'.cell? ⟨w.heap.size + 1, 5, none⟩ = some (.slice sr1 lc1 cc1) ∧ w'.cell? ⟨w.heap.size + 1, 6, none⟩ = some (.int .i64 mp1)) (first | go_keep | (refine ⟨?_, ?_, ?_, ?_, ?_, ?_, ?_, ?_, ?_, ?_, ?_, ?_, ?_, ?_⟩ <;> assumption)) (first | (go_at_call 10; refine (spec_SameMachine ma0 mb0 mc0 mp0 ma1 mb1 mc1 mp1 _ Pa_4.out Pb_4.out Pc_4.out Qa_4.out Qb_4.out Qc_4.out).mono ?_; rintro e w5 ⟨rfl, b5⟩; have B5 := Lib.hid (Below.trans_size B4.out b5); clear b5; clear pa0 pa1 pa2 pa3 pa4 pa5 pa6 pb0 pb1 pb2 pb3 pb4 pb5 pb6 lt0 lt1; obtain ⟨zz0, zz1, -, hsz5, -⟩ := blk2 B5.out; have pa0 := cell_blk zz0 0; have pa1 := cell_blk zz0 1; have pa2 := cell_blk zz0 2; have pa3 := cell_blk zz0 3; have pa4 := cell_blk zz0 4; have pa5 := cell_blk zz0 5; have pa6 := cell_blk zz0 6; have pb0 := cell_blk zz1 0; have pb1 := cell_blk zz1 1; have pb2 := cell_blk zz1 2; have pb3 := cell_blk zz1 3; have pb4 := cell_blk zz1 4; have pb5 := cell_blk zz1 5; have pb6 := cell_blk zz1 6; clear zz0 zz1; have lt0 : w.heap.size < w5.heap.size := (by omega); have lt1 : w.heap.size + 1 < w5.heap.size := (by omega)) | (go_at_call 11; refine (laws_toMachine ma1 mb1 mc1 mp1 ss1 st1 sr1 la1 lb1 lc1 ca1 cb1 cc1 za1 zb1 zc1 _ (Wa1.out.below (blk2 B3.out).2.2.1) (Wb1.out.below (blk2 B3.out).2.2.1) (Wc1.out.below (blk2 B3.out).2.2.1) (by omega) (by omega) (by omega)).mono ?_; rintro e w4 ⟨u4a, u4b, u4c, rfl, oa4, ob4, oc4, b4⟩; rw [HZA1.out] at oa4; rw [HZB1.out] at ob4; rw [HZC1.out] at oc4; have Pa_4 := Lib.hid (own_keep b4 Pa_3.out); have Pb_4 := Lib.hid (own_keep b4 Pb_3.out); have Pc_4 := Lib.hid (own_keep b4 Pc_3.out); have Qa_4 := Lib.hid oa4; have Qb_4 := Lib.hid ob4; have Qc_4 := Lib.hid oc4; have B4 := Lib.hid (Below.trans_size B3.out b4); clear oa4 ob4 oc4 b4; clear pa0 pa1 pa2 pa3 pa4 pa5 pa6 pb0 pb1 pb2 pb3 pb4 pb5 pb6 lt0 lt1; obtain ⟨zz0, zz1, -, hsz4, -⟩ := blk2 B4.out; have pa0 := cell_blk zz0 0; have pa1 := cell_blk zz0 1; have pa2 := cell_blk zz0 2; have pa3 := cell_blk zz0 3; have pa4 := cell_blk zz0 4; have pa5 := cell_blk zz0 5; have pa6 := cell_blk zz0 6; have pb0 := cell_blk zz1 0; have pb1 := cell_blk zz1 1; have pb2 := cell_blk zz1 2; have pb3 := cell_blk zz1 3; have pb4 := cell_blk zz1 4; have pb5 := cell_blk zz1 5; have pb6 := cell_blk zz1 6; clear zz0 zz1; have lt0 : w.heap.size < w4.heap.size := (by omega); have lt1 : w.heap.size + 1 < w4.heap.size := (by omega)) | (go_at_call 11; refine (laws_toMachine ma0 mb0 mc0 mp0 ss0 st0 sr0 la0 lb0 lc0 ca0 cb0 cc0 za0 zb0 zc0 _ (Wa0.out.below (blk2 B2.out.drew).2.2.1) (Wb0.out.below (blk2 B2.out.drew).2.2.1) (Wc0.out.below (blk2 B2.out.drew).2.2.1) (by omega) (by omega) (by omega)).mono ?_; rintro e w3 ⟨u3a, u3b, u3c, rfl, oa3, ob3, oc3, b3⟩; rw [HZA0.out] at oa3; rw [HZB0.out] at ob3; rw [HZC0.out] at oc3; have Pa_3 := Lib.hid oa3; have Pb_3 := Lib.hid ob3; have Pc_3 := Lib.hid oc3; have B3 := Lib.hid (Below.trans_size B2.out.drew b3); clear oa3 ob3 oc3 b3; clear pa0 pa1 pa2 pa3 pa4 pa5 pa6 pb0 pb1 pb2 pb3 pb4 pb5 pb6 lt0 lt1; obtain ⟨zz0, zz1, -, hsz3, -⟩ := blk2 B3.out; have pa0 := cell_blk zz0 0; have pa1 := cell_blk zz0 1; have pa2 := cell_blk zz0 2; have pa3 := cell_blk zz0 3; have pa4 := cell_blk zz0 4; have pa5 := cell_blk zz0 5; have pa6 := cell_blk zz0 6; have pb0 := cell_blk zz1 0; have pb1 := cell_blk zz1 1; have pb2 := cell_blk zz1 2; have pb3 := cell_blk zz1 3; have pb4 := cell_blk zz1 4; have pb5 := cell_blk zz1 5; have pb6 := cell_blk zz1 6; clear zz0 zz1; have lt0 : w.heap.size < w3.heap.size := (by omega); have lt1 : w.heap.size + 1 < w3.heap.size := (by omega)))
  go_wp2_with fail
  refine (laws_toMachine ma0 mb0 mc0 mp0 ss0 st0 sr0 la0 lb0 lc0 ca0 cb0 cc0 za0 zb0 zc0 _ (Wa0.out.below (blk2 B5.out).2.2.1) (Wb0.out.below (blk2 B5.out).2.2.1) (Wc0.out.below (blk2 B5.out).2.2.1) (by omega) (by omega) (by omega)).mono ?_
  rintro e w6 ⟨u6a, u6b, u6c, rfl, oa6, ob6, oc6, b6⟩
  rw [HZA0.out] at oa6
  rw [HZB0.out] at ob6
  rw [HZC0.out] at oc6
  have Xa_6 := Lib.hid oa6
  have Xb_6 := Lib.hid ob6
  have Xc_6 := Lib.hid oc6
  have B6 := Lib.hid (Below.trans_size B5.out b6)
  clear oa6 ob6 oc6 b6
  clear pa0 pa1 pa2 pa3 pa4 pa5 pa6 pb0 pb1 pb2 pb3 pb4 pb5 pb6 lt0 lt1
  obtain ⟨zz0, zz1, -, hsz6, -⟩ := blk2 B6.out
  have pa0 := cell_blk zz0 0; have pa1 := cell_blk zz0 1; have pa2 := cell_blk zz0 2; have pa3 := cell_blk zz0 3; have pa4 := cell_blk zz0 4; have pa5 := cell_blk zz0 5; have pa6 := cell_blk zz0 6; have pb0 := cell_blk zz1 0; have pb1 := cell_blk zz1 1; have pb2 := cell_blk zz1 2; have pb3 := cell_blk zz1 3; have pb4 := cell_blk zz1 4; have pb5 := cell_blk zz1 5; have pb6 := cell_blk zz1 6
  clear zz0 zz1
  have lt0 : w.heap.size < w6.heap.size := (by omega); have lt1 : w.heap.size + 1 < w6.heap.size := (by omega)
  obtain ⟨Xqa, Xka, rfl, -, -⟩ := own_form Xa_6.out
  obtain ⟨Xqb, Xkb, rfl, -, -⟩ := own_form Xb_6.out
  obtain ⟨Xqc, Xkc, rfl, -, -⟩ := own_form Xc_6.out
  go_wp2_with fail
  refine (laws_toMachine ma1 mb1 mc1 mp1 ss1 st1 sr1 la1 lb1 lc1 ca1 cb1 cc1 za1 zb1 zc1 _ (Wa1.out.below (blk2 (B6.out.alloc B6.out.size _)).2.2.1) (Wb1.out.below (blk2 (B6.out.alloc B6.out.size _)).2.2.1) (Wc1.out.below (blk2 (B6.out.alloc B6.out.size _)).2.2.1) (by omega) (by omega) (by omega)).mono ?_
  rintro e w7 ⟨u7a, u7b, u7c, rfl, oa7, ob7, oc7, b7⟩
  rw [HZA1.out] at oa7
  rw [HZB1.out] at ob7
  rw [HZC1.out] at oc7
  have Xa_7 := Lib.hid (own_keep b7 (own_alloc Xa_6.out _))
  have Xb_7 := Lib.hid (own_keep b7 (own_alloc Xb_6.out _))
  have Xc_7 := Lib.hid (own_keep b7 (own_alloc Xc_6.out _))
  have Ya_7 := Lib.hid oa7
  have Yb_7 := Lib.hid ob7
  have Yc_7 := Lib.hid oc7
  have B7 := Lib.hid (Below.trans_size (B6.out.alloc B6.out.size _) b7)
  have VX7 := Lib.hid b7
  clear oa7 ob7 oc7 b7
  clear pa0 pa1 pa2 pa3 pa4 pa5 pa6 pb0 pb1 pb2 pb3 pb4 pb5 pb6 lt0 lt1
  obtain ⟨zz0, zz1, -, hsz7, -⟩ := blk2 B7.out
  have pa0 := cell_blk zz0 0; have pa1 := cell_blk zz0 1; have pa2 := cell_blk zz0 2; have pa3 := cell_blk zz0 3; have pa4 := cell_blk zz0 4; have pa5 := cell_blk zz0 5; have pa6 := cell_blk zz0 6; have pb0 := cell_blk zz1 0; have pb1 := cell_blk zz1 1; have pb2 := cell_blk zz1 2; have pb3 := cell_blk zz1 3; have pb4 := cell_blk zz1 4; have pb5 := cell_blk zz1 5; have pb6 := cell_blk zz1 6
  clear zz0 zz1
  have lt0 : w.heap.size < w7.heap.size := (by omega); have lt1 : w.heap.size + 1 < w7.heap.size := (by omega)
  obtain ⟨zz0, -, hsrx7, -⟩ := blk1 VX7.out
  have rx0 := cell_blk zz0 0; have rx1 := cell_blk zz0 1; have rx2 := cell_blk zz0 2; have rx3 := cell_blk zz0 3; have rx4 := cell_blk zz0 4; have rx5 := cell_blk zz0 5; have rx6 := cell_blk zz0 6
  clear zz0
  have ltrx : w6.heap.size < w7.heap.size := (by omega)
  obtain ⟨Yqa, Yka, rfl, -, -⟩ := own_form Ya_7.out
  obtain ⟨Yqb, Ykb, rfl, -, -⟩ := own_form Yb_7.out
  obtain ⟨Yqc, Ykc, rfl, -, -⟩ := own_form Yc_7.out
  go_wp2_with fail
  refine (impl_SameMachine ma0 mb0 mc0 mp0 ma1 mb1 mc1 mp1 _ (own_alloc Xa_7.out _) (own_alloc Xb_7.out _) (own_alloc Xc_7.out _) (own_alloc Ya_7.out _) (own_alloc Yb_7.out _) (own_alloc Yc_7.out _)).mono ?_; rintro e w8 ⟨rfl, b8⟩
  have Xa_8 := Lib.hid (own_keep b8 (own_alloc Xa_7.out _))
  have Xb_8 := Lib.hid (own_keep b8 (own_alloc Xb_7.out _))
  have Xc_8 := Lib.hid (own_keep b8 (own_alloc Xc_7.out _))
  have Ya_8 := Lib.hid (own_keep b8 (own_alloc Ya_7.out _))
  have Yb_8 := Lib.hid (own_keep b8 (own_alloc Yb_7.out _))
  have Yc_8 := Lib.hid (own_keep b8 (own_alloc Yc_7.out _))
  have B8 := Lib.hid (Below.trans_size (B7.out.alloc B7.out.size _) b8)
  have VX8 := Lib.hid (Below.trans_size (VX7.out.alloc VX7.out.size _) b8)
  have VY8 := Lib.hid b8
  clear b8
  clear pa0 pa1 pa2 pa3 pa4 pa5 pa6 pb0 pb1 pb2 pb3 pb4 pb5 pb6 lt0 lt1 rx0 rx1 rx2 rx3 rx4 rx5 rx6 ltrx
  obtain ⟨zz0, zz1, -, hsz8, -⟩ := blk2 B8.out
  have pa0 := cell_blk zz0 0; have pa1 := cell_blk zz0 1; have pa2 := cell_blk zz0 2; have pa3 := cell_blk zz0 3; have pa4 := cell_blk zz0 4; have pa5 := cell_blk zz0 5; have pa6 := cell_blk zz0 6; have pb0 := cell_blk zz1 0; have pb1 := cell_blk zz1 1; have pb2 := cell_blk zz1 2; have pb3 := cell_blk zz1 3; have pb4 := cell_blk zz1 4; have pb5 := cell_blk zz1 5; have pb6 := cell_blk zz1 6
  clear zz0 zz1
  have lt0 : w.heap.size < w8.heap.size := (by omega); have lt1 : w.heap.size + 1 < w8.heap.size := (by omega)
  obtain ⟨zz0, -, hsrx8, -⟩ := blk1 VX8.out
  have rx0 := cell_blk zz0 0; have rx1 := cell_blk zz0 1; have rx2 := cell_blk zz0 2; have rx3 := cell_blk zz0 3; have rx4 := cell_blk zz0 4; have rx5 := cell_blk zz0 5; have rx6 := cell_blk zz0 6
  clear zz0
  have ltrx : w6.heap.size < w8.heap.size := (by omega)
  obtain ⟨zz0, -, hsry8, -⟩ := blk1 VY8.out
  have ry0 := cell_blk zz0 0; have ry1 := cell_blk zz0 1; have ry2 := cell_blk zz0 2; have ry3 := cell_blk zz0 3; have ry4 := cell_blk zz0 4; have ry5 := cell_blk zz0 5; have ry6 := cell_blk zz0 6
  clear zz0
  have ltry : w7.heap.size < w8.heap.size := (by omega)
  go_wp2_with fail
  go_region_held3 (fun w' => w'.cell? ⟨w6.heap.size, 0, none⟩ = some (.int .i64 ma0) ∧ w'.cell? ⟨w6.heap.size, 1, none⟩ = some (.slice Xqa ZA0.length Xka) ∧ w'.cell? ⟨w6.heap.size, 2, none⟩ = some (.int .i64 mb0) ∧ w'.cell? ⟨w6.heap.size, 3, none⟩ = some (.slice Xqb ZB0.length Xkb) ∧ w'.cell? ⟨w6.heap.size, 4, none⟩ = some (.int .i64 mc0) ∧ w'.cell? ⟨w6.heap.size, 5, none⟩ = some (.slice Xqc ZC0.length Xkc) ∧ w'.cell? ⟨w6.heap.size, 6, none⟩ = some (.int .i64 mp0) ∧ w'.cell? ⟨w.heap.size, 0, none⟩ = some (.int .i64 ma0) ∧ w'.cell? ⟨w.heap.size, 1, none⟩ = some (.slice ss0 la0 ca0) ∧ w'.cell? ⟨w.heap.size, 2, none⟩ = some (.int .i64 mb0) ∧ w'.cell? ⟨w.heap.size, 3, none⟩ = some (.slice st0 lb0 cb0) ∧ w'.cell? ⟨w.heap.size, 4, none⟩ = some (.int .i64 mc0) ∧ w'.cell? ⟨w.heap.size, 5, none⟩ = some (.slice sr0 lc0 cc0) ∧ w'.cell? ⟨w.heap.size, 6, none⟩ = some (.int .i64 mp0)) (first | go_keep | (refine ⟨?_, ?_, ?_, ?_, ?_, ?_, ?_, ?_, ?_, ?_, ?_, ?_, ?_, ?_⟩ <;> assumption)) (first | (go_at_call 13; refine (laws_eqMachine ma0 mb0 mc0 mp0 _ Xa_9.out Xb_9.out Xc_9.out Ua_9.out Ub_9.out Uc_9.out).mono ?_; rintro e w10 ⟨rfl, b10⟩; have Xa_10 := Lib.hid (own_keep b10 Xa_9.out); have Xb_10 := Lib.hid (own_keep b10 Xb_9.out); have Xc_10 := Lib.hid (own_keep b10 Xc_9.out); have Ya_10 := Lib.hid (own_keep b10 Ya_9.out); have Yb_10 := Lib.hid (own_keep b10 Yb_9.out); have Yc_10 := Lib.hid (own_keep b10 Yc_9.out); have B10 := Lib.hid (Below.trans_size B9.out b10); have VX10 := Lib.hid (Below.trans_size VX9.out b10); have VY10 := Lib.hid (Below.trans_size VY9.out b10); clear b10; clear pa0 pa1 pa2 pa3 pa4 pa5 pa6 pb0 pb1 pb2 pb3 pb4 pb5 pb6 lt0 lt1 rx0 rx1 rx2 rx3 rx4 rx5 rx6 ltrx ry0 ry1 ry2 ry3 ry4 ry5 ry6 ltry; obtain ⟨zz0, zz1, -, hsz10, -⟩ := blk2 B10.out; have pa0 := cell_blk zz0 0; have pa1 := cell_blk zz0 1; have pa2 := cell_blk zz0 2; have pa3 := cell_blk zz0 3; have pa4 := cell_blk zz0 4; have pa5 := cell_blk zz0 5; have pa6 := cell_blk zz0 6; have pb0 := cell_blk zz1 0; have pb1 := cell_blk zz1 1; have pb2 := cell_blk zz1 2; have pb3 := cell_blk zz1 3; have pb4 := cell_blk zz1 4; have pb5 := cell_blk zz1 5; have pb6 := cell_blk zz1 6; clear zz0 zz1; have lt0 : w.heap.size < w10.heap.size := (by omega); have lt1 : w.heap.size + 1 < w10.heap.size := (by omega); obtain ⟨zz0, -, hsrx10, -⟩ := blk1 VX10.out; have rx0 := cell_blk zz0 0; have rx1 := cell_blk zz0 1; have rx2 := cell_blk zz0 2; have rx3 := cell_blk zz0 3; have rx4 := cell_blk zz0 4; have rx5 := cell_blk zz0 5; have rx6 := cell_blk zz0 6; clear zz0; have ltrx : w6.heap.size < w10.heap.size := (by omega); obtain ⟨zz0, -, hsry10, -⟩ := blk1 VY10.out; have ry0 := cell_blk zz0 0; have ry1 := cell_blk zz0 1; have ry2 := cell_blk zz0 2; have ry3 := cell_blk zz0 3; have ry4 := cell_blk zz0 4; have ry5 := cell_blk zz0 5; have ry6 := cell_blk zz0 6; clear zz0; have ltry : w7.heap.size < w10.heap.size := (by omega)) | (go_at_call 11; refine (laws_toMachine ma0 mb0 mc0 mp0 ss0 st0 sr0 la0 lb0 lc0 ca0 cb0 cc0 za0 zb0 zc0 _ (Wa0.out.below (blk2 B8.out.drew).2.2.1) (Wb0.out.below (blk2 B8.out.drew).2.2.1) (Wc0.out.below (blk2 B8.out.drew).2.2.1) (by omega) (by omega) (by omega)).mono ?_; rintro e w9 ⟨u9a, u9b, u9c, rfl, oa9, ob9, oc9, b9⟩; rw [HZA0.out] at oa9; rw [HZB0.out] at ob9; rw [HZC0.out] at oc9; have Xa_9 := Lib.hid (own_keep b9 Xa_8.out); have Xb_9 := Lib.hid (own_keep b9 Xb_8.out); have Xc_9 := Lib.hid (own_keep b9 Xc_8.out); have Ya_9 := Lib.hid (own_keep b9 Ya_8.out); have Yb_9 := Lib.hid (own_keep b9 Yb_8.out); have Yc_9 := Lib.hid (own_keep b9 Yc_8.out); have Ua_9 := Lib.hid oa9; have Ub_9 := Lib.hid ob9; have Uc_9 := Lib.hid oc9; have B9 := Lib.hid (Below.trans_size B8.out.drew b9); have VX9 := Lib.hid (Below.trans_size VX8.out.drew b9); have VY9 := Lib.hid (Below.trans_size VY8.out.drew b9); clear oa9 ob9 oc9 b9; clear pa0 pa1 pa2 pa3 pa4 pa5 pa6 pb0 pb1 pb2 pb3 pb4 pb5 pb6 lt0 lt1 rx0 rx1 rx2 rx3 rx4 rx5 rx6 ltrx ry0 ry1 ry2 ry3 ry4 ry5 ry6 ltry; obtain ⟨zz0, zz1, -, hsz9, -⟩ := blk2 B9.out; have pa0 := cell_blk zz0 0; have pa1 := cell_blk zz0 1; have pa2 := cell_blk zz0 2; have pa3 := cell_blk zz0 3; have pa4 := cell_blk zz0 4; have pa5 := cell_blk zz0 5; have pa6 := cell_blk zz0 6; have pb0 := cell_blk zz1 0; have pb1 := cell_blk zz1 1; have pb2 := cell_blk zz1 2; have pb3 := cell_blk zz1 3; have pb4 := cell_blk zz1 4; have pb5 := cell_blk zz1 5; have pb6 := cell_blk zz1 6; clear zz0 zz1; have lt0 : w.heap.size < w9.heap.size := (by omega); have lt1 : w.heap.size + 1 < w9.heap.size := (by omega); obtain ⟨zz0, -, hsrx9, -⟩ := blk1 VX9.out; have rx0 := cell_blk zz0 0; have rx1 := cell_blk zz0 1; have rx2 := cell_blk zz0 2; have rx3 := cell_blk zz0 3; have rx4 := cell_blk zz0 4; have rx5 := cell_blk zz0 5; have rx6 := cell_blk zz0 6; clear zz0; have ltrx : w6.heap.size < w9.heap.size := (by omega); obtain ⟨zz0, -, hsry9, -⟩ := blk1 VY9.out; have ry0 := cell_blk zz0 0; have ry1 := cell_blk zz0 1; have ry2 := cell_blk zz0 2; have ry3 := cell_blk zz0 3; have ry4 := cell_blk zz0 4; have ry5 := cell_blk zz0 5; have ry6 := cell_blk zz0 6; clear zz0; have ltry : w7.heap.size < w9.heap.size := (by omega)))
  go_wp2_with fail
  go_region_held3 (fun w' => w'.cell? ⟨w7.heap.size, 0, none⟩ = some (.int .i64 ma1) ∧ w'.cell? ⟨w7.heap.size, 1, none⟩ = some (.slice Yqa ZA1.length Yka) ∧ w'.cell? ⟨w7.heap.size, 2, none⟩ = some (.int .i64 mb1) ∧ w'.cell? ⟨w7.heap.size, 3, none⟩ = some (.slice Yqb ZB1.length Ykb) ∧ w'.cell? ⟨w7.heap.size, 4, none⟩ = some (.int .i64 mc1) ∧ w'.cell? ⟨w7.heap.size, 5, none⟩ = some (.slice Yqc ZC1.length Ykc) ∧ w'.cell? ⟨w7.heap.size, 6, none⟩ = some (.int .i64 mp1) ∧ w'.cell? ⟨w.heap.size + 1, 0, none⟩ = some (.int .i64 ma1) ∧ w'.cell? ⟨w.heap.size + 1, 1, none⟩ = some (.slice ss1 la1 ca1) ∧ w'.cell? ⟨w.heap.size + 1, 2, none⟩ = some (.int .i64 mb1) ∧ w'.cell? ⟨w.heap.size + 1, 3, none⟩ = some (.slice st1 lb1 cb1) ∧ w'.cell? ⟨w.heap.size + 1, 4, none⟩ = some (.int .i64 mc1) ∧ w'.cell? ⟨w.heap.size + 1, 5, none⟩ = some (.slice sr1 lc1 cc1) ∧ w'.cell? ⟨w.heap.size + 1, 6, none⟩ = some (.int .i64 mp1)) (first | go_keep | (refine ⟨?_, ?_, ?_, ?_, ?_, ?_, ?_, ?_, ?_, ?_, ?_, ?_, ?_, ?_⟩ <;> assumption)) (first | (go_at_call 13; refine (laws_eqMachine ma1 mb1 mc1 mp1 _ Ya_11.out Yb_11.out Yc_11.out Va_11.out Vb_11.out Vc_11.out).mono ?_; rintro e w12 ⟨rfl, b12⟩; have Xa_12 := Lib.hid (own_keep b12 Xa_11.out); have Xb_12 := Lib.hid (own_keep b12 Xb_11.out); have Xc_12 := Lib.hid (own_keep b12 Xc_11.out); have Ya_12 := Lib.hid (own_keep b12 Ya_11.out); have Yb_12 := Lib.hid (own_keep b12 Yb_11.out); have Yc_12 := Lib.hid (own_keep b12 Yc_11.out); have B12 := Lib.hid (Below.trans_size B11.out b12); have VX12 := Lib.hid (Below.trans_size VX11.out b12); have VY12 := Lib.hid (Below.trans_size VY11.out b12); clear b12; clear pa0 pa1 pa2 pa3 pa4 pa5 pa6 pb0 pb1 pb2 pb3 pb4 pb5 pb6 lt0 lt1 rx0 rx1 rx2 rx3 rx4 rx5 rx6 ltrx ry0 ry1 ry2 ry3 ry4 ry5 ry6 ltry; obtain ⟨zz0, zz1, -, hsz12, -⟩ := blk2 B12.out; have pa0 := cell_blk zz0 0; have pa1 := cell_blk zz0 1; have pa2 := cell_blk zz0 2; have pa3 := cell_blk zz0 3; have pa4 := cell_blk zz0 4; have pa5 := cell_blk zz0 5; have pa6 := cell_blk zz0 6; have pb0 := cell_blk zz1 0; have pb1 := cell_blk zz1 1; have pb2 := cell_blk zz1 2; have pb3 := cell_blk zz1 3; have pb4 := cell_blk zz1 4; have pb5 := cell_blk zz1 5; have pb6 := cell_blk zz1 6; clear zz0 zz1; have lt0 : w.heap.size < w12.heap.size := (by omega); have lt1 : w.heap.size + 1 < w12.heap.size := (by omega); obtain ⟨zz0, -, hsrx12, -⟩ := blk1 VX12.out; have rx0 := cell_blk zz0 0; have rx1 := cell_blk zz0 1; have rx2 := cell_blk zz0 2; have rx3 := cell_blk zz0 3; have rx4 := cell_blk zz0 4; have rx5 := cell_blk zz0 5; have rx6 := cell_blk zz0 6; clear zz0; have ltrx : w6.heap.size < w12.heap.size := (by omega); obtain ⟨zz0, -, hsry12, -⟩ := blk1 VY12.out; have ry0 := cell_blk zz0 0; have ry1 := cell_blk zz0 1; have ry2 := cell_blk zz0 2; have ry3 := cell_blk zz0 3; have ry4 := cell_blk zz0 4; have ry5 := cell_blk zz0 5; have ry6 := cell_blk zz0 6; clear zz0; have ltry : w7.heap.size < w12.heap.size := (by omega)) | (go_at_call 11; refine (laws_toMachine ma1 mb1 mc1 mp1 ss1 st1 sr1 la1 lb1 lc1 ca1 cb1 cc1 za1 zb1 zc1 _ (Wa1.out.below (blk2 B10.out.drew).2.2.1) (Wb1.out.below (blk2 B10.out.drew).2.2.1) (Wc1.out.below (blk2 B10.out.drew).2.2.1) (by omega) (by omega) (by omega)).mono ?_; rintro e w11 ⟨u11a, u11b, u11c, rfl, oa11, ob11, oc11, b11⟩; rw [HZA1.out] at oa11; rw [HZB1.out] at ob11; rw [HZC1.out] at oc11; have Xa_11 := Lib.hid (own_keep b11 Xa_10.out); have Xb_11 := Lib.hid (own_keep b11 Xb_10.out); have Xc_11 := Lib.hid (own_keep b11 Xc_10.out); have Ya_11 := Lib.hid (own_keep b11 Ya_10.out); have Yb_11 := Lib.hid (own_keep b11 Yb_10.out); have Yc_11 := Lib.hid (own_keep b11 Yc_10.out); have Va_11 := Lib.hid oa11; have Vb_11 := Lib.hid ob11; have Vc_11 := Lib.hid oc11; have B11 := Lib.hid (Below.trans_size B10.out.drew b11); have VX11 := Lib.hid (Below.trans_size VX10.out.drew b11); have VY11 := Lib.hid (Below.trans_size VY10.out.drew b11); clear oa11 ob11 oc11 b11; clear pa0 pa1 pa2 pa3 pa4 pa5 pa6 pb0 pb1 pb2 pb3 pb4 pb5 pb6 lt0 lt1 rx0 rx1 rx2 rx3 rx4 rx5 rx6 ltrx ry0 ry1 ry2 ry3 ry4 ry5 ry6 ltry; obtain ⟨zz0, zz1, -, hsz11, -⟩ := blk2 B11.out; have pa0 := cell_blk zz0 0; have pa1 := cell_blk zz0 1; have pa2 := cell_blk zz0 2; have pa3 := cell_blk zz0 3; have pa4 := cell_blk zz0 4; have pa5 := cell_blk zz0 5; have pa6 := cell_blk zz0 6; have pb0 := cell_blk zz1 0; have pb1 := cell_blk zz1 1; have pb2 := cell_blk zz1 2; have pb3 := cell_blk zz1 3; have pb4 := cell_blk zz1 4; have pb5 := cell_blk zz1 5; have pb6 := cell_blk zz1 6; clear zz0 zz1; have lt0 : w.heap.size < w11.heap.size := (by omega); have lt1 : w.heap.size + 1 < w11.heap.size := (by omega); obtain ⟨zz0, -, hsrx11, -⟩ := blk1 VX11.out; have rx0 := cell_blk zz0 0; have rx1 := cell_blk zz0 1; have rx2 := cell_blk zz0 2; have rx3 := cell_blk zz0 3; have rx4 := cell_blk zz0 4; have rx5 := cell_blk zz0 5; have rx6 := cell_blk zz0 6; clear zz0; have ltrx : w6.heap.size < w11.heap.size := (by omega); obtain ⟨zz0, -, hsry11, -⟩ := blk1 VY11.out; have ry0 := cell_blk zz0 0; have ry1 := cell_blk zz0 1; have ry2 := cell_blk zz0 2; have ry3 := cell_blk zz0 3; have ry4 := cell_blk zz0 4; have ry5 := cell_blk zz0 5; have ry6 := cell_blk zz0 6; clear zz0; have ltry : w7.heap.size < w11.heap.size := (by omega)))
  go_wp2_with fail
  go_ret
  exact ⟨rfl, (blk2 B12.out).2.2.1⟩

set_option maxRecDepth 100000 in
theorem lifted (os : Os) (started : os.Started) (H : Type) (enc : TypeId × Value → H) :
    ReturnsInHanded {} Try.checked os 3 .any (Rows.fnExactSameMachineSpec.pre6 enc Try.prog Try.f3 Rows.fnExactSameMachineRow.domain false) (Rows.fnExactSameMachineSpec.post enc Try.prog Try.f3 false true false false) := by
  refine returnsInHanded_of_change (C := Try.checked) own started (by kernel_rfl) Try.func3
    (ChangeSpec.witness6 (enc := enc) (C := Try.checked) false ⟨#[], #[.agg #[.int .i64 0, .slice none 0 0, .int .i64 0, .slice none 0 0, .int .i64 0, .slice none 0 0, .int .i64 0], .agg #[.int .i64 0, .slice none 0 0, .int .i64 0, .slice none 0 0, .int .i64 0, .slice none 0 0, .int .i64 0]], []⟩ 8 (by kernel_rfl) (by kernel_rfl) (by kernel_rfl) (by kernel_rfl)) ?_
  intro W base args ds gs before hval0 hW hcnd _
  have hval : ∀ (j : Nat) t v, Try.f3.params[j]? = some t → args[j]? = some v → Value.okWide Try.prog W .any base t v := hval0
  have hW' := hW
  obtain ⟨p, q, hA0, hV, rfl, hfz, hnd⟩ := hW
  have hA : DataW.TrodAll enc Try.prog W 0 (fun _ => true) true Try.f3.params.toList args.toList ds p := hA0
  rw [Try.params3] at hA hval
  obtain ⟨v0, vs0, d0, ds0, p0, q0, hargs, rfl, rfl, h0, r0⟩ := trodAll_cons hA
  obtain ⟨v1, vs1, d1, ds1, p1, q1, rfl, rfl, rfl, h1, r1⟩ := trodAll_cons r0
  obtain ⟨rfl, rfl, rfl⟩ := trodAll_nil r1
  obtain rfl : args = #[v0, v1] := by cases args; simp_all
  obtain ⟨rfl, rfl⟩ := trodVars_none hV

  have k0 := h0
  have lt0 : ∀ x ∈ p0, x.block < W.heap.size := by obtain ⟨m, hm⟩ := k0; exact DataW.trod_lt m _ _ _ hm
  obtain ⟨ma0, mb0, mc0, mp0, ss0, st0, sr0, la0, lb0, lc0, ca0, cb0, cc0, za0, zb0, zc0, rfl, wa0, wb0, wc0⟩ := open_mach (hval 0 26 v0 rfl rfl) h0

  have k1 := h1
  have lt1 : ∀ x ∈ p1, x.block < W.heap.size := by obtain ⟨m, hm⟩ := k1; exact DataW.trod_lt m _ _ _ hm
  obtain ⟨ma1, mb1, mc1, mp1, ss1, st1, sr1, la1, lb1, lc1, ca1, cb1, cc1, za1, zb1, zc1, rfl, wa1, wb1, wc1⟩ := open_mach (hval 1 26 v1 rfl rfl) h1
  clear hA0 hval0
  refine (walk ma0 mb0 mc0 mp0 ss0 st0 sr0 la0 lb0 lc0 ca0 cb0 cc0 za0 zb0 zc0 ma1 mb1 mc1 mp1 ss1 st1 sr1 la1 lb1 lc1 ca1 cb1 cc1 za1 zb1 zc1 W wa0 wb0 wc0 wa1 wb1 wc1).mono fun e W' ⟨he, bel⟩ => ?_
  subst he
  exact ⟨_, rfl, _, _, _, [], _, [], hW', trodAll_mk1 (shut_bool Try.underlying4 _), (trodAll_cons_mk (Below.trod laidOut (by kernel_rfl) (of_decide_eq_true (by kernel_rfl)) k0 bel lt0) (trodAll_cons_mk (Below.trod laidOut (by kernel_rfl) (of_decide_eq_true (by kernel_rfl)) k1 bel lt1) trodAll_mk0)), rfl, bel.frame _, fun h => by cases h⟩

theorem over : Rows.fnExactSameMachineRow.holds Try.pinned (OpenSpec.ofChange Rows.fnExactSameMachineSpec) :=
  OpenClaim.holds_of_wide 3 Try.f3 rfl rfl rfl rfl rfl rfl rfl ⟨rfl, rfl, rfl, rfl, rfl⟩ rfl rfl rfl rfl rfl (by kernel_rfl) Try.func3 (by kernel_rfl)
    (of_decide_eq_true (by kernel_rfl)) (by unfold Func.isWrapper; first | (rw [if_pos (by decide +kernel)]; kernel_rfl) | (rw [if_neg (by decide +kernel)]; exact ⟨rfl, rfl⟩))
    (fun os started H enc _ => lifted os started H enc)

theorem proved : Rows.FnExactSameMachineSaid := over
#print axioms proved
end Go.Proofs.Ytcooabjcikcpiaa.fnExactSameMachine
