/- The law FnExactSameEngine returns true for every input, and its arguments read afterwards as they read before: no condition. -/
import Derived.Test.YtknpjibdnjpamaaAgg
import Derived.OpenShut
import Derived.ShutString
import Derived.ChangeOld
import Derived.Below
import Derived.Lib.SmallJoins
import Derived.Deep.RegionHeld3
namespace Go.Proofs.Ytknpjibdnjpamaa.fnExactSameEngine
open Go.ChangeShapes Go.WideShapes Go.ChangeAt Go.RowKit
open Go.ChangeMaps (open_string shut_string)
set_option linter.unusedVariables false

theorem own : ownKnob Try.prog.godebug = none := by kernel_rfl
theorem laidOut : laidOutB Try.prog = true := by kernel_rfl

set_option maxHeartbeats 1000000 in
theorem walk (n0 : Int) (a0 : Option Addr) (len0 cap0 : Nat) (z0 : List Int) (n1 : Int) (a1 : Option Addr) (len1 cap1 : Nat) (z1 : List Int) (w : World) (w0 : IsRow .i64 w a0 len0 cap0 z0) (w1 : IsRow .i64 w a1 len1 cap1 z1) :
    Calls Try.prog 3 #[.agg #[.int .i64 n0, .slice a0 len0 cap0], .agg #[.int .i64 n1, .slice a1 len1 cap1]] w fun e w' => e = .returned (.bool true) ∧ Below w.heap.size w w' := by
  have l0 := w0.len_le
  have W0 := Lib.hid w0; clear w0
  have l1 := w1.len_le
  have W1 := Lib.hid w1; clear w1
  by_cases g0 : len0 ≤ 1048576
  rotate_left
  · go_enter Try.func3, Try.ntmps3
    go_wp2_with fail
    refine (laws_szEngine _ _ _ _ _ _ l0 (by omega) (by omega)).mono ?_; rintro e w1 ⟨rfl, b1⟩
    rw [if_neg (show ¬ (len0 : Int) ≤ 1048576 by omega)]
    have B1 := Lib.hid b1; clear b1
    obtain ⟨x0, x1, -, hsz1, -⟩ := blk2 B1.out
    have p00 := cell_blk x0 0; have p01 := cell_blk x0 1; have p10 := cell_blk x1 0; have p11 := cell_blk x1 1; clear x0 x1
    have ht0 : w.heap.size < w1.heap.size := (by omega)
    have ht1 : w.heap.size + 1 < w1.heap.size := (by omega)
    go_wp2_with fail
    go_ret
    exact ⟨rfl, (blk2 B1.out).2.2.1⟩
  by_cases g1 : len0 + len1 ≤ 1048576
  rotate_left
  · go_enter Try.func3, Try.ntmps3
    go_wp2_with fail
    refine (laws_szEngine _ _ _ _ _ _ l0 (by omega) (by omega)).mono ?_; rintro e w1 ⟨rfl, b1⟩
    rw [if_pos (show (len0 : Int) ≤ 1048576 by omega)]
    have B1 := Lib.hid b1; clear b1
    obtain ⟨x0, x1, -, hsz1, -⟩ := blk2 B1.out
    have p00 := cell_blk x0 0; have p01 := cell_blk x0 1; have p10 := cell_blk x1 0; have p11 := cell_blk x1 1; clear x0 x1
    have ht0 : w.heap.size < w1.heap.size := (by omega)
    have ht1 : w.heap.size + 1 < w1.heap.size := (by omega)
    go_wp2_with fail
    refine (laws_szEngine _ _ _ _ _ _ l1 (by omega) (by omega)).mono ?_; rintro e w2 ⟨rfl, b2⟩
    rw [if_neg (show ¬ (len1 : Int) ≤ 1048576 - (len0 : Int) by omega)]
    have B2 := Lib.hid (Below.trans_size B1.out b2); clear b2
    obtain ⟨x0, x1, -, hsz2, -⟩ := blk2 B2.out
    clear p00 p01 p10 p11 hsz1 ht0 ht1; have p00 := cell_blk x0 0; have p01 := cell_blk x0 1; have p10 := cell_blk x1 0; have p11 := cell_blk x1 1; clear x0 x1
    have ht0 : w.heap.size < w2.heap.size := (by omega)
    have ht1 : w.heap.size + 1 < w2.heap.size := (by omega)
    go_wp2_with fail
    go_ret
    exact ⟨rfl, (blk2 B2.out).2.2.1⟩
  have hz0 : (z0.take len0).length ≤ 1048576 := by rw [List.length_take]; omega
  have hz1 : (z1.take len1).length ≤ 1048576 := by rw [List.length_take]; omega
  generalize hZ0 : z0.take len0 = Z0 at *; have HZ0 := Lib.hid hZ0; clear hZ0
  generalize hZ1 : z1.take len1 = Z1 at *; have HZ1 := Lib.hid hZ1; clear hZ1
  go_enter Try.func3, Try.ntmps3
  go_wp2_with fail
  refine (laws_szEngine _ _ _ _ _ _ l0 (by omega) (by omega)).mono ?_; rintro e w1 ⟨rfl, b1⟩
  rw [if_pos (show (len0 : Int) ≤ 1048576 by omega)]
  have B1 := Lib.hid b1; clear b1
  obtain ⟨x0, x1, -, hsz1, -⟩ := blk2 B1.out
  have p00 := cell_blk x0 0; have p01 := cell_blk x0 1; have p10 := cell_blk x1 0; have p11 := cell_blk x1 1; clear x0 x1
  have ht0 : w.heap.size < w1.heap.size := (by omega)
  have ht1 : w.heap.size + 1 < w1.heap.size := (by omega)
  go_wp2_with fail
  refine (laws_szEngine _ _ _ _ _ _ l1 (by omega) (by omega)).mono ?_; rintro e w2 ⟨rfl, b2⟩
  rw [if_pos (show (len1 : Int) ≤ 1048576 - (len0 : Int) by omega)]
  have B2 := Lib.hid (Below.trans_size B1.out b2); clear b2
  obtain ⟨x0, x1, -, hsz2, -⟩ := blk2 B2.out
  clear p00 p01 p10 p11 hsz1 ht0 ht1; have p00 := cell_blk x0 0; have p01 := cell_blk x0 1; have p10 := cell_blk x1 0; have p11 := cell_blk x1 1; clear x0 x1
  have ht0 : w.heap.size < w2.heap.size := (by omega)
  have ht1 : w.heap.size + 1 < w2.heap.size := (by omega)
  go_wp2_with fail
  go_region_held3 (fun w' => w'.cell? ⟨w.heap.size, 0, none⟩ = some (.int .i64 n0) ∧ w'.cell? ⟨w.heap.size, 1, none⟩ = some (.slice a0 len0 cap0) ∧ w'.cell? ⟨w.heap.size + 1, 0, none⟩ = some (.int .i64 n1) ∧ w'.cell? ⟨w.heap.size + 1, 1, none⟩ = some (.slice a1 len1 cap1)) (first | go_keep | (refine ⟨?_, ?_, ?_, ?_⟩ <;> assumption)) (first | (go_at_call 8; refine (spec_SameEngine _ _ _ P4.out Q4.out).mono ?_; rintro e w5 ⟨rfl, b5⟩; have P5 := Lib.hid (own_keep b5 P4.out); have Q5 := Lib.hid (own_keep b5 Q4.out); have B5 := Lib.hid (Below.trans_size B4.out b5); clear b5; obtain ⟨x0, x1, -, hsz5, -⟩ := blk2 B5.out; clear p00 p01 p10 p11 hsz4 ht0 ht1; have p00 := cell_blk x0 0; have p01 := cell_blk x0 1; have p10 := cell_blk x1 0; have p11 := cell_blk x1 1; clear x0 x1; have ht0 : w.heap.size < w5.heap.size := (by omega); have ht1 : w.heap.size + 1 < w5.heap.size := (by omega)) | (go_at_call 9; refine (laws_toEngine _ a1 len1 cap1 z1 _ (W1.out.below (blk2 B3.out).2.2.1) (by omega)).mono ?_; rintro e w4 ⟨v4, rfl, o4, b4⟩; rw [HZ1.out] at o4; have P4 := Lib.hid (own_keep b4 P3.out); have B4 := Lib.hid (Below.trans_size B3.out b4); have Q4 := Lib.hid o4; clear b4 o4; obtain ⟨x0, x1, -, hsz4, -⟩ := blk2 B4.out; clear p00 p01 p10 p11 hsz3 ht0 ht1; have p00 := cell_blk x0 0; have p01 := cell_blk x0 1; have p10 := cell_blk x1 0; have p11 := cell_blk x1 1; clear x0 x1; have ht0 : w.heap.size < w4.heap.size := (by omega); have ht1 : w.heap.size + 1 < w4.heap.size := (by omega)) | (go_at_call 9; refine (laws_toEngine _ a0 len0 cap0 z0 _ (W0.out.below (blk2 B2.out.drew).2.2.1) (by omega)).mono ?_; rintro e w3 ⟨v3, rfl, o3, b3⟩; rw [HZ0.out] at o3; have B3 := Lib.hid (Below.trans_size B2.out.drew b3); have P3 := Lib.hid o3; clear b3 o3; obtain ⟨x0, x1, -, hsz3, -⟩ := blk2 B3.out; clear p00 p01 p10 p11 hsz2 ht0 ht1; have p00 := cell_blk x0 0; have p01 := cell_blk x0 1; have p10 := cell_blk x1 0; have p11 := cell_blk x1 1; clear x0 x1; have ht0 : w.heap.size < w3.heap.size := (by omega); have ht1 : w.heap.size + 1 < w3.heap.size := (by omega)))
  go_wp2_with fail
  refine (laws_toEngine _ a0 len0 cap0 z0 _ (W0.out.below (blk2 B5.out).2.2.1) (by omega)).mono ?_; rintro e w6 ⟨v6, rfl, o6, b6⟩
  rw [HZ0.out] at o6
  have P6 := Lib.hid (own_keep b6 P5.out); have Q6 := Lib.hid (own_keep b6 Q5.out); have B6 := Lib.hid (Below.trans_size B5.out b6); have X6 := Lib.hid o6; obtain ⟨q6, c6, rfl, -, -⟩ := own_form o6; clear b6 o6
  obtain ⟨x0, x1, -, hsz6, -⟩ := blk2 B6.out
  clear p00 p01 p10 p11 hsz5 ht0 ht1; have p00 := cell_blk x0 0; have p01 := cell_blk x0 1; have p10 := cell_blk x1 0; have p11 := cell_blk x1 1; clear x0 x1
  have ht0 : w.heap.size < w6.heap.size := (by omega)
  have ht1 : w.heap.size + 1 < w6.heap.size := (by omega)
  go_wp2_with fail
  refine (laws_toEngine _ a1 len1 cap1 z1 _ (W1.out.below (blk2 (B6.out.alloc B6.out.size _)).2.2.1) (by omega)).mono ?_; rintro e w7 ⟨v7, rfl, o7, b7⟩
  rw [HZ1.out] at o7
  have P7 := Lib.hid (own_keep b7 (own_alloc P6.out _)); have Q7 := Lib.hid (own_keep b7 (own_alloc Q6.out _)); have X7 := Lib.hid (own_keep b7 (own_alloc X6.out _)); have B7 := Lib.hid (Below.trans_size (B6.out.alloc B6.out.size _) b7); have VX7 := Lib.hid b7; have Y7 := Lib.hid o7; obtain ⟨q7, c7, rfl, -, -⟩ := own_form o7; clear b7 o7
  obtain ⟨x0, x1, -, hsz7, -⟩ := blk2 B7.out
  clear p00 p01 p10 p11 hsz6 ht0 ht1; have p00 := cell_blk x0 0; have p01 := cell_blk x0 1; have p10 := cell_blk x1 0; have p11 := cell_blk x1 1; clear x0 x1
  have ht0 : w.heap.size < w7.heap.size := (by omega)
  have ht1 : w.heap.size + 1 < w7.heap.size := (by omega)
  obtain ⟨y0, -, hsvX, -⟩ := blk1 VX7.out; have rX0 := cell_blk y0 0; have rX1 := cell_blk y0 1; clear y0
  have huX : w6.heap.size < w7.heap.size := (by omega)
  go_wp2_with fail
  refine (impl_SameEngine _ _ _ (own_alloc X7.out _) (own_alloc Y7.out _)).mono ?_; rintro e w8 ⟨rfl, b8⟩
  have P8 := Lib.hid (own_keep b8 (own_alloc P7.out _)); have Q8 := Lib.hid (own_keep b8 (own_alloc Q7.out _)); have X8 := Lib.hid (own_keep b8 (own_alloc X7.out _)); have Y8 := Lib.hid (own_keep b8 (own_alloc Y7.out _)); have B8 := Lib.hid (Below.trans_size (B7.out.alloc B7.out.size _) b8); have VX8 := Lib.hid (Below.trans_size (VX7.out.alloc VX7.out.size _) b8); have VY8 := Lib.hid b8; clear b8
  obtain ⟨x0, x1, -, hsz8, -⟩ := blk2 B8.out
  clear p00 p01 p10 p11 hsz7 ht0 ht1 huX rX0 rX1 hsvX; have p00 := cell_blk x0 0; have p01 := cell_blk x0 1; have p10 := cell_blk x1 0; have p11 := cell_blk x1 1; clear x0 x1
  have ht0 : w.heap.size < w8.heap.size := (by omega)
  have ht1 : w.heap.size + 1 < w8.heap.size := (by omega)
  obtain ⟨y0, -, hsvX, -⟩ := blk1 VX8.out; have rX0 := cell_blk y0 0; have rX1 := cell_blk y0 1; clear y0
  have huX : w6.heap.size < w8.heap.size := (by omega)
  obtain ⟨y0, -, hsvY, -⟩ := blk1 VY8.out; have rY0 := cell_blk y0 0; have rY1 := cell_blk y0 1; clear y0
  have huY : w7.heap.size < w8.heap.size := (by omega)
  go_wp2_with fail
  go_region_held3 (fun w' => w'.cell? ⟨w.heap.size, 0, none⟩ = some (.int .i64 n0) ∧ w'.cell? ⟨w.heap.size, 1, none⟩ = some (.slice a0 len0 cap0) ∧ w'.cell? ⟨w.heap.size + 1, 0, none⟩ = some (.int .i64 n1) ∧ w'.cell? ⟨w.heap.size + 1, 1, none⟩ = some (.slice a1 len1 cap1) ∧ w'.cell? ⟨w6.heap.size, 0, none⟩ = some (.int .i64 n0) ∧ w'.cell? ⟨w6.heap.size, 1, none⟩ = some (.slice q6 Z0.length c6) ∧ w'.cell? ⟨w7.heap.size, 0, none⟩ = some (.int .i64 n1) ∧ w'.cell? ⟨w7.heap.size, 1, none⟩ = some (.slice q7 Z1.length c7)) (first | go_keep | (refine ⟨?_, ?_, ?_, ?_, ?_, ?_, ?_, ?_⟩ <;> assumption)) (first | (go_at_call 11; refine (laws_eqEngine _ _ X9.out U9.out).mono ?_; rintro e w10 ⟨rfl, b10⟩; have P10 := Lib.hid (own_keep b10 P9.out); have Q10 := Lib.hid (own_keep b10 Q9.out); have X10 := Lib.hid (own_keep b10 X9.out); have Y10 := Lib.hid (own_keep b10 Y9.out); have U10 := Lib.hid (own_keep b10 U9.out); have B10 := Lib.hid (Below.trans_size B9.out b10); have VX10 := Lib.hid (Below.trans_size VX9.out b10); have VY10 := Lib.hid (Below.trans_size VY9.out b10); clear b10; obtain ⟨x0, x1, -, hsz10, -⟩ := blk2 B10.out; clear p00 p01 p10 p11 hsz9 ht0 ht1 huX rX0 rX1 hsvX huY rY0 rY1 hsvY; have p00 := cell_blk x0 0; have p01 := cell_blk x0 1; have p10 := cell_blk x1 0; have p11 := cell_blk x1 1; clear x0 x1; have ht0 : w.heap.size < w10.heap.size := (by omega); have ht1 : w.heap.size + 1 < w10.heap.size := (by omega); obtain ⟨y0, -, hsvX, -⟩ := blk1 VX10.out; have rX0 := cell_blk y0 0; have rX1 := cell_blk y0 1; clear y0; have huX : w6.heap.size < w10.heap.size := (by omega); obtain ⟨y0, -, hsvY, -⟩ := blk1 VY10.out; have rY0 := cell_blk y0 0; have rY1 := cell_blk y0 1; clear y0; have huY : w7.heap.size < w10.heap.size := (by omega)) | (go_at_call 9; refine (laws_toEngine _ a0 len0 cap0 z0 _ (W0.out.below (blk2 B8.out.drew).2.2.1) (by omega)).mono ?_; rintro e w9 ⟨v9, rfl, o9, b9⟩; rw [HZ0.out] at o9; have P9 := Lib.hid (own_keep b9 (own_drew P8.out)); have Q9 := Lib.hid (own_keep b9 (own_drew Q8.out)); have X9 := Lib.hid (own_keep b9 (own_drew X8.out)); have Y9 := Lib.hid (own_keep b9 (own_drew Y8.out)); have B9 := Lib.hid (Below.trans_size B8.out.drew b9); have VX9 := Lib.hid (Below.trans_size VX8.out.drew b9); have VY9 := Lib.hid (Below.trans_size VY8.out.drew b9); have U9 := Lib.hid o9; clear b9 o9; obtain ⟨x0, x1, -, hsz9, -⟩ := blk2 B9.out; clear p00 p01 p10 p11 hsz8 ht0 ht1 huX rX0 rX1 hsvX huY rY0 rY1 hsvY; have p00 := cell_blk x0 0; have p01 := cell_blk x0 1; have p10 := cell_blk x1 0; have p11 := cell_blk x1 1; clear x0 x1; have ht0 : w.heap.size < w9.heap.size := (by omega); have ht1 : w.heap.size + 1 < w9.heap.size := (by omega); obtain ⟨y0, -, hsvX, -⟩ := blk1 VX9.out; have rX0 := cell_blk y0 0; have rX1 := cell_blk y0 1; clear y0; have huX : w6.heap.size < w9.heap.size := (by omega); obtain ⟨y0, -, hsvY, -⟩ := blk1 VY9.out; have rY0 := cell_blk y0 0; have rY1 := cell_blk y0 1; clear y0; have huY : w7.heap.size < w9.heap.size := (by omega)))
  go_wp2_with fail
  go_region_held3 (fun w' => w'.cell? ⟨w.heap.size, 0, none⟩ = some (.int .i64 n0) ∧ w'.cell? ⟨w.heap.size, 1, none⟩ = some (.slice a0 len0 cap0) ∧ w'.cell? ⟨w.heap.size + 1, 0, none⟩ = some (.int .i64 n1) ∧ w'.cell? ⟨w.heap.size + 1, 1, none⟩ = some (.slice a1 len1 cap1) ∧ w'.cell? ⟨w6.heap.size, 0, none⟩ = some (.int .i64 n0) ∧ w'.cell? ⟨w6.heap.size, 1, none⟩ = some (.slice q6 Z0.length c6) ∧ w'.cell? ⟨w7.heap.size, 0, none⟩ = some (.int .i64 n1) ∧ w'.cell? ⟨w7.heap.size, 1, none⟩ = some (.slice q7 Z1.length c7)) (first | go_keep | (refine ⟨?_, ?_, ?_, ?_, ?_, ?_, ?_, ?_⟩ <;> assumption)) (first | (go_at_call 11; refine (laws_eqEngine _ _ Y11.out V11.out).mono ?_; rintro e w12 ⟨rfl, b12⟩; have P12 := Lib.hid (own_keep b12 P11.out); have Q12 := Lib.hid (own_keep b12 Q11.out); have X12 := Lib.hid (own_keep b12 X11.out); have Y12 := Lib.hid (own_keep b12 Y11.out); have U12 := Lib.hid (own_keep b12 U11.out); have V12 := Lib.hid (own_keep b12 V11.out); have B12 := Lib.hid (Below.trans_size B11.out b12); have VX12 := Lib.hid (Below.trans_size VX11.out b12); have VY12 := Lib.hid (Below.trans_size VY11.out b12); clear b12; obtain ⟨x0, x1, -, hsz12, -⟩ := blk2 B12.out; clear p00 p01 p10 p11 hsz11 ht0 ht1 huX rX0 rX1 hsvX huY rY0 rY1 hsvY; have p00 := cell_blk x0 0; have p01 := cell_blk x0 1; have p10 := cell_blk x1 0; have p11 := cell_blk x1 1; clear x0 x1; have ht0 : w.heap.size < w12.heap.size := (by omega); have ht1 : w.heap.size + 1 < w12.heap.size := (by omega); obtain ⟨y0, -, hsvX, -⟩ := blk1 VX12.out; have rX0 := cell_blk y0 0; have rX1 := cell_blk y0 1; clear y0; have huX : w6.heap.size < w12.heap.size := (by omega); obtain ⟨y0, -, hsvY, -⟩ := blk1 VY12.out; have rY0 := cell_blk y0 0; have rY1 := cell_blk y0 1; clear y0; have huY : w7.heap.size < w12.heap.size := (by omega)) | (go_at_call 9; refine (laws_toEngine _ a1 len1 cap1 z1 _ (W1.out.below (blk2 B10.out.drew).2.2.1) (by omega)).mono ?_; rintro e w11 ⟨v11, rfl, o11, b11⟩; rw [HZ1.out] at o11; have P11 := Lib.hid (own_keep b11 (own_drew P10.out)); have Q11 := Lib.hid (own_keep b11 (own_drew Q10.out)); have X11 := Lib.hid (own_keep b11 (own_drew X10.out)); have Y11 := Lib.hid (own_keep b11 (own_drew Y10.out)); have U11 := Lib.hid (own_keep b11 (own_drew U10.out)); have B11 := Lib.hid (Below.trans_size B10.out.drew b11); have VX11 := Lib.hid (Below.trans_size VX10.out.drew b11); have VY11 := Lib.hid (Below.trans_size VY10.out.drew b11); have V11 := Lib.hid o11; clear b11 o11; obtain ⟨x0, x1, -, hsz11, -⟩ := blk2 B11.out; clear p00 p01 p10 p11 hsz10 ht0 ht1 huX rX0 rX1 hsvX huY rY0 rY1 hsvY; have p00 := cell_blk x0 0; have p01 := cell_blk x0 1; have p10 := cell_blk x1 0; have p11 := cell_blk x1 1; clear x0 x1; have ht0 : w.heap.size < w11.heap.size := (by omega); have ht1 : w.heap.size + 1 < w11.heap.size := (by omega); obtain ⟨y0, -, hsvX, -⟩ := blk1 VX11.out; have rX0 := cell_blk y0 0; have rX1 := cell_blk y0 1; clear y0; have huX : w6.heap.size < w11.heap.size := (by omega); obtain ⟨y0, -, hsvY, -⟩ := blk1 VY11.out; have rY0 := cell_blk y0 0; have rY1 := cell_blk y0 1; clear y0; have huY : w7.heap.size < w11.heap.size := (by omega)))
  go_wp2_with fail
  go_ret
  exact ⟨rfl, (blk2 B12.out).2.2.1⟩

set_option maxRecDepth 100000 in
theorem lifted (os : Os) (started : os.Started) (H : Type) (enc : TypeId × Value → H) :
    ReturnsInHanded {} Try.checked os 3 .any (Rows.fnExactSameEngineSpec.pre6 enc Try.prog Try.f3 Rows.fnExactSameEngineRow.domain false) (Rows.fnExactSameEngineSpec.post enc Try.prog Try.f3 false true false false) := by
  refine returnsInHanded_of_change (C := Try.checked) own started (by kernel_rfl) Try.func3
    (ChangeSpec.witness6 (enc := enc) (C := Try.checked) false ⟨#[], #[.agg #[.int .i64 0, .slice none 0 0], .agg #[.int .i64 0, .slice none 0 0]], []⟩ 8 (by kernel_rfl) (by kernel_rfl) (by kernel_rfl) (by kernel_rfl)) ?_
  intro W base args ds gs before hval0 hW hcnd _
  have hval : ∀ (j : Nat) t v, Try.f3.params[j]? = some t → args[j]? = some v → Value.okWide Try.prog W .any base t v := hval0
  have hW' := hW
  obtain ⟨p, q, hA0, hV, rfl, hfz, hnd⟩ := hW
  have hA : DataW.TrodAll enc Try.prog W 0 (fun _ => true) true Try.f3.params.toList args.toList ds p := hA0
  rw [Try.params3] at hA hval
  obtain ⟨v0, vs0, d0, ds0, p0, q0, hargs, rfl, rfl, h0, r0⟩ := trodAll_cons hA
  obtain ⟨v1, vs1, d1, ds1, p1, q1, rfl, rfl, rfl, h1, r1⟩ := trodAll_cons r0
  obtain ⟨rfl, rfl, rfl⟩ := trodAll_nil r1
  obtain rfl : args = #[v0, v1] := by cases args; simp_all
  obtain ⟨rfl, rfl⟩ := trodVars_none hV

  have k0 := h0
  have lt0 : ∀ x ∈ p0, x.block < W.heap.size := by obtain ⟨m, hm⟩ := k0; exact DataW.trod_lt m _ _ _ hm
  obtain ⟨c00, c01, y00, y01, m0, rfl, rfl, rfl, e00, e01⟩ := Go.Joins.open_agg2 Try.underlying24 (by kernel_rfl) (by kernel_rfl) (hval 0 24 v0 rfl rfl) h0
  obtain ⟨n0, q00, -, -⟩ := DataW.trod_int Try.underlying2 e00
  simp at q00; subst q00
  obtain ⟨a0, len0, cap0, z0, rfl, w0⟩ : ∃ a len cap zs, c01 = .slice a len cap ∧ IsRow .i64 W a len cap zs := by
    rcases open_ints Try.underlying22 Try.underlying2 (by kernel_rfl) e01 with ⟨hcs, _⟩ | ⟨x, l, c, zs, hcs, _, hl, hm, hz, _, hcell, hwz⟩
    · simp at hcs; exact ⟨none, 0, 0, [], hcs, .inl ⟨rfl, rfl, rfl, rfl⟩⟩
    · simp at hcs; exact ⟨some x, l, c, zs, hcs, .inr ⟨_, rfl, hl, hm, by simpa using hz, hcell, hwz⟩⟩

  have k1 := h1
  have lt1 : ∀ x ∈ p1, x.block < W.heap.size := by obtain ⟨m, hm⟩ := k1; exact DataW.trod_lt m _ _ _ hm
  obtain ⟨c10, c11, y10, y11, m1, rfl, rfl, rfl, e10, e11⟩ := Go.Joins.open_agg2 Try.underlying24 (by kernel_rfl) (by kernel_rfl) (hval 1 24 v1 rfl rfl) h1
  obtain ⟨n1, q10, -, -⟩ := DataW.trod_int Try.underlying2 e10
  simp at q10; subst q10
  obtain ⟨a1, len1, cap1, z1, rfl, w1⟩ : ∃ a len cap zs, c11 = .slice a len cap ∧ IsRow .i64 W a len cap zs := by
    rcases open_ints Try.underlying22 Try.underlying2 (by kernel_rfl) e11 with ⟨hcs, _⟩ | ⟨x, l, c, zs, hcs, _, hl, hm, hz, _, hcell, hwz⟩
    · simp at hcs; exact ⟨none, 0, 0, [], hcs, .inl ⟨rfl, rfl, rfl, rfl⟩⟩
    · simp at hcs; exact ⟨some x, l, c, zs, hcs, .inr ⟨_, rfl, hl, hm, by simpa using hz, hcell, hwz⟩⟩
  clear hA0 hval0
  refine (walk n0 a0 len0 cap0 z0 n1 a1 len1 cap1 z1 W w0 w1).mono fun e W' ⟨he, bel⟩ => ?_
  subst he
  exact ⟨_, rfl, _, _, _, [], _, [], hW', trodAll_mk1 (shut_bool Try.underlying4 _), (trodAll_cons_mk (Below.trod laidOut (by kernel_rfl) (of_decide_eq_true (by kernel_rfl)) k0 bel lt0) (trodAll_cons_mk (Below.trod laidOut (by kernel_rfl) (of_decide_eq_true (by kernel_rfl)) k1 bel lt1) trodAll_mk0)), rfl, bel.frame _, fun h => by cases h⟩

theorem over : Rows.fnExactSameEngineRow.holds Try.pinned (OpenSpec.ofChange Rows.fnExactSameEngineSpec) :=
  OpenClaim.holds_of_wide 3 Try.f3 rfl rfl rfl rfl rfl rfl rfl ⟨rfl, rfl, rfl, rfl, rfl⟩ rfl rfl rfl rfl rfl (by kernel_rfl) Try.func3 (by kernel_rfl)
    (of_decide_eq_true (by kernel_rfl)) (by unfold Func.isWrapper; first | (rw [if_pos (by decide +kernel)]; kernel_rfl) | (rw [if_neg (by decide +kernel)]; exact ⟨rfl, rfl⟩))
    (fun os started H enc _ => lifted os started H enc)

theorem proved : Rows.FnExactSameEngineSaid := over
#print axioms proved
end Go.Proofs.Ytknpjibdnjpamaa.fnExactSameEngine
