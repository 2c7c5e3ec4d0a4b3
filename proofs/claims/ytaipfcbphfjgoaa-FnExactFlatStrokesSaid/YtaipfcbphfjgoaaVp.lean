/- ValidProgram: a list of instructions is a program: both packages return the same plain function. -/
import Derived.IntWalk
import Derived.Deep.QuietTactic
import Derived.BigQuiet
import Derived.Test.YtaipfcbphfjgoaaPrg
namespace Go.Proofs.Ytaipfcbphfjgoaa
open Go.ChangeShapes Go.WideShapes Go.ChangeAt Go.RowKit
def opensB (op : Int) : Bool := op == 8 || op == 9
def argB (op n : Int) : Bool := if op = 1 then inB n 0 1000000000000 else if op = 2 ∨ op = 3 ∨ op = 4 ∨ op = 5 ∨ op = 8 then inB n 1 100 else n == 0
def okI (op n : Int) : Bool := inB op 1 10 && argB op n
def nextD (op d : Int) : Int := if opensB op then d + 1 else if op = 10 then d - 1 else d
def dStep (d op n : Int) : Option Int := if okI op n && inB (nextD op d) 0 4 then some (nextD op d) else none
def depthAt (zs : List Int) : Nat → Option Int
  | 0 => some 0
  | j + 1 => (depthAt zs j).bind fun d => dStep d (nth zs (j * 2)) (nth zs (j * 2 + 1))
def validP (zs : List Int) : Bool := decide (depthAt zs (zs.length / 2) = some 0) && decide (zs.length / 2 ≤ 120)
theorem depthAt_none {zs : List Int} {j : Nat} (h : depthAt zs j = none) : ∀ k, depthAt zs (j + k) = none := by
  intro k
  induction k with
  | zero => exact h
  | succ k ih => show (depthAt zs (j + k)).bind _ = none; rw [ih]; rfl
theorem valid_fail {zs : List Int} {j n : Nat} (hn : zs.length = n * 2) (hj : j ≤ n) (h : depthAt zs j = none) : validP zs = false := by
  have e := depthAt_none h (n - j)
  rw [show j + (n - j) = n by omega] at e
  unfold validP
  rw [show zs.length / 2 = n by omega, e]; rfl
theorem depth_step {zs : List Int} {j : Nat} {d : Int} (h : depthAt zs j = some d) : depthAt zs (j + 1) = dStep d (nth zs (j * 2)) (nth zs (j * 2 + 1)) := by
  show (depthAt zs j).bind _ = _; rw [h]; rfl
theorem dStep_some {d op n : Int} (h1 : okI op n = true) (h2 : 0 ≤ nextD op d) (h3 : nextD op d ≤ 4) : dStep d op n = some (nextD op d) := by
  unfold dStep; rw [h1, inB_iff.2 ⟨h2, h3⟩]; rfl
theorem dStep_none1 {d op n : Int} (h1 : okI op n = false) : dStep d op n = none := by unfold dStep; rw [h1]; rfl
theorem dStep_none2 {d op n : Int} (h1 : nextD op d < 0 ∨ 4 < nextD op d) : dStep d op n = none := by
  unfold dStep
  rw [show inB (nextD op d) 0 4 = false from by rw [Bool.eq_false_iff]; intro h; have := inB_iff.1 h; omega]
  simp
theorem valid_done {zs : List Int} {n : Nat} {d : Int} (hn : zs.length = n * 2) (h : depthAt zs n = some d) : validP zs = (decide (d = 0) && decide ((n : Int) ≤ 120)) := by
  unfold validP
  rw [show zs.length / 2 = n by omega, h]
  congr 1
  · simp
  · simp; omega
theorem nextD_of {op d : Int} : (opensB op = true → nextD op d = d + 1) ∧ (op = 10 → nextD op d = d - 1) ∧ (opensB op = false → op ≠ 10 → nextD op d = d) := by
  refine ⟨fun h => by simp [nextD, h], fun h => by subst h; rfl, fun h h2 => by simp [nextD, h, h2]⟩
theorem wpv_low (w : World) (a b : Obj) : Below w.heap.size w ((w.alloc a).alloc b) := ((Below.refl _ _).alloc (Nat.le_refl _) a).alloc (by simp) b
theorem below_a1 (w : World) (o : Obj) : Below w.heap.size w (w.alloc o) := (Below.refl _ _).alloc (Nat.le_refl _) o
theorem ret_bd {c d : Bool} (h2 : c = d) : Ending.returned (.bool c) = .returned (.bool d) := by rw [h2]
set_option maxHeartbeats 2000000 in
theorem impl_isInstr (op n : Int) (w : World) : Calls Try.prog 42 #[.agg #[.int .i64 op, .int .i64 n]] w (RetV w (.bool (okI op n))) := by
  by_cases h1 : op = 1
  · subst h1
    go_enter Try.func42, Try.ntmps42
    go_wp2_with fail
    refine (impl_between _ _ _ _).mono ?_; rintro e w1 ⟨rfl, rfl⟩
    go_wp2_with fail
    go_ret
    exact ⟨by simp [okI, argB, inB], by first | exact below_a1 _ _⟩
  by_cases h2 : op = 2
  · subst h2
    go_enter Try.func42, Try.ntmps42
    go_wp2_with fail
    refine (impl_between _ _ _ _).mono ?_; rintro e w1 ⟨rfl, rfl⟩
    go_wp2_with fail
    go_ret
    exact ⟨by simp [okI, argB, inB], by first | exact below_a1 _ _⟩
  by_cases h3 : op = 3
  · subst h3
    go_enter Try.func42, Try.ntmps42
    go_wp2_with fail
    refine (impl_between _ _ _ _).mono ?_; rintro e w1 ⟨rfl, rfl⟩
    go_wp2_with fail
    go_ret
    exact ⟨by simp [okI, argB, inB], by first | exact below_a1 _ _⟩
  by_cases h4 : op = 4
  · subst h4
    go_enter Try.func42, Try.ntmps42
    go_wp2_with fail
    refine (impl_between _ _ _ _).mono ?_; rintro e w1 ⟨rfl, rfl⟩
    go_wp2_with fail
    go_ret
    exact ⟨by simp [okI, argB, inB], by first | exact below_a1 _ _⟩
  by_cases h5 : op = 5
  · subst h5
    go_enter Try.func42, Try.ntmps42
    go_wp2_with fail
    refine (impl_between _ _ _ _).mono ?_; rintro e w1 ⟨rfl, rfl⟩
    go_wp2_with fail
    go_ret
    exact ⟨by simp [okI, argB, inB], by first | exact below_a1 _ _⟩
  by_cases h6 : op = 6
  · subst h6
    go_enter Try.func42, Try.ntmps42
    go_wp2_with fail
    go_ret
    exact ⟨by simp [okI, argB, inB], by first | exact below_a1 _ _⟩
  by_cases h7 : op = 7
  · subst h7
    go_enter Try.func42, Try.ntmps42
    go_wp2_with fail
    go_ret
    exact ⟨by simp [okI, argB, inB], by first | exact below_a1 _ _⟩
  by_cases h8 : op = 8
  · subst h8
    go_enter Try.func42, Try.ntmps42
    go_wp2_with fail
    refine (impl_between _ _ _ _).mono ?_; rintro e w1 ⟨rfl, rfl⟩
    go_wp2_with fail
    go_ret
    exact ⟨by simp [okI, argB, inB], by first | exact below_a1 _ _⟩
  by_cases h9 : op = 9
  · subst h9
    go_enter Try.func42, Try.ntmps42
    go_wp2_with fail
    go_ret
    exact ⟨by simp [okI, argB, inB], by first | exact below_a1 _ _⟩
  by_cases h10 : op = 10
  · subst h10
    go_enter Try.func42, Try.ntmps42
    go_wp2_with fail
    go_ret
    exact ⟨by simp [okI, argB, inB], by first | exact below_a1 _ _⟩
  have HR := Lib.hid (show okI op n = false from by unfold okI; rw [show inB op 1 10 = false from by rw [Bool.eq_false_iff]; intro h; have := inB_iff.1 h; omega]; rfl)
  go_enter Try.func42, Try.ntmps42
  go_wp2_with fail
  go_ret
  exact ⟨ret_bd HR.out.symm, below_a1 _ _⟩
set_option maxHeartbeats 1000000 in
theorem impl_begins (op n : Int) (w : World) : Calls Try.prog 47 #[.agg #[.int .i64 op, .int .i64 n]] w (RetV w (.bool (opensB op))) := by
  by_cases h8 : op = 8
  · subst h8
    go_enter Try.func47, Try.ntmps47
    go_wp2_with fail
    go_ret
    exact ⟨rfl, below_a1 _ _⟩
  by_cases h9 : op = 9
  · subst h9
    go_enter Try.func47, Try.ntmps47
    go_wp2_with fail
    go_ret
    exact ⟨rfl, below_a1 _ _⟩
  have HR := Lib.hid (show opensB op = false from by simp [opensB, h8, h9])
  go_enter Try.func47, Try.ntmps47
  go_wp2_with fail
  go_ret
  exact ⟨rfl, below_a1 _ _⟩
def dbF (op d : Int) : Int := if op = 10 then (if d = 0 then 4 else 0) else if opensB op then (if d = 4 then 5 else 0) else 0
def dbD (op d : Int) : Int := if op = 10 then (if d = 0 then 0 else d - 1) else if opensB op then (if d = 4 then d else d + 1) else d
theorem ret_t2 {a b c d : Int} (h1 : a = c) (h2 : b = d) : Ending.returned (.tuple #[.int .i64 a, .int .i64 b]) = .returned (.tuple #[.int .i64 c, .int .i64 d]) := by rw [h1, h2]
set_option maxHeartbeats 2000000 in
theorem impl_depthBehind (op n d : Int) (w : World) (hd0 : 0 ≤ d) (hd4 : d ≤ 4) : Calls Try.prog 43 #[.agg #[.int .i64 op, .int .i64 n], .int .i64 d] w (RetV w (.tuple #[.int .i64 (dbD op d), .int .i64 (dbF op d)])) := by
  by_cases h10 : op = 10
  · subst h10
    by_cases h0 : d = 0
    · subst h0
      go_enter Try.func43, Try.ntmps43
      go_wp2_with fail
      refine bodyPost_ret (v := .tuple #[.int .i64 0, .int .i64 4]) (by simp [results, Try.results43, go_sem, *]) rfl ?_
      exact ⟨rfl, below_a1 _ _⟩
    · have HD := Lib.hid (show dbD 10 d = d - 1 from by simp [dbD, h0]); have HF := Lib.hid (show dbF 10 d = 0 from by simp [dbF, h0])
      go_enter Try.func43, Try.ntmps43
      go_wp2_with fail
      refine bodyPost_ret (v := .tuple #[.int .i64 (d - 1), .int .i64 0]) (by simp [results, Try.results43, go_sem, *]) rfl ?_
      exact ⟨ret_t2 HD.out.symm HF.out.symm, below_a1 _ _⟩
  · cases ho : opensB op
    · have HO := Lib.hid ho
      have HD := Lib.hid (show dbD op d = d from by simp [dbD, h10, ho]); have HF := Lib.hid (show dbF op d = 0 from by simp [dbF, h10, ho])
      clear ho
      go_enter Try.func43, Try.ntmps43
      go_wp2_with fail
      refine (impl_begins _ _ _).mono ?_; rintro e w1 ⟨rfl, b1⟩; rw [HO.out]
      obtain ⟨x0, bw1, s1, -⟩ := blk1 b1
      have c0 := cell_blk x0 0; have c1 := cell_blk x0 1
      have lt1 : w.heap.size < w1.heap.size := (by omega)
      have BW1 := Lib.hid bw1; have B1 := Lib.hid b1; clear b1 bw1
      go_wp2_with fail
      refine (impl_begins _ _ _).mono ?_; rintro e w2 ⟨rfl, b2⟩; rw [HO.out]
      have B2 := Lib.hid (Below.trans_size BW1.out b2); clear b2
      go_wp2_with fail
      refine bodyPost_ret (v := .tuple #[.int .i64 d, .int .i64 0]) (by simp [results, Try.results43, go_sem, *]) rfl ?_
      exact ⟨ret_t2 HD.out.symm HF.out.symm, B2.out⟩
    · have HO := Lib.hid ho
      by_cases h4 : d = 4
      · subst h4
        have HD := Lib.hid (show dbD op 4 = 4 from by simp [dbD, h10, ho]); have HF := Lib.hid (show dbF op 4 = 5 from by simp [dbF, h10, ho])
        clear ho
        go_enter Try.func43, Try.ntmps43
        go_wp2_with fail
        refine (impl_begins _ _ _).mono ?_; rintro e w1 ⟨rfl, b1⟩; rw [HO.out]
        have BW1 := Lib.hid (blk1 b1).2.1; clear b1
        go_wp2_with fail
        refine bodyPost_ret (v := .tuple #[.int .i64 4, .int .i64 5]) (by simp [results, Try.results43, go_sem, *]) rfl ?_
        exact ⟨ret_t2 HD.out.symm HF.out.symm, BW1.out⟩
      · have HD := Lib.hid (show dbD op d = d + 1 from by simp [dbD, h10, ho, h4]); have HF := Lib.hid (show dbF op d = 0 from by simp [dbF, h10, ho, h4])
        clear ho
        go_enter Try.func43, Try.ntmps43
        go_wp2_with fail
        refine (impl_begins _ _ _).mono ?_; rintro e w1 ⟨rfl, b1⟩; rw [HO.out]
        obtain ⟨x0, bw1, s1, -⟩ := blk1 b1
        have c0 := cell_blk x0 0; have c1 := cell_blk x0 1
        have lt1 : w.heap.size < w1.heap.size := (by omega)
        have BW1 := Lib.hid bw1; have B1 := Lib.hid b1; clear b1 bw1
        go_wp2_with fail
        refine (impl_begins _ _ _).mono ?_; rintro e w2 ⟨rfl, b2⟩; rw [HO.out]
        have B2 := Lib.hid (Below.trans_size BW1.out b2); clear b2
        go_wp2_with fail
        refine bodyPost_ret (v := .tuple #[.int .i64 (d + 1), .int .i64 0]) (by simp [results, Try.results43, go_sem, *]) rfl ?_
        exact ⟨ret_t2 HD.out.symm HF.out.symm, B2.out⟩
theorem spec_l11Opens (op : Int) (w : World) : Calls Try.prog 44 #[.int .i64 op] w fun e w' => e = .returned (.bool (opensB op)) ∧ w = w' := by
  by_cases h8 : op = 8
  · subst h8
    go_enter Try.func44, Try.ntmps44
    go_wp2_with fail
    go_ret
    exact ⟨rfl, rfl⟩
  by_cases h9 : op = 9
  · subst h9
    go_enter Try.func44, Try.ntmps44
    go_wp2_with fail
    go_ret
    exact ⟨rfl, rfl⟩
  have HR := Lib.hid (show opensB op = false from by simp [opensB, h8, h9])
  go_enter Try.func44, Try.ntmps44
  go_wp2_with fail
  go_ret
  exact ⟨rfl, rfl⟩
set_option maxHeartbeats 2000000 in
theorem spec_l11Arg (op n : Int) (w : World) : Calls Try.prog 52 #[.int .i64 op, .int .i64 n] w fun e w' => e = .returned (.bool (argB op n)) ∧ w = w' := by
  by_cases h1 : op = 1
  · subst h1
    go_enter Try.func52, Try.ntmps52
    go_wp2_with fail
    refine (spec_l00In _ _ _ _).mono ?_; rintro e w1 ⟨rfl, rfl⟩
    go_wp2_with fail
    go_ret
    exact ⟨by simp [argB, inB], rfl⟩
  by_cases h2 : op = 2
  · subst h2
    go_enter Try.func52, Try.ntmps52
    go_wp2_with fail
    refine (spec_l00In _ _ _ _).mono ?_; rintro e w1 ⟨rfl, rfl⟩
    go_wp2_with fail
    go_ret
    exact ⟨by simp [argB, inB], rfl⟩
  by_cases h3 : op = 3
  · subst h3
    go_enter Try.func52, Try.ntmps52
    go_wp2_with fail
    refine (spec_l00In _ _ _ _).mono ?_; rintro e w1 ⟨rfl, rfl⟩
    go_wp2_with fail
    go_ret
    exact ⟨by simp [argB, inB], rfl⟩
  by_cases h4 : op = 4
  · subst h4
    go_enter Try.func52, Try.ntmps52
    go_wp2_with fail
    refine (spec_l00In _ _ _ _).mono ?_; rintro e w1 ⟨rfl, rfl⟩
    go_wp2_with fail
    go_ret
    exact ⟨by simp [argB, inB], rfl⟩
  by_cases h5 : op = 5
  · subst h5
    go_enter Try.func52, Try.ntmps52
    go_wp2_with fail
    refine (spec_l00In _ _ _ _).mono ?_; rintro e w1 ⟨rfl, rfl⟩
    go_wp2_with fail
    go_ret
    exact ⟨by simp [argB, inB], rfl⟩
  by_cases h8 : op = 8
  · subst h8
    go_enter Try.func52, Try.ntmps52
    go_wp2_with fail
    refine (spec_l00In _ _ _ _).mono ?_; rintro e w1 ⟨rfl, rfl⟩
    go_wp2_with fail
    go_ret
    exact ⟨by simp [argB, inB], rfl⟩
  have HR := Lib.hid (show argB op n = (n == 0) from by simp [argB, h1, h2, h3, h4, h5, h8])
  go_enter Try.func52, Try.ntmps52
  go_wp2_with fail
  go_ret
  exact ⟨ret_bd (by rw [HR.out]), rfl⟩
end Go.Proofs.Ytaipfcbphfjgoaa
