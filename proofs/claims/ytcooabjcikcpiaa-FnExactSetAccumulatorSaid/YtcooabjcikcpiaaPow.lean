/- The functions that reckon powers of a base return the same plain functions. -/
import Derived.IntWalk
import Derived.Test.YtcooabjcikcpiaaBase
import Derived.Test.YtcooabjcikcpiaaPowP
namespace Go.Proofs.Ytcooabjcikcpiaa
open Go.ChangeShapes Go.WideShapes Go.ChangeAt Go.RowKit
theorem imin_lpow (b : Int) (n : Nat) : imin 1000000000002 (lpow b n * b) = lpow b (n + 1) := rfl
theorem spec_l10Power (b n : Int) (w : World) (h1 : 2 ≤ b) (h2 : b ≤ 16) (h3 : 0 ≤ n) (h4 : n ≤ 16) :
    Calls Try.prog 70 #[.int .i64 b, .int .i64 n] w fun e w' => e = .returned (.int .i64 (lpow b n.toNat)) ∧ w = w' := by
  go_enter Try.func70, Try.ntmps70
  go_wp2_with fail
  go_loop [1, 5] (fun m o => ∃ j : Nat, (j : Int) ≤ n ∧ m = .int .i64 (n - j) ∧ o = .int .i64 (lpow b j)) (fun m _ => (intOf m).toNat)
  case atStart => exact ⟨0, by omega, by simp, rfl⟩
  case round =>
    obtain ⟨j, hj, rfl, rfl⟩ := hrel
    obtain ⟨b1, b2, b3, b4⟩ := lpow_bd h1 h2 j
    by_cases hlt : (j : Int) < n
    · go_wp2_with (go_at_call 84; refine (spec_l00Min _ _ _).mono ?_; rintro e w' ⟨rfl, rfl⟩; rw [imin_lpow])
      go_round
      case rel => exact ⟨j + 1, by omega, by go_num, rfl⟩
      case measure => simp [intOf]; omega
    · go_wp2
      go_ret
      exact ⟨ret_int (by rw [show n.toNat = j from by omega]), rfl⟩
theorem impl_power (b n : Int) (w : World) (h1 : 2 ≤ b) (h2 : b ≤ 16) (h3 : 0 ≤ n) (h4 : n ≤ 16) :
    Calls Try.prog 71 #[.int .i64 b, .int .i64 n] w fun e w' => e = .returned (.int .i64 (ppow b n.toNat)) ∧ w = w' := by
  go_enter Try.func71, Try.ntmps71
  go_wp2_with fail
  go_loop [5, 7] (fun m i => ∃ j : Nat, (j : Int) ≤ n ∧ i = .int .i64 j ∧ m = .int .i64 (ipow b j) ∧ ipow b j - 1 ≤ 1000000000000) (fun _ i => 20 - (intOf i).toNat)
  case atStart => exact ⟨0, by omega, rfl, rfl, by simp [ipow]⟩
  case round =>
    obtain ⟨j, hj, rfl, rfl, hb⟩ := hrel
    have p1 := ipow_pos h1 j
    have p2 := ipow_pos h1 (j + 1)
    have p3 : ipow b j * b ≤ 16000000000032 := by
      have := Int.mul_le_mul_of_nonneg_left h2 (show 0 ≤ ipow b j by omega); omega
    by_cases hlt : (j : Int) < n
    · have E : ipow b (j + 1) = ipow b j * b := rfl
      rw [E] at p2; clear E
      by_cases hbig : 1000000000000 < ipow b j * b - 1
      · have HF : Hid (ppow b n.toNat = 0) := if_pos (by have := ipow_le h1 (show j + 1 ≤ n.toNat by omega); have E : ipow b (j + 1) = ipow b j * b := rfl; omega)
        go_wp2
        go_ret
        exact ⟨ret_int HF.out.symm, rfl⟩
      · go_wp2
        go_round
        case rel => exact ⟨j + 1, by omega, by go_num, rfl, by show ipow b j * b - 1 ≤ _; omega⟩
        case measure => simp [intOf]; omega
    · have HF : Hid (ppow b n.toNat = ipow b j) := by
        show ppow b n.toNat = _
        rw [show n.toNat = j from by omega]; exact if_neg (by omega)
      go_wp2
      go_ret
      exact ⟨ret_int HF.out.symm, rfl⟩
def numOf (b n : Int) : Int := if inB b 2 16 && inB n 1 16 then ppow b n.toNat else 0
theorem impl_numbersOf (b n : Int) (w : World) :
    Calls Try.prog 42 #[.int .i64 b, .int .i64 n] w fun e w' => e = .returned (.int .i64 (numOf b n)) ∧ w = w' := by
  cases h1 : inB b 2 16
  · rw [show numOf b n = 0 from by simp [numOf, h1]]
    go_enter Try.func42, Try.ntmps42
    go_wp2_with (first | (go_at_call 59; refine (impl_isBase _ _).mono ?_; rintro e w' ⟨rfl, rfl⟩) | (go_at_call 60; refine (impl_isRegisterWidth _ _).mono ?_; rintro e w' ⟨rfl, rfl⟩))
    go_ret
    exact ⟨rfl, rfl⟩
  cases h2 : inB n 1 16
  · rw [show numOf b n = 0 from by simp [numOf, h2]]
    go_enter Try.func42, Try.ntmps42
    go_wp2_with (first | (go_at_call 59; refine (impl_isBase _ _).mono ?_; rintro e w' ⟨rfl, rfl⟩) | (go_at_call 60; refine (impl_isRegisterWidth _ _).mono ?_; rintro e w' ⟨rfl, rfl⟩))
    go_ret
    exact ⟨rfl, rfl⟩
  obtain ⟨a1, a2⟩ := inB_iff.1 h1
  obtain ⟨b1, b2⟩ := inB_iff.1 h2
  rw [show numOf b n = ppow b n.toNat from by simp [numOf, h1, h2]]
  go_enter Try.func42, Try.ntmps42
  go_wp2_with (first | (go_at_call 59; refine (impl_isBase _ _).mono ?_; rintro e w' ⟨rfl, rfl⟩) | (go_at_call 60; refine (impl_isRegisterWidth _ _).mono ?_; rintro e w' ⟨rfl, rfl⟩) | (go_at_call 71; refine (impl_power _ _ _ a1 a2 (by omega) b2).mono ?_; rintro e w' ⟨rfl, rfl⟩))
  go_ret
  exact ⟨rfl, rfl⟩
theorem spec_l10Full (b n : Int) (w : World) (h1 : 2 ≤ b) (h2 : b ≤ 16) (h3 : 0 ≤ n) (h4 : n ≤ 16) :
    Calls Try.prog 68 #[.int .i64 b, .int .i64 n] w fun e w' => e = .returned (.bool (decide (ipow b n.toNat - 1 ≤ 1000000000000))) ∧ w = w' := by
  have hb := lpow_bd h1 h2 n.toNat
  obtain ⟨b1, b2, _, _⟩ := hb
  by_cases hf : ipow b n.toNat - 1 ≤ 1000000000000
  · have he := (lpow_ppow h1 _ hf).1
    have hc : lpow b n.toNat - 1 ≤ 1000000000000 := by omega
    have HF : Hid (decide (ipow b n.toNat - 1 ≤ 1000000000000) = true) := decide_eq_true hf
    rw [HF.out]; clear he hf
    go_enter Try.func68, Try.ntmps68
    go_wp2_with (go_at_call 70; refine (spec_l10Power _ _ _ h1 h2 h3 h4).mono ?_; rintro e w' ⟨rfl, rfl⟩)
    go_ret
    exact ⟨by first | (simp; done) | (simp; omega), rfl⟩
  · have hc := (lpow_big h1 _ hf).1
    have HF : Hid (decide (ipow b n.toNat - 1 ≤ 1000000000000) = false) := decide_eq_false hf
    rw [HF.out]; clear hf
    go_enter Try.func68, Try.ntmps68
    go_wp2_with (go_at_call 70; refine (spec_l10Power _ _ _ h1 h2 h3 h4).mono ?_; rintro e w' ⟨rfl, rfl⟩)
    go_ret
    exact ⟨by first | (simp; done) | (simp; omega), rfl⟩
/-- there are accumulators with this base and width -/
def accOk (b n : Int) : Bool := inB b 2 16 && inB n 1 16 && decide (ipow b n.toNat - 1 ≤ 1000000000000)
theorem spec_l09Size (b n : Int) (w : World) :
    Calls Try.prog 39 #[.int .i64 b, .int .i64 n] w fun e w' => e = .returned (.bool (accOk b n)) ∧ w = w' := by
  cases h1 : inB b 2 16
  · rw [show accOk b n = false from by simp [accOk, h1]]
    go_enter Try.func39, Try.ntmps39
    go_wp2_with (first | (go_at_call 55; refine (spec_l02Base _ _).mono ?_; rintro e w' ⟨rfl, rfl⟩) | (go_at_call 67; refine (spec_l00In _ _ _ _).mono ?_; rintro e w' ⟨rfl, rfl⟩))
    all_goals go_ret
    all_goals exact ⟨rfl, rfl⟩
  cases h2 : inB n 1 16
  · rw [show accOk b n = false from by simp [accOk, h2]]
    go_enter Try.func39, Try.ntmps39
    go_wp2_with (first | (go_at_call 55; refine (spec_l02Base _ _).mono ?_; rintro e w' ⟨rfl, rfl⟩) | (go_at_call 67; refine (spec_l00In _ _ _ _).mono ?_; rintro e w' ⟨rfl, rfl⟩))
    all_goals go_ret
    all_goals exact ⟨rfl, rfl⟩
  obtain ⟨a1, a2⟩ := inB_iff.1 h1
  obtain ⟨b1, b2⟩ := inB_iff.1 h2
  have HF : Hid (accOk b n = decide (ipow b n.toNat - 1 ≤ 1000000000000)) := by show accOk b n = _; simp [accOk, h1, h2]
  rw [HF.out]
  generalize hd : decide (ipow b n.toNat - 1 ≤ 1000000000000) = dd
  have HD := Lib.hid hd; clear hd
  go_enter Try.func39, Try.ntmps39
  go_wp2_with (first | (go_at_call 55; refine (spec_l02Base _ _).mono ?_; rintro e w' ⟨rfl, rfl⟩) | (go_at_call 67; refine (spec_l00In _ _ _ _).mono ?_; rintro e w' ⟨rfl, rfl⟩) | (go_at_call 68; refine (spec_l10Full _ _ _ a1 a2 (by omega) b2).mono ?_; rintro e w' ⟨rfl, rfl⟩; rw [HD.out]))
  all_goals go_ret
  all_goals exact ⟨rfl, rfl⟩
theorem spec_l09Low (b n : Int) (w : World) (h1 : 2 ≤ b) (h2 : b ≤ 16) (h3 : 0 ≤ n) (h4 : n ≤ 16) :
    Calls Try.prog 69 #[.int .i64 b, .int .i64 n] w fun e w' => e = .returned (.int .i64 (lpow b n.toNat / 2)) ∧ w = w' := by
  obtain ⟨b1, b2, _, _⟩ := lpow_bd h1 h2 n.toNat
  go_enter Try.func69, Try.ntmps69
  go_wp2_with (go_at_call 70; refine (spec_l10Power _ _ _ h1 h2 h3 h4).mono ?_; rintro e w' ⟨rfl, rfl⟩)
  go_ret
  exact ⟨rfl, rfl⟩
end Go.Proofs.Ytcooabjcikcpiaa
