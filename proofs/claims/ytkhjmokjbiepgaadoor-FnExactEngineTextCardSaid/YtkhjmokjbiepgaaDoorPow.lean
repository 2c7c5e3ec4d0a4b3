/- The functions that reckon powers of a base return the same plain functions. -/
import Derived.IntWalk
import Derived.Test.YtkhjmokjbiepgaaDoorBase
import Derived.Test.YtkhjmokjbiepgaaDoorPowP
namespace Go.Proofs.YtkhjmokjbiepgaaDoor
open Go.ChangeShapes Go.WideShapes Go.ChangeAt Go.RowKit
theorem imin_lpow (b : Int) (n : Nat) : imin 1000000000002 (lpow b n * b) = lpow b (n + 1) := rfl
theorem spec_l10Power (b n : Int) (w : World) (h1 : 2 ≤ b) (h2 : b ≤ 16) (h3 : 0 ≤ n) (h4 : n ≤ 16) :
    Calls Tryd.prog 51 #[.int .i64 b, .int .i64 n] w fun e w' => e = .returned (.int .i64 (lpow b n.toNat)) ∧ w = w' := by
  go_enter Tryd.func51, Tryd.ntmps51
  go_wp2_with fail
  go_loop [1, 5] (fun m o => ∃ j : Nat, (j : Int) ≤ n ∧ m = .int .i64 (n - j) ∧ o = .int .i64 (lpow b j)) (fun m _ => (intOf m).toNat)
  case atStart => exact ⟨0, by omega, by simp, rfl⟩
  case round =>
    obtain ⟨j, hj, rfl, rfl⟩ := hrel
    obtain ⟨b1, b2, b3, b4⟩ := lpow_bd h1 h2 j
    by_cases hlt : (j : Int) < n
    · go_wp2_with (go_at_call 59; refine (spec_l00Min _ _ _).mono ?_; rintro e w' ⟨rfl, rfl⟩; rw [imin_lpow])
      go_round
      case rel => exact ⟨j + 1, by omega, by go_num, rfl⟩
      case measure => simp [intOf]; omega
    · go_wp2
      go_ret
      exact ⟨ret_int (by rw [show n.toNat = j from by omega]), rfl⟩
theorem impl_modulus (n : Int) (w : World) (h3 : 0 ≤ n) (h4 : n ≤ 12) :
    Calls Tryd.prog 54 #[.int .i64 n] w fun e w' => e = .returned (.int .i64 (ipow 10 n.toNat)) ∧ w = w' := by
  go_enter Tryd.func54, Tryd.ntmps54
  go_wp2_with fail
  go_loop [3, 5] (fun m i => ∃ j : Nat, (j : Int) ≤ n ∧ i = .int .i64 j ∧ m = .int .i64 (ipow 10 j)) (fun _ i => 20 - (intOf i).toNat)
  case atStart => exact ⟨0, by omega, rfl, rfl⟩
  case round =>
    obtain ⟨j, hj, rfl, rfl⟩ := hrel
    obtain ⟨_, b1, b2⟩ := ten_bd (n := j) (by omega)
    by_cases hlt : (j : Int) < n
    · go_wp2
      go_round
      case rel => exact ⟨j + 1, by omega, by go_num, rfl⟩
      case measure => simp [intOf]; omega
    · go_wp2
      go_ret
      exact ⟨ret_int (by rw [show n.toNat = j from by omega]), rfl⟩
end Go.Proofs.YtkhjmokjbiepgaaDoor
