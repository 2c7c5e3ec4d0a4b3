/- The two functions that reckon a binomial coefficient return the same plain function. -/
import Derived.IntWalk
import Derived.Test.YtkhjmokjbiepgaaBase
import Derived.Test.YtkhjmokjbiepgaaBinP
namespace Go.Proofs.Ytkhjmokjbiepgaa
open Go.ChangeShapes Go.WideShapes Go.ChangeAt Go.RowKit
theorem imin_bmin (n k : Int) : imin k (n - k) = bmin n k := by unfold imin bmin; split <;> split <;> omega
theorem spec_l15Binomial (n k : Int) (w : World) (h0 : 0 ≤ n) (h1 : n ≤ 60) (h2 : 0 ≤ k) (h3 : k ≤ 60) :
    Calls Try.prog 68 #[.int .i64 n, .int .i64 k] w fun e w' => e = .returned (.int .i64 (binOf n k)) ∧ w = w' := by
  by_cases hkn : n < k
  · have H := Lib.hid (show binOf n k = 0 from if_pos hkn)
    rw [H.out]; clear H
    go_enter Try.func68, Try.ntmps68
    go_wp2
    go_ret
    exact ⟨rfl, rfl⟩
  · have H := Lib.hid (show binOf n k = bnl n (bmin n k).toNat from if_neg hkn)
    obtain ⟨m0, m1⟩ := bmin_bd (n := n) (k := k) h2 (by omega)
    go_enter Try.func68, Try.ntmps68
    go_wp2_with fail
    go_loop [5, 6] (fun o i => ∃ j : Nat, (j : Int) ≤ bmin n k ∧ i = .int .i64 (j + 1) ∧ o = .int .i64 (bnl n j)) (fun _ i => (100 - intOf i).toNat)
    case atStart => exact ⟨0, by omega, rfl, rfl⟩
    case round =>
      obtain ⟨j, hj, rfl, rfl⟩ := hrel
      obtain ⟨b1, b2, b3⟩ := bnl_bd (n := n) (i := j) h0 h1 (by omega)
      have e : n - (↑j + 1) + 1 = n - (j : Int) := by omega
      have p1 : 0 ≤ bnl n j * (n - (↑j + 1) + 1) := by rw [e]; exact Int.mul_nonneg (by omega) (by omega)
      have p2 : bnl n j * (n - (↑j + 1) + 1) ≤ 9000000000000000000 := by rw [e]; exact b3
      have E := Lib.hid e; clear e b3
      by_cases hlt : (j : Int) + 1 ≤ bmin n k
      · go_wp2_with (go_at_call 87; refine (spec_l00Min _ _ _).mono ?_; rintro e w' ⟨rfl, rfl⟩; rw [imin_bmin])
        go_round
        case rel => exact ⟨j + 1, by omega, by go_num, by rw [bnl_succ, E.out]⟩
        case measure => simp [intOf]; omega
      · go_wp2_with (go_at_call 87; refine (spec_l00Min _ _ _).mono ?_; rintro e w' ⟨rfl, rfl⟩; rw [imin_bmin])
        go_ret
        exact ⟨ret_int (by rw [H.out, show (bmin n k).toNat = j from by omega]), rfl⟩
end Go.Proofs.Ytkhjmokjbiepgaa
