/- Contracts of small functions of numbers. -/
import Derived.IntWalk
import Derived.Test.YthckgjlljodkhaaBase
namespace Go.Proofs.Ythckgjlljodkhaa
open Go.ChangeShapes Go.WideShapes Go.ChangeAt Go.RowKit
def okc (b : Bool) : Int := if b then 0 else 2
theorem spec_l17Order (n s : Int) (w : World) :
    Calls Try.prog 26 #[.int .i64 n, .int .i64 s] w fun e w' => e = .returned (.int .i64 (okc (inB n 0 8 && inB s 0 1000000))) ∧ w = w' := by
  cases h1 : inB n 0 8 <;> cases h2 : inB s 0 1000000
  all_goals
    go_enter Try.func26, Try.ntmps26
    go_wp2_with (go_at_call 21; refine (spec_l00In _ _ _ _).mono ?_; rintro e w' ⟨rfl, rfl⟩)
    go_ret
    exact ⟨rfl, rfl⟩
def sback (k : Int) : Int × Int := if k = 1 then (2, 0) else if k = 2 then (1, 0) else if k = 3 then (4, 0) else if k = 4 then (3, 0) else if k = 5 ∨ k = 6 then (0, 3) else (0, 2)
theorem spec_StrokeBack (k : Int) (w : World) :
    Calls Try.prog 17 #[.int .i64 k] w fun e w' => e = .returned (.tuple #[.int .i64 (sback k).1, .int .i64 (sback k).2]) ∧ w = w' := by
  have h : (k < 1 ∨ 6 < k) ∨ k = 1 ∨ k = 2 ∨ k = 3 ∨ k = 4 ∨ k = 5 ∨ k = 6 := by omega
  rcases h with h | rfl | rfl | rfl | rfl | rfl | rfl
  · have e1 : sback k = (0, 2) := by unfold sback; repeat rw [if_neg (by omega)]
    rw [e1]; clear e1
    go_enter Try.func17, Try.ntmps17
    go_wp2
    all_goals go_ret2
    all_goals exact ⟨rfl, rfl⟩
  all_goals
    go_enter Try.func17, Try.ntmps17
    go_wp2
    go_ret2
    exact ⟨rfl, rfl⟩
theorem impl_StrokeBack (k : Int) (w : World) :
    Calls Try.prog 18 #[.int .i64 k] w fun e w' => e = .returned (.tuple #[.int .i64 (sback k).1, .int .i64 (sback k).2]) ∧ w = w' := by
  have h : (k < 1 ∨ 6 < k) ∨ k = 1 ∨ k = 2 ∨ k = 3 ∨ k = 4 ∨ k = 5 ∨ k = 6 := by omega
  rcases h with h | rfl | rfl | rfl | rfl | rfl | rfl
  · have e1 : sback k = (0, 2) := by unfold sback; repeat rw [if_neg (by omega)]
    rw [e1]; clear e1
    go_enter Try.func18, Try.ntmps18
    go_wp2
    all_goals go_ret2
    all_goals exact ⟨rfl, rfl⟩
  all_goals
    go_enter Try.func18, Try.ntmps18
    go_wp2
    go_ret2
    exact ⟨rfl, rfl⟩
def dbound (n s : Int) : Int × Int := if inB n 0 8 && inB s 0 1000000 then (s * 2 ^ n.toNat, 0) else (0, 2)
theorem dbound_no {n s : Int} (h : inB n 0 8 = false ∨ inB s 0 1000000 = false) : dbound n s = (0, 2) := by
  unfold dbound; rcases h with h | h <;> simp [h]
theorem dbound_yes {n s : Int} (h1 : inB n 0 8 = true) (h2 : inB s 0 1000000 = true) : dbound n s = (s * 2 ^ n.toNat, 0) := by
  unfold dbound; simp [h1, h2]
theorem dbn {n : Int} (h1 : inB n 0 8 = true) : n = 0 ∨ n = 1 ∨ n = 2 ∨ n = 3 ∨ n = 4 ∨ n = 5 ∨ n = 6 ∨ n = 7 ∨ n = 8 := by have := inB_iff.1 h1; omega
theorem spec_DifferenceBound (n s : Int) (w : World) :
    Calls Try.prog 15 #[.int .i64 n, .int .i64 s] w fun e w' => e = .returned (.tuple #[.int .i64 (dbound n s).1, .int .i64 (dbound n s).2]) ∧ w = w' := by
  cases h1 : inB n 0 8
  · rw [dbound_no (.inl h1)]
    go_enter Try.func15, Try.ntmps15
    go_wp2_with (go_at_call 26; refine (spec_l17Order _ _ _).mono ?_; rintro e w' ⟨rfl, rfl⟩; rw [h1, show okc (false && inB s 0 1000000) = 2 from rfl])
    go_ret2
    exact ⟨rfl, rfl⟩
  cases h2 : inB s 0 1000000
  · rw [dbound_no (.inr h2)]
    go_enter Try.func15, Try.ntmps15
    go_wp2_with (go_at_call 26; refine (spec_l17Order _ _ _).mono ?_; rintro e w' ⟨rfl, rfl⟩; rw [h1, h2, show okc (true && false) = 2 from rfl])
    go_ret2
    exact ⟨rfl, rfl⟩
  · obtain ⟨b1, b2⟩ := inB_iff.1 h2
    rw [dbound_yes h1 h2]
    rcases dbn h1 with rfl | rfl | rfl | rfl | rfl | rfl | rfl | rfl | rfl
    all_goals
      go_enter Try.func15, Try.ntmps15
      go_wp2_with (go_at_call 26; refine (spec_l17Order _ _ _).mono ?_; rintro e w' ⟨rfl, rfl⟩; rw [h1, h2, show okc (true && true) = 0 from rfl])
      go_ret2
      exact ⟨ret_i2 (by simp) rfl, rfl⟩
theorem impl_DifferenceBound (n s : Int) (w : World) :
    Calls Try.prog 16 #[.int .i64 n, .int .i64 s] w fun e w' => e = .returned (.tuple #[.int .i64 (dbound n s).1, .int .i64 (dbound n s).2]) ∧ w = w' := by
  cases h1 : inB n 0 8
  · rw [dbound_no (.inl h1)]
    go_enter Try.func16, Try.ntmps16
    go_wp2_with (first | (go_at_call 27; refine (impl_isOrder _ _).mono ?_; rintro e w' ⟨rfl, rfl⟩) | (go_at_call 28; refine (impl_isSlip _ _).mono ?_; rintro e w' ⟨rfl, rfl⟩))
    go_ret2
    exact ⟨rfl, rfl⟩
  cases h2 : inB s 0 1000000
  · rw [dbound_no (.inr h2)]
    go_enter Try.func16, Try.ntmps16
    go_wp2_with (first | (go_at_call 27; refine (impl_isOrder _ _).mono ?_; rintro e w' ⟨rfl, rfl⟩) | (go_at_call 28; refine (impl_isSlip _ _).mono ?_; rintro e w' ⟨rfl, rfl⟩))
    go_ret2
    exact ⟨rfl, rfl⟩
  · obtain ⟨b1, b2⟩ := inB_iff.1 h2
    rw [dbound_yes h1 h2]
    rcases dbn h1 with rfl | rfl | rfl | rfl | rfl | rfl | rfl | rfl | rfl
    all_goals
      go_enter Try.func16, Try.ntmps16
      go_wp2_with (first | (go_at_call 27; refine (impl_isOrder _ _).mono ?_; rintro e w' ⟨rfl, rfl⟩) | (go_at_call 28; refine (impl_isSlip _ _).mono ?_; rintro e w' ⟨rfl, rfl⟩))
      go_ret2
      exact ⟨ret_i2 (by simp) rfl, rfl⟩
end Go.Proofs.Ythckgjlljodkhaa
