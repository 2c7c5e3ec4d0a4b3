/- The range of an accumulator, a signed result: both packages return the same plain functions. -/
import Derived.IntWalk
import Derived.Test.YtgfliiomebbknaaPow
namespace Go.Proofs.Ytgfliiomebbknaa
open Go.ChangeShapes Go.WideShapes Go.ChangeAt Go.RowKit
theorem ret_i3 {a b c d e f : Int} (h : a = b) (h2 : c = d) (h3 : e = f) : Ending.returned (.tuple #[.int .i64 a, .int .i64 c, .int .i64 e]) = .returned (.tuple #[.int .i64 b, .int .i64 d, .int .i64 f]) := by rw [h, h2, h3]
def accR (b n : Int) : Int × Int × Int := if accOk b n then (-(ipow b n.toNat / 2), ipow b n.toNat - 1 - ipow b n.toNat / 2, 0) else (0, 0, 2)
theorem accOk_parts {b n : Int} (h : accOk b n = true) : (2 ≤ b ∧ b ≤ 16 ∧ 1 ≤ n ∧ n ≤ 16) ∧ ipow b n.toNat - 1 ≤ 1000000000000 := by
  simp only [accOk, Bool.and_eq_true, decide_eq_true_eq] at h
  have a := inB_iff.1 h.1.1; have c := inB_iff.1 h.1.2
  exact ⟨⟨a.1, a.2, c.1, c.2⟩, h.2⟩
theorem numOf_of {b n : Int} : numOf b n = if accOk b n then ipow b n.toNat else 0 := by
  unfold numOf accOk
  cases h1 : inB b 2 16 <;> cases h2 : inB n 1 16
  all_goals simp only [Bool.and_true, Bool.and_false, Bool.true_and, Bool.false_and]
  all_goals try rfl
  by_cases h : ipow b n.toNat - 1 ≤ 1000000000000
  · simp [h, (lpow_ppow (inB_iff.1 h1).1 _ h).2]
  · simp [h, (lpow_big (inB_iff.1 h1).1 _ h).2]
theorem impl_AccumulatorRange (b n : Int) (w : World) :
    Calls Try.prog 18 #[.int .i64 b, .int .i64 n] w fun e w' => e = .returned (.tuple #[.int .i64 (accR b n).1, .int .i64 (accR b n).2.1, .int .i64 (accR b n).2.2]) ∧ w = w' := by
  cases h : accOk b n
  · have HN : Hid (numOf b n = 0) := by show numOf b n = 0; simp [numOf_of, h]
    rw [show accR b n = (0, 0, 2) from by simp [accR, h]]
    go_enter Try.func18, Try.ntmps18
    go_wp2_with (go_at_call 51; refine (impl_numbersOf _ _ _).mono ?_; rintro e w' ⟨rfl, rfl⟩; rw [HN.out])
    go_ret3
    exact ⟨rfl, rfl⟩
  · obtain ⟨⟨a1, a2, a3, a4⟩, a5⟩ := accOk_parts h
    have p := ipow_pos a1 n.toNat
    have HN : Hid (numOf b n = ipow b n.toNat) := by show numOf b n = _; simp [numOf_of, h]
    rw [show accR b n = (-(ipow b n.toNat / 2), ipow b n.toNat - 1 - ipow b n.toNat / 2, 0) from by simp [accR, h]]
    clear h
    go_enter Try.func18, Try.ntmps18
    go_wp2_with (go_at_call 51; refine (impl_numbersOf _ _ _).mono ?_; rintro e w' ⟨rfl, rfl⟩; rw [HN.out])
    go_ret3
    exact ⟨rfl, rfl⟩
theorem spec_AccumulatorRange (b n : Int) (w : World) :
    Calls Try.prog 17 #[.int .i64 b, .int .i64 n] w fun e w' => e = .returned (.tuple #[.int .i64 (accR b n).1, .int .i64 (accR b n).2.1, .int .i64 (accR b n).2.2]) ∧ w = w' := by
  cases h : accOk b n
  · rw [show accR b n = (0, 0, 2) from by simp [accR, h]]
    go_enter Try.func17, Try.ntmps17
    go_wp2_with (go_at_call 49; refine (spec_l09Size _ _ _).mono ?_; rintro e w' ⟨rfl, rfl⟩)
    go_ret3
    exact ⟨rfl, rfl⟩
  · obtain ⟨⟨a1, a2, a3, a4⟩, a5⟩ := accOk_parts h
    have p := ipow_pos a1 n.toNat
    have HL := Lib.hid (lpow_ppow a1 n.toNat a5).1
    rw [show accR b n = (-(ipow b n.toNat / 2), ipow b n.toNat - 1 - ipow b n.toNat / 2, 0) from by simp [accR, h]]
    go_enter Try.func17, Try.ntmps17
    go_wp2_with (first | (go_at_call 49; refine (spec_l09Size _ _ _).mono ?_; rintro e w' ⟨rfl, rfl⟩) | (go_at_call 45; refine (spec_l10Power _ _ _ a1 a2 (by omega) a4).mono ?_; rintro e w' ⟨rfl, rfl⟩; rw [HL.out]) | (go_at_call 50; refine (spec_l09Low _ _ _ a1 a2 (by omega) a4).mono ?_; rintro e w' ⟨rfl, rfl⟩; rw [HL.out]))
    go_ret3
    exact ⟨rfl, rfl⟩
def sgnR (n r : Int) : Int × Int := if inB n 1 12 && inB r 0 (ipow 10 n.toNat - 1) then (if ipow 10 n.toNat ≤ 2 * r then r - ipow 10 n.toNat else r, 0) else (0, 2)
theorem spec_SignedResult (n r : Int) (w : World) :
    Calls Try.prog 15 #[.int .i64 n, .int .i64 r] w fun e w' => e = .returned (.tuple #[.int .i64 (sgnR n r).1, .int .i64 (sgnR n r).2]) ∧ w = w' := by
  cases h1 : inB n 1 12
  · rw [show sgnR n r = (0, 2) from by simp [sgnR, h1]]
    go_enter Try.func15, Try.ntmps15
    go_wp2_with (first | (go_at_call 43; refine (spec_l16Width _ _).mono ?_; rintro e w' ⟨rfl, rfl⟩))
    go_ret2
    exact ⟨rfl, rfl⟩
  obtain ⟨a1, a2⟩ := inB_iff.1 h1
  obtain ⟨t1, t2, t3⟩ := ten_bd (n := n.toNat) (by omega)
  have HT := Lib.hid t1; clear t1
  cases h2 : inB r 0 (ipow 10 n.toNat - 1)
  · rw [show sgnR n r = (0, 2) from by simp [sgnR, h1, h2]]
    go_enter Try.func15, Try.ntmps15
    go_wp2_with (first | (go_at_call 43; refine (spec_l16Width _ _).mono ?_; rintro e w' ⟨rfl, rfl⟩) | (go_at_call 45; refine (spec_l10Power _ _ _ (by omega) (by omega) (by omega) (by omega)).mono ?_; rintro e w' ⟨rfl, rfl⟩; rw [HT.out]) | (go_at_call 44; refine (spec_l00In _ _ _ _).mono ?_; rintro e w' ⟨rfl, rfl⟩))
    go_ret2
    exact ⟨rfl, rfl⟩
  obtain ⟨b1, b2⟩ := inB_iff.1 h2
  have HS : Hid (sgnR n r = (if ipow 10 n.toNat ≤ 2 * r then r - ipow 10 n.toNat else r, 0)) := by show sgnR n r = _; simp [sgnR, h1, h2]
  by_cases hm : ipow 10 n.toNat ≤ 2 * r
  all_goals
    rw [HS.out]
    first | rw [if_pos hm] | rw [if_neg hm]
    go_enter Try.func15, Try.ntmps15
    go_wp2_with (first | (go_at_call 43; refine (spec_l16Width _ _).mono ?_; rintro e w' ⟨rfl, rfl⟩) | (go_at_call 45; refine (spec_l10Power _ _ _ (by omega) (by omega) (by omega) (by omega)).mono ?_; rintro e w' ⟨rfl, rfl⟩; rw [HT.out]) | (go_at_call 44; refine (spec_l00In _ _ _ _).mono ?_; rintro e w' ⟨rfl, rfl⟩))
    go_ret2
    exact ⟨rfl, rfl⟩
theorem impl_SignedResult (n r : Int) (w : World) :
    Calls Try.prog 16 #[.int .i64 n, .int .i64 r] w fun e w' => e = .returned (.tuple #[.int .i64 (sgnR n r).1, .int .i64 (sgnR n r).2]) ∧ w = w' := by
  cases h1 : inB n 1 12
  · rw [show sgnR n r = (0, 2) from by simp [sgnR, h1]]
    go_enter Try.func16, Try.ntmps16
    go_wp2_with (first | (go_at_call 46; refine (impl_isEngineWidth _ _).mono ?_; rintro e w' ⟨rfl, rfl⟩))
    go_ret2
    exact ⟨rfl, rfl⟩
  obtain ⟨a1, a2⟩ := inB_iff.1 h1
  obtain ⟨t1, t2, t3⟩ := ten_bd (n := n.toNat) (by omega)
  clear t1
  cases h2 : inB r 0 (ipow 10 n.toNat - 1)
  · rw [show sgnR n r = (0, 2) from by simp [sgnR, h1, h2]]
    go_enter Try.func16, Try.ntmps16
    go_wp2_with (first | (go_at_call 46; refine (impl_isEngineWidth _ _).mono ?_; rintro e w' ⟨rfl, rfl⟩) | (go_at_call 48; refine (impl_modulus _ _ (by omega) (by omega)).mono ?_; rintro e w' ⟨rfl, rfl⟩) | (go_at_call 47; refine (impl_between _ _ _ _).mono ?_; rintro e w' ⟨rfl, rfl⟩))
    go_ret2
    exact ⟨rfl, rfl⟩
  obtain ⟨b1, b2⟩ := inB_iff.1 h2
  have HS : Hid (sgnR n r = (if ipow 10 n.toNat ≤ 2 * r then r - ipow 10 n.toNat else r, 0)) := by show sgnR n r = _; simp [sgnR, h1, h2]
  by_cases hm : ipow 10 n.toNat ≤ 2 * r
  all_goals
    rw [HS.out]
    first | rw [if_pos hm] | rw [if_neg hm]
    go_enter Try.func16, Try.ntmps16
    go_wp2_with (first | (go_at_call 46; refine (impl_isEngineWidth _ _).mono ?_; rintro e w' ⟨rfl, rfl⟩) | (go_at_call 48; refine (impl_modulus _ _ (by omega) (by omega)).mono ?_; rintro e w' ⟨rfl, rfl⟩) | (go_at_call 47; refine (impl_between _ _ _ _).mono ?_; rintro e w' ⟨rfl, rfl⟩))
    go_ret2
    exact ⟨rfl, rfl⟩
end Go.Proofs.Ytgfliiomebbknaa
