/- The bound of the turns: the recursion, and LowerBound of both packages. -/
import Derived.IntWalk
import Derived.Test.YtidpoeojkifonaaLow
namespace Go.Proofs.Ytidpoeojkifonaa
open Go.ChangeShapes Go.WideShapes Go.ChangeAt Go.RowKit
set_option maxHeartbeats 1000000 in
theorem spec_l13Bound (b : Nat) (hb : 2 ≤ b) (hb2 : b ≤ 16) : ∀ n : Nat, n ≤ 62500000 → ∀ w : World,
    Calls Try.prog 52 #[.int .i64 b, .int .i64 n] w fun e w' => e = .returned (.tuple #[.int .i64 (low b n).1, .int .i64 (low b n).2]) ∧ w = w' := by
  intro n
  induction n using Nat.strongRecOn with
  | ind n ih =>
    intro hn w
    by_cases h0 : n = 0
    · subst h0
      rw [low_zero]
      clear ih
      go_enter Try.func52, Try.ntmps52
      go_wp2_with fail
      go_ret2
      exact ⟨rfl, rfl⟩
    · have hr := low_rec hb h0
      have hlt := div_lt' hb h0
      have hm := div_mod_b (n := n) hb
      have IH := ih (n / b) hlt (by omega)
      have bd := (low_bd hb (n / b)).1
      obtain ⟨D, hD⟩ : ∃ D : Nat, D = n % b := ⟨_, rfl⟩
      obtain ⟨Q, hQ⟩ : ∃ Q : Nat, Q = n / b := ⟨_, rfl⟩
      have eD : (n : Int) % (b : Int) = (D : Int) := by rw [hD]; simp
      have eQ : (n : Int) / (b : Int) = (Q : Int) := by rw [hQ]; simp
      obtain ⟨l, hl⟩ : ∃ l, l = (low b (n / b)).1 := ⟨_, rfl⟩
      obtain ⟨h, hh⟩ : ∃ h, h = (low b (n / b)).2 := ⟨_, rfl⟩
      rw [← hl, ← hh] at hr bd
      rw [← hD] at hr
      rw [← hD, ← hQ] at hm
      rw [← hl, ← hh, ← hQ] at IH
      rw [← hQ] at bd hlt
      have IH2 := Lib.hid IH
      obtain ⟨bd0, bd1, bd2, bd3⟩ := bd
      obtain ⟨hm0, hm1⟩ := hm
      clear hl hh hQ hD IH ih
      have z1 : ((n : Int) == 0) = false := by simp; omega
      have zb2 : ¬ (b : Int) = 0 := by omega
      by_cases c : D + 1 = b
      · rw [show low b n = (imin ((D : Int) + l) ((b : Int) - D + h), h) from by rw [hr, if_pos c]]
        have c1 : (((D : Int) + 1) == (b : Int)) = true := by simp; omega
        clear hr c
        go_enter Try.func52, Try.ntmps52
        go_wp2_with (first | (go_at_call 52; refine (IH2.out _).mono ?_; rintro e w' ⟨rfl, rfl⟩) | (go_at_call 72; refine (spec_l00Min _ _ _).mono ?_; rintro e w' ⟨rfl, rfl⟩))
        go_ret2
        exact ⟨rfl, rfl⟩
      · rw [show low b n = (imin ((D : Int) + l) ((b : Int) - D + h), imin ((D : Int) + 1 + l) ((b : Int) - D - 1 + h)) from by rw [hr, if_neg c]]
        have c1 : (((D : Int) + 1) == (b : Int)) = false := by simp; omega
        clear hr
        go_enter Try.func52, Try.ntmps52
        go_wp2_with (first | (go_at_call 52; refine (IH2.out _).mono ?_; rintro e w' ⟨rfl, rfl⟩) | (go_at_call 72; refine (spec_l00Min _ _ _).mono ?_; rintro e w' ⟨rfl, rfl⟩))
        go_ret2
        exact ⟨rfl, rfl⟩
theorem spec_LowerBound (b n : Int) (w : World) :
    Calls Try.prog 19 #[.int .i64 b, .int .i64 n] w fun e w' => e = .returned (.tuple #[.int .i64 (lowR b n).1, .int .i64 (lowR b n).2]) ∧ w = w' := by
  cases h : tin b n
  · rw [show lowR b n = (0, 2) from by simp [lowR, h]]
    have HC := Lib.hid (show codeR b n = 2 from by simp [codeR, h]); clear h
    go_enter Try.func19, Try.ntmps19
    go_wp2_with (go_at_call 51; refine (spec_l13Code _ _ _).mono ?_; rintro e w' ⟨rfl, rfl⟩; rw [HC.out])
    go_ret2
    exact ⟨rfl, rfl⟩
  · rw [show lowR b n = ((low b.toNat n.toNat).1, 0) from by simp [lowR, h]]
    have HC := Lib.hid (show codeR b n = 0 from by simp [codeR, h])
    have h' := h; unfold tin at h'; simp only [Bool.and_eq_true] at h'
    obtain ⟨b0, b1⟩ := inB_iff.1 h'.1
    obtain ⟨n0, n1⟩ := inB_iff.1 h'.2
    clear h h'
    obtain ⟨b, rfl⟩ := Int.eq_ofNat_of_zero_le (show 0 ≤ b by omega)
    obtain ⟨n, rfl⟩ := Int.eq_ofNat_of_zero_le n0
    rw [Int.toNat_natCast, Int.toNat_natCast]
    go_enter Try.func19, Try.ntmps19
    go_wp2_with (first | (go_at_call 51; refine (spec_l13Code _ _ _).mono ?_; rintro e w' ⟨rfl, rfl⟩; rw [HC.out]) | (go_at_call 52; refine (spec_l13Bound b (by omega) (by omega) n (by omega) _).mono ?_; rintro e w' ⟨rfl, rfl⟩))
    go_ret2
    exact ⟨rfl, rfl⟩
theorem impl_LowerBound (b n : Int) (w : World) :
    Calls Try.prog 20 #[.int .i64 b, .int .i64 n] w (RetV w (.tuple #[.int .i64 (lowR b n).1, .int .i64 (lowR b n).2])) := by
  cases h : tin b n
  · rw [show lowR b n = (0, 2) from by simp [lowR, h]]
    have HC := Lib.hid h; clear h
    go_enter Try.func20, Try.ntmps20
    go_wp2_with (go_at_call 53; refine (impl_isTurnsInput _ _ _).mono ?_; rintro e w' ⟨rfl, rfl⟩; rw [HC.out])
    go_ret2
    exact ⟨rfl, Below.refl _ _⟩
  · rw [show lowR b n = ((low b.toNat n.toNat).1, 0) from by simp [lowR, h]]
    have HC := Lib.hid h
    have h' := h; unfold tin at h'; simp only [Bool.and_eq_true] at h'
    obtain ⟨b0, b1⟩ := inB_iff.1 h'.1
    obtain ⟨n0, n1⟩ := inB_iff.1 h'.2
    clear h h'
    obtain ⟨b, rfl⟩ := Int.eq_ofNat_of_zero_le (show 0 ≤ b by omega)
    obtain ⟨n, rfl⟩ := Int.eq_ofNat_of_zero_le n0
    rw [Int.toNat_natCast, Int.toNat_natCast]
    go_enter Try.func20, Try.ntmps20
    go_wp2_with fail
    refine (impl_isTurnsInput _ _ _).mono ?_; rintro e w' ⟨rfl, rfl⟩; rw [HC.out]
    go_wp2_with fail
    refine (impl_fewestTurns b n _ (by omega) (by omega) (by omega)).mono ?_; rintro e w1 ⟨⟨v1, rfl, o1, b1'⟩, ha, hl⟩
    have O1 := Lib.hid o1; have B1 := Lib.hid b1'; have HA := Lib.hid ha; have HE := Lib.hid (few_low (b := b) (by omega) n); clear o1 b1' ha
    go_wp2_with fail
    refine (impl_turnsOf _ O1.out HA.out (by omega)).mono ?_; rintro e w' ⟨rfl, rfl⟩
    rw [HE.out]
    go_wp2_with fail
    go_ret2
    exact ⟨rfl, B1.out⟩
end Go.Proofs.Ytidpoeojkifonaa
