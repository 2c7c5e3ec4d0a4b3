/- The fewest turns: the rule's count is the least one (plain Lean). -/
import Derived.Test.YtidpoeojkifonaaTns2
namespace Go.Proofs.Ytidpoeojkifonaa
open Go.ChangeShapes Go.WideShapes Go.ChangeAt Go.RowKit
def low (b n : Nat) : Int × Int :=
  if h : n = 0 ∨ b < 2 then (0, 1)
  else (imin ((n % b : Nat) + (low b (n / b)).1) ((b : Int) - (n % b : Nat) + (low b (n / b)).2),
    if n % b + 1 = b then (low b (n / b)).2 else imin ((n % b : Nat) + 1 + (low b (n / b)).1) ((b : Int) - (n % b : Nat) - 1 + (low b (n / b)).2))
termination_by n
decreasing_by all_goals exact Nat.div_lt_self (by omega) (by omega)
theorem low_zero (b : Nat) : low b 0 = (0, 1) := by rw [low]; simp
theorem low_rec {b n : Nat} (hb : 2 ≤ b) (hn : n ≠ 0) : low b n = (imin ((n % b : Nat) + (low b (n / b)).1) ((b : Int) - (n % b : Nat) + (low b (n / b)).2),
    if n % b + 1 = b then (low b (n / b)).2 else imin ((n % b : Nat) + 1 + (low b (n / b)).1) ((b : Int) - (n % b : Nat) - 1 + (low b (n / b)).2)) := by
  rw [low, dif_neg (by omega)]
theorem div_lt' {b n : Nat} (hb : 2 ≤ b) (hn : n ≠ 0) : n / b < n := Nat.div_lt_self (by omega) (by omega)
theorem div_mod_b {b n : Nat} (hb : 2 ≤ b) : n / b * 2 + n % b ≤ n ∧ n % b < b := by
  have a := Nat.div_add_mod n b
  have c := Nat.mul_le_mul_right (n / b) hb
  have d := Nat.mod_lt n (show 0 < b by omega)
  omega
/-- the two differ by one at most, and are small -/
theorem low_bd {b : Nat} (hb : 2 ≤ b) : ∀ n, (0 ≤ (low b n).1 ∧ (low b n).1 ≤ n ∧ 0 ≤ (low b n).2 ∧ (low b n).2 ≤ (n : Int) + 1) ∧ (low b n).1 ≤ (low b n).2 + 1 ∧ (low b n).2 ≤ (low b n).1 + 1 := by
  intro n
  induction n using Nat.strongRecOn with
  | ind n ih =>
    by_cases hn : n = 0
    · subst hn; rw [low_zero]; simp
    · have i := ih (n / b) (div_lt' hb hn)
      have m := div_mod_b (n := n) hb
      rw [low_rec hb hn]
      generalize low b (n / b) = p at i ⊢
      obtain ⟨l, h⟩ := p
      simp only at i ⊢
      unfold imin
      split <;> split <;> (try split) <;> omega
theorem low_succ {b : Nat} (hb : 2 ≤ b) : ∀ n, (low b n).2 = (low b (n + 1)).1 := by
  intro n
  induction n using Nat.strongRecOn with
  | ind n ih =>
    have bd := low_bd hb
    by_cases hn : n = 0
    · subst hn
      rw [low_zero, low_rec hb (by omega)]
      have e1 : (0 + 1) / b = 0 := Nat.div_eq_of_lt (by omega)
      have e2 : (0 + 1) % b = 1 := Nat.mod_eq_of_lt (by omega)
      rw [e1, e2, low_zero]
      simp only
      unfold imin; split <;> omega
    · have i := ih (n / b) (div_lt' hb hn)
      have m := div_mod_b (n := n) hb
      rw [low_rec hb hn, low_rec hb (n := n + 1) (by omega)]
      have dm := Nat.div_add_mod n b
      by_cases h : n % b + 1 = b
      · obtain ⟨e1, e2⟩ : (n + 1) / b = n / b + 1 ∧ (n + 1) % b = 0 := (Nat.div_mod_unique (show 0 < b by omega)).2 ⟨by rw [Nat.mul_add]; omega, by omega⟩
        simp only [h, if_true, e1, e2]
        have c := bd (n / b + 1)
        have a := bd (n / b)
        rw [i]
        unfold imin; split <;> omega
      · obtain ⟨e1, e2⟩ : (n + 1) / b = n / b ∧ (n + 1) % b = n % b + 1 := (Nat.div_mod_unique (show 0 < b by omega)).2 ⟨by omega, by omega⟩
        simp only [h, if_false, e1, e2]
        rw [show (((n % b + 1 : Nat)) : Int) = (n % b : Nat) + 1 from by omega]
        unfold imin; split <;> split <;> omega
/-- the rule's test -/
def keepB (b n : Nat) : Bool := decide (2 * (n % b) < b) || (decide (2 * (n % b) = b) && decide (2 * (n / b % b) < b - 1))
theorem few_dec {b n : Nat} (hb : 2 ≤ b) (hn : n ≠ 0) (h : keepB b n = false) : n / b + 1 < n := by
  have m := div_mod_b (n := n) hb
  by_cases h3 : 3 ≤ n
  · omega
  · have hk : ¬ 2 * (n % b) < b ∧ (2 * (n % b) = b → ¬ 2 * (n / b % b) < b - 1) := by
      unfold keepB at h; simp at h; omega
    clear h
    by_cases hbn : n < b
    · have e1 : n / b = 0 := Nat.div_eq_of_lt hbn
      have e2 : n % b = n := Nat.mod_eq_of_lt hbn
      rw [e1, e2, Nat.zero_mod] at hk
      rw [e1]
      omega
    · have : n = 2 ∧ b = 2 := by omega
      obtain ⟨rfl, rfl⟩ := this
      simp at hk
def few (b n : Nat) : List Int :=
  if h : n = 0 ∨ b < 2 then []
  else if hk : keepB b n = true then ((n % b : Nat) : Int) :: few b (n / b)
  else (((n % b : Nat) : Int) - b) :: few b (n / b + 1)
termination_by n
decreasing_by
  · exact Nat.div_lt_self (by omega) (by omega)
  · exact few_dec (by omega) (by omega) (by simpa using hk)
theorem few_zero (b : Nat) : few b 0 = [] := by rw [few]; simp
theorem few_keep {b n : Nat} (hb : 2 ≤ b) (hn : n ≠ 0) (h : keepB b n = true) : few b n = ((n % b : Nat) : Int) :: few b (n / b) := by
  rw [few, dif_neg (by omega), dif_pos h]
theorem few_up {b n : Nat} (hb : 2 ≤ b) (hn : n ≠ 0) (h : keepB b n = false) : few b n = (((n % b : Nat) : Int) - b) :: few b (n / b + 1) := by
  rw [few, dif_neg (by omega), dif_neg (by simp [h])]
theorem cnt_cons (x : Int) (l : List Int) : ∀ j, cnt (x :: l) (j + 1) = iabs x + cnt l j
  | 0 => by simp [cnt, nth]
  | j + 1 => by
    have i := cnt_cons x l j
    rw [cnt, i, cnt]
    have : nth (x :: l) (j + 1) = nth l j := by simp [nth]
    rw [this]; omega
theorem few_low {b : Nat} (hb : 2 ≤ b) : ∀ n, cnt (few b n) (few b n).length = (low b n).1 := by
  intro n
  induction n using Nat.strongRecOn with
  | ind n ih =>
    by_cases hn : n = 0
    · subst hn; rw [few_zero, low_zero]; rfl
    · have m := div_mod_b (n := n) hb
      have a := low_bd hb (n / b)
      have s := low_succ hb (n / b)
      rw [low_rec hb hn]
      simp only
      -- which of the two is not greater, one digit further on
      have q : (2 * (n / b % b) < b - 1 → 2 ≤ b → (b : Int) % 2 = 0 → (low b (n / b)).1 ≤ (low b (n / b)).2) ∧ (¬ 2 * (n / b % b) < b - 1 → (b : Int) % 2 = 0 → (low b (n / b)).2 ≤ (low b (n / b)).1) := by
        by_cases h0 : n / b = 0
        · rw [h0, low_zero]; simp; omega
        · rw [low_rec hb h0]
          have m' := div_mod_b (n := n / b) hb
          have a' := low_bd hb (n / b / b)
          generalize low b (n / b / b) = p at a' ⊢
          obtain ⟨l, h⟩ := p
          simp only at a' ⊢
          unfold imin
          constructor <;> intros <;> split <;> (try split) <;> (try split) <;> omega
      cases hk : keepB b n
      · rw [few_up hb hn hk, List.length_cons, cnt_cons, ih _ (few_dec hb hn hk), ← s]
        have e : iabs (((n % b : Nat) : Int) - b) = (b : Int) - (n % b : Nat) := by unfold iabs; split <;> omega
        rw [e]
        have hk' : ¬ 2 * (n % b) < b ∧ (2 * (n % b) = b → ¬ 2 * (n / b % b) < b - 1) := by
          unfold keepB at hk; simp at hk; omega
        rw [imin_neg]
        by_cases h2 : 2 * (n % b) = b
        · have := q.2 (hk'.2 h2) (by omega); omega
        · omega
      · rw [few_keep hb hn hk, List.length_cons, cnt_cons, ih _ (div_lt' hb hn)]
        have e : iabs ((n % b : Nat) : Int) = (n % b : Nat) := by unfold iabs; split <;> omega
        rw [e]
        have hk' : 2 * (n % b) < b ∨ (2 * (n % b) = b ∧ 2 * (n / b % b) < b - 1) := by
          unfold keepB at hk; simp at hk; omega
        rw [imin_pos]
        by_cases h2 : 2 * (n % b) = b
        · have := q.1 (by omega) hb (by omega); omega
        · omega
end Go.Proofs.Ytidpoeojkifonaa
