/- Differences of lists of numbers: plain facts. -/
import Derived.Test.YtkhjmokjbiepgaaRows
namespace Go.Proofs.Ytkhjmokjbiepgaa
def dif : List Int → List Int
  | a :: b :: l => (b - a) :: dif (b :: l)
  | _ => []
def difN (l : List Int) : Nat → List Int
  | 0 => l
  | j + 1 => dif (difN l j)
theorem dif_len : ∀ l : List Int, (dif l).length = l.length - 1
  | [] => rfl
  | [_] => rfl
  | a :: b :: l => by
    have := dif_len (b :: l)
    simp only [dif, List.length_cons] at *
    omega
theorem difN_len (l : List Int) (j : Nat) : (difN l j).length = l.length - j := by
  induction j with
  | zero => rfl
  | succ j ih => show (dif (difN l j)).length = _; rw [dif_len, ih]; omega
theorem dif_at : ∀ (l : List Int) (i : Nat), i + 1 < l.length → (dif l).getD i 0 = l.getD (i + 1) 0 - l.getD i 0
  | [], i, h => by simp at h
  | [_], i, h => by simp at h
  | a :: b :: l, 0, _ => rfl
  | a :: b :: l, i + 1, h => by
    have := dif_at (b :: l) i (by simpa using h)
    simpa [dif] using this
theorem take_snoc {l : List Int} {i : Nat} (h : i < l.length) : l.take (i + 1) = l.take i ++ [l.getD i 0] := by
  rw [List.take_succ_eq_append_getElem h]; simp [List.getD, h]
theorem dif_take {l : List Int} {i : Nat} (h : i + 1 < l.length) : (dif l).take (i + 1) = (dif l).take i ++ [l.getD (i + 1) 0 - l.getD i 0] := by
  rw [take_snoc (by rw [dif_len]; omega), dif_at l i h]
/-- all numbers between -b and b -/
def bdd (b : Int) (l : List Int) : Prop := ∀ x ∈ l, -b ≤ x ∧ x ≤ b
theorem bdd_dif : ∀ {l : List Int} {b : Int}, bdd b l → bdd (2 * b) (dif l)
  | [], b, _ => fun x hx => by simp [dif] at hx
  | [_], b, _ => fun x hx => by simp [dif] at hx
  | a :: c :: l, b, h => fun x hx => by
    have h1 := h a (by simp)
    have h2 := h c (by simp)
    rcases List.mem_cons.1 hx with rfl | hx
    · omega
    · exact bdd_dif (fun y hy => h y (by simp only [List.mem_cons] at hy ⊢; exact .inr hy)) x hx
theorem bdd_difN {l : List Int} {b : Int} (h : bdd b l) (j : Nat) : bdd (2 ^ j * b) (difN l j) := by
  induction j with
  | zero => rw [Int.pow_zero, Int.one_mul]; exact h
  | succ j ih =>
    have := bdd_dif ih
    rw [show (2 : Int) ^ (j + 1) * b = 2 * (2 ^ j * b) by rw [Int.pow_succ, Int.mul_comm (2 ^ j) 2, Int.mul_assoc]]
    exact this
theorem two_pow_le {i j : Nat} (h : i ≤ j) : (2 : Int) ^ i ≤ 2 ^ j := by
  have : 2 ^ i ≤ 2 ^ j := Nat.pow_le_pow_right (by omega) h
  exact_mod_cast this
theorem bdd_mono {l : List Int} {a b : Int} (h : bdd a l) (hab : a ≤ b) : bdd b l := fun x hx => by have := h x hx; omega
theorem bdd_at {l : List Int} {b : Int} (h : bdd b l) {i : Nat} (hi : i < l.length) : -b ≤ l.getD i 0 ∧ l.getD i 0 ≤ b := by
  have := h _ (List.getElem_mem hi)
  simpa [List.getD, hi] using this
/-- of at most 30 numbers up to 10^9 all differences are within 10^18 -/
theorem difN_fits {l : List Int} (hl : l.length ≤ 30) (h : bdd 1000000000 l) (j : Nat) : bdd 1000000000000000000 (difN l j) := by
  by_cases c : j ≤ 29
  · refine bdd_mono (bdd_difN h j) ?_
    have := two_pow_le c
    have e : (2 : Int) ^ 29 = 536870912 := by decide
    rw [e] at this
    have := Int.mul_le_mul_of_nonneg_right this (show (0 : Int) ≤ 1000000000 by omega)
    omega
  · have : difN l j = [] := List.eq_nil_of_length_eq_zero (by rw [difN_len]; omega)
    rw [this]; intro x hx; simp at hx
end Go.Proofs.Ytkhjmokjbiepgaa
