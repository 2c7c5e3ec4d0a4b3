/- The value of a polynomial that is told by its first differences: the plain function, and its steps. -/
import Derived.Test.YtgmgdjdpmjmmhaaInts
import Derived.Test.YtgmgdjdpmjmmhaaChP
namespace Go.Proofs.Ytgmgdjdpmjmmhaa
def capF (x : Int) : Int := if x ≤ 1000000000000000 then x else 1000000000000001
theorem capF_bd {x : Int} (h : 0 ≤ x) : 0 ≤ capF x ∧ capF x ≤ 1000000000000001 := by unfold capF; split <;> omega
theorem capF_big {x : Int} (h : 1000000000000000 < x) : capF x = 1000000000000001 := if_neg (by omega)
theorem capF_small {x : Int} (h : x ≤ 1000000000000000) : capF x = x := if_pos h
theorem ch_big15 {n k : Nat} (hk : k ≤ 8) (h : 1000000000000000 < ch n k) : 1000000000000000 < ch n (k + 1) ∧ k < n := by
  have hn : 2 * k + 2 ≤ n := by
    by_cases c : 2 * k + 2 ≤ n
    · exact c
    · have a := ch_pow n k
      have b : 2 ^ n ≤ 2 ^ 18 := Nat.pow_le_pow_right (by omega) (by omega)
      omega
  have m := ch_mul n k
  have l : ch n k * (k + 1) ≤ ch n k * (n - k) := Nat.mul_le_mul_left _ (by omega)
  rw [← m] at l
  have := Nat.le_of_mul_le_mul_right l (by omega)
  omega
/-- the sum of the first j summands; none where one is too great on the way -/
def nvs (cs : List Int) (n : Nat) : Nat → Option Int
  | 0 => some 0
  | j + 1 => match nvs cs n j with
    | none => none
    | some s => if nth cs j ≠ 0 ∧ 1000000000000000 / iabs (nth cs j) < (ch n j : Int) then none
      else if inB (s + nth cs j * (ch n j : Int)) (-1000000000000000) 1000000000000000 then some (s + nth cs j * (ch n j : Int)) else none
theorem nvs_none {cs : List Int} {n i j : Nat} (h : nvs cs n i = none) (hij : i ≤ j) : nvs cs n j = none := by
  induction hij with
  | refl => exact h
  | step _ ih => unfold nvs; rw [ih]
theorem nvs_skip {cs : List Int} {n j : Nat} {s : Int} (h : nvs cs n j = some s) (h1 : -1000000000000000 ≤ s) (h2 : s ≤ 1000000000000000) (hz : nth cs j = 0 ∨ ch n j = 0) : nvs cs n (j + 1) = some s := by
  unfold nvs; rw [h]
  have e : nth cs j * (ch n j : Int) = 0 := by rcases hz with h | h <;> rw [h] <;> simp
  have q : ¬ (nth cs j ≠ 0 ∧ 1000000000000000 / iabs (nth cs j) < (ch n j : Int)) := by
    rintro ⟨a, b⟩
    rcases hz with h | h
    · exact a h
    · rw [h] at b
      have := iabs_bd (nth cs j)
      have := Int.ediv_nonneg (show (0 : Int) ≤ 1000000000000000 by omega) this.1
      omega
  simp only [if_neg q, e, Int.add_zero, inB_true h1 h2, if_true]
theorem nvs_big {cs : List Int} {n j : Nat} {s C : Int} (h : nvs cs n j = some s) (hc : nth cs j ≠ 0) (hC : C ≤ (ch n j : Int)) (hb : 1000000000000000 / iabs (nth cs j) < C) : nvs cs n (j + 1) = none := by
  unfold nvs; rw [h]
  simp only [if_pos (show nth cs j ≠ 0 ∧ 1000000000000000 / iabs (nth cs j) < (ch n j : Int) from ⟨hc, by omega⟩)]
theorem nvs_ok {cs : List Int} {n j : Nat} {s C : Int} (h : nvs cs n j = some s) (hC : C = (ch n j : Int)) (hb : nth cs j = 0 ∨ ¬ 1000000000000000 / iabs (nth cs j) < C) : nvs cs n (j + 1) = if inB (s + nth cs j * C) (-1000000000000000) 1000000000000000 then some (s + nth cs j * C) else none := by
  conv => lhs; unfold nvs
  rw [h, hC] at *
  have q : ¬ (nth cs j ≠ 0 ∧ 1000000000000000 / iabs (nth cs j) < (ch n j : Int)) := by
    rintro ⟨a, b⟩
    rcases hb with hb | hb
    · exact a hb
    · exact hb (hC ▸ b)
  simp only [if_neg q]
theorem prod_abs {c C : Int} (hc : c ≠ 0) (h0 : 0 ≤ C) (hb : ¬ 1000000000000000 / iabs c < C) : -1000000000000000 ≤ c * C ∧ c * C ≤ 1000000000000000 ∧ C ≤ 1000000000000000 := by
  have b := iabs_bd c
  have p : 0 < iabs c := by rcases b.2.2.2 with h | h <;> omega
  have a := Int.mul_ediv_add_emod 1000000000000000 (iabs c)
  have d := Int.emod_nonneg 1000000000000000 (show iabs c ≠ 0 by omega)
  have e := Int.mul_le_mul_of_nonneg_left (show C ≤ 1000000000000000 / iabs c by omega) b.1
  have g := Int.mul_le_mul_of_nonneg_right b.2.1 h0
  have g2 := Int.mul_le_mul_of_nonneg_right b.2.2.1 h0
  rw [Int.neg_mul] at g2
  have q := Int.ediv_le_self (a := 1000000000000000) (iabs c) (by omega)
  omega
def nvR (cs : List Int) (n : Nat) : Int × Bool := match nvs cs n cs.length with
  | none => (0, false)
  | some s => (s, true)
theorem nvR_none {cs : List Int} {n j : Nat} (h : nvs cs n j = none) (hj : j ≤ cs.length) : nvR cs n = (0, false) := by
  unfold nvR; rw [nvs_none h hj]
theorem nvR_some {cs : List Int} {n : Nat} {s : Int} (h : nvs cs n cs.length = some s) : nvR cs n = (s, true) := by
  unfold nvR; rw [h]
end Go.Proofs.Ytgmgdjdpmjmmhaa
