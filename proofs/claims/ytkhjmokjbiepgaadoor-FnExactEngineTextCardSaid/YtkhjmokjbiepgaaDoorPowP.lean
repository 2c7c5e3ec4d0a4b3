/- Powers, capped as the two packages cap them: plain facts. -/
import Derived.Test.YtkhjmokjbiepgaaDoorRows
namespace Go.Proofs.YtkhjmokjbiepgaaDoor
/-- b to the power n, capped at 10^12 + 2 at each step. -/
def lpow (b : Int) : Nat → Int
  | 0 => 1
  | n + 1 => if 1000000000002 < lpow b n * b then 1000000000002 else lpow b n * b
theorem lpow_bd {b : Int} (h1 : 2 ≤ b) (h2 : b ≤ 16) (n : Nat) : 1 ≤ lpow b n ∧ lpow b n ≤ 1000000000002 ∧ lpow b n * b ≤ 16000000000032 ∧ 0 ≤ lpow b n * b := by
  have key : ∀ x : Int, 1 ≤ x → x ≤ 1000000000002 → x * b ≤ 16000000000032 ∧ 2 ≤ x * b := fun x hx1 hx2 => by
    have a := Int.mul_le_mul_of_nonneg_left h2 (show 0 ≤ x by omega)
    have c := Int.mul_le_mul_of_nonneg_left h1 (show 0 ≤ x by omega)
    omega
  have h : 1 ≤ lpow b n ∧ lpow b n ≤ 1000000000002 := by
    induction n with
    | zero => simp [lpow]
    | succ n ih =>
      have k := key _ ih.1 ih.2
      unfold lpow
      split <;> omega
  have k := key _ h.1 h.2
  exact ⟨h.1, h.2, k.1, by omega⟩
/-- b to the power n, plainly -/
def ipow (b : Int) : Nat → Int
  | 0 => 1
  | n + 1 => ipow b n * b
theorem ipow_pos {b : Int} (h1 : 2 ≤ b) (n : Nat) : 1 ≤ ipow b n := by
  induction n with
  | zero => simp [ipow]
  | succ n ih =>
    have c := Int.mul_le_mul_of_nonneg_left h1 (show 0 ≤ ipow b n by omega)
    unfold ipow; omega
theorem ipow_le {b : Int} (h1 : 2 ≤ b) {m n : Nat} (h : m ≤ n) : ipow b m ≤ ipow b n := by
  induction h with
  | refl => exact Int.le_refl _
  | step _ ih =>
    rename_i n _
    have p := ipow_pos h1 n
    have c := Int.mul_le_mul_of_nonneg_left h1 (show 0 ≤ ipow b n by omega)
    show _ ≤ ipow b n * b
    omega
theorem lpow_eq {b : Int} (h1 : 2 ≤ b) (n : Nat) : lpow b n = if 1000000000002 < ipow b n then 1000000000002 else ipow b n := by
  induction n with
  | zero => simp [lpow, ipow]
  | succ n ih =>
    have p := ipow_pos h1 n
    have c := Int.mul_le_mul_of_nonneg_left h1 (show 0 ≤ ipow b n by omega)
    have d := Int.mul_le_mul_of_nonneg_left h1 (show (0 : Int) ≤ 1000000000002 by omega)
    unfold lpow ipow
    rw [ih]
    split
    · rw [if_pos (by omega), if_pos (by omega)]
    · rfl
/-- what 'power' returns: 0 where the power less 1 is greater than 10^12 -/
def ppow (b : Int) (n : Nat) : Int := if 1000000000000 < ipow b n - 1 then 0 else ipow b n
theorem lpow_ppow {b : Int} (h1 : 2 ≤ b) (n : Nat) (h : ipow b n - 1 ≤ 1000000000000) : lpow b n = ipow b n ∧ ppow b n = ipow b n := by
  refine ⟨?_, if_neg (by omega)⟩
  rw [lpow_eq h1, if_neg (by omega)]
theorem lpow_big {b : Int} (h1 : 2 ≤ b) (n : Nat) (h : ¬ ipow b n - 1 ≤ 1000000000000) : 1000000000000 < lpow b n - 1 ∧ ppow b n = 0 := by
  refine ⟨?_, if_pos (by omega)⟩
  rw [lpow_eq h1]
  split <;> omega
theorem ten_chk : ∀ n : Fin 13, lpow 10 n.val = ipow 10 n.val ∧ 1 ≤ ipow 10 n.val ∧ ipow 10 n.val ≤ 1000000000000 := by decide +kernel
theorem ten_bd {n : Nat} (h : n ≤ 12) : lpow 10 n = ipow 10 n ∧ 1 ≤ ipow 10 n ∧ ipow 10 n ≤ 1000000000000 := ten_chk ⟨n, by omega⟩
end Go.Proofs.YtkhjmokjbiepgaaDoor
