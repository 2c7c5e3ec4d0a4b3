/- Binomial coefficients by Pascal's rule, capped sums: plain facts. -/
import Derived.Test.YtgmgdjdpmjmmhaaRows
namespace Go.Proofs.Ytgmgdjdpmjmmhaa
def ch : Nat → Nat → Nat
  | _, 0 => 1
  | 0, _ + 1 => 0
  | n + 1, k + 1 => ch n k + ch n (k + 1)
theorem ch_zero (n : Nat) : ch n 0 = 1 := by cases n <;> rfl
theorem ch_succ (n k : Nat) : ch (n + 1) (k + 1) = ch n k + ch n (k + 1) := rfl
theorem ch_abs (n : Nat) : ∀ k, ch (n + 1) (k + 1) * (k + 1) = (n + 1) * ch n k := by
  induction n with
  | zero =>
    intro k
    cases k with
    | zero => rfl
    | succ k => simp [ch]
  | succ n ih =>
    intro k
    rw [ch_succ (n + 1) k, Nat.add_mul, ih k]
    cases k with
    | zero => simp [ch_zero]; omega
    | succ j =>
      have h := ih j
      have e : ch (n + 1) (j + 1) * (j + 1 + 1) = (n + 1) * ch n j + ch (n + 1) (j + 1) := by rw [Nat.mul_add, h, Nat.mul_one]
      rw [e, ch_succ n j]
      rw [Nat.mul_add (n + 1 + 1), Nat.add_mul (n + 1) 1 (ch n j), Nat.add_mul (n + 1) 1 (ch n (j + 1))]
      omega
theorem ch_mul (n k : Nat) : ch n (k + 1) * (k + 1) = ch n k * (n - k) := by
  have h := ch_abs n k
  rw [ch_succ, Nat.add_mul] at h
  by_cases hk : k ≤ n
  · have e : (n + 1) * ch n k = ch n k * (k + 1) + ch n k * (n - k) := by
      rw [← Nat.mul_add, Nat.mul_comm]; congr 1; omega
    omega
  · have : ∀ n k, n < k → ch n k = 0 := by
      intro n
      induction n with
      | zero => intro k hk; cases k with
        | zero => omega
        | succ k => rfl
      | succ n ih => intro k hk; cases k with
        | zero => omega
        | succ k => rw [ch_succ, ih k (by omega), ih (k + 1) (by omega)]
    rw [this n k (by omega), this n (k + 1) (by omega)]; simp
theorem ch_pow (n : Nat) : ∀ k, ch n k ≤ 2 ^ n := by
  induction n with
  | zero => intro k; cases k <;> simp [ch]
  | succ n ih =>
    intro k
    cases k with
    | zero => rw [ch_zero]; exact Nat.one_le_two_pow
    | succ k => rw [ch_succ, Nat.pow_succ]; have := ih k; have := ih (k + 1); omega
theorem ch_big {n k : Nat} (hk : k ≤ 8) (h : 1000000000000 < ch n k) : 1000000000000 < ch n (k + 1) := by
  have hn : 2 * k + 2 ≤ n := by
    by_cases c : 2 * k + 2 ≤ n
    · exact c
    · have a := ch_pow n k
      have b : 2 ^ n ≤ 2 ^ 18 := Nat.pow_le_pow_right (by omega) (by omega)
      omega
  have m := ch_mul n k
  have l : ch n k * (k + 1) ≤ ch n k * (n - k) := Nat.mul_le_mul_left _ (by omega)
  rw [← m] at l
  have := Nat.le_of_mul_le_mul_right l (by omega)
  omega
/-- diagonal steps -/
theorem ch_diag (m i : Nat) : ch (m + i) i ≤ ch (m + (i + 1)) (i + 1) := by
  rw [show m + (i + 1) = m + i + 1 by omega, ch_succ]; omega
theorem ch_diag_le (m : Nat) {i k : Nat} (h : i ≤ k) : ch (m + i) i ≤ ch (m + k) k := by
  induction h with
  | refl => exact Nat.le_refl _
  | step _ ih => exact Nat.le_trans ih (ch_diag m _)
theorem ch_diag_mul (m i : Nat) : ch (m + i) i * (m + i + 1) = ch (m + (i + 1)) (i + 1) * (i + 1) := by
  have := ch_abs (m + i) i
  rw [show m + (i + 1) = m + i + 1 by omega, this, Nat.mul_comm]
/-- capped at 10^12 + 1 -/
def capM (x : Int) : Int := if x ≤ 1000000000000 then x else 1000000000001
/-- the sum of the first j errors, each times its binomial coefficient -/
def psum (zs : List Int) (n : Nat) : Nat → Int
  | 0 => 0
  | j + 1 => psum zs n j + zs.getD j 0 * (ch n j : Int)
theorem psum_mono {zs : List Int} {n : Nat} (h : ∀ x ∈ zs, 0 ≤ x) {i j : Nat} (hij : i ≤ j) : psum zs n i ≤ psum zs n j := by
  induction hij with
  | refl => exact Int.le_refl _
  | step _ ih =>
    rename_i m _
    have a : 0 ≤ zs.getD m 0 := by
      by_cases c : m < zs.length
      · simpa [List.getD, c] using h _ (List.getElem_mem c)
      · simp [List.getD, c]
    have b := Int.mul_nonneg a (show (0 : Int) ≤ (ch n m : Int) by omega)
    show _ ≤ psum zs n m + zs.getD m 0 * (ch n m : Int)
    omega
theorem psum_nonneg {zs : List Int} {n : Nat} (h : ∀ x ∈ zs, 0 ≤ x) (j : Nat) : 0 ≤ psum zs n j := by
  have := psum_mono (n := n) h (Nat.zero_le j)
  exact this
theorem capM_big {x : Int} (h : 1000000000000 < x) : capM x = 1000000000001 := if_neg (by omega)
theorem capM_small {x : Int} (h : x ≤ 1000000000000) : capM x = x := if_pos h
theorem mul_gt {s c : Int} (hs : 0 < s) (h : 1000000000000 / s < c) : 1000000000000 < s * c := by
  have a := Int.mul_ediv_add_emod 1000000000000 s
  have b := Int.emod_lt_of_pos 1000000000000 hs
  have d := Int.mul_le_mul_of_nonneg_left (show 1000000000000 / s + 1 ≤ c by omega) (show 0 ≤ s by omega)
  rw [Int.mul_add] at d
  omega
theorem mul_le {s c : Int} (hs : 0 < s) (h : c ≤ 1000000000000 / s) : s * c ≤ 1000000000000 := by
  have a := Int.mul_ediv_add_emod 1000000000000 s
  have b := Int.emod_nonneg 1000000000000 (show s ≠ 0 by omega)
  have d := Int.mul_le_mul_of_nonneg_left h (show 0 ≤ s by omega)
  omega
theorem ch_lt : ∀ {n k : Nat}, n < k → ch n k = 0 := by
  intro n
  induction n with
  | zero => intro k hk; cases k with
    | zero => omega
    | succ k => rfl
  | succ n ih => intro k hk; cases k with
    | zero => omega
    | succ k => rw [ch_succ, ih (k := k) (by omega), ih (k := k + 1) (by omega)]
theorem capM_bd {x : Int} (h : 0 ≤ x) : 0 ≤ capM x ∧ capM x ≤ 1000000000001 := by unfold capM; split <;> omega
/-- the exact step of impl's loop -/
theorem ch_step_div {N i : Nat} (hi : i ≤ N) : (ch N i : Int) * ((N : Int) - (i + 1) + 1) / (i + 1) = (ch N (i + 1) : Int) := by
  have h := ch_mul N i
  have e : (ch N i : Int) * ((N : Int) - (i + 1) + 1) = (ch N (i + 1) : Int) * ((i : Int) + 1) := by
    rw [show ((N : Int) - (i + 1) + 1) = ((N - i : Nat) : Int) by omega, ← Int.natCast_mul, ← h, Int.natCast_mul]; rfl
  rw [e]; exact Int.mul_ediv_cancel _ (by omega)
theorem ch_diag_div (m j : Nat) : (ch (m + j) j : Int) * ((m : Int) + j + 1) / (j + 1) = (ch (m + (j + 1)) (j + 1) : Int) := by
  have h := ch_diag_mul m j
  have e : (ch (m + j) j : Int) * ((m : Int) + j + 1) = (ch (m + (j + 1)) (j + 1) : Int) * ((j : Int) + 1) := by
    have := congrArg (fun x : Nat => (x : Int)) h
    simpa [Int.natCast_mul] using this
  rw [e]; exact Int.mul_ediv_cancel _ (by omega)
theorem prod_bd {x y p q : Int} (h0 : 0 ≤ x) (h1 : x ≤ p) (h2 : 0 ≤ y) (h3 : y ≤ q) : 0 ≤ x * y ∧ x * y ≤ p * q := by
  refine ⟨Int.mul_nonneg h0 h2, ?_⟩
  have a := Int.mul_le_mul_of_nonneg_right h1 h2
  have c := Int.mul_le_mul_of_nonneg_left h3 (show 0 ≤ p by omega)
  omega
end Go.Proofs.Ytgmgdjdpmjmmhaa
