/- Binomial coefficients, as the loops reckon them: plain facts. -/
import Derived.Test.YtkhjmokjbiepgaaRows
namespace Go.Proofs.Ytkhjmokjbiepgaa
def bnl (n : Int) : Nat → Int
  | 0 => 1
  | i + 1 => bnl n i * (n - i) / (i + 1)
theorem bnl_chk : ∀ n : Fin 61, ∀ i : Fin 61, i.val ≤ n.val → 1 ≤ bnl (n.val : Int) i.val ∧ bnl (n.val : Int) i.val ≤ 118264581564861424 ∧ bnl (n.val : Int) i.val * (n.val - i.val) ≤ 9000000000000000000 := by decide +kernel
theorem bnl_bd {n : Int} {i : Nat} (h0 : 0 ≤ n) (h1 : n ≤ 60) (hi : (i : Int) ≤ n) : 1 ≤ bnl n i ∧ bnl n i ≤ 118264581564861424 ∧ bnl n i * (n - i) ≤ 9000000000000000000 := by
  obtain ⟨m, rfl⟩ := Int.eq_ofNat_of_zero_le h0
  exact bnl_chk ⟨m, by omega⟩ ⟨i, by omega⟩ (by show i ≤ m; omega)
/-- the least of k and n - k -/
def bmin (n k : Int) : Int := if k ≤ n - k then k else n - k
theorem bmin_bd {n k : Int} (h0 : 0 ≤ k) (h1 : k ≤ n) : 0 ≤ bmin n k ∧ bmin n k ≤ n := by unfold bmin; split <;> omega
def binOf (n k : Int) : Int := if n < k then 0 else bnl n (bmin n k).toNat
theorem bnl_succ (n : Int) (i : Nat) : bnl n (i + 1) = bnl n i * (n - i) / (i + 1) := rfl
end Go.Proofs.Ytkhjmokjbiepgaa
