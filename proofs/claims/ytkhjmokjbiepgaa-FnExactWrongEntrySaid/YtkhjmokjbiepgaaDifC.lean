/- Differences of an order, degree, first differences: the laws' functions. -/
import Derived.IntWalk
import Derived.Test.YtkhjmokjbiepgaaDifB
namespace Go.Proofs.Ytkhjmokjbiepgaa
open Go.ChangeShapes Go.WideShapes Go.ChangeAt Go.RowKit
theorem fitsV {zs : List Int} (h : valB zs = true) : ∀ j, bdd 1000000000000000000 (difN zs j) := fun j => difN_fits (valB_parts h).2.2 (valB_parts h).1 j
def difR (zs : List Int) (n : Int) : List Int × Int := if valB zs then (if inB n 0 (zs.length - 1) then (difN zs n.toNat, 0) else ([], 2)) else ([], 1)
theorem difR_len (zs : List Int) (n : Int) : (difR zs n).1.length ≤ 1000 := by
  unfold difR
  split
  · rename_i h
    have := (valB_parts h).2.2
    split
    · rw [difN_len]; omega
    · simp
  · simp
def degR (zs : List Int) : Int × Int := if valB zs then ((degOf zs : Int), 0) else (0, 1)
def lead (zs : List Int) (m : Nat) : List Int := (List.range m).map fun k : Nat => nth (difN zs k) 0
theorem lead_succ (zs : List Int) (m : Nat) : lead zs (m + 1) = lead zs m ++ [nth (difN zs m) 0] := by simp [lead, List.range_succ]
theorem lead_len (zs : List Int) (m : Nat) : (lead zs m).length = m := by simp [lead]
def newtR (zs : List Int) : List Int × Int := if valB zs then (if coefB (lead zs (degOf zs + 1)) then (lead zs (degOf zs + 1), 0) else ([], 5)) else ([], 1)
theorem newtR_len (zs : List Int) : (newtR zs).1.length ≤ 1000 := by
  unfold newtR
  split
  · split
    · rename_i h; have := (coefB_parts h).2.2; show (lead zs _).length ≤ _; omega
    · simp
  · simp
end Go.Proofs.Ytkhjmokjbiepgaa
