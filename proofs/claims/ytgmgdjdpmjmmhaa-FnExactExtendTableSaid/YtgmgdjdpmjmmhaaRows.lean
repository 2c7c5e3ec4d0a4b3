/-
  No cell of these rows narrows 'for every input' (looked for: loops, veiled, ifaces, maps, wideKeys, modest, calm, conditions, laid).
  DERIVED. THE GIVEN ROWS OF THIS SEAT. 9 by the template 'for every input the law returns true; each argument reads behind the call as it read before'; 0 by the template 'total and deterministic' (their statements: YtgmgdjdpmjmmhaaTotals.lean).
  GIVEN WITH THE SEED: the statements are not yours to turn. If you find one false, say at which input.
  Laid BY PROGRAM, IN A SANDBOX (cutbox-rows.mjs): the forced cells as the released guide's own fill.sh prints them over the translation 6a1477d06c5153db… (all of the seat's roots in one cut). By AI agents, Wed Nov 11 2026. No macro, syntax, notation, axiom, sorry.
-/
import Derived.Test.YtgmgdjdpmjmmhaaChecked
import GoSem.Claim
import GoSem.ClaimJoined
import GoSem.ClaimMapViews
import Derived.JoinedTies
import Derived.KernelRfl
namespace Go.Proofs.Ytgmgdjdpmjmmhaa
/- THE CELL 'sum', in the pinned program and in every row, IS THE sha256 OF THE DUMP (.gsa) THAT YtgmgdjdpmjmmhaaProg.lean LOADS. Nothing in Lean hashes anything: it is a label: what it is worth is what the hold of that sum in a sandbox is worth. -/
noncomputable def Try.pinned : Pinned := { name := "ytgmgdjdpmjmmhaa", sum := "6a1477d06c5153db6e616fe71284fa14b43b6f461c6c3eec53f3333349b92489", checked := Try.checked }
namespace Rows
def none {H : Type} : Left H := { results := [], args := [] }

/-- 'laws.FnExactShiftNewton': WHATEVER THE INPUT: true; the input reads as it did. -/
def fnExactShiftNewtonSpec : ChangeSpec := { name := "fnExactShiftNewton", fn := fun _ => fun
  | [d1, d2] => { results := [.lit (.bool true)], args := [d1, d2] }
  | _ => none }
def fnExactShiftNewtonRow : OpenClaim := { program := "ytgmgdjdpmjmmhaa", sum := "6a1477d06c5153db6e616fe71284fa14b43b6f461c6c3eec53f3333349b92489", func := "loop.example/g00930/laws.FnExactShiftNewton", spec := "fnExactShiftNewton", apart := false }
def FnExactShiftNewtonSaid : Prop := fnExactShiftNewtonRow.holds Try.pinned (OpenSpec.ofChange fnExactShiftNewtonSpec)

/-- ITS FALSE NEIGHBOUR: 'it returns false'. Refute it at one input. -/
def fnExactShiftNewtonWrong : ChangeSpec := { name := "fnExactShiftNewton", fn := fun _ => fun
  | [d1, d2] => { results := [.lit (.bool false)], args := [d1, d2] }
  | _ => none }
def FnExactShiftNewtonWrongFalsely : Prop := fnExactShiftNewtonRow.holds Try.pinned (OpenSpec.ofChange fnExactShiftNewtonWrong)

/-- 'laws.FnExactDifferencesOf': WHATEVER THE INPUT: true; the input reads as it did. -/
def fnExactDifferencesOfSpec : ChangeSpec := { name := "fnExactDifferencesOf", fn := fun _ => fun
  | [d1, d2] => { results := [.lit (.bool true)], args := [d1, d2] }
  | _ => none }
def fnExactDifferencesOfRow : OpenClaim := { program := "ytgmgdjdpmjmmhaa", sum := "6a1477d06c5153db6e616fe71284fa14b43b6f461c6c3eec53f3333349b92489", func := "loop.example/g00930/laws.FnExactDifferencesOf", spec := "fnExactDifferencesOf", apart := false }
def FnExactDifferencesOfSaid : Prop := fnExactDifferencesOfRow.holds Try.pinned (OpenSpec.ofChange fnExactDifferencesOfSpec)

/-- ITS FALSE NEIGHBOUR: 'it returns false'. Refute it at one input. -/
def fnExactDifferencesOfWrong : ChangeSpec := { name := "fnExactDifferencesOf", fn := fun _ => fun
  | [d1, d2] => { results := [.lit (.bool false)], args := [d1, d2] }
  | _ => none }
def FnExactDifferencesOfWrongFalsely : Prop := fnExactDifferencesOfRow.holds Try.pinned (OpenSpec.ofChange fnExactDifferencesOfWrong)

/-- 'laws.FnExactDegreeOf': WHATEVER THE INPUT: true; the input reads as it did. -/
def fnExactDegreeOfSpec : ChangeSpec := { name := "fnExactDegreeOf", fn := fun _ => fun
  | [d] => { results := [.lit (.bool true)], args := [d] }
  | _ => none }
def fnExactDegreeOfRow : OpenClaim := { program := "ytgmgdjdpmjmmhaa", sum := "6a1477d06c5153db6e616fe71284fa14b43b6f461c6c3eec53f3333349b92489", func := "loop.example/g00930/laws.FnExactDegreeOf", spec := "fnExactDegreeOf", apart := false }
def FnExactDegreeOfSaid : Prop := fnExactDegreeOfRow.holds Try.pinned (OpenSpec.ofChange fnExactDegreeOfSpec)

/-- ITS FALSE NEIGHBOUR: 'it returns false'. Refute it at one input. -/
def fnExactDegreeOfWrong : ChangeSpec := { name := "fnExactDegreeOf", fn := fun _ => fun
  | [d] => { results := [.lit (.bool false)], args := [d] }
  | _ => none }
def FnExactDegreeOfWrongFalsely : Prop := fnExactDegreeOfRow.holds Try.pinned (OpenSpec.ofChange fnExactDegreeOfWrong)

/-- 'laws.FnExactNewtonValue': WHATEVER THE INPUT: true; the input reads as it did. -/
def fnExactNewtonValueSpec : ChangeSpec := { name := "fnExactNewtonValue", fn := fun _ => fun
  | [d1, d2] => { results := [.lit (.bool true)], args := [d1, d2] }
  | _ => none }
def fnExactNewtonValueRow : OpenClaim := { program := "ytgmgdjdpmjmmhaa", sum := "6a1477d06c5153db6e616fe71284fa14b43b6f461c6c3eec53f3333349b92489", func := "loop.example/g00930/laws.FnExactNewtonValue", spec := "fnExactNewtonValue", apart := false }
def FnExactNewtonValueSaid : Prop := fnExactNewtonValueRow.holds Try.pinned (OpenSpec.ofChange fnExactNewtonValueSpec)

/-- ITS FALSE NEIGHBOUR: 'it returns false'. Refute it at one input. -/
def fnExactNewtonValueWrong : ChangeSpec := { name := "fnExactNewtonValue", fn := fun _ => fun
  | [d1, d2] => { results := [.lit (.bool false)], args := [d1, d2] }
  | _ => none }
def FnExactNewtonValueWrongFalsely : Prop := fnExactNewtonValueRow.holds Try.pinned (OpenSpec.ofChange fnExactNewtonValueWrong)

/-- 'laws.FnExactFromPowers': WHATEVER THE INPUT: true; the input reads as it did. -/
def fnExactFromPowersSpec : ChangeSpec := { name := "fnExactFromPowers", fn := fun _ => fun
  | [d] => { results := [.lit (.bool true)], args := [d] }
  | _ => none }
def fnExactFromPowersRow : OpenClaim := { program := "ytgmgdjdpmjmmhaa", sum := "6a1477d06c5153db6e616fe71284fa14b43b6f461c6c3eec53f3333349b92489", func := "loop.example/g00930/laws.FnExactFromPowers", spec := "fnExactFromPowers", apart := false }
def FnExactFromPowersSaid : Prop := fnExactFromPowersRow.holds Try.pinned (OpenSpec.ofChange fnExactFromPowersSpec)

/-- ITS FALSE NEIGHBOUR: 'it returns false'. Refute it at one input. -/
def fnExactFromPowersWrong : ChangeSpec := { name := "fnExactFromPowers", fn := fun _ => fun
  | [d] => { results := [.lit (.bool false)], args := [d] }
  | _ => none }
def FnExactFromPowersWrongFalsely : Prop := fnExactFromPowersRow.holds Try.pinned (OpenSpec.ofChange fnExactFromPowersWrong)

/-- 'laws.FnExactTabulateNewton': WHATEVER THE INPUT: true; the input reads as it did. -/
def fnExactTabulateNewtonSpec : ChangeSpec := { name := "fnExactTabulateNewton", fn := fun _ => fun
  | [d1, d2] => { results := [.lit (.bool true)], args := [d1, d2] }
  | _ => none }
def fnExactTabulateNewtonRow : OpenClaim := { program := "ytgmgdjdpmjmmhaa", sum := "6a1477d06c5153db6e616fe71284fa14b43b6f461c6c3eec53f3333349b92489", func := "loop.example/g00930/laws.FnExactTabulateNewton", spec := "fnExactTabulateNewton", apart := false }
def FnExactTabulateNewtonSaid : Prop := fnExactTabulateNewtonRow.holds Try.pinned (OpenSpec.ofChange fnExactTabulateNewtonSpec)

/-- ITS FALSE NEIGHBOUR: 'it returns false'. Refute it at one input. -/
def fnExactTabulateNewtonWrong : ChangeSpec := { name := "fnExactTabulateNewton", fn := fun _ => fun
  | [d1, d2] => { results := [.lit (.bool false)], args := [d1, d2] }
  | _ => none }
def FnExactTabulateNewtonWrongFalsely : Prop := fnExactTabulateNewtonRow.holds Try.pinned (OpenSpec.ofChange fnExactTabulateNewtonWrong)

/-- 'laws.FnExactNewtonOf': WHATEVER THE INPUT: true; the input reads as it did. -/
def fnExactNewtonOfSpec : ChangeSpec := { name := "fnExactNewtonOf", fn := fun _ => fun
  | [d] => { results := [.lit (.bool true)], args := [d] }
  | _ => none }
def fnExactNewtonOfRow : OpenClaim := { program := "ytgmgdjdpmjmmhaa", sum := "6a1477d06c5153db6e616fe71284fa14b43b6f461c6c3eec53f3333349b92489", func := "loop.example/g00930/laws.FnExactNewtonOf", spec := "fnExactNewtonOf", apart := false }
def FnExactNewtonOfSaid : Prop := fnExactNewtonOfRow.holds Try.pinned (OpenSpec.ofChange fnExactNewtonOfSpec)

/-- ITS FALSE NEIGHBOUR: 'it returns false'. Refute it at one input. -/
def fnExactNewtonOfWrong : ChangeSpec := { name := "fnExactNewtonOf", fn := fun _ => fun
  | [d] => { results := [.lit (.bool false)], args := [d] }
  | _ => none }
def FnExactNewtonOfWrongFalsely : Prop := fnExactNewtonOfRow.holds Try.pinned (OpenSpec.ofChange fnExactNewtonOfWrong)

/-- 'laws.FnExactWrongEntry': WHATEVER THE INPUT: true; the input reads as it did. -/
def fnExactWrongEntrySpec : ChangeSpec := { name := "fnExactWrongEntry", fn := fun _ => fun
  | [d1, d2] => { results := [.lit (.bool true)], args := [d1, d2] }
  | _ => none }
def fnExactWrongEntryRow : OpenClaim := { program := "ytgmgdjdpmjmmhaa", sum := "6a1477d06c5153db6e616fe71284fa14b43b6f461c6c3eec53f3333349b92489", func := "loop.example/g00930/laws.FnExactWrongEntry", spec := "fnExactWrongEntry", apart := false }
def FnExactWrongEntrySaid : Prop := fnExactWrongEntryRow.holds Try.pinned (OpenSpec.ofChange fnExactWrongEntrySpec)

/-- ITS FALSE NEIGHBOUR: 'it returns false'. Refute it at one input. -/
def fnExactWrongEntryWrong : ChangeSpec := { name := "fnExactWrongEntry", fn := fun _ => fun
  | [d1, d2] => { results := [.lit (.bool false)], args := [d1, d2] }
  | _ => none }
def FnExactWrongEntryWrongFalsely : Prop := fnExactWrongEntryRow.holds Try.pinned (OpenSpec.ofChange fnExactWrongEntryWrong)

/-- 'laws.FnExactExtendTable': WHATEVER THE INPUT: true; the input reads as it did. -/
def fnExactExtendTableSpec : ChangeSpec := { name := "fnExactExtendTable", fn := fun _ => fun
  | [d1, d2, d3] => { results := [.lit (.bool true)], args := [d1, d2, d3] }
  | _ => none }
def fnExactExtendTableRow : OpenClaim := { program := "ytgmgdjdpmjmmhaa", sum := "6a1477d06c5153db6e616fe71284fa14b43b6f461c6c3eec53f3333349b92489", func := "loop.example/g00930/laws.FnExactExtendTable", spec := "fnExactExtendTable", apart := false }
def FnExactExtendTableSaid : Prop := fnExactExtendTableRow.holds Try.pinned (OpenSpec.ofChange fnExactExtendTableSpec)

/-- ITS FALSE NEIGHBOUR: 'it returns false'. Refute it at one input. -/
def fnExactExtendTableWrong : ChangeSpec := { name := "fnExactExtendTable", fn := fun _ => fun
  | [d1, d2, d3] => { results := [.lit (.bool false)], args := [d1, d2, d3] }
  | _ => none }
def FnExactExtendTableWrongFalsely : Prop := fnExactExtendTableRow.holds Try.pinned (OpenSpec.ofChange fnExactExtendTableWrong)

/- THE SECOND FORM. 'bulk': how many values and letters a reading holds, each counted each time it is reached (what is shared counts as often as it is met; a slice's spare places count too). A statement '..UptoSaid' is the law's where the arguments, and the package variables that the reading takes, are together of bulk at most 1048576: NARROWER than '..Said'. Prove '..Said' where nothing that the law and all that it calls make is longer than what came in: it says more and counts as full. Else prove '..UptoSaid'. A law counts once. -/
mutual
def uptoBulk {H : Type} : DataW H → Nat
  | .lit (.string bytes) => bytes.length + 1
  | .lit _ => 1
  | .nil => 1
  | .ptr d => uptoBulk d + 1
  | .slice elems spare => uptoBulkAll elems + uptoBulkAll spare + 1
  | .agg parts => uptoBulkAll parts + 1
  | .iface _ d => uptoBulk d + 1
  | .map entries => uptoBulkEntries entries + 1
  | .held _ => 1
def uptoBulkAll {H : Type} : List (DataW H) → Nat
  | [] => 0
  | d :: r => uptoBulk d + uptoBulkAll r
def uptoBulkEntries {H : Type} : List (Lit × DataW H) → Nat
  | [] => 0
  | x :: r => uptoBulkEntry x + uptoBulkEntries r
def uptoBulkEntry {H : Type} : Lit × DataW H → Nat
  | (.string bytes, d) => bytes.length + uptoBulk d + 1
  | (_, d) => uptoBulk d + 1
 end
def uptoSmall : (H : Type) → List (DataW H) → Bool := fun _ ds => decide (uptoBulkAll ds ≤ 1048576)
def OpenSpec.upto (s : _root_.Go.ChangeSpec) : _root_.Go.OpenSpec := { _root_.Go.OpenSpec.ofChange s with cond := some uptoSmall }

/-- 'laws.FnExactShiftNewton', WHERE WHAT IT READS IS OF BULK AT MOST 1048576: true; the input reads as it did. -/
def fnExactShiftNewtonUptoRow : OpenClaim := { program := "ytgmgdjdpmjmmhaa", sum := "6a1477d06c5153db6e616fe71284fa14b43b6f461c6c3eec53f3333349b92489", func := "loop.example/g00930/laws.FnExactShiftNewton", spec := "fnExactShiftNewton", apart := false, narrowed := true }
def FnExactShiftNewtonUptoSaid : Prop := fnExactShiftNewtonUptoRow.holds Try.pinned (OpenSpec.upto fnExactShiftNewtonSpec)

/-- 'laws.FnExactDifferencesOf', WHERE WHAT IT READS IS OF BULK AT MOST 1048576: true; the input reads as it did. -/
def fnExactDifferencesOfUptoRow : OpenClaim := { program := "ytgmgdjdpmjmmhaa", sum := "6a1477d06c5153db6e616fe71284fa14b43b6f461c6c3eec53f3333349b92489", func := "loop.example/g00930/laws.FnExactDifferencesOf", spec := "fnExactDifferencesOf", apart := false, narrowed := true }
def FnExactDifferencesOfUptoSaid : Prop := fnExactDifferencesOfUptoRow.holds Try.pinned (OpenSpec.upto fnExactDifferencesOfSpec)

/-- 'laws.FnExactDegreeOf', WHERE WHAT IT READS IS OF BULK AT MOST 1048576: true; the input reads as it did. -/
def fnExactDegreeOfUptoRow : OpenClaim := { program := "ytgmgdjdpmjmmhaa", sum := "6a1477d06c5153db6e616fe71284fa14b43b6f461c6c3eec53f3333349b92489", func := "loop.example/g00930/laws.FnExactDegreeOf", spec := "fnExactDegreeOf", apart := false, narrowed := true }
def FnExactDegreeOfUptoSaid : Prop := fnExactDegreeOfUptoRow.holds Try.pinned (OpenSpec.upto fnExactDegreeOfSpec)

/-- 'laws.FnExactNewtonValue', WHERE WHAT IT READS IS OF BULK AT MOST 1048576: true; the input reads as it did. -/
def fnExactNewtonValueUptoRow : OpenClaim := { program := "ytgmgdjdpmjmmhaa", sum := "6a1477d06c5153db6e616fe71284fa14b43b6f461c6c3eec53f3333349b92489", func := "loop.example/g00930/laws.FnExactNewtonValue", spec := "fnExactNewtonValue", apart := false, narrowed := true }
def FnExactNewtonValueUptoSaid : Prop := fnExactNewtonValueUptoRow.holds Try.pinned (OpenSpec.upto fnExactNewtonValueSpec)

/-- 'laws.FnExactFromPowers', WHERE WHAT IT READS IS OF BULK AT MOST 1048576: true; the input reads as it did. -/
def fnExactFromPowersUptoRow : OpenClaim := { program := "ytgmgdjdpmjmmhaa", sum := "6a1477d06c5153db6e616fe71284fa14b43b6f461c6c3eec53f3333349b92489", func := "loop.example/g00930/laws.FnExactFromPowers", spec := "fnExactFromPowers", apart := false, narrowed := true }
def FnExactFromPowersUptoSaid : Prop := fnExactFromPowersUptoRow.holds Try.pinned (OpenSpec.upto fnExactFromPowersSpec)

/-- 'laws.FnExactTabulateNewton', WHERE WHAT IT READS IS OF BULK AT MOST 1048576: true; the input reads as it did. -/
def fnExactTabulateNewtonUptoRow : OpenClaim := { program := "ytgmgdjdpmjmmhaa", sum := "6a1477d06c5153db6e616fe71284fa14b43b6f461c6c3eec53f3333349b92489", func := "loop.example/g00930/laws.FnExactTabulateNewton", spec := "fnExactTabulateNewton", apart := false, narrowed := true }
def FnExactTabulateNewtonUptoSaid : Prop := fnExactTabulateNewtonUptoRow.holds Try.pinned (OpenSpec.upto fnExactTabulateNewtonSpec)

/-- 'laws.FnExactNewtonOf', WHERE WHAT IT READS IS OF BULK AT MOST 1048576: true; the input reads as it did. -/
def fnExactNewtonOfUptoRow : OpenClaim := { program := "ytgmgdjdpmjmmhaa", sum := "6a1477d06c5153db6e616fe71284fa14b43b6f461c6c3eec53f3333349b92489", func := "loop.example/g00930/laws.FnExactNewtonOf", spec := "fnExactNewtonOf", apart := false, narrowed := true }
def FnExactNewtonOfUptoSaid : Prop := fnExactNewtonOfUptoRow.holds Try.pinned (OpenSpec.upto fnExactNewtonOfSpec)

/-- 'laws.FnExactWrongEntry', WHERE WHAT IT READS IS OF BULK AT MOST 1048576: true; the input reads as it did. -/
def fnExactWrongEntryUptoRow : OpenClaim := { program := "ytgmgdjdpmjmmhaa", sum := "6a1477d06c5153db6e616fe71284fa14b43b6f461c6c3eec53f3333349b92489", func := "loop.example/g00930/laws.FnExactWrongEntry", spec := "fnExactWrongEntry", apart := false, narrowed := true }
def FnExactWrongEntryUptoSaid : Prop := fnExactWrongEntryUptoRow.holds Try.pinned (OpenSpec.upto fnExactWrongEntrySpec)

/-- 'laws.FnExactExtendTable', WHERE WHAT IT READS IS OF BULK AT MOST 1048576: true; the input reads as it did. -/
def fnExactExtendTableUptoRow : OpenClaim := { program := "ytgmgdjdpmjmmhaa", sum := "6a1477d06c5153db6e616fe71284fa14b43b6f461c6c3eec53f3333349b92489", func := "loop.example/g00930/laws.FnExactExtendTable", spec := "fnExactExtendTable", apart := false, narrowed := true }
def FnExactExtendTableUptoSaid : Prop := fnExactExtendTableUptoRow.holds Try.pinned (OpenSpec.upto fnExactExtendTableSpec)

end Rows
end Go.Proofs.Ytgmgdjdpmjmmhaa
