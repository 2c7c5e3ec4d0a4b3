/-
  No cell of these rows narrows 'for every input' (looked for: loops, veiled, ifaces, maps, wideKeys, modest, calm, conditions, laid).
  DERIVED. THE GIVEN ROWS OF THIS SEAT. 11 by the template 'for every input the law returns true; each argument reads behind the call as it read before'; 0 by the template 'total and deterministic' (their statements: YtidpoeojkifonaaTotals.lean).
  GIVEN WITH THE SEED: the statements are not yours to turn. If you find one false, say at which input.
  Laid BY PROGRAM, IN A SANDBOX (cutbox-rows.mjs): the forced cells as the released guide's own fill.sh prints them over the translation 803cde5abd517ddb… (all of the seat's roots in one cut). By AI agents, Wed Nov 11 2026. No macro, syntax, notation, axiom, sorry.
-/
import Derived.Test.YtidpoeojkifonaaChecked
import GoSem.Claim
import GoSem.ClaimJoined
import GoSem.ClaimMapViews
import Derived.JoinedTies
import Derived.KernelRfl
namespace Go.Proofs.Ytidpoeojkifonaa
/- THE CELL 'sum', in the pinned program and in every row, IS THE sha256 OF THE DUMP (.gsa) THAT YtidpoeojkifonaaProg.lean LOADS. Nothing in Lean hashes anything: it is a label: what it is worth is what the hold of that sum in a sandbox is worth. -/
noncomputable def Try.pinned : Pinned := { name := "ytidpoeojkifonaa", sum := "803cde5abd517ddb30a312bcb97cf63623c698a41a4917319ca38693097bc06f", checked := Try.checked }
namespace Rows
def none {H : Type} : Left H := { results := [], args := [] }

/-- 'laws.FnExactSameTurns': WHATEVER THE INPUT: true; the input reads as it did. -/
def fnExactSameTurnsSpec : ChangeSpec := { name := "fnExactSameTurns", fn := fun _ => fun
  | [d1, d2] => { results := [.lit (.bool true)], args := [d1, d2] }
  | _ => none }
def fnExactSameTurnsRow : OpenClaim := { program := "ytidpoeojkifonaa", sum := "803cde5abd517ddb30a312bcb97cf63623c698a41a4917319ca38693097bc06f", func := "loop.example/g00930/laws.FnExactSameTurns", spec := "fnExactSameTurns", apart := false }
def FnExactSameTurnsSaid : Prop := fnExactSameTurnsRow.holds Try.pinned (OpenSpec.ofChange fnExactSameTurnsSpec)

/-- ITS FALSE NEIGHBOUR: 'it returns false'. Refute it at one input. -/
def fnExactSameTurnsWrong : ChangeSpec := { name := "fnExactSameTurns", fn := fun _ => fun
  | [d1, d2] => { results := [.lit (.bool false)], args := [d1, d2] }
  | _ => none }
def FnExactSameTurnsWrongFalsely : Prop := fnExactSameTurnsRow.holds Try.pinned (OpenSpec.ofChange fnExactSameTurnsWrong)

/-- 'laws.FnExactLowerBound': WHATEVER THE INPUT: true; the input reads as it did. -/
def fnExactLowerBoundSpec : ChangeSpec := { name := "fnExactLowerBound", fn := fun _ => fun
  | [d1, d2] => { results := [.lit (.bool true)], args := [d1, d2] }
  | _ => none }
def fnExactLowerBoundRow : OpenClaim := { program := "ytidpoeojkifonaa", sum := "803cde5abd517ddb30a312bcb97cf63623c698a41a4917319ca38693097bc06f", func := "loop.example/g00930/laws.FnExactLowerBound", spec := "fnExactLowerBound", recurses := true, apart := false }
def FnExactLowerBoundSaid : Prop := fnExactLowerBoundRow.holds Try.pinned (OpenSpec.ofChange fnExactLowerBoundSpec)

/-- ITS FALSE NEIGHBOUR: 'it returns false'. Refute it at one input. -/
def fnExactLowerBoundWrong : ChangeSpec := { name := "fnExactLowerBound", fn := fun _ => fun
  | [d1, d2] => { results := [.lit (.bool false)], args := [d1, d2] }
  | _ => none }
def FnExactLowerBoundWrongFalsely : Prop := fnExactLowerBoundRow.holds Try.pinned (OpenSpec.ofChange fnExactLowerBoundWrong)

/-- 'laws.FnExactPlainTurns': WHATEVER THE INPUT: true; the input reads as it did. -/
def fnExactPlainTurnsSpec : ChangeSpec := { name := "fnExactPlainTurns", fn := fun _ => fun
  | [d1, d2] => { results := [.lit (.bool true)], args := [d1, d2] }
  | _ => none }
def fnExactPlainTurnsRow : OpenClaim := { program := "ytidpoeojkifonaa", sum := "803cde5abd517ddb30a312bcb97cf63623c698a41a4917319ca38693097bc06f", func := "loop.example/g00930/laws.FnExactPlainTurns", spec := "fnExactPlainTurns", apart := false }
def FnExactPlainTurnsSaid : Prop := fnExactPlainTurnsRow.holds Try.pinned (OpenSpec.ofChange fnExactPlainTurnsSpec)

/-- ITS FALSE NEIGHBOUR: 'it returns false'. Refute it at one input. -/
def fnExactPlainTurnsWrong : ChangeSpec := { name := "fnExactPlainTurns", fn := fun _ => fun
  | [d1, d2] => { results := [.lit (.bool false)], args := [d1, d2] }
  | _ => none }
def FnExactPlainTurnsWrongFalsely : Prop := fnExactPlainTurnsRow.holds Try.pinned (OpenSpec.ofChange fnExactPlainTurnsWrong)

/-- 'laws.FnExactValidTurns': WHATEVER THE INPUT: true; the input reads as it did. -/
def fnExactValidTurnsSpec : ChangeSpec := { name := "fnExactValidTurns", fn := fun _ => fun
  | [d] => { results := [.lit (.bool true)], args := [d] }
  | _ => none }
def fnExactValidTurnsRow : OpenClaim := { program := "ytidpoeojkifonaa", sum := "803cde5abd517ddb30a312bcb97cf63623c698a41a4917319ca38693097bc06f", func := "loop.example/g00930/laws.FnExactValidTurns", spec := "fnExactValidTurns", apart := false }
def FnExactValidTurnsSaid : Prop := fnExactValidTurnsRow.holds Try.pinned (OpenSpec.ofChange fnExactValidTurnsSpec)

/-- ITS FALSE NEIGHBOUR: 'it returns false'. Refute it at one input. -/
def fnExactValidTurnsWrong : ChangeSpec := { name := "fnExactValidTurns", fn := fun _ => fun
  | [d] => { results := [.lit (.bool false)], args := [d] }
  | _ => none }
def FnExactValidTurnsWrongFalsely : Prop := fnExactValidTurnsRow.holds Try.pinned (OpenSpec.ofChange fnExactValidTurnsWrong)

/-- 'laws.FnExactFewestTurns': WHATEVER THE INPUT: true; the input reads as it did. -/
def fnExactFewestTurnsSpec : ChangeSpec := { name := "fnExactFewestTurns", fn := fun _ => fun
  | [d1, d2] => { results := [.lit (.bool true)], args := [d1, d2] }
  | _ => none }
def fnExactFewestTurnsRow : OpenClaim := { program := "ytidpoeojkifonaa", sum := "803cde5abd517ddb30a312bcb97cf63623c698a41a4917319ca38693097bc06f", func := "loop.example/g00930/laws.FnExactFewestTurns", spec := "fnExactFewestTurns", apart := false }
def FnExactFewestTurnsSaid : Prop := fnExactFewestTurnsRow.holds Try.pinned (OpenSpec.ofChange fnExactFewestTurnsSpec)

/-- ITS FALSE NEIGHBOUR: 'it returns false'. Refute it at one input. -/
def fnExactFewestTurnsWrong : ChangeSpec := { name := "fnExactFewestTurns", fn := fun _ => fun
  | [d1, d2] => { results := [.lit (.bool false)], args := [d1, d2] }
  | _ => none }
def FnExactFewestTurnsWrongFalsely : Prop := fnExactFewestTurnsRow.holds Try.pinned (OpenSpec.ofChange fnExactFewestTurnsWrong)

/-- 'laws.FnExactCompareMethods': WHATEVER THE INPUT: true; the input reads as it did. -/
def fnExactCompareMethodsSpec : ChangeSpec := { name := "fnExactCompareMethods", fn := fun _ => fun
  | [d1, d2] => { results := [.lit (.bool true)], args := [d1, d2] }
  | _ => none }
def fnExactCompareMethodsRow : OpenClaim := { program := "ytidpoeojkifonaa", sum := "803cde5abd517ddb30a312bcb97cf63623c698a41a4917319ca38693097bc06f", func := "loop.example/g00930/laws.FnExactCompareMethods", spec := "fnExactCompareMethods", apart := false }
def FnExactCompareMethodsSaid : Prop := fnExactCompareMethodsRow.holds Try.pinned (OpenSpec.ofChange fnExactCompareMethodsSpec)

/-- ITS FALSE NEIGHBOUR: 'it returns false'. Refute it at one input. -/
def fnExactCompareMethodsWrong : ChangeSpec := { name := "fnExactCompareMethods", fn := fun _ => fun
  | [d1, d2] => { results := [.lit (.bool false)], args := [d1, d2] }
  | _ => none }
def FnExactCompareMethodsWrongFalsely : Prop := fnExactCompareMethodsRow.holds Try.pinned (OpenSpec.ofChange fnExactCompareMethodsWrong)

/-- 'laws.FnExactFactorOf': WHATEVER THE INPUT: true; the input reads as it did. -/
def fnExactFactorOfSpec : ChangeSpec := { name := "fnExactFactorOf", fn := fun _ => fun
  | [d] => { results := [.lit (.bool true)], args := [d] }
  | _ => none }
def fnExactFactorOfRow : OpenClaim := { program := "ytidpoeojkifonaa", sum := "803cde5abd517ddb30a312bcb97cf63623c698a41a4917319ca38693097bc06f", func := "loop.example/g00930/laws.FnExactFactorOf", spec := "fnExactFactorOf", apart := false }
def FnExactFactorOfSaid : Prop := fnExactFactorOfRow.holds Try.pinned (OpenSpec.ofChange fnExactFactorOfSpec)

/-- ITS FALSE NEIGHBOUR: 'it returns false'. Refute it at one input. -/
def fnExactFactorOfWrong : ChangeSpec := { name := "fnExactFactorOf", fn := fun _ => fun
  | [d] => { results := [.lit (.bool false)], args := [d] }
  | _ => none }
def FnExactFactorOfWrongFalsely : Prop := fnExactFactorOfRow.holds Try.pinned (OpenSpec.ofChange fnExactFactorOfWrong)

/-- 'laws.FnExactCountTurns': WHATEVER THE INPUT: true; the input reads as it did. -/
def fnExactCountTurnsSpec : ChangeSpec := { name := "fnExactCountTurns", fn := fun _ => fun
  | [d] => { results := [.lit (.bool true)], args := [d] }
  | _ => none }
def fnExactCountTurnsRow : OpenClaim := { program := "ytidpoeojkifonaa", sum := "803cde5abd517ddb30a312bcb97cf63623c698a41a4917319ca38693097bc06f", func := "loop.example/g00930/laws.FnExactCountTurns", spec := "fnExactCountTurns", apart := false }
def FnExactCountTurnsSaid : Prop := fnExactCountTurnsRow.holds Try.pinned (OpenSpec.ofChange fnExactCountTurnsSpec)

/-- ITS FALSE NEIGHBOUR: 'it returns false'. Refute it at one input. -/
def fnExactCountTurnsWrong : ChangeSpec := { name := "fnExactCountTurns", fn := fun _ => fun
  | [d] => { results := [.lit (.bool false)], args := [d] }
  | _ => none }
def FnExactCountTurnsWrongFalsely : Prop := fnExactCountTurnsRow.holds Try.pinned (OpenSpec.ofChange fnExactCountTurnsWrong)

/-- 'laws.FnExactAddTurns': WHATEVER THE INPUT: true; the input reads as it did. -/
def fnExactAddTurnsSpec : ChangeSpec := { name := "fnExactAddTurns", fn := fun _ => fun
  | [d1, d2] => { results := [.lit (.bool true)], args := [d1, d2] }
  | _ => none }
def fnExactAddTurnsRow : OpenClaim := { program := "ytidpoeojkifonaa", sum := "803cde5abd517ddb30a312bcb97cf63623c698a41a4917319ca38693097bc06f", func := "loop.example/g00930/laws.FnExactAddTurns", spec := "fnExactAddTurns", apart := false }
def FnExactAddTurnsSaid : Prop := fnExactAddTurnsRow.holds Try.pinned (OpenSpec.ofChange fnExactAddTurnsSpec)

/-- ITS FALSE NEIGHBOUR: 'it returns false'. Refute it at one input. -/
def fnExactAddTurnsWrong : ChangeSpec := { name := "fnExactAddTurns", fn := fun _ => fun
  | [d1, d2] => { results := [.lit (.bool false)], args := [d1, d2] }
  | _ => none }
def FnExactAddTurnsWrongFalsely : Prop := fnExactAddTurnsRow.holds Try.pinned (OpenSpec.ofChange fnExactAddTurnsWrong)

/-- 'laws.FnExactStrokesOf': WHATEVER THE INPUT: true; the input reads as it did. -/
def fnExactStrokesOfSpec : ChangeSpec := { name := "fnExactStrokesOf", fn := fun _ => fun
  | [d] => { results := [.lit (.bool true)], args := [d] }
  | _ => none }
def fnExactStrokesOfRow : OpenClaim := { program := "ytidpoeojkifonaa", sum := "803cde5abd517ddb30a312bcb97cf63623c698a41a4917319ca38693097bc06f", func := "loop.example/g00930/laws.FnExactStrokesOf", spec := "fnExactStrokesOf", apart := false }
def FnExactStrokesOfSaid : Prop := fnExactStrokesOfRow.holds Try.pinned (OpenSpec.ofChange fnExactStrokesOfSpec)

/-- ITS FALSE NEIGHBOUR: 'it returns false'. Refute it at one input. -/
def fnExactStrokesOfWrong : ChangeSpec := { name := "fnExactStrokesOf", fn := fun _ => fun
  | [d] => { results := [.lit (.bool false)], args := [d] }
  | _ => none }
def FnExactStrokesOfWrongFalsely : Prop := fnExactStrokesOfRow.holds Try.pinned (OpenSpec.ofChange fnExactStrokesOfWrong)

/-- 'laws.FnExactMultiplyProgram': WHATEVER THE INPUT: true; the input reads as it did. -/
def fnExactMultiplyProgramSpec : ChangeSpec := { name := "fnExactMultiplyProgram", fn := fun _ => fun
  | [d1, d2, d3] => { results := [.lit (.bool true)], args := [d1, d2, d3] }
  | _ => none }
def fnExactMultiplyProgramRow : OpenClaim := { program := "ytidpoeojkifonaa", sum := "803cde5abd517ddb30a312bcb97cf63623c698a41a4917319ca38693097bc06f", func := "loop.example/g00930/laws.FnExactMultiplyProgram", spec := "fnExactMultiplyProgram", apart := false }
def FnExactMultiplyProgramSaid : Prop := fnExactMultiplyProgramRow.holds Try.pinned (OpenSpec.ofChange fnExactMultiplyProgramSpec)

/-- ITS FALSE NEIGHBOUR: 'it returns false'. Refute it at one input. -/
def fnExactMultiplyProgramWrong : ChangeSpec := { name := "fnExactMultiplyProgram", fn := fun _ => fun
  | [d1, d2, d3] => { results := [.lit (.bool false)], args := [d1, d2, d3] }
  | _ => none }
def FnExactMultiplyProgramWrongFalsely : Prop := fnExactMultiplyProgramRow.holds Try.pinned (OpenSpec.ofChange fnExactMultiplyProgramWrong)

/- THE SECOND FORM. 'bulk': how many values and letters a reading holds, each counted each time it is reached (what is shared counts as often as it is met; a slice's spare places count too). A statement '..UptoSaid' is the law's where the arguments, and the package variables that the reading takes, are together of bulk at most 1048576: NARROWER than '..Said'. Prove '..Said' where nothing that the law and all that it calls make is longer than what came in: it says more and counts as full. Else prove '..UptoSaid'. A law counts once. -/
mutual
def uptoBulk {H : Type} : DataW H → Nat
  | .lit (.string bytes) => bytes.length + 1
  | .lit _ => 1
  | .nil => 1
  | .ptr d => uptoBulk d + 1
  | .slice elems spare => uptoBulkAll elems + uptoBulkAll spare + 1
  | .agg parts => uptoBulkAll parts + 1
  | .iface _ d => uptoBulk d + 1
  | .map entries => uptoBulkEntries entries + 1
  | .held _ => 1
def uptoBulkAll {H : Type} : List (DataW H) → Nat
  | [] => 0
  | d :: r => uptoBulk d + uptoBulkAll r
def uptoBulkEntries {H : Type} : List (Lit × DataW H) → Nat
  | [] => 0
  | x :: r => uptoBulkEntry x + uptoBulkEntries r
def uptoBulkEntry {H : Type} : Lit × DataW H → Nat
  | (.string bytes, d) => bytes.length + uptoBulk d + 1
  | (_, d) => uptoBulk d + 1
 end
def uptoSmall : (H : Type) → List (DataW H) → Bool := fun _ ds => decide (uptoBulkAll ds ≤ 1048576)
def OpenSpec.upto (s : _root_.Go.ChangeSpec) : _root_.Go.OpenSpec := { _root_.Go.OpenSpec.ofChange s with cond := some uptoSmall }

/-- 'laws.FnExactSameTurns', WHERE WHAT IT READS IS OF BULK AT MOST 1048576: true; the input reads as it did. -/
def fnExactSameTurnsUptoRow : OpenClaim := { program := "ytidpoeojkifonaa", sum := "803cde5abd517ddb30a312bcb97cf63623c698a41a4917319ca38693097bc06f", func := "loop.example/g00930/laws.FnExactSameTurns", spec := "fnExactSameTurns", apart := false, narrowed := true }
def FnExactSameTurnsUptoSaid : Prop := fnExactSameTurnsUptoRow.holds Try.pinned (OpenSpec.upto fnExactSameTurnsSpec)

/-- 'laws.FnExactLowerBound', WHERE WHAT IT READS IS OF BULK AT MOST 1048576: true; the input reads as it did. -/
def fnExactLowerBoundUptoRow : OpenClaim := { program := "ytidpoeojkifonaa", sum := "803cde5abd517ddb30a312bcb97cf63623c698a41a4917319ca38693097bc06f", func := "loop.example/g00930/laws.FnExactLowerBound", spec := "fnExactLowerBound", recurses := true, apart := false, narrowed := true }
def FnExactLowerBoundUptoSaid : Prop := fnExactLowerBoundUptoRow.holds Try.pinned (OpenSpec.upto fnExactLowerBoundSpec)

/-- 'laws.FnExactPlainTurns', WHERE WHAT IT READS IS OF BULK AT MOST 1048576: true; the input reads as it did. -/
def fnExactPlainTurnsUptoRow : OpenClaim := { program := "ytidpoeojkifonaa", sum := "803cde5abd517ddb30a312bcb97cf63623c698a41a4917319ca38693097bc06f", func := "loop.example/g00930/laws.FnExactPlainTurns", spec := "fnExactPlainTurns", apart := false, narrowed := true }
def FnExactPlainTurnsUptoSaid : Prop := fnExactPlainTurnsUptoRow.holds Try.pinned (OpenSpec.upto fnExactPlainTurnsSpec)

/-- 'laws.FnExactValidTurns', WHERE WHAT IT READS IS OF BULK AT MOST 1048576: true; the input reads as it did. -/
def fnExactValidTurnsUptoRow : OpenClaim := { program := "ytidpoeojkifonaa", sum := "803cde5abd517ddb30a312bcb97cf63623c698a41a4917319ca38693097bc06f", func := "loop.example/g00930/laws.FnExactValidTurns", spec := "fnExactValidTurns", apart := false, narrowed := true }
def FnExactValidTurnsUptoSaid : Prop := fnExactValidTurnsUptoRow.holds Try.pinned (OpenSpec.upto fnExactValidTurnsSpec)

/-- 'laws.FnExactFewestTurns', WHERE WHAT IT READS IS OF BULK AT MOST 1048576: true; the input reads as it did. -/
def fnExactFewestTurnsUptoRow : OpenClaim := { program := "ytidpoeojkifonaa", sum := "803cde5abd517ddb30a312bcb97cf63623c698a41a4917319ca38693097bc06f", func := "loop.example/g00930/laws.FnExactFewestTurns", spec := "fnExactFewestTurns", apart := false, narrowed := true }
def FnExactFewestTurnsUptoSaid : Prop := fnExactFewestTurnsUptoRow.holds Try.pinned (OpenSpec.upto fnExactFewestTurnsSpec)

/-- 'laws.FnExactCompareMethods', WHERE WHAT IT READS IS OF BULK AT MOST 1048576: true; the input reads as it did. -/
def fnExactCompareMethodsUptoRow : OpenClaim := { program := "ytidpoeojkifonaa", sum := "803cde5abd517ddb30a312bcb97cf63623c698a41a4917319ca38693097bc06f", func := "loop.example/g00930/laws.FnExactCompareMethods", spec := "fnExactCompareMethods", apart := false, narrowed := true }
def FnExactCompareMethodsUptoSaid : Prop := fnExactCompareMethodsUptoRow.holds Try.pinned (OpenSpec.upto fnExactCompareMethodsSpec)

/-- 'laws.FnExactFactorOf', WHERE WHAT IT READS IS OF BULK AT MOST 1048576: true; the input reads as it did. -/
def fnExactFactorOfUptoRow : OpenClaim := { program := "ytidpoeojkifonaa", sum := "803cde5abd517ddb30a312bcb97cf63623c698a41a4917319ca38693097bc06f", func := "loop.example/g00930/laws.FnExactFactorOf", spec := "fnExactFactorOf", apart := false, narrowed := true }
def FnExactFactorOfUptoSaid : Prop := fnExactFactorOfUptoRow.holds Try.pinned (OpenSpec.upto fnExactFactorOfSpec)

/-- 'laws.FnExactCountTurns', WHERE WHAT IT READS IS OF BULK AT MOST 1048576: true; the input reads as it did. -/
def fnExactCountTurnsUptoRow : OpenClaim := { program := "ytidpoeojkifonaa", sum := "803cde5abd517ddb30a312bcb97cf63623c698a41a4917319ca38693097bc06f", func := "loop.example/g00930/laws.FnExactCountTurns", spec := "fnExactCountTurns", apart := false, narrowed := true }
def FnExactCountTurnsUptoSaid : Prop := fnExactCountTurnsUptoRow.holds Try.pinned (OpenSpec.upto fnExactCountTurnsSpec)

/-- 'laws.FnExactAddTurns', WHERE WHAT IT READS IS OF BULK AT MOST 1048576: true; the input reads as it did. -/
def fnExactAddTurnsUptoRow : OpenClaim := { program := "ytidpoeojkifonaa", sum := "803cde5abd517ddb30a312bcb97cf63623c698a41a4917319ca38693097bc06f", func := "loop.example/g00930/laws.FnExactAddTurns", spec := "fnExactAddTurns", apart := false, narrowed := true }
def FnExactAddTurnsUptoSaid : Prop := fnExactAddTurnsUptoRow.holds Try.pinned (OpenSpec.upto fnExactAddTurnsSpec)

/-- 'laws.FnExactStrokesOf', WHERE WHAT IT READS IS OF BULK AT MOST 1048576: true; the input reads as it did. -/
def fnExactStrokesOfUptoRow : OpenClaim := { program := "ytidpoeojkifonaa", sum := "803cde5abd517ddb30a312bcb97cf63623c698a41a4917319ca38693097bc06f", func := "loop.example/g00930/laws.FnExactStrokesOf", spec := "fnExactStrokesOf", apart := false, narrowed := true }
def FnExactStrokesOfUptoSaid : Prop := fnExactStrokesOfUptoRow.holds Try.pinned (OpenSpec.upto fnExactStrokesOfSpec)

/-- 'laws.FnExactMultiplyProgram', WHERE WHAT IT READS IS OF BULK AT MOST 1048576: true; the input reads as it did. -/
def fnExactMultiplyProgramUptoRow : OpenClaim := { program := "ytidpoeojkifonaa", sum := "803cde5abd517ddb30a312bcb97cf63623c698a41a4917319ca38693097bc06f", func := "loop.example/g00930/laws.FnExactMultiplyProgram", spec := "fnExactMultiplyProgram", apart := false, narrowed := true }
def FnExactMultiplyProgramUptoSaid : Prop := fnExactMultiplyProgramUptoRow.holds Try.pinned (OpenSpec.upto fnExactMultiplyProgramSpec)

end Rows
end Go.Proofs.Ytidpoeojkifonaa
