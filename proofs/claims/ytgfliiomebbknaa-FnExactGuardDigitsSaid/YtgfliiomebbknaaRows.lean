/-
  No cell of these rows narrows 'for every input' (looked for: loops, veiled, ifaces, maps, wideKeys, modest, calm, conditions, laid).
  DERIVED. THE GIVEN ROWS OF THIS SEAT. 10 by the template 'for every input the law returns true; each argument reads behind the call as it read before'; 0 by the template 'total and deterministic' (their statements: YtgfliiomebbknaaTotals.lean).
  GIVEN WITH THE SEED: the statements are not yours to turn. If you find one false, say at which input.
  Laid BY PROGRAM, IN A SANDBOX (cutbox-rows.mjs): the forced cells as the released guide's own fill.sh prints them over the translation 42e10ef80bb5d7d2… (all of the seat's roots in one cut). By AI agents, Wed Nov 11 2026. No macro, syntax, notation, axiom, sorry.
-/
import Derived.Test.YtgfliiomebbknaaChecked
import GoSem.Claim
import GoSem.ClaimJoined
import GoSem.ClaimMapViews
import Derived.JoinedTies
import Derived.KernelRfl
namespace Go.Proofs.Ytgfliiomebbknaa
/- THE CELL 'sum', in the pinned program and in every row, IS THE sha256 OF THE DUMP (.gsa) THAT YtgfliiomebbknaaProg.lean LOADS. Nothing in Lean hashes anything: it is a label: what it is worth is what the hold of that sum in a sandbox is worth. -/
noncomputable def Try.pinned : Pinned := { name := "ytgfliiomebbknaa", sum := "42e10ef80bb5d7d23d0cc2ff1fdec78551b9159baf24cfbe7b124e67fd9e678d", checked := Try.checked }
namespace Rows
def none {H : Type} : Left H := { results := [], args := [] }

/-- 'laws.FnExactRoundTo': WHATEVER THE INPUT: true; the input reads as it did. -/
def fnExactRoundToSpec : ChangeSpec := { name := "fnExactRoundTo", fn := fun _ => fun
  | [d1, d2] => { results := [.lit (.bool true)], args := [d1, d2] }
  | _ => none }
def fnExactRoundToRow : OpenClaim := { program := "ytgfliiomebbknaa", sum := "42e10ef80bb5d7d23d0cc2ff1fdec78551b9159baf24cfbe7b124e67fd9e678d", func := "loop.example/g00930/laws.FnExactRoundTo", spec := "fnExactRoundTo", apart := false }
def FnExactRoundToSaid : Prop := fnExactRoundToRow.holds Try.pinned (OpenSpec.ofChange fnExactRoundToSpec)

/-- ITS FALSE NEIGHBOUR: 'it returns false'. Refute it at one input. -/
def fnExactRoundToWrong : ChangeSpec := { name := "fnExactRoundTo", fn := fun _ => fun
  | [d1, d2] => { results := [.lit (.bool false)], args := [d1, d2] }
  | _ => none }
def FnExactRoundToWrongFalsely : Prop := fnExactRoundToRow.holds Try.pinned (OpenSpec.ofChange fnExactRoundToWrong)

/-- 'laws.FnExactSignedResult': WHATEVER THE INPUT: true; the input reads as it did. -/
def fnExactSignedResultSpec : ChangeSpec := { name := "fnExactSignedResult", fn := fun _ => fun
  | [d1, d2] => { results := [.lit (.bool true)], args := [d1, d2] }
  | _ => none }
def fnExactSignedResultRow : OpenClaim := { program := "ytgfliiomebbknaa", sum := "42e10ef80bb5d7d23d0cc2ff1fdec78551b9159baf24cfbe7b124e67fd9e678d", func := "loop.example/g00930/laws.FnExactSignedResult", spec := "fnExactSignedResult", apart := false }
def FnExactSignedResultSaid : Prop := fnExactSignedResultRow.holds Try.pinned (OpenSpec.ofChange fnExactSignedResultSpec)

/-- ITS FALSE NEIGHBOUR: 'it returns false'. Refute it at one input. -/
def fnExactSignedResultWrong : ChangeSpec := { name := "fnExactSignedResult", fn := fun _ => fun
  | [d1, d2] => { results := [.lit (.bool false)], args := [d1, d2] }
  | _ => none }
def FnExactSignedResultWrongFalsely : Prop := fnExactSignedResultRow.holds Try.pinned (OpenSpec.ofChange fnExactSignedResultWrong)

/-- 'laws.FnExactAccumulatorRange': WHATEVER THE INPUT: true; the input reads as it did. -/
def fnExactAccumulatorRangeSpec : ChangeSpec := { name := "fnExactAccumulatorRange", fn := fun _ => fun
  | [d1, d2] => { results := [.lit (.bool true)], args := [d1, d2] }
  | _ => none }
def fnExactAccumulatorRangeRow : OpenClaim := { program := "ytgfliiomebbknaa", sum := "42e10ef80bb5d7d23d0cc2ff1fdec78551b9159baf24cfbe7b124e67fd9e678d", func := "loop.example/g00930/laws.FnExactAccumulatorRange", spec := "fnExactAccumulatorRange", apart := false }
def FnExactAccumulatorRangeSaid : Prop := fnExactAccumulatorRangeRow.holds Try.pinned (OpenSpec.ofChange fnExactAccumulatorRangeSpec)

/-- ITS FALSE NEIGHBOUR: 'it returns false'. Refute it at one input. -/
def fnExactAccumulatorRangeWrong : ChangeSpec := { name := "fnExactAccumulatorRange", fn := fun _ => fun
  | [d1, d2] => { results := [.lit (.bool false)], args := [d1, d2] }
  | _ => none }
def FnExactAccumulatorRangeWrongFalsely : Prop := fnExactAccumulatorRangeRow.holds Try.pinned (OpenSpec.ofChange fnExactAccumulatorRangeWrong)

/-- 'laws.FnExactWorstPattern': WHATEVER THE INPUT: true; the input reads as it did. -/
def fnExactWorstPatternSpec : ChangeSpec := { name := "fnExactWorstPattern", fn := fun _ => fun
  | [d1, d2] => { results := [.lit (.bool true)], args := [d1, d2] }
  | _ => none }
def fnExactWorstPatternRow : OpenClaim := { program := "ytgfliiomebbknaa", sum := "42e10ef80bb5d7d23d0cc2ff1fdec78551b9159baf24cfbe7b124e67fd9e678d", func := "loop.example/g00930/laws.FnExactWorstPattern", spec := "fnExactWorstPattern", apart := false }
def FnExactWorstPatternSaid : Prop := fnExactWorstPatternRow.holds Try.pinned (OpenSpec.ofChange fnExactWorstPatternSpec)

/-- ITS FALSE NEIGHBOUR: 'it returns false'. Refute it at one input. -/
def fnExactWorstPatternWrong : ChangeSpec := { name := "fnExactWorstPattern", fn := fun _ => fun
  | [d1, d2] => { results := [.lit (.bool false)], args := [d1, d2] }
  | _ => none }
def FnExactWorstPatternWrongFalsely : Prop := fnExactWorstPatternRow.holds Try.pinned (OpenSpec.ofChange fnExactWorstPatternWrong)

/-- 'laws.FnExactRootOf': WHATEVER THE INPUT: true; the input reads as it did. -/
def fnExactRootOfSpec : ChangeSpec := { name := "fnExactRootOf", fn := fun _ => fun
  | [d1, d2] => { results := [.lit (.bool true)], args := [d1, d2] }
  | _ => none }
def fnExactRootOfRow : OpenClaim := { program := "ytgfliiomebbknaa", sum := "42e10ef80bb5d7d23d0cc2ff1fdec78551b9159baf24cfbe7b124e67fd9e678d", func := "loop.example/g00930/laws.FnExactRootOf", spec := "fnExactRootOf", apart := false }
def FnExactRootOfSaid : Prop := fnExactRootOfRow.holds Try.pinned (OpenSpec.ofChange fnExactRootOfSpec)

/-- ITS FALSE NEIGHBOUR: 'it returns false'. Refute it at one input. -/
def fnExactRootOfWrong : ChangeSpec := { name := "fnExactRootOf", fn := fun _ => fun
  | [d1, d2] => { results := [.lit (.bool false)], args := [d1, d2] }
  | _ => none }
def FnExactRootOfWrongFalsely : Prop := fnExactRootOfRow.holds Try.pinned (OpenSpec.ofChange fnExactRootOfWrong)

/-- 'laws.FnExactRootTurns': WHATEVER THE INPUT: true; the input reads as it did. -/
def fnExactRootTurnsSpec : ChangeSpec := { name := "fnExactRootTurns", fn := fun _ => fun
  | [d1, d2] => { results := [.lit (.bool true)], args := [d1, d2] }
  | _ => none }
def fnExactRootTurnsRow : OpenClaim := { program := "ytgfliiomebbknaa", sum := "42e10ef80bb5d7d23d0cc2ff1fdec78551b9159baf24cfbe7b124e67fd9e678d", func := "loop.example/g00930/laws.FnExactRootTurns", spec := "fnExactRootTurns", apart := false }
def FnExactRootTurnsSaid : Prop := fnExactRootTurnsRow.holds Try.pinned (OpenSpec.ofChange fnExactRootTurnsSpec)

/-- ITS FALSE NEIGHBOUR: 'it returns false'. Refute it at one input. -/
def fnExactRootTurnsWrong : ChangeSpec := { name := "fnExactRootTurns", fn := fun _ => fun
  | [d1, d2] => { results := [.lit (.bool false)], args := [d1, d2] }
  | _ => none }
def FnExactRootTurnsWrongFalsely : Prop := fnExactRootTurnsRow.holds Try.pinned (OpenSpec.ofChange fnExactRootTurnsWrong)

/-- 'laws.FnExactGuardDigits': WHATEVER THE INPUT: true; the input reads as it did. -/
def fnExactGuardDigitsSpec : ChangeSpec := { name := "fnExactGuardDigits", fn := fun _ => fun
  | [d1, d2, d3] => { results := [.lit (.bool true)], args := [d1, d2, d3] }
  | _ => none }
def fnExactGuardDigitsRow : OpenClaim := { program := "ytgfliiomebbknaa", sum := "42e10ef80bb5d7d23d0cc2ff1fdec78551b9159baf24cfbe7b124e67fd9e678d", func := "loop.example/g00930/laws.FnExactGuardDigits", spec := "fnExactGuardDigits", apart := false }
def FnExactGuardDigitsSaid : Prop := fnExactGuardDigitsRow.holds Try.pinned (OpenSpec.ofChange fnExactGuardDigitsSpec)

/-- ITS FALSE NEIGHBOUR: 'it returns false'. Refute it at one input. -/
def fnExactGuardDigitsWrong : ChangeSpec := { name := "fnExactGuardDigits", fn := fun _ => fun
  | [d1, d2, d3] => { results := [.lit (.bool false)], args := [d1, d2, d3] }
  | _ => none }
def FnExactGuardDigitsWrongFalsely : Prop := fnExactGuardDigitsRow.holds Try.pinned (OpenSpec.ofChange fnExactGuardDigitsWrong)

/-- 'laws.FnExactSpreadError': WHATEVER THE INPUT: true; the input reads as it did. -/
def fnExactSpreadErrorSpec : ChangeSpec := { name := "fnExactSpreadError", fn := fun _ => fun
  | [d1, d2] => { results := [.lit (.bool true)], args := [d1, d2] }
  | _ => none }
def fnExactSpreadErrorRow : OpenClaim := { program := "ytgfliiomebbknaa", sum := "42e10ef80bb5d7d23d0cc2ff1fdec78551b9159baf24cfbe7b124e67fd9e678d", func := "loop.example/g00930/laws.FnExactSpreadError", spec := "fnExactSpreadError", apart := false }
def FnExactSpreadErrorSaid : Prop := fnExactSpreadErrorRow.holds Try.pinned (OpenSpec.ofChange fnExactSpreadErrorSpec)

/-- ITS FALSE NEIGHBOUR: 'it returns false'. Refute it at one input. -/
def fnExactSpreadErrorWrong : ChangeSpec := { name := "fnExactSpreadError", fn := fun _ => fun
  | [d1, d2] => { results := [.lit (.bool false)], args := [d1, d2] }
  | _ => none }
def FnExactSpreadErrorWrongFalsely : Prop := fnExactSpreadErrorRow.holds Try.pinned (OpenSpec.ofChange fnExactSpreadErrorWrong)

/-- 'laws.FnExactSumBound': WHATEVER THE INPUT: true; the input reads as it did. -/
def fnExactSumBoundSpec : ChangeSpec := { name := "fnExactSumBound", fn := fun _ => fun
  | [d1, d2] => { results := [.lit (.bool true)], args := [d1, d2] }
  | _ => none }
def fnExactSumBoundRow : OpenClaim := { program := "ytgfliiomebbknaa", sum := "42e10ef80bb5d7d23d0cc2ff1fdec78551b9159baf24cfbe7b124e67fd9e678d", func := "loop.example/g00930/laws.FnExactSumBound", spec := "fnExactSumBound", apart := false }
def FnExactSumBoundSaid : Prop := fnExactSumBoundRow.holds Try.pinned (OpenSpec.ofChange fnExactSumBoundSpec)

/-- ITS FALSE NEIGHBOUR: 'it returns false'. Refute it at one input. -/
def fnExactSumBoundWrong : ChangeSpec := { name := "fnExactSumBound", fn := fun _ => fun
  | [d1, d2] => { results := [.lit (.bool false)], args := [d1, d2] }
  | _ => none }
def FnExactSumBoundWrongFalsely : Prop := fnExactSumBoundRow.holds Try.pinned (OpenSpec.ofChange fnExactSumBoundWrong)

/-- 'laws.FnExactWorstError': WHATEVER THE INPUT: true; the input reads as it did. -/
def fnExactWorstErrorSpec : ChangeSpec := { name := "fnExactWorstError", fn := fun _ => fun
  | [d1, d2] => { results := [.lit (.bool true)], args := [d1, d2] }
  | _ => none }
def fnExactWorstErrorRow : OpenClaim := { program := "ytgfliiomebbknaa", sum := "42e10ef80bb5d7d23d0cc2ff1fdec78551b9159baf24cfbe7b124e67fd9e678d", func := "loop.example/g00930/laws.FnExactWorstError", spec := "fnExactWorstError", apart := false }
def FnExactWorstErrorSaid : Prop := fnExactWorstErrorRow.holds Try.pinned (OpenSpec.ofChange fnExactWorstErrorSpec)

/-- ITS FALSE NEIGHBOUR: 'it returns false'. Refute it at one input. -/
def fnExactWorstErrorWrong : ChangeSpec := { name := "fnExactWorstError", fn := fun _ => fun
  | [d1, d2] => { results := [.lit (.bool false)], args := [d1, d2] }
  | _ => none }
def FnExactWorstErrorWrongFalsely : Prop := fnExactWorstErrorRow.holds Try.pinned (OpenSpec.ofChange fnExactWorstErrorWrong)

/- THE SECOND FORM. 'bulk': how many values and letters a reading holds, each counted each time it is reached (what is shared counts as often as it is met; a slice's spare places count too). A statement '..UptoSaid' is the law's where the arguments, and the package variables that the reading takes, are together of bulk at most 1048576: NARROWER than '..Said'. Prove '..Said' where nothing that the law and all that it calls make is longer than what came in: it says more and counts as full. Else prove '..UptoSaid'. A law counts once. -/
mutual
def uptoBulk {H : Type} : DataW H → Nat
  | .lit (.string bytes) => bytes.length + 1
  | .lit _ => 1
  | .nil => 1
  | .ptr d => uptoBulk d + 1
  | .slice elems spare => uptoBulkAll elems + uptoBulkAll spare + 1
  | .agg parts => uptoBulkAll parts + 1
  | .iface _ d => uptoBulk d + 1
  | .map entries => uptoBulkEntries entries + 1
  | .held _ => 1
def uptoBulkAll {H : Type} : List (DataW H) → Nat
  | [] => 0
  | d :: r => uptoBulk d + uptoBulkAll r
def uptoBulkEntries {H : Type} : List (Lit × DataW H) → Nat
  | [] => 0
  | x :: r => uptoBulkEntry x + uptoBulkEntries r
def uptoBulkEntry {H : Type} : Lit × DataW H → Nat
  | (.string bytes, d) => bytes.length + uptoBulk d + 1
  | (_, d) => uptoBulk d + 1
 end
def uptoSmall : (H : Type) → List (DataW H) → Bool := fun _ ds => decide (uptoBulkAll ds ≤ 1048576)
def OpenSpec.upto (s : _root_.Go.ChangeSpec) : _root_.Go.OpenSpec := { _root_.Go.OpenSpec.ofChange s with cond := some uptoSmall }

/-- 'laws.FnExactRoundTo', WHERE WHAT IT READS IS OF BULK AT MOST 1048576: true; the input reads as it did. -/
def fnExactRoundToUptoRow : OpenClaim := { program := "ytgfliiomebbknaa", sum := "42e10ef80bb5d7d23d0cc2ff1fdec78551b9159baf24cfbe7b124e67fd9e678d", func := "loop.example/g00930/laws.FnExactRoundTo", spec := "fnExactRoundTo", apart := false, narrowed := true }
def FnExactRoundToUptoSaid : Prop := fnExactRoundToUptoRow.holds Try.pinned (OpenSpec.upto fnExactRoundToSpec)

/-- 'laws.FnExactSignedResult', WHERE WHAT IT READS IS OF BULK AT MOST 1048576: true; the input reads as it did. -/
def fnExactSignedResultUptoRow : OpenClaim := { program := "ytgfliiomebbknaa", sum := "42e10ef80bb5d7d23d0cc2ff1fdec78551b9159baf24cfbe7b124e67fd9e678d", func := "loop.example/g00930/laws.FnExactSignedResult", spec := "fnExactSignedResult", apart := false, narrowed := true }
def FnExactSignedResultUptoSaid : Prop := fnExactSignedResultUptoRow.holds Try.pinned (OpenSpec.upto fnExactSignedResultSpec)

/-- 'laws.FnExactAccumulatorRange', WHERE WHAT IT READS IS OF BULK AT MOST 1048576: true; the input reads as it did. -/
def fnExactAccumulatorRangeUptoRow : OpenClaim := { program := "ytgfliiomebbknaa", sum := "42e10ef80bb5d7d23d0cc2ff1fdec78551b9159baf24cfbe7b124e67fd9e678d", func := "loop.example/g00930/laws.FnExactAccumulatorRange", spec := "fnExactAccumulatorRange", apart := false, narrowed := true }
def FnExactAccumulatorRangeUptoSaid : Prop := fnExactAccumulatorRangeUptoRow.holds Try.pinned (OpenSpec.upto fnExactAccumulatorRangeSpec)

/-- 'laws.FnExactWorstPattern', WHERE WHAT IT READS IS OF BULK AT MOST 1048576: true; the input reads as it did. -/
def fnExactWorstPatternUptoRow : OpenClaim := { program := "ytgfliiomebbknaa", sum := "42e10ef80bb5d7d23d0cc2ff1fdec78551b9159baf24cfbe7b124e67fd9e678d", func := "loop.example/g00930/laws.FnExactWorstPattern", spec := "fnExactWorstPattern", apart := false, narrowed := true }
def FnExactWorstPatternUptoSaid : Prop := fnExactWorstPatternUptoRow.holds Try.pinned (OpenSpec.upto fnExactWorstPatternSpec)

/-- 'laws.FnExactRootOf', WHERE WHAT IT READS IS OF BULK AT MOST 1048576: true; the input reads as it did. -/
def fnExactRootOfUptoRow : OpenClaim := { program := "ytgfliiomebbknaa", sum := "42e10ef80bb5d7d23d0cc2ff1fdec78551b9159baf24cfbe7b124e67fd9e678d", func := "loop.example/g00930/laws.FnExactRootOf", spec := "fnExactRootOf", apart := false, narrowed := true }
def FnExactRootOfUptoSaid : Prop := fnExactRootOfUptoRow.holds Try.pinned (OpenSpec.upto fnExactRootOfSpec)

/-- 'laws.FnExactRootTurns', WHERE WHAT IT READS IS OF BULK AT MOST 1048576: true; the input reads as it did. -/
def fnExactRootTurnsUptoRow : OpenClaim := { program := "ytgfliiomebbknaa", sum := "42e10ef80bb5d7d23d0cc2ff1fdec78551b9159baf24cfbe7b124e67fd9e678d", func := "loop.example/g00930/laws.FnExactRootTurns", spec := "fnExactRootTurns", apart := false, narrowed := true }
def FnExactRootTurnsUptoSaid : Prop := fnExactRootTurnsUptoRow.holds Try.pinned (OpenSpec.upto fnExactRootTurnsSpec)

/-- 'laws.FnExactGuardDigits', WHERE WHAT IT READS IS OF BULK AT MOST 1048576: true; the input reads as it did. -/
def fnExactGuardDigitsUptoRow : OpenClaim := { program := "ytgfliiomebbknaa", sum := "42e10ef80bb5d7d23d0cc2ff1fdec78551b9159baf24cfbe7b124e67fd9e678d", func := "loop.example/g00930/laws.FnExactGuardDigits", spec := "fnExactGuardDigits", apart := false, narrowed := true }
def FnExactGuardDigitsUptoSaid : Prop := fnExactGuardDigitsUptoRow.holds Try.pinned (OpenSpec.upto fnExactGuardDigitsSpec)

/-- 'laws.FnExactSpreadError', WHERE WHAT IT READS IS OF BULK AT MOST 1048576: true; the input reads as it did. -/
def fnExactSpreadErrorUptoRow : OpenClaim := { program := "ytgfliiomebbknaa", sum := "42e10ef80bb5d7d23d0cc2ff1fdec78551b9159baf24cfbe7b124e67fd9e678d", func := "loop.example/g00930/laws.FnExactSpreadError", spec := "fnExactSpreadError", apart := false, narrowed := true }
def FnExactSpreadErrorUptoSaid : Prop := fnExactSpreadErrorUptoRow.holds Try.pinned (OpenSpec.upto fnExactSpreadErrorSpec)

/-- 'laws.FnExactSumBound', WHERE WHAT IT READS IS OF BULK AT MOST 1048576: true; the input reads as it did. -/
def fnExactSumBoundUptoRow : OpenClaim := { program := "ytgfliiomebbknaa", sum := "42e10ef80bb5d7d23d0cc2ff1fdec78551b9159baf24cfbe7b124e67fd9e678d", func := "loop.example/g00930/laws.FnExactSumBound", spec := "fnExactSumBound", apart := false, narrowed := true }
def FnExactSumBoundUptoSaid : Prop := fnExactSumBoundUptoRow.holds Try.pinned (OpenSpec.upto fnExactSumBoundSpec)

/-- 'laws.FnExactWorstError', WHERE WHAT IT READS IS OF BULK AT MOST 1048576: true; the input reads as it did. -/
def fnExactWorstErrorUptoRow : OpenClaim := { program := "ytgfliiomebbknaa", sum := "42e10ef80bb5d7d23d0cc2ff1fdec78551b9159baf24cfbe7b124e67fd9e678d", func := "loop.example/g00930/laws.FnExactWorstError", spec := "fnExactWorstError", apart := false, narrowed := true }
def FnExactWorstErrorUptoSaid : Prop := fnExactWorstErrorUptoRow.holds Try.pinned (OpenSpec.upto fnExactWorstErrorSpec)

end Rows
end Go.Proofs.Ytgfliiomebbknaa
