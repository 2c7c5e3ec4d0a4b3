/-
  No cell of these rows narrows 'for every input' (looked for: loops, veiled, ifaces, maps, wideKeys, modest, calm, conditions, laid).
  DERIVED. THE GIVEN ROWS OF THIS SEAT. 4 by the template 'for every input the law returns true; each argument reads behind the call as it read before'; 0 by the template 'total and deterministic' (their statements: YtkhjmokjbiepgaaTotals.lean).
  GIVEN WITH THE SEED: the statements are not yours to turn. If you find one false, say at which input.
  Laid BY PROGRAM, IN A SANDBOX (cutbox-rows.mjs): the forced cells as the released guide's own fill.sh prints them over the translation a1807bc118ba8076… (all of the seat's roots in one cut). By AI agents, Wed Nov 11 2026. No macro, syntax, notation, axiom, sorry.
-/
import Derived.Test.YtkhjmokjbiepgaaChecked
import GoSem.Claim
import GoSem.ClaimJoined
import GoSem.ClaimMapViews
import Derived.JoinedTies
import Derived.KernelRfl
namespace Go.Proofs.Ytkhjmokjbiepgaa
/- THE CELL 'sum', in the pinned program and in every row, IS THE sha256 OF THE DUMP (.gsa) THAT YtkhjmokjbiepgaaProg.lean LOADS. Nothing in Lean hashes anything: it is a label: what it is worth is what the hold of that sum in a sandbox is worth. -/
noncomputable def Try.pinned : Pinned := { name := "ytkhjmokjbiepgaa", sum := "a1807bc118ba8076a2fa48170700610c1e4cbc83f007218541a38db1098b88f5", checked := Try.checked }
namespace Rows
def none {H : Type} : Left H := { results := [], args := [] }

/-- 'laws.FnExactAddTurns': WHATEVER THE INPUT: true; the input reads as it did. -/
def fnExactAddTurnsSpec : ChangeSpec := { name := "fnExactAddTurns", fn := fun _ => fun
  | [d1, d2] => { results := [.lit (.bool true)], args := [d1, d2] }
  | _ => none }
def fnExactAddTurnsRow : OpenClaim := { program := "ytkhjmokjbiepgaa", sum := "a1807bc118ba8076a2fa48170700610c1e4cbc83f007218541a38db1098b88f5", func := "loop.example/g00930/laws.FnExactAddTurns", spec := "fnExactAddTurns", apart := false }
def FnExactAddTurnsSaid : Prop := fnExactAddTurnsRow.holds Try.pinned (OpenSpec.ofChange fnExactAddTurnsSpec)

/-- ITS FALSE NEIGHBOUR: 'it returns false'. Refute it at one input. -/
def fnExactAddTurnsWrong : ChangeSpec := { name := "fnExactAddTurns", fn := fun _ => fun
  | [d1, d2] => { results := [.lit (.bool false)], args := [d1, d2] }
  | _ => none }
def FnExactAddTurnsWrongFalsely : Prop := fnExactAddTurnsRow.holds Try.pinned (OpenSpec.ofChange fnExactAddTurnsWrong)

/-- 'laws.FnExactWrongEntry': WHATEVER THE INPUT: true; the input reads as it did. -/
def fnExactWrongEntrySpec : ChangeSpec := { name := "fnExactWrongEntry", fn := fun _ => fun
  | [d1, d2] => { results := [.lit (.bool true)], args := [d1, d2] }
  | _ => none }
def fnExactWrongEntryRow : OpenClaim := { program := "ytkhjmokjbiepgaa", sum := "a1807bc118ba8076a2fa48170700610c1e4cbc83f007218541a38db1098b88f5", func := "loop.example/g00930/laws.FnExactWrongEntry", spec := "fnExactWrongEntry", apart := false }
def FnExactWrongEntrySaid : Prop := fnExactWrongEntryRow.holds Try.pinned (OpenSpec.ofChange fnExactWrongEntrySpec)

/-- ITS FALSE NEIGHBOUR: 'it returns false'. Refute it at one input. -/
def fnExactWrongEntryWrong : ChangeSpec := { name := "fnExactWrongEntry", fn := fun _ => fun
  | [d1, d2] => { results := [.lit (.bool false)], args := [d1, d2] }
  | _ => none }
def FnExactWrongEntryWrongFalsely : Prop := fnExactWrongEntryRow.holds Try.pinned (OpenSpec.ofChange fnExactWrongEntryWrong)

/-- 'laws.FnExactTableWitness': WHATEVER THE INPUT: true; the input reads as it did. -/
def fnExactTableWitnessSpec : ChangeSpec := { name := "fnExactTableWitness", fn := fun _ => fun
  | [d1, d2] => { results := [.lit (.bool true)], args := [d1, d2] }
  | _ => none }
def fnExactTableWitnessRow : OpenClaim := { program := "ytkhjmokjbiepgaa", sum := "a1807bc118ba8076a2fa48170700610c1e4cbc83f007218541a38db1098b88f5", func := "loop.example/g00930/laws.FnExactTableWitness", spec := "fnExactTableWitness", apart := false }
def FnExactTableWitnessSaid : Prop := fnExactTableWitnessRow.holds Try.pinned (OpenSpec.ofChange fnExactTableWitnessSpec)

/-- ITS FALSE NEIGHBOUR: 'it returns false'. Refute it at one input. -/
def fnExactTableWitnessWrong : ChangeSpec := { name := "fnExactTableWitness", fn := fun _ => fun
  | [d1, d2] => { results := [.lit (.bool false)], args := [d1, d2] }
  | _ => none }
def FnExactTableWitnessWrongFalsely : Prop := fnExactTableWitnessRow.holds Try.pinned (OpenSpec.ofChange fnExactTableWitnessWrong)

/-- 'laws.FnExactWitnessOf': WHATEVER THE INPUT: true; the input reads as it did. -/
def fnExactWitnessOfSpec : ChangeSpec := { name := "fnExactWitnessOf", fn := fun _ => fun
  | [d1, d2, d3] => { results := [.lit (.bool true)], args := [d1, d2, d3] }
  | _ => none }
def fnExactWitnessOfRow : OpenClaim := { program := "ytkhjmokjbiepgaa", sum := "a1807bc118ba8076a2fa48170700610c1e4cbc83f007218541a38db1098b88f5", func := "loop.example/g00930/laws.FnExactWitnessOf", spec := "fnExactWitnessOf", apart := false }
def FnExactWitnessOfSaid : Prop := fnExactWitnessOfRow.holds Try.pinned (OpenSpec.ofChange fnExactWitnessOfSpec)

/-- ITS FALSE NEIGHBOUR: 'it returns false'. Refute it at one input. -/
def fnExactWitnessOfWrong : ChangeSpec := { name := "fnExactWitnessOf", fn := fun _ => fun
  | [d1, d2, d3] => { results := [.lit (.bool false)], args := [d1, d2, d3] }
  | _ => none }
def FnExactWitnessOfWrongFalsely : Prop := fnExactWitnessOfRow.holds Try.pinned (OpenSpec.ofChange fnExactWitnessOfWrong)

/- THE SECOND FORM. 'bulk': how many values and letters a reading holds, each counted each time it is reached (what is shared counts as often as it is met; a slice's spare places count too). A statement '..UptoSaid' is the law's where the arguments, and the package variables that the reading takes, are together of bulk at most 1048576: NARROWER than '..Said'. Prove '..Said' where nothing that the law and all that it calls make is longer than what came in: it says more and counts as full. Else prove '..UptoSaid'. A law counts once. -/
mutual
def uptoBulk {H : Type} : DataW H → Nat
  | .lit (.string bytes) => bytes.length + 1
  | .lit _ => 1
  | .nil => 1
  | .ptr d => uptoBulk d + 1
  | .slice elems spare => uptoBulkAll elems + uptoBulkAll spare + 1
  | .agg parts => uptoBulkAll parts + 1
  | .iface _ d => uptoBulk d + 1
  | .map entries => uptoBulkEntries entries + 1
  | .held _ => 1
def uptoBulkAll {H : Type} : List (DataW H) → Nat
  | [] => 0
  | d :: r => uptoBulk d + uptoBulkAll r
def uptoBulkEntries {H : Type} : List (Lit × DataW H) → Nat
  | [] => 0
  | x :: r => uptoBulkEntry x + uptoBulkEntries r
def uptoBulkEntry {H : Type} : Lit × DataW H → Nat
  | (.string bytes, d) => bytes.length + uptoBulk d + 1
  | (_, d) => uptoBulk d + 1
 end
def uptoSmall : (H : Type) → List (DataW H) → Bool := fun _ ds => decide (uptoBulkAll ds ≤ 1048576)
def OpenSpec.upto (s : _root_.Go.ChangeSpec) : _root_.Go.OpenSpec := { _root_.Go.OpenSpec.ofChange s with cond := some uptoSmall }

/-- 'laws.FnExactAddTurns', WHERE WHAT IT READS IS OF BULK AT MOST 1048576: true; the input reads as it did. -/
def fnExactAddTurnsUptoRow : OpenClaim := { program := "ytkhjmokjbiepgaa", sum := "a1807bc118ba8076a2fa48170700610c1e4cbc83f007218541a38db1098b88f5", func := "loop.example/g00930/laws.FnExactAddTurns", spec := "fnExactAddTurns", apart := false, narrowed := true }
def FnExactAddTurnsUptoSaid : Prop := fnExactAddTurnsUptoRow.holds Try.pinned (OpenSpec.upto fnExactAddTurnsSpec)

/-- 'laws.FnExactWrongEntry', WHERE WHAT IT READS IS OF BULK AT MOST 1048576: true; the input reads as it did. -/
def fnExactWrongEntryUptoRow : OpenClaim := { program := "ytkhjmokjbiepgaa", sum := "a1807bc118ba8076a2fa48170700610c1e4cbc83f007218541a38db1098b88f5", func := "loop.example/g00930/laws.FnExactWrongEntry", spec := "fnExactWrongEntry", apart := false, narrowed := true }
def FnExactWrongEntryUptoSaid : Prop := fnExactWrongEntryUptoRow.holds Try.pinned (OpenSpec.upto fnExactWrongEntrySpec)

/-- 'laws.FnExactTableWitness', WHERE WHAT IT READS IS OF BULK AT MOST 1048576: true; the input reads as it did. -/
def fnExactTableWitnessUptoRow : OpenClaim := { program := "ytkhjmokjbiepgaa", sum := "a1807bc118ba8076a2fa48170700610c1e4cbc83f007218541a38db1098b88f5", func := "loop.example/g00930/laws.FnExactTableWitness", spec := "fnExactTableWitness", apart := false, narrowed := true }
def FnExactTableWitnessUptoSaid : Prop := fnExactTableWitnessUptoRow.holds Try.pinned (OpenSpec.upto fnExactTableWitnessSpec)

/-- 'laws.FnExactWitnessOf', WHERE WHAT IT READS IS OF BULK AT MOST 1048576: true; the input reads as it did. -/
def fnExactWitnessOfUptoRow : OpenClaim := { program := "ytkhjmokjbiepgaa", sum := "a1807bc118ba8076a2fa48170700610c1e4cbc83f007218541a38db1098b88f5", func := "loop.example/g00930/laws.FnExactWitnessOf", spec := "fnExactWitnessOf", apart := false, narrowed := true }
def FnExactWitnessOfUptoSaid : Prop := fnExactWitnessOfUptoRow.holds Try.pinned (OpenSpec.upto fnExactWitnessOfSpec)

end Rows
end Go.Proofs.Ytkhjmokjbiepgaa
