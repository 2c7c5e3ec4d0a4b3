/-
  No cell of these rows narrows 'for every input' (looked for: loops, veiled, ifaces, maps, wideKeys, modest, calm, conditions, laid).
  DERIVED. THE GIVEN ROWS OF THIS SEAT. 6 by the template 'for every input the law returns true; each argument reads behind the call as it read before'; 0 by the template 'total and deterministic' (their statements: YtcooabjcikcpiaaTotals.lean).
  GIVEN WITH THE SEED: the statements are not yours to turn. If you find one false, say at which input.
  Laid BY PROGRAM, IN A SANDBOX (cutbox-rows.mjs): the forced cells as the released guide's own fill.sh prints them over the translation 36db0af5e87de7d2… (all of the seat's roots in one cut). By AI agents, Wed Nov 11 2026. No macro, syntax, notation, axiom, sorry.
-/
import Derived.Test.YtcooabjcikcpiaaChecked
import GoSem.Claim
import GoSem.ClaimJoined
import GoSem.ClaimMapViews
import Derived.JoinedTies
import Derived.KernelRfl
namespace Go.Proofs.Ytcooabjcikcpiaa
/- THE CELL 'sum', in the pinned program and in every row, IS THE sha256 OF THE DUMP (.gsa) THAT YtcooabjcikcpiaaProg.lean LOADS. Nothing in Lean hashes anything: it is a label: what it is worth is what the hold of that sum in a sandbox is worth. -/
noncomputable def Try.pinned : Pinned := { name := "ytcooabjcikcpiaa", sum := "36db0af5e87de7d2398e8fd4cac21e2bab379c11e8493d33b39dfe24d55865a2", checked := Try.checked }
namespace Rows
def none {H : Type} : Left H := { results := [], args := [] }

/-- 'laws.FnExactSameMachine': WHATEVER THE INPUT: true; the input reads as it did. -/
def fnExactSameMachineSpec : ChangeSpec := { name := "fnExactSameMachine", fn := fun _ => fun
  | [d1, d2] => { results := [.lit (.bool true)], args := [d1, d2] }
  | _ => none }
def fnExactSameMachineRow : OpenClaim := { program := "ytcooabjcikcpiaa", sum := "36db0af5e87de7d2398e8fd4cac21e2bab379c11e8493d33b39dfe24d55865a2", func := "loop.example/g00930/laws.FnExactSameMachine", spec := "fnExactSameMachine", apart := false }
def FnExactSameMachineSaid : Prop := fnExactSameMachineRow.holds Try.pinned (OpenSpec.ofChange fnExactSameMachineSpec)

/-- ITS FALSE NEIGHBOUR: 'it returns false'. Refute it at one input. -/
def fnExactSameMachineWrong : ChangeSpec := { name := "fnExactSameMachine", fn := fun _ => fun
  | [d1, d2] => { results := [.lit (.bool false)], args := [d1, d2] }
  | _ => none }
def FnExactSameMachineWrongFalsely : Prop := fnExactSameMachineRow.holds Try.pinned (OpenSpec.ofChange fnExactSameMachineWrong)

/-- 'laws.FnExactSetAccumulator': WHATEVER THE INPUT: true; the input reads as it did. -/
def fnExactSetAccumulatorSpec : ChangeSpec := { name := "fnExactSetAccumulator", fn := fun _ => fun
  | [d1, d2, d3] => { results := [.lit (.bool true)], args := [d1, d2, d3] }
  | _ => none }
def fnExactSetAccumulatorRow : OpenClaim := { program := "ytcooabjcikcpiaa", sum := "36db0af5e87de7d2398e8fd4cac21e2bab379c11e8493d33b39dfe24d55865a2", func := "loop.example/g00930/laws.FnExactSetAccumulator", spec := "fnExactSetAccumulator", apart := false }
def FnExactSetAccumulatorSaid : Prop := fnExactSetAccumulatorRow.holds Try.pinned (OpenSpec.ofChange fnExactSetAccumulatorSpec)

/-- ITS FALSE NEIGHBOUR: 'it returns false'. Refute it at one input. -/
def fnExactSetAccumulatorWrong : ChangeSpec := { name := "fnExactSetAccumulator", fn := fun _ => fun
  | [d1, d2, d3] => { results := [.lit (.bool false)], args := [d1, d2, d3] }
  | _ => none }
def FnExactSetAccumulatorWrongFalsely : Prop := fnExactSetAccumulatorRow.holds Try.pinned (OpenSpec.ofChange fnExactSetAccumulatorWrong)

/-- 'laws.FnExactClearTurns': WHATEVER THE INPUT: true; the input reads as it did. -/
def fnExactClearTurnsSpec : ChangeSpec := { name := "fnExactClearTurns", fn := fun _ => fun
  | [d] => { results := [.lit (.bool true)], args := [d] }
  | _ => none }
def fnExactClearTurnsRow : OpenClaim := { program := "ytcooabjcikcpiaa", sum := "36db0af5e87de7d2398e8fd4cac21e2bab379c11e8493d33b39dfe24d55865a2", func := "loop.example/g00930/laws.FnExactClearTurns", spec := "fnExactClearTurns", apart := false }
def FnExactClearTurnsSaid : Prop := fnExactClearTurnsRow.holds Try.pinned (OpenSpec.ofChange fnExactClearTurnsSpec)

/-- ITS FALSE NEIGHBOUR: 'it returns false'. Refute it at one input. -/
def fnExactClearTurnsWrong : ChangeSpec := { name := "fnExactClearTurns", fn := fun _ => fun
  | [d] => { results := [.lit (.bool false)], args := [d] }
  | _ => none }
def FnExactClearTurnsWrongFalsely : Prop := fnExactClearTurnsRow.holds Try.pinned (OpenSpec.ofChange fnExactClearTurnsWrong)

/-- 'laws.FnExactTableFault': WHATEVER THE INPUT: true; the input reads as it did. -/
def fnExactTableFaultSpec : ChangeSpec := { name := "fnExactTableFault", fn := fun _ => fun
  | [d1, d2] => { results := [.lit (.bool true)], args := [d1, d2] }
  | _ => none }
def fnExactTableFaultRow : OpenClaim := { program := "ytcooabjcikcpiaa", sum := "36db0af5e87de7d2398e8fd4cac21e2bab379c11e8493d33b39dfe24d55865a2", func := "loop.example/g00930/laws.FnExactTableFault", spec := "fnExactTableFault", apart := false }
def FnExactTableFaultSaid : Prop := fnExactTableFaultRow.holds Try.pinned (OpenSpec.ofChange fnExactTableFaultSpec)

/-- ITS FALSE NEIGHBOUR: 'it returns false'. Refute it at one input. -/
def fnExactTableFaultWrong : ChangeSpec := { name := "fnExactTableFault", fn := fun _ => fun
  | [d1, d2] => { results := [.lit (.bool false)], args := [d1, d2] }
  | _ => none }
def FnExactTableFaultWrongFalsely : Prop := fnExactTableFaultRow.holds Try.pinned (OpenSpec.ofChange fnExactTableFaultWrong)

/-- 'laws.FnExactTableWitness': WHATEVER THE INPUT: true; the input reads as it did. -/
def fnExactTableWitnessSpec : ChangeSpec := { name := "fnExactTableWitness", fn := fun _ => fun
  | [d1, d2] => { results := [.lit (.bool true)], args := [d1, d2] }
  | _ => none }
def fnExactTableWitnessRow : OpenClaim := { program := "ytcooabjcikcpiaa", sum := "36db0af5e87de7d2398e8fd4cac21e2bab379c11e8493d33b39dfe24d55865a2", func := "loop.example/g00930/laws.FnExactTableWitness", spec := "fnExactTableWitness", apart := false }
def FnExactTableWitnessSaid : Prop := fnExactTableWitnessRow.holds Try.pinned (OpenSpec.ofChange fnExactTableWitnessSpec)

/-- ITS FALSE NEIGHBOUR: 'it returns false'. Refute it at one input. -/
def fnExactTableWitnessWrong : ChangeSpec := { name := "fnExactTableWitness", fn := fun _ => fun
  | [d1, d2] => { results := [.lit (.bool false)], args := [d1, d2] }
  | _ => none }
def FnExactTableWitnessWrongFalsely : Prop := fnExactTableWitnessRow.holds Try.pinned (OpenSpec.ofChange fnExactTableWitnessWrong)

/-- 'laws.FnExactWitnessOf': WHATEVER THE INPUT: true; the input reads as it did. -/
def fnExactWitnessOfSpec : ChangeSpec := { name := "fnExactWitnessOf", fn := fun _ => fun
  | [d1, d2, d3] => { results := [.lit (.bool true)], args := [d1, d2, d3] }
  | _ => none }
def fnExactWitnessOfRow : OpenClaim := { program := "ytcooabjcikcpiaa", sum := "36db0af5e87de7d2398e8fd4cac21e2bab379c11e8493d33b39dfe24d55865a2", func := "loop.example/g00930/laws.FnExactWitnessOf", spec := "fnExactWitnessOf", apart := false }
def FnExactWitnessOfSaid : Prop := fnExactWitnessOfRow.holds Try.pinned (OpenSpec.ofChange fnExactWitnessOfSpec)

/-- ITS FALSE NEIGHBOUR: 'it returns false'. Refute it at one input. -/
def fnExactWitnessOfWrong : ChangeSpec := { name := "fnExactWitnessOf", fn := fun _ => fun
  | [d1, d2, d3] => { results := [.lit (.bool false)], args := [d1, d2, d3] }
  | _ => none }
def FnExactWitnessOfWrongFalsely : Prop := fnExactWitnessOfRow.holds Try.pinned (OpenSpec.ofChange fnExactWitnessOfWrong)

/- THE SECOND FORM. 'bulk': how many values and letters a reading holds, each counted each time it is reached (what is shared counts as often as it is met; a slice's spare places count too). A statement '..UptoSaid' is the law's where the arguments, and the package variables that the reading takes, are together of bulk at most 1048576: NARROWER than '..Said'. Prove '..Said' where nothing that the law and all that it calls make is longer than what came in: it says more and counts as full. Else prove '..UptoSaid'. A law counts once. -/
mutual
def uptoBulk {H : Type} : DataW H → Nat
  | .lit (.string bytes) => bytes.length + 1
  | .lit _ => 1
  | .nil => 1
  | .ptr d => uptoBulk d + 1
  | .slice elems spare => uptoBulkAll elems + uptoBulkAll spare + 1
  | .agg parts => uptoBulkAll parts + 1
  | .iface _ d => uptoBulk d + 1
  | .map entries => uptoBulkEntries entries + 1
  | .held _ => 1
def uptoBulkAll {H : Type} : List (DataW H) → Nat
  | [] => 0
  | d :: r => uptoBulk d + uptoBulkAll r
def uptoBulkEntries {H : Type} : List (Lit × DataW H) → Nat
  | [] => 0
  | x :: r => uptoBulkEntry x + uptoBulkEntries r
def uptoBulkEntry {H : Type} : Lit × DataW H → Nat
  | (.string bytes, d) => bytes.length + uptoBulk d + 1
  | (_, d) => uptoBulk d + 1
 end
def uptoSmall : (H : Type) → List (DataW H) → Bool := fun _ ds => decide (uptoBulkAll ds ≤ 1048576)
def OpenSpec.upto (s : _root_.Go.ChangeSpec) : _root_.Go.OpenSpec := { _root_.Go.OpenSpec.ofChange s with cond := some uptoSmall }

/-- 'laws.FnExactSameMachine', WHERE WHAT IT READS IS OF BULK AT MOST 1048576: true; the input reads as it did. -/
def fnExactSameMachineUptoRow : OpenClaim := { program := "ytcooabjcikcpiaa", sum := "36db0af5e87de7d2398e8fd4cac21e2bab379c11e8493d33b39dfe24d55865a2", func := "loop.example/g00930/laws.FnExactSameMachine", spec := "fnExactSameMachine", apart := false, narrowed := true }
def FnExactSameMachineUptoSaid : Prop := fnExactSameMachineUptoRow.holds Try.pinned (OpenSpec.upto fnExactSameMachineSpec)

/-- 'laws.FnExactSetAccumulator', WHERE WHAT IT READS IS OF BULK AT MOST 1048576: true; the input reads as it did. -/
def fnExactSetAccumulatorUptoRow : OpenClaim := { program := "ytcooabjcikcpiaa", sum := "36db0af5e87de7d2398e8fd4cac21e2bab379c11e8493d33b39dfe24d55865a2", func := "loop.example/g00930/laws.FnExactSetAccumulator", spec := "fnExactSetAccumulator", apart := false, narrowed := true }
def FnExactSetAccumulatorUptoSaid : Prop := fnExactSetAccumulatorUptoRow.holds Try.pinned (OpenSpec.upto fnExactSetAccumulatorSpec)

/-- 'laws.FnExactClearTurns', WHERE WHAT IT READS IS OF BULK AT MOST 1048576: true; the input reads as it did. -/
def fnExactClearTurnsUptoRow : OpenClaim := { program := "ytcooabjcikcpiaa", sum := "36db0af5e87de7d2398e8fd4cac21e2bab379c11e8493d33b39dfe24d55865a2", func := "loop.example/g00930/laws.FnExactClearTurns", spec := "fnExactClearTurns", apart := false, narrowed := true }
def FnExactClearTurnsUptoSaid : Prop := fnExactClearTurnsUptoRow.holds Try.pinned (OpenSpec.upto fnExactClearTurnsSpec)

/-- 'laws.FnExactTableFault', WHERE WHAT IT READS IS OF BULK AT MOST 1048576: true; the input reads as it did. -/
def fnExactTableFaultUptoRow : OpenClaim := { program := "ytcooabjcikcpiaa", sum := "36db0af5e87de7d2398e8fd4cac21e2bab379c11e8493d33b39dfe24d55865a2", func := "loop.example/g00930/laws.FnExactTableFault", spec := "fnExactTableFault", apart := false, narrowed := true }
def FnExactTableFaultUptoSaid : Prop := fnExactTableFaultUptoRow.holds Try.pinned (OpenSpec.upto fnExactTableFaultSpec)

/-- 'laws.FnExactTableWitness', WHERE WHAT IT READS IS OF BULK AT MOST 1048576: true; the input reads as it did. -/
def fnExactTableWitnessUptoRow : OpenClaim := { program := "ytcooabjcikcpiaa", sum := "36db0af5e87de7d2398e8fd4cac21e2bab379c11e8493d33b39dfe24d55865a2", func := "loop.example/g00930/laws.FnExactTableWitness", spec := "fnExactTableWitness", apart := false, narrowed := true }
def FnExactTableWitnessUptoSaid : Prop := fnExactTableWitnessUptoRow.holds Try.pinned (OpenSpec.upto fnExactTableWitnessSpec)

/-- 'laws.FnExactWitnessOf', WHERE WHAT IT READS IS OF BULK AT MOST 1048576: true; the input reads as it did. -/
def fnExactWitnessOfUptoRow : OpenClaim := { program := "ytcooabjcikcpiaa", sum := "36db0af5e87de7d2398e8fd4cac21e2bab379c11e8493d33b39dfe24d55865a2", func := "loop.example/g00930/laws.FnExactWitnessOf", spec := "fnExactWitnessOf", apart := false, narrowed := true }
def FnExactWitnessOfUptoSaid : Prop := fnExactWitnessOfUptoRow.holds Try.pinned (OpenSpec.upto fnExactWitnessOfSpec)

end Rows
end Go.Proofs.Ytcooabjcikcpiaa
