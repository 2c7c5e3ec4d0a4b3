/-
  No cell of these rows narrows 'for every input' (looked for: loops, veiled, ifaces, maps, wideKeys, modest, calm, conditions, laid).
  DERIVED. THE GIVEN ROWS OF THIS SEAT. 6 by the template 'for every input the law returns true; each argument reads behind the call as it read before'; 0 by the template 'total and deterministic' (their statements: YthckgjlljodkhaaTotals.lean).
  GIVEN WITH THE SEED: the statements are not yours to turn. If you find one false, say at which input.
  Laid BY PROGRAM, IN A SANDBOX (cutbox-rows.mjs): the forced cells as the released guide's own fill.sh prints them over the translation 9e1527c07695ab4c… (all of the seat's roots in one cut). By AI agents, Wed Nov 11 2026. No macro, syntax, notation, axiom, sorry.
-/
import Derived.Test.YthckgjlljodkhaaChecked
import GoSem.Claim
import GoSem.ClaimJoined
import GoSem.ClaimMapViews
import Derived.JoinedTies
import Derived.KernelRfl
namespace Go.Proofs.Ythckgjlljodkhaa
/- THE CELL 'sum', in the pinned program and in every row, IS THE sha256 OF THE DUMP (.gsa) THAT YthckgjlljodkhaaProg.lean LOADS. Nothing in Lean hashes anything: it is a label: what it is worth is what the hold of that sum in a sandbox is worth. -/
noncomputable def Try.pinned : Pinned := { name := "ythckgjlljodkhaa", sum := "9e1527c07695ab4c40155a0f738d1b0755237a7481fa5afe15ea546274d814f8", checked := Try.checked }
namespace Rows
def none {H : Type} : Left H := { results := [], args := [] }

/-- 'laws.FnExactLineFaultName': WHATEVER THE INPUT: true; the input reads as it did. -/
def fnExactLineFaultNameSpec : ChangeSpec := { name := "fnExactLineFaultName", fn := fun _ => fun
  | [d] => { results := [.lit (.bool true)], args := [d] }
  | _ => none }
def fnExactLineFaultNameRow : OpenClaim := { program := "ythckgjlljodkhaa", sum := "9e1527c07695ab4c40155a0f738d1b0755237a7481fa5afe15ea546274d814f8", func := "loop.example/g00930/laws.FnExactLineFaultName", spec := "fnExactLineFaultName", apart := false }
def FnExactLineFaultNameSaid : Prop := fnExactLineFaultNameRow.holds Try.pinned (OpenSpec.ofChange fnExactLineFaultNameSpec)

/-- ITS FALSE NEIGHBOUR: 'it returns false'. Refute it at one input. -/
def fnExactLineFaultNameWrong : ChangeSpec := { name := "fnExactLineFaultName", fn := fun _ => fun
  | [d] => { results := [.lit (.bool false)], args := [d] }
  | _ => none }
def FnExactLineFaultNameWrongFalsely : Prop := fnExactLineFaultNameRow.holds Try.pinned (OpenSpec.ofChange fnExactLineFaultNameWrong)

/-- 'laws.FnExactStrokeName': WHATEVER THE INPUT: true; the input reads as it did. -/
def fnExactStrokeNameSpec : ChangeSpec := { name := "fnExactStrokeName", fn := fun _ => fun
  | [d] => { results := [.lit (.bool true)], args := [d] }
  | _ => none }
def fnExactStrokeNameRow : OpenClaim := { program := "ythckgjlljodkhaa", sum := "9e1527c07695ab4c40155a0f738d1b0755237a7481fa5afe15ea546274d814f8", func := "loop.example/g00930/laws.FnExactStrokeName", spec := "fnExactStrokeName", apart := false }
def FnExactStrokeNameSaid : Prop := fnExactStrokeNameRow.holds Try.pinned (OpenSpec.ofChange fnExactStrokeNameSpec)

/-- ITS FALSE NEIGHBOUR: 'it returns false'. Refute it at one input. -/
def fnExactStrokeNameWrong : ChangeSpec := { name := "fnExactStrokeName", fn := fun _ => fun
  | [d] => { results := [.lit (.bool false)], args := [d] }
  | _ => none }
def FnExactStrokeNameWrongFalsely : Prop := fnExactStrokeNameRow.holds Try.pinned (OpenSpec.ofChange fnExactStrokeNameWrong)

/-- 'laws.FnExactPromiseName': WHATEVER THE INPUT: true; the input reads as it did. -/
def fnExactPromiseNameSpec : ChangeSpec := { name := "fnExactPromiseName", fn := fun _ => fun
  | [d] => { results := [.lit (.bool true)], args := [d] }
  | _ => none }
def fnExactPromiseNameRow : OpenClaim := { program := "ythckgjlljodkhaa", sum := "9e1527c07695ab4c40155a0f738d1b0755237a7481fa5afe15ea546274d814f8", func := "loop.example/g00930/laws.FnExactPromiseName", spec := "fnExactPromiseName", apart := false }
def FnExactPromiseNameSaid : Prop := fnExactPromiseNameRow.holds Try.pinned (OpenSpec.ofChange fnExactPromiseNameSpec)

/-- ITS FALSE NEIGHBOUR: 'it returns false'. Refute it at one input. -/
def fnExactPromiseNameWrong : ChangeSpec := { name := "fnExactPromiseName", fn := fun _ => fun
  | [d] => { results := [.lit (.bool false)], args := [d] }
  | _ => none }
def FnExactPromiseNameWrongFalsely : Prop := fnExactPromiseNameRow.holds Try.pinned (OpenSpec.ofChange fnExactPromiseNameWrong)

/-- 'laws.FnExactDifferenceBound': WHATEVER THE INPUT: true; the input reads as it did. -/
def fnExactDifferenceBoundSpec : ChangeSpec := { name := "fnExactDifferenceBound", fn := fun _ => fun
  | [d1, d2] => { results := [.lit (.bool true)], args := [d1, d2] }
  | _ => none }
def fnExactDifferenceBoundRow : OpenClaim := { program := "ythckgjlljodkhaa", sum := "9e1527c07695ab4c40155a0f738d1b0755237a7481fa5afe15ea546274d814f8", func := "loop.example/g00930/laws.FnExactDifferenceBound", spec := "fnExactDifferenceBound", apart := false }
def FnExactDifferenceBoundSaid : Prop := fnExactDifferenceBoundRow.holds Try.pinned (OpenSpec.ofChange fnExactDifferenceBoundSpec)

/-- ITS FALSE NEIGHBOUR: 'it returns false'. Refute it at one input. -/
def fnExactDifferenceBoundWrong : ChangeSpec := { name := "fnExactDifferenceBound", fn := fun _ => fun
  | [d1, d2] => { results := [.lit (.bool false)], args := [d1, d2] }
  | _ => none }
def FnExactDifferenceBoundWrongFalsely : Prop := fnExactDifferenceBoundRow.holds Try.pinned (OpenSpec.ofChange fnExactDifferenceBoundWrong)

/-- 'laws.FnExactStrokeBack': WHATEVER THE INPUT: true; the input reads as it did. -/
def fnExactStrokeBackSpec : ChangeSpec := { name := "fnExactStrokeBack", fn := fun _ => fun
  | [d] => { results := [.lit (.bool true)], args := [d] }
  | _ => none }
def fnExactStrokeBackRow : OpenClaim := { program := "ythckgjlljodkhaa", sum := "9e1527c07695ab4c40155a0f738d1b0755237a7481fa5afe15ea546274d814f8", func := "loop.example/g00930/laws.FnExactStrokeBack", spec := "fnExactStrokeBack", apart := false }
def FnExactStrokeBackSaid : Prop := fnExactStrokeBackRow.holds Try.pinned (OpenSpec.ofChange fnExactStrokeBackSpec)

/-- ITS FALSE NEIGHBOUR: 'it returns false'. Refute it at one input. -/
def fnExactStrokeBackWrong : ChangeSpec := { name := "fnExactStrokeBack", fn := fun _ => fun
  | [d] => { results := [.lit (.bool false)], args := [d] }
  | _ => none }
def FnExactStrokeBackWrongFalsely : Prop := fnExactStrokeBackRow.holds Try.pinned (OpenSpec.ofChange fnExactStrokeBackWrong)

/-- 'laws.FnExactBinomialOf': WHATEVER THE INPUT: true; the input reads as it did. -/
def fnExactBinomialOfSpec : ChangeSpec := { name := "fnExactBinomialOf", fn := fun _ => fun
  | [d1, d2] => { results := [.lit (.bool true)], args := [d1, d2] }
  | _ => none }
def fnExactBinomialOfRow : OpenClaim := { program := "ythckgjlljodkhaa", sum := "9e1527c07695ab4c40155a0f738d1b0755237a7481fa5afe15ea546274d814f8", func := "loop.example/g00930/laws.FnExactBinomialOf", spec := "fnExactBinomialOf", apart := false }
def FnExactBinomialOfSaid : Prop := fnExactBinomialOfRow.holds Try.pinned (OpenSpec.ofChange fnExactBinomialOfSpec)

/-- ITS FALSE NEIGHBOUR: 'it returns false'. Refute it at one input. -/
def fnExactBinomialOfWrong : ChangeSpec := { name := "fnExactBinomialOf", fn := fun _ => fun
  | [d1, d2] => { results := [.lit (.bool false)], args := [d1, d2] }
  | _ => none }
def FnExactBinomialOfWrongFalsely : Prop := fnExactBinomialOfRow.holds Try.pinned (OpenSpec.ofChange fnExactBinomialOfWrong)

/- THE SECOND FORM. 'bulk': how many values and letters a reading holds, each counted each time it is reached (what is shared counts as often as it is met; a slice's spare places count too). A statement '..UptoSaid' is the law's where the arguments, and the package variables that the reading takes, are together of bulk at most 1048576: NARROWER than '..Said'. Prove '..Said' where nothing that the law and all that it calls make is longer than what came in: it says more and counts as full. Else prove '..UptoSaid'. A law counts once. -/
mutual
def uptoBulk {H : Type} : DataW H → Nat
  | .lit (.string bytes) => bytes.length + 1
  | .lit _ => 1
  | .nil => 1
  | .ptr d => uptoBulk d + 1
  | .slice elems spare => uptoBulkAll elems + uptoBulkAll spare + 1
  | .agg parts => uptoBulkAll parts + 1
  | .iface _ d => uptoBulk d + 1
  | .map entries => uptoBulkEntries entries + 1
  | .held _ => 1
def uptoBulkAll {H : Type} : List (DataW H) → Nat
  | [] => 0
  | d :: r => uptoBulk d + uptoBulkAll r
def uptoBulkEntries {H : Type} : List (Lit × DataW H) → Nat
  | [] => 0
  | x :: r => uptoBulkEntry x + uptoBulkEntries r
def uptoBulkEntry {H : Type} : Lit × DataW H → Nat
  | (.string bytes, d) => bytes.length + uptoBulk d + 1
  | (_, d) => uptoBulk d + 1
 end
def uptoSmall : (H : Type) → List (DataW H) → Bool := fun _ ds => decide (uptoBulkAll ds ≤ 1048576)
def OpenSpec.upto (s : _root_.Go.ChangeSpec) : _root_.Go.OpenSpec := { _root_.Go.OpenSpec.ofChange s with cond := some uptoSmall }

/-- 'laws.FnExactLineFaultName', WHERE WHAT IT READS IS OF BULK AT MOST 1048576: true; the input reads as it did. -/
def fnExactLineFaultNameUptoRow : OpenClaim := { program := "ythckgjlljodkhaa", sum := "9e1527c07695ab4c40155a0f738d1b0755237a7481fa5afe15ea546274d814f8", func := "loop.example/g00930/laws.FnExactLineFaultName", spec := "fnExactLineFaultName", apart := false, narrowed := true }
def FnExactLineFaultNameUptoSaid : Prop := fnExactLineFaultNameUptoRow.holds Try.pinned (OpenSpec.upto fnExactLineFaultNameSpec)

/-- 'laws.FnExactStrokeName', WHERE WHAT IT READS IS OF BULK AT MOST 1048576: true; the input reads as it did. -/
def fnExactStrokeNameUptoRow : OpenClaim := { program := "ythckgjlljodkhaa", sum := "9e1527c07695ab4c40155a0f738d1b0755237a7481fa5afe15ea546274d814f8", func := "loop.example/g00930/laws.FnExactStrokeName", spec := "fnExactStrokeName", apart := false, narrowed := true }
def FnExactStrokeNameUptoSaid : Prop := fnExactStrokeNameUptoRow.holds Try.pinned (OpenSpec.upto fnExactStrokeNameSpec)

/-- 'laws.FnExactPromiseName', WHERE WHAT IT READS IS OF BULK AT MOST 1048576: true; the input reads as it did. -/
def fnExactPromiseNameUptoRow : OpenClaim := { program := "ythckgjlljodkhaa", sum := "9e1527c07695ab4c40155a0f738d1b0755237a7481fa5afe15ea546274d814f8", func := "loop.example/g00930/laws.FnExactPromiseName", spec := "fnExactPromiseName", apart := false, narrowed := true }
def FnExactPromiseNameUptoSaid : Prop := fnExactPromiseNameUptoRow.holds Try.pinned (OpenSpec.upto fnExactPromiseNameSpec)

/-- 'laws.FnExactDifferenceBound', WHERE WHAT IT READS IS OF BULK AT MOST 1048576: true; the input reads as it did. -/
def fnExactDifferenceBoundUptoRow : OpenClaim := { program := "ythckgjlljodkhaa", sum := "9e1527c07695ab4c40155a0f738d1b0755237a7481fa5afe15ea546274d814f8", func := "loop.example/g00930/laws.FnExactDifferenceBound", spec := "fnExactDifferenceBound", apart := false, narrowed := true }
def FnExactDifferenceBoundUptoSaid : Prop := fnExactDifferenceBoundUptoRow.holds Try.pinned (OpenSpec.upto fnExactDifferenceBoundSpec)

/-- 'laws.FnExactStrokeBack', WHERE WHAT IT READS IS OF BULK AT MOST 1048576: true; the input reads as it did. -/
def fnExactStrokeBackUptoRow : OpenClaim := { program := "ythckgjlljodkhaa", sum := "9e1527c07695ab4c40155a0f738d1b0755237a7481fa5afe15ea546274d814f8", func := "loop.example/g00930/laws.FnExactStrokeBack", spec := "fnExactStrokeBack", apart := false, narrowed := true }
def FnExactStrokeBackUptoSaid : Prop := fnExactStrokeBackUptoRow.holds Try.pinned (OpenSpec.upto fnExactStrokeBackSpec)

/-- 'laws.FnExactBinomialOf', WHERE WHAT IT READS IS OF BULK AT MOST 1048576: true; the input reads as it did. -/
def fnExactBinomialOfUptoRow : OpenClaim := { program := "ythckgjlljodkhaa", sum := "9e1527c07695ab4c40155a0f738d1b0755237a7481fa5afe15ea546274d814f8", func := "loop.example/g00930/laws.FnExactBinomialOf", spec := "fnExactBinomialOf", apart := false, narrowed := true }
def FnExactBinomialOfUptoSaid : Prop := fnExactBinomialOfUptoRow.holds Try.pinned (OpenSpec.upto fnExactBinomialOfSpec)

end Rows
end Go.Proofs.Ythckgjlljodkhaa
