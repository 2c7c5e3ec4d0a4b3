/-
  No cell of these rows narrows 'for every input' (looked for: loops, veiled, ifaces, maps, wideKeys, modest, calm, conditions, laid).
  DERIVED. THE GIVEN ROWS OF THIS SEAT. 4 by the template 'for every input the law returns true; each argument reads behind the call as it read before'; 0 by the template 'total and deterministic' (their statements: YtknpjibdnjpamaaTotals.lean).
  GIVEN WITH THE SEED: the statements are not yours to turn. If you find one false, say at which input.
  Laid BY PROGRAM, IN A SANDBOX (cutbox-rows.mjs): the forced cells as the released guide's own fill.sh prints them over the translation 89aa3839452312ca… (all of the seat's roots in one cut). By AI agents, Wed Nov 11 2026. No macro, syntax, notation, axiom, sorry.
-/
import Derived.Test.YtknpjibdnjpamaaChecked
import GoSem.Claim
import GoSem.ClaimJoined
import GoSem.ClaimMapViews
import Derived.JoinedTies
import Derived.KernelRfl
namespace Go.Proofs.Ytknpjibdnjpamaa
/- THE CELL 'sum', in the pinned program and in every row, IS THE sha256 OF THE DUMP (.gsa) THAT YtknpjibdnjpamaaProg.lean LOADS. Nothing in Lean hashes anything: it is a label: what it is worth is what the hold of that sum in a sandbox is worth. -/
noncomputable def Try.pinned : Pinned := { name := "ytknpjibdnjpamaa", sum := "89aa3839452312ca667fd7a582dcc8e05cf19f0ee03025e2a74ed27349fe97f7", checked := Try.checked }
namespace Rows
def none {H : Type} : Left H := { results := [], args := [] }

/-- 'laws.FnExactSameEngine': WHATEVER THE INPUT: true; the input reads as it did. -/
def fnExactSameEngineSpec : ChangeSpec := { name := "fnExactSameEngine", fn := fun _ => fun
  | [d1, d2] => { results := [.lit (.bool true)], args := [d1, d2] }
  | _ => none }
def fnExactSameEngineRow : OpenClaim := { program := "ytknpjibdnjpamaa", sum := "89aa3839452312ca667fd7a582dcc8e05cf19f0ee03025e2a74ed27349fe97f7", func := "loop.example/g00930/laws.FnExactSameEngine", spec := "fnExactSameEngine", apart := false }
def FnExactSameEngineSaid : Prop := fnExactSameEngineRow.holds Try.pinned (OpenSpec.ofChange fnExactSameEngineSpec)

/-- ITS FALSE NEIGHBOUR: 'it returns false'. Refute it at one input. -/
def fnExactSameEngineWrong : ChangeSpec := { name := "fnExactSameEngine", fn := fun _ => fun
  | [d1, d2] => { results := [.lit (.bool false)], args := [d1, d2] }
  | _ => none }
def FnExactSameEngineWrongFalsely : Prop := fnExactSameEngineRow.holds Try.pinned (OpenSpec.ofChange fnExactSameEngineWrong)

/-- 'laws.FnExactValidEngine': WHATEVER THE INPUT: true; the input reads as it did. -/
def fnExactValidEngineSpec : ChangeSpec := { name := "fnExactValidEngine", fn := fun _ => fun
  | [d] => { results := [.lit (.bool true)], args := [d] }
  | _ => none }
def fnExactValidEngineRow : OpenClaim := { program := "ytknpjibdnjpamaa", sum := "89aa3839452312ca667fd7a582dcc8e05cf19f0ee03025e2a74ed27349fe97f7", func := "loop.example/g00930/laws.FnExactValidEngine", spec := "fnExactValidEngine", apart := false }
def FnExactValidEngineSaid : Prop := fnExactValidEngineRow.holds Try.pinned (OpenSpec.ofChange fnExactValidEngineSpec)

/-- ITS FALSE NEIGHBOUR: 'it returns false'. Refute it at one input. -/
def fnExactValidEngineWrong : ChangeSpec := { name := "fnExactValidEngine", fn := fun _ => fun
  | [d] => { results := [.lit (.bool false)], args := [d] }
  | _ => none }
def FnExactValidEngineWrongFalsely : Prop := fnExactValidEngineRow.holds Try.pinned (OpenSpec.ofChange fnExactValidEngineWrong)

/-- 'laws.FnExactNewEngine': WHATEVER THE INPUT: true; the input reads as it did. -/
def fnExactNewEngineSpec : ChangeSpec := { name := "fnExactNewEngine", fn := fun _ => fun
  | [d1, d2] => { results := [.lit (.bool true)], args := [d1, d2] }
  | _ => none }
def fnExactNewEngineRow : OpenClaim := { program := "ytknpjibdnjpamaa", sum := "89aa3839452312ca667fd7a582dcc8e05cf19f0ee03025e2a74ed27349fe97f7", func := "loop.example/g00930/laws.FnExactNewEngine", spec := "fnExactNewEngine", apart := false }
def FnExactNewEngineSaid : Prop := fnExactNewEngineRow.holds Try.pinned (OpenSpec.ofChange fnExactNewEngineSpec)

/-- ITS FALSE NEIGHBOUR: 'it returns false'. Refute it at one input. -/
def fnExactNewEngineWrong : ChangeSpec := { name := "fnExactNewEngine", fn := fun _ => fun
  | [d1, d2] => { results := [.lit (.bool false)], args := [d1, d2] }
  | _ => none }
def FnExactNewEngineWrongFalsely : Prop := fnExactNewEngineRow.holds Try.pinned (OpenSpec.ofChange fnExactNewEngineWrong)

/-- 'laws.FnExactEngineCarries': WHATEVER THE INPUT: true; the input reads as it did. -/
def fnExactEngineCarriesSpec : ChangeSpec := { name := "fnExactEngineCarries", fn := fun _ => fun
  | [d] => { results := [.lit (.bool true)], args := [d] }
  | _ => none }
def fnExactEngineCarriesRow : OpenClaim := { program := "ytknpjibdnjpamaa", sum := "89aa3839452312ca667fd7a582dcc8e05cf19f0ee03025e2a74ed27349fe97f7", func := "loop.example/g00930/laws.FnExactEngineCarries", spec := "fnExactEngineCarries", apart := false }
def FnExactEngineCarriesSaid : Prop := fnExactEngineCarriesRow.holds Try.pinned (OpenSpec.ofChange fnExactEngineCarriesSpec)

/-- ITS FALSE NEIGHBOUR: 'it returns false'. Refute it at one input. -/
def fnExactEngineCarriesWrong : ChangeSpec := { name := "fnExactEngineCarries", fn := fun _ => fun
  | [d] => { results := [.lit (.bool false)], args := [d] }
  | _ => none }
def FnExactEngineCarriesWrongFalsely : Prop := fnExactEngineCarriesRow.holds Try.pinned (OpenSpec.ofChange fnExactEngineCarriesWrong)

/- THE SECOND FORM. 'bulk': how many values and letters a reading holds, each counted each time it is reached (what is shared counts as often as it is met; a slice's spare places count too). A statement '..UptoSaid' is the law's where the arguments, and the package variables that the reading takes, are together of bulk at most 1048576: NARROWER than '..Said'. Prove '..Said' where nothing that the law and all that it calls make is longer than what came in: it says more and counts as full. Else prove '..UptoSaid'. A law counts once. -/
mutual
def uptoBulk {H : Type} : DataW H → Nat
  | .lit (.string bytes) => bytes.length + 1
  | .lit _ => 1
  | .nil => 1
  | .ptr d => uptoBulk d + 1
  | .slice elems spare => uptoBulkAll elems + uptoBulkAll spare + 1
  | .agg parts => uptoBulkAll parts + 1
  | .iface _ d => uptoBulk d + 1
  | .map entries => uptoBulkEntries entries + 1
  | .held _ => 1
def uptoBulkAll {H : Type} : List (DataW H) → Nat
  | [] => 0
  | d :: r => uptoBulk d + uptoBulkAll r
def uptoBulkEntries {H : Type} : List (Lit × DataW H) → Nat
  | [] => 0
  | x :: r => uptoBulkEntry x + uptoBulkEntries r
def uptoBulkEntry {H : Type} : Lit × DataW H → Nat
  | (.string bytes, d) => bytes.length + uptoBulk d + 1
  | (_, d) => uptoBulk d + 1
 end
def uptoSmall : (H : Type) → List (DataW H) → Bool := fun _ ds => decide (uptoBulkAll ds ≤ 1048576)
def OpenSpec.upto (s : _root_.Go.ChangeSpec) : _root_.Go.OpenSpec := { _root_.Go.OpenSpec.ofChange s with cond := some uptoSmall }

/-- 'laws.FnExactSameEngine', WHERE WHAT IT READS IS OF BULK AT MOST 1048576: true; the input reads as it did. -/
def fnExactSameEngineUptoRow : OpenClaim := { program := "ytknpjibdnjpamaa", sum := "89aa3839452312ca667fd7a582dcc8e05cf19f0ee03025e2a74ed27349fe97f7", func := "loop.example/g00930/laws.FnExactSameEngine", spec := "fnExactSameEngine", apart := false, narrowed := true }
def FnExactSameEngineUptoSaid : Prop := fnExactSameEngineUptoRow.holds Try.pinned (OpenSpec.upto fnExactSameEngineSpec)

/-- 'laws.FnExactValidEngine', WHERE WHAT IT READS IS OF BULK AT MOST 1048576: true; the input reads as it did. -/
def fnExactValidEngineUptoRow : OpenClaim := { program := "ytknpjibdnjpamaa", sum := "89aa3839452312ca667fd7a582dcc8e05cf19f0ee03025e2a74ed27349fe97f7", func := "loop.example/g00930/laws.FnExactValidEngine", spec := "fnExactValidEngine", apart := false, narrowed := true }
def FnExactValidEngineUptoSaid : Prop := fnExactValidEngineUptoRow.holds Try.pinned (OpenSpec.upto fnExactValidEngineSpec)

/-- 'laws.FnExactNewEngine', WHERE WHAT IT READS IS OF BULK AT MOST 1048576: true; the input reads as it did. -/
def fnExactNewEngineUptoRow : OpenClaim := { program := "ytknpjibdnjpamaa", sum := "89aa3839452312ca667fd7a582dcc8e05cf19f0ee03025e2a74ed27349fe97f7", func := "loop.example/g00930/laws.FnExactNewEngine", spec := "fnExactNewEngine", apart := false, narrowed := true }
def FnExactNewEngineUptoSaid : Prop := fnExactNewEngineUptoRow.holds Try.pinned (OpenSpec.upto fnExactNewEngineSpec)

/-- 'laws.FnExactEngineCarries', WHERE WHAT IT READS IS OF BULK AT MOST 1048576: true; the input reads as it did. -/
def fnExactEngineCarriesUptoRow : OpenClaim := { program := "ytknpjibdnjpamaa", sum := "89aa3839452312ca667fd7a582dcc8e05cf19f0ee03025e2a74ed27349fe97f7", func := "loop.example/g00930/laws.FnExactEngineCarries", spec := "fnExactEngineCarries", apart := false, narrowed := true }
def FnExactEngineCarriesUptoSaid : Prop := fnExactEngineCarriesUptoRow.holds Try.pinned (OpenSpec.upto fnExactEngineCarriesSpec)

end Rows
end Go.Proofs.Ytknpjibdnjpamaa
