/-
  DERIVED. GIVEN WITH THE SEED: THE CARDS: each row of YtkhjmokjbiepgaaDoorRows.lean that lists a variable, with what it lists TIED to the program's text (the seventh form; the later family's looks); each row that meets fmt, with fmt's text TOLD by the authors' own Lean function (tested against real Go, not proved from fmt's source: count such statements apart). THE CARD IS WHAT COUNTS. Prove the row's statement (the work); the ties are given (YtkhjmokjbiepgaaDoorTie.lean); close each card by the builder's one call (the guide's Derived/Test/ToyasCard.lean, 'card_holds'). Laid BY PROGRAM, IN A SANDBOX (cutbox-door.mjs). By AI agents, Wed Nov 11 2026. No macro, syntax, notation, axiom, sorry.
-/
import Derived.Test.YtkhjmokjbiepgaaDoorRows
import GoSem.ClaimSeven
namespace Go.Proofs.YtkhjmokjbiepgaaDoor
namespace Rows

/-- THE TIED CARD OF 'laws.FnExactReadFault'. -/
def fnExactReadFaultCard : Claim7 := { stood := { row := fnExactReadFaultRow, standIns := [], harness := (true, "d00711664a8f31de06e55a721d79665ffefde19273e2505f4918150e1bab782e"), looks := false }, kinds := [], alts := [], laidByText := true, laidKinds := [.data, .data, .data], laidTests := true, laidLooks := .later }
def FnExactReadFaultCardSaid : Prop := Claim7.holds Tryd.pinned (.plain (OpenSpec.ofChange fnExactReadFaultSpec)) fnExactReadFaultCard

/-- THE TIED CARD OF 'laws.FnExactTurnsText'. -/
def fnExactTurnsTextCard : Claim7 := { stood := { row := fnExactTurnsTextRow, standIns := [], harness := (true, "d00711664a8f31de06e55a721d79665ffefde19273e2505f4918150e1bab782e"), looks := false }, kinds := [], alts := [], laidByText := true, laidKinds := [.data, .data, .data], laidTests := true, laidLooks := .later }
def FnExactTurnsTextCardSaid : Prop := Claim7.holds Tryd.pinned (.plain (OpenSpec.ofChange fnExactTurnsTextSpec)) fnExactTurnsTextCard

/-- THE TIED CARD OF 'laws.FnExactFaultText'. -/
def fnExactFaultTextCard : Claim7 := { stood := { row := fnExactFaultTextRow, standIns := [], harness := (true, "d00711664a8f31de06e55a721d79665ffefde19273e2505f4918150e1bab782e"), looks := false }, kinds := [], alts := [], laidByText := true, laidKinds := [.data, .data, .data], laidTests := true, laidLooks := .later }
def FnExactFaultTextCardSaid : Prop := Claim7.holds Tryd.pinned (.plain (OpenSpec.ofChange fnExactFaultTextSpec)) fnExactFaultTextCard

/-- THE TIED CARD OF 'laws.FnExactEngineText'. -/
def fnExactEngineTextCard : Claim7 := { stood := { row := fnExactEngineTextRow, standIns := [], harness := (true, "d00711664a8f31de06e55a721d79665ffefde19273e2505f4918150e1bab782e"), looks := false }, kinds := [], alts := [], laidByText := true, laidKinds := [.data, .data, .data], laidTests := true, laidLooks := .later }
def FnExactEngineTextCardSaid : Prop := Claim7.holds Tryd.pinned (.plain (OpenSpec.ofChange fnExactEngineTextSpec)) fnExactEngineTextCard

/-- THE SECOND FORM's CARD OF 'laws.FnExactReadFault'. -/
def fnExactReadFaultUptoCard : Claim7 := { stood := { row := fnExactReadFaultUptoRow, standIns := [], harness := (true, "d00711664a8f31de06e55a721d79665ffefde19273e2505f4918150e1bab782e"), looks := false }, kinds := [], alts := [], laidByText := true, laidKinds := [.data, .data, .data], laidTests := true, laidLooks := .later }
def FnExactReadFaultUptoCardSaid : Prop := Claim7.holds Tryd.pinned (.plain (OpenSpec.upto fnExactReadFaultSpec)) fnExactReadFaultUptoCard

/-- THE SECOND FORM's CARD OF 'laws.FnExactTurnsText'. -/
def fnExactTurnsTextUptoCard : Claim7 := { stood := { row := fnExactTurnsTextUptoRow, standIns := [], harness := (true, "d00711664a8f31de06e55a721d79665ffefde19273e2505f4918150e1bab782e"), looks := false }, kinds := [], alts := [], laidByText := true, laidKinds := [.data, .data, .data], laidTests := true, laidLooks := .later }
def FnExactTurnsTextUptoCardSaid : Prop := Claim7.holds Tryd.pinned (.plain (OpenSpec.upto fnExactTurnsTextSpec)) fnExactTurnsTextUptoCard

/-- THE SECOND FORM's CARD OF 'laws.FnExactFaultText'. -/
def fnExactFaultTextUptoCard : Claim7 := { stood := { row := fnExactFaultTextUptoRow, standIns := [], harness := (true, "d00711664a8f31de06e55a721d79665ffefde19273e2505f4918150e1bab782e"), looks := false }, kinds := [], alts := [], laidByText := true, laidKinds := [.data, .data, .data], laidTests := true, laidLooks := .later }
def FnExactFaultTextUptoCardSaid : Prop := Claim7.holds Tryd.pinned (.plain (OpenSpec.upto fnExactFaultTextSpec)) fnExactFaultTextUptoCard

/-- THE SECOND FORM's CARD OF 'laws.FnExactEngineText'. -/
def fnExactEngineTextUptoCard : Claim7 := { stood := { row := fnExactEngineTextUptoRow, standIns := [], harness := (true, "d00711664a8f31de06e55a721d79665ffefde19273e2505f4918150e1bab782e"), looks := false }, kinds := [], alts := [], laidByText := true, laidKinds := [.data, .data, .data], laidTests := true, laidLooks := .later }
def FnExactEngineTextUptoCardSaid : Prop := Claim7.holds Tryd.pinned (.plain (OpenSpec.upto fnExactEngineTextSpec)) fnExactEngineTextUptoCard
end Rows
end Go.Proofs.YtkhjmokjbiepgaaDoor
