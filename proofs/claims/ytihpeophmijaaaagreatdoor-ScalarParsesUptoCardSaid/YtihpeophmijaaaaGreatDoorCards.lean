/-
  DERIVED. GIVEN WITH THE SEED: THE CARDS: each row of YtihpeophmijaaaaGreatDoorRows.lean that lists a variable, with what it lists TIED to the program's text (the seventh form; the later family's looks); each row that meets fmt, with fmt's text TOLD by the authors' own Lean function (tested against real Go, not proved from fmt's source: count such statements apart). THE CARD IS WHAT COUNTS. Prove the row's statement (the work); the ties are given (YtihpeophmijaaaaGreatDoorTie.lean); close each card by the builder's one call (the guide's Derived/Test/ToyasCard.lean, 'card_holds'). Laid BY PROGRAM, IN A SANDBOX (cutbox-door.mjs). By AI agents, Wed Nov 11 2026. No macro, syntax, notation, axiom, sorry.
-/
import Derived.Test.YtihpeophmijaaaaGreatDoorRows
import GoSem.ClaimSeven
namespace Go.Proofs.YtihpeophmijaaaaGreatDoor
namespace Rows

/-- THE TIED CARD OF 'wireschemalaw04.ScalarTexts'. -/
def scalarTextsCard : Claim7 := { stood := { row := scalarTextsRow, standIns := [], harness := (true, "fb6937c3574664127a3c3c0ab8ad6b34aafaaa49286aff0ad436b1eb1272c156"), looks := true }, kinds := [], alts := [], laidByText := true, laidKinds := [.data, .data, .data, .sentinel, .sentinel], laidTests := true, laidLooks := .later }
def ScalarTextsCardSaid : Prop := Claim7.holds Tryz.pinned (.plain (OpenSpec.ofChange scalarTextsSpec)) scalarTextsCard

/-- THE TIED CARD OF 'wireschemalaw04.ScalarParses'. -/
def scalarParsesCard : Claim7 := { stood := { row := scalarParsesRow, standIns := [], harness := (true, "fb6937c3574664127a3c3c0ab8ad6b34aafaaa49286aff0ad436b1eb1272c156"), looks := true }, kinds := [], alts := [], laidByText := true, laidKinds := [.data, .data, .data, .sentinel, .sentinel], laidTests := true, laidLooks := .later }
def ScalarParsesCardSaid : Prop := Claim7.holds Tryz.pinned (.plain (OpenSpec.ofChange scalarParsesSpec)) scalarParsesCard

/-- THE TIED CARD OF 'wireschemalaw04.ScalarKinds'. -/
def scalarKindsCard : Claim7 := { stood := { row := scalarKindsRow, standIns := [], harness := (true, "fb6937c3574664127a3c3c0ab8ad6b34aafaaa49286aff0ad436b1eb1272c156"), looks := true }, kinds := [], alts := [], laidByText := true, laidKinds := [.data, .data, .data, .sentinel, .sentinel], laidTests := true, laidLooks := .later }
def ScalarKindsCardSaid : Prop := Claim7.holds Tryz.pinned (.plain (OpenSpec.ofChange scalarKindsSpec)) scalarKindsCard

/-- THE SECOND FORM's CARD OF 'wireschemalaw04.ScalarTexts'. -/
def scalarTextsUptoCard : Claim7 := { stood := { row := scalarTextsUptoRow, standIns := [], harness := (true, "fb6937c3574664127a3c3c0ab8ad6b34aafaaa49286aff0ad436b1eb1272c156"), looks := true }, kinds := [], alts := [], laidByText := true, laidKinds := [.data, .data, .data, .sentinel, .sentinel], laidTests := true, laidLooks := .later }
def ScalarTextsUptoCardSaid : Prop := Claim7.holds Tryz.pinned (.plain (OpenSpec.upto scalarTextsSpec)) scalarTextsUptoCard

/-- THE SECOND FORM's CARD OF 'wireschemalaw04.ScalarParses'. -/
def scalarParsesUptoCard : Claim7 := { stood := { row := scalarParsesUptoRow, standIns := [], harness := (true, "fb6937c3574664127a3c3c0ab8ad6b34aafaaa49286aff0ad436b1eb1272c156"), looks := true }, kinds := [], alts := [], laidByText := true, laidKinds := [.data, .data, .data, .sentinel, .sentinel], laidTests := true, laidLooks := .later }
def ScalarParsesUptoCardSaid : Prop := Claim7.holds Tryz.pinned (.plain (OpenSpec.upto scalarParsesSpec)) scalarParsesUptoCard

/-- THE SECOND FORM's CARD OF 'wireschemalaw04.ScalarKinds'. -/
def scalarKindsUptoCard : Claim7 := { stood := { row := scalarKindsUptoRow, standIns := [], harness := (true, "fb6937c3574664127a3c3c0ab8ad6b34aafaaa49286aff0ad436b1eb1272c156"), looks := true }, kinds := [], alts := [], laidByText := true, laidKinds := [.data, .data, .data, .sentinel, .sentinel], laidTests := true, laidLooks := .later }
def ScalarKindsUptoCardSaid : Prop := Claim7.holds Tryz.pinned (.plain (OpenSpec.upto scalarKindsSpec)) scalarKindsUptoCard
end Rows
end Go.Proofs.YtihpeophmijaaaaGreatDoor
