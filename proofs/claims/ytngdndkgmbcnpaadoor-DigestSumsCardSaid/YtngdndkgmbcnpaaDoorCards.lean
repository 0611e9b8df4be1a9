/-
  DERIVED. GIVEN WITH THE SEED: THE CARDS: each row of YtngdndkgmbcnpaaDoorRows.lean that lists a variable, with what it lists TIED to the program's text (the seventh form; the later family's looks); each row that meets fmt, with fmt's text TOLD by the authors' own Lean function (tested against real Go, not proved from fmt's source: count such statements apart). THE CARD IS WHAT COUNTS. Prove the row's statement (the work); the ties are given (YtngdndkgmbcnpaaDoorTie.lean); close each card by the builder's one call (the guide's Derived/Test/ToyasCard.lean, 'card_holds'). Laid BY PROGRAM, IN A SANDBOX (cutbox-door.mjs). By AI agents, Wed Nov 11 2026. No macro, syntax, notation, axiom, sorry.
-/
import Derived.Test.YtngdndkgmbcnpaaDoorRows
import GoSem.ClaimSeven
namespace Go.Proofs.YtngdndkgmbcnpaaDoor
namespace Rows

/-- THE TIED CARD OF 'wireschemalaw05.DigestTexts'. -/
def digestTextsCard : Claim7 := { stood := { row := digestTextsRow, standIns := [], harness := (true, "6356df0edbb21b38576df187e922ae6b3c7819ef86b0fbf3c9a596ff5d345b2b"), looks := true }, kinds := [], alts := [], laidByText := true, laidKinds := [.data, .data, .data, .sentinel, .sentinel], laidTests := true, laidLooks := .later }
def DigestTextsCardSaid : Prop := Claim7.holds Tryd.pinned (.plain (OpenSpec.ofChange digestTextsSpec)) digestTextsCard

/-- THE TIED CARD OF 'wireschemalaw05.DigestBytes'. -/
def digestBytesCard : Claim7 := { stood := { row := digestBytesRow, standIns := [], harness := (true, "6356df0edbb21b38576df187e922ae6b3c7819ef86b0fbf3c9a596ff5d345b2b"), looks := true }, kinds := [], alts := [], laidByText := true, laidKinds := [.data, .data, .data, .sentinel, .sentinel], laidTests := true, laidLooks := .later }
def DigestBytesCardSaid : Prop := Claim7.holds Tryd.pinned (.plain (OpenSpec.ofChange digestBytesSpec)) digestBytesCard

/-- THE TIED CARD OF 'wireschemalaw05.DigestSteps'. -/
def digestStepsCard : Claim7 := { stood := { row := digestStepsRow, standIns := [], harness := (true, "6356df0edbb21b38576df187e922ae6b3c7819ef86b0fbf3c9a596ff5d345b2b"), looks := true }, kinds := [], alts := [], laidByText := true, laidKinds := [.data, .data, .data, .sentinel, .sentinel], laidTests := true, laidLooks := .later }
def DigestStepsCardSaid : Prop := Claim7.holds Tryd.pinned (.plain (OpenSpec.ofChange digestStepsSpec)) digestStepsCard

/-- THE TIED CARD OF 'wireschemalaw05.DigestSums'. -/
def digestSumsCard : Claim7 := { stood := { row := digestSumsRow, standIns := [], harness := (true, "6356df0edbb21b38576df187e922ae6b3c7819ef86b0fbf3c9a596ff5d345b2b"), looks := true }, kinds := [], alts := [], laidByText := true, laidKinds := [.data, .data, .data, .sentinel, .sentinel], laidTests := true, laidLooks := .later }
def DigestSumsCardSaid : Prop := Claim7.holds Tryd.pinned (.plain (OpenSpec.ofChange digestSumsSpec)) digestSumsCard

/-- THE TIED CARD OF 'wireschemalaw05.DigestOpens'. -/
def digestOpensCard : Claim7 := { stood := { row := digestOpensRow, standIns := [], harness := (true, "6356df0edbb21b38576df187e922ae6b3c7819ef86b0fbf3c9a596ff5d345b2b"), looks := true }, kinds := [], alts := [], laidByText := true, laidKinds := [.data, .data, .data, .sentinel, .sentinel], laidTests := true, laidLooks := .later }
def DigestOpensCardSaid : Prop := Claim7.holds Tryd.pinned (.plain (OpenSpec.ofChange digestOpensSpec)) digestOpensCard

/-- THE TIED CARD OF 'wireschemalaw05.DigestSeals'. -/
def digestSealsCard : Claim7 := { stood := { row := digestSealsRow, standIns := [], harness := (true, "6356df0edbb21b38576df187e922ae6b3c7819ef86b0fbf3c9a596ff5d345b2b"), looks := true }, kinds := [], alts := [], laidByText := true, laidKinds := [.data, .data, .data, .sentinel, .sentinel], laidTests := true, laidLooks := .later }
def DigestSealsCardSaid : Prop := Claim7.holds Tryd.pinned (.plain (OpenSpec.ofChange digestSealsSpec)) digestSealsCard

/-- THE SECOND FORM's CARD OF 'wireschemalaw05.DigestTexts'. -/
def digestTextsUptoCard : Claim7 := { stood := { row := digestTextsUptoRow, standIns := [], harness := (true, "6356df0edbb21b38576df187e922ae6b3c7819ef86b0fbf3c9a596ff5d345b2b"), looks := true }, kinds := [], alts := [], laidByText := true, laidKinds := [.data, .data, .data, .sentinel, .sentinel], laidTests := true, laidLooks := .later }
def DigestTextsUptoCardSaid : Prop := Claim7.holds Tryd.pinned (.plain (OpenSpec.upto digestTextsSpec)) digestTextsUptoCard

/-- THE SECOND FORM's CARD OF 'wireschemalaw05.DigestBytes'. -/
def digestBytesUptoCard : Claim7 := { stood := { row := digestBytesUptoRow, standIns := [], harness := (true, "6356df0edbb21b38576df187e922ae6b3c7819ef86b0fbf3c9a596ff5d345b2b"), looks := true }, kinds := [], alts := [], laidByText := true, laidKinds := [.data, .data, .data, .sentinel, .sentinel], laidTests := true, laidLooks := .later }
def DigestBytesUptoCardSaid : Prop := Claim7.holds Tryd.pinned (.plain (OpenSpec.upto digestBytesSpec)) digestBytesUptoCard

/-- THE SECOND FORM's CARD OF 'wireschemalaw05.DigestSteps'. -/
def digestStepsUptoCard : Claim7 := { stood := { row := digestStepsUptoRow, standIns := [], harness := (true, "6356df0edbb21b38576df187e922ae6b3c7819ef86b0fbf3c9a596ff5d345b2b"), looks := true }, kinds := [], alts := [], laidByText := true, laidKinds := [.data, .data, .data, .sentinel, .sentinel], laidTests := true, laidLooks := .later }
def DigestStepsUptoCardSaid : Prop := Claim7.holds Tryd.pinned (.plain (OpenSpec.upto digestStepsSpec)) digestStepsUptoCard

/-- THE SECOND FORM's CARD OF 'wireschemalaw05.DigestSums'. -/
def digestSumsUptoCard : Claim7 := { stood := { row := digestSumsUptoRow, standIns := [], harness := (true, "6356df0edbb21b38576df187e922ae6b3c7819ef86b0fbf3c9a596ff5d345b2b"), looks := true }, kinds := [], alts := [], laidByText := true, laidKinds := [.data, .data, .data, .sentinel, .sentinel], laidTests := true, laidLooks := .later }
def DigestSumsUptoCardSaid : Prop := Claim7.holds Tryd.pinned (.plain (OpenSpec.upto digestSumsSpec)) digestSumsUptoCard

/-- THE SECOND FORM's CARD OF 'wireschemalaw05.DigestOpens'. -/
def digestOpensUptoCard : Claim7 := { stood := { row := digestOpensUptoRow, standIns := [], harness := (true, "6356df0edbb21b38576df187e922ae6b3c7819ef86b0fbf3c9a596ff5d345b2b"), looks := true }, kinds := [], alts := [], laidByText := true, laidKinds := [.data, .data, .data, .sentinel, .sentinel], laidTests := true, laidLooks := .later }
def DigestOpensUptoCardSaid : Prop := Claim7.holds Tryd.pinned (.plain (OpenSpec.upto digestOpensSpec)) digestOpensUptoCard

/-- THE SECOND FORM's CARD OF 'wireschemalaw05.DigestSeals'. -/
def digestSealsUptoCard : Claim7 := { stood := { row := digestSealsUptoRow, standIns := [], harness := (true, "6356df0edbb21b38576df187e922ae6b3c7819ef86b0fbf3c9a596ff5d345b2b"), looks := true }, kinds := [], alts := [], laidByText := true, laidKinds := [.data, .data, .data, .sentinel, .sentinel], laidTests := true, laidLooks := .later }
def DigestSealsUptoCardSaid : Prop := Claim7.holds Tryd.pinned (.plain (OpenSpec.upto digestSealsSpec)) digestSealsUptoCard
end Rows
end Go.Proofs.YtngdndkgmbcnpaaDoor
