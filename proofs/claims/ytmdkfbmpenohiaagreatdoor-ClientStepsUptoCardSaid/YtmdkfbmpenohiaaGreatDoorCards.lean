/-
  DERIVED. GIVEN WITH THE SEED: THE CARDS: each row of YtmdkfbmpenohiaaGreatDoorRows.lean that lists a variable, with what it lists TIED to the program's text (the seventh form; the later family's looks); each row that meets fmt, with fmt's text TOLD by the authors' own Lean function (tested against real Go, not proved from fmt's source: count such statements apart). THE CARD IS WHAT COUNTS. Prove the row's statement (the work); the ties are given (YtmdkfbmpenohiaaGreatDoorTie.lean); close each card by the builder's one call (the guide's Derived/Test/ToyasCard.lean, 'card_holds'). Laid BY PROGRAM, IN A SANDBOX (cutbox-door.mjs). By AI agents, Wed Nov 11 2026. No macro, syntax, notation, axiom, sorry.
-/
import Derived.Test.YtmdkfbmpenohiaaGreatDoorRows
import GoSem.ClaimSeven
namespace Go.Proofs.YtmdkfbmpenohiaaGreatDoor
namespace Rows

/-- THE TIED CARD OF 'wireschemalaw53.ClientRuns'. -/
def clientRunsCard : Claim7 := { stood := { row := clientRunsRow, standIns := [], harness := (true, "985e080d8218e5e8378b66e90a1faae1c4e2d6bd9d87d0bed6f82bd4cec39b35"), looks := false }, kinds := [], alts := [], laidByText := true, laidKinds := [.data, .pinned], laidTests := true, laidLooks := .later }
def ClientRunsCardSaid : Prop := Claim7.holds Tryz.pinned (.plain (OpenSpec.ofChange clientRunsSpec)) clientRunsCard

/-- THE TIED CARD OF 'wireschemalaw53.ClientSteps'. -/
def clientStepsCard : Claim7 := { stood := { row := clientStepsRow, standIns := [], harness := (true, "985e080d8218e5e8378b66e90a1faae1c4e2d6bd9d87d0bed6f82bd4cec39b35"), looks := false }, kinds := [], alts := [], laidByText := true, laidKinds := [.data, .pinned], laidTests := true, laidLooks := .later }
def ClientStepsCardSaid : Prop := Claim7.holds Tryz.pinned (.plain (OpenSpec.ofChange clientStepsSpec)) clientStepsCard

/-- THE SECOND FORM's CARD OF 'wireschemalaw53.ClientRuns'. -/
def clientRunsUptoCard : Claim7 := { stood := { row := clientRunsUptoRow, standIns := [], harness := (true, "985e080d8218e5e8378b66e90a1faae1c4e2d6bd9d87d0bed6f82bd4cec39b35"), looks := false }, kinds := [], alts := [], laidByText := true, laidKinds := [.data, .pinned], laidTests := true, laidLooks := .later }
def ClientRunsUptoCardSaid : Prop := Claim7.holds Tryz.pinned (.plain (OpenSpec.upto clientRunsSpec)) clientRunsUptoCard

/-- THE SECOND FORM's CARD OF 'wireschemalaw53.ClientSteps'. -/
def clientStepsUptoCard : Claim7 := { stood := { row := clientStepsUptoRow, standIns := [], harness := (true, "985e080d8218e5e8378b66e90a1faae1c4e2d6bd9d87d0bed6f82bd4cec39b35"), looks := false }, kinds := [], alts := [], laidByText := true, laidKinds := [.data, .pinned], laidTests := true, laidLooks := .later }
def ClientStepsUptoCardSaid : Prop := Claim7.holds Tryz.pinned (.plain (OpenSpec.upto clientStepsSpec)) clientStepsUptoCard
end Rows
end Go.Proofs.YtmdkfbmpenohiaaGreatDoor
