/-
  DERIVED. GIVEN WITH THE SEED: THE CARDS: each row of YthiocbcokfondaaGreatDoorRows.lean that lists a variable, with what it lists TIED to the program's text (the seventh form; the later family's looks); each row that meets fmt, with fmt's text TOLD by the authors' own Lean function (tested against real Go, not proved from fmt's source: count such statements apart). THE CARD IS WHAT COUNTS. Prove the row's statement (the work); the ties are given (YthiocbcokfondaaGreatDoorTie.lean); close each card by the builder's one call (the guide's Derived/Test/ToyasCard.lean, 'card_holds'). Laid BY PROGRAM, IN A SANDBOX (cutbox-door.mjs). By AI agents, Wed Nov 11 2026. No macro, syntax, notation, axiom, sorry.
-/
import Derived.Test.YthiocbcokfondaaGreatDoorRows
import GoSem.ClaimSeven
namespace Go.Proofs.YthiocbcokfondaaGreatDoor
namespace Rows

/-- THE TIED CARD OF 'wireschemalaw47.ConnValid'. -/
def connValidCard : Claim7 := { stood := { row := connValidRow, standIns := [], harness := (true, "0faeccd67456158335430b113d5a6641dac52bad81a985c72641d6ca6b669c64"), looks := false }, kinds := [], alts := [], laidByText := true, laidKinds := [.data, .pinned], laidTests := true, laidLooks := .later }
def ConnValidCardSaid : Prop := Claim7.holds Tryz.pinned (.plain (OpenSpec.ofChange connValidSpec)) connValidCard

/-- THE TIED CARD OF 'wireschemalaw47.ConnDelivers'. -/
def connDeliversCard : Claim7 := { stood := { row := connDeliversRow, standIns := [], harness := (true, "0faeccd67456158335430b113d5a6641dac52bad81a985c72641d6ca6b669c64"), looks := false }, kinds := [], alts := [], laidByText := true, laidKinds := [.data, .pinned], laidTests := true, laidLooks := .later }
def ConnDeliversCardSaid : Prop := Claim7.holds Tryz.pinned (.plain (OpenSpec.ofChange connDeliversSpec)) connDeliversCard

/-- THE TIED CARD OF 'wireschemalaw47.ConnRuns'. -/
def connRunsCard : Claim7 := { stood := { row := connRunsRow, standIns := [], harness := (true, "0faeccd67456158335430b113d5a6641dac52bad81a985c72641d6ca6b669c64"), looks := false }, kinds := [], alts := [], laidByText := true, laidKinds := [.data, .pinned], laidTests := true, laidLooks := .later }
def ConnRunsCardSaid : Prop := Claim7.holds Tryz.pinned (.plain (OpenSpec.ofChange connRunsSpec)) connRunsCard

/-- THE TIED CARD OF 'wireschemalaw47.ConnOnce'. -/
def connOnceCard : Claim7 := { stood := { row := connOnceRow, standIns := [], harness := (true, "0faeccd67456158335430b113d5a6641dac52bad81a985c72641d6ca6b669c64"), looks := false }, kinds := [], alts := [], laidByText := true, laidKinds := [.data, .pinned], laidTests := true, laidLooks := .later }
def ConnOnceCardSaid : Prop := Claim7.holds Tryz.pinned (.plain (OpenSpec.ofChange connOnceSpec)) connOnceCard

/-- THE TIED CARD OF 'wireschemalaw47.ConnBounded'. -/
def connBoundedCard : Claim7 := { stood := { row := connBoundedRow, standIns := [], harness := (true, "0faeccd67456158335430b113d5a6641dac52bad81a985c72641d6ca6b669c64"), looks := false }, kinds := [], alts := [], laidByText := true, laidKinds := [.data, .pinned], laidTests := true, laidLooks := .later }
def ConnBoundedCardSaid : Prop := Claim7.holds Tryz.pinned (.plain (OpenSpec.ofChange connBoundedSpec)) connBoundedCard

/-- THE SECOND FORM's CARD OF 'wireschemalaw47.ConnValid'. -/
def connValidUptoCard : Claim7 := { stood := { row := connValidUptoRow, standIns := [], harness := (true, "0faeccd67456158335430b113d5a6641dac52bad81a985c72641d6ca6b669c64"), looks := false }, kinds := [], alts := [], laidByText := true, laidKinds := [.data, .pinned], laidTests := true, laidLooks := .later }
def ConnValidUptoCardSaid : Prop := Claim7.holds Tryz.pinned (.plain (OpenSpec.upto connValidSpec)) connValidUptoCard

/-- THE SECOND FORM's CARD OF 'wireschemalaw47.ConnDelivers'. -/
def connDeliversUptoCard : Claim7 := { stood := { row := connDeliversUptoRow, standIns := [], harness := (true, "0faeccd67456158335430b113d5a6641dac52bad81a985c72641d6ca6b669c64"), looks := false }, kinds := [], alts := [], laidByText := true, laidKinds := [.data, .pinned], laidTests := true, laidLooks := .later }
def ConnDeliversUptoCardSaid : Prop := Claim7.holds Tryz.pinned (.plain (OpenSpec.upto connDeliversSpec)) connDeliversUptoCard

/-- THE SECOND FORM's CARD OF 'wireschemalaw47.ConnRuns'. -/
def connRunsUptoCard : Claim7 := { stood := { row := connRunsUptoRow, standIns := [], harness := (true, "0faeccd67456158335430b113d5a6641dac52bad81a985c72641d6ca6b669c64"), looks := false }, kinds := [], alts := [], laidByText := true, laidKinds := [.data, .pinned], laidTests := true, laidLooks := .later }
def ConnRunsUptoCardSaid : Prop := Claim7.holds Tryz.pinned (.plain (OpenSpec.upto connRunsSpec)) connRunsUptoCard

/-- THE SECOND FORM's CARD OF 'wireschemalaw47.ConnOnce'. -/
def connOnceUptoCard : Claim7 := { stood := { row := connOnceUptoRow, standIns := [], harness := (true, "0faeccd67456158335430b113d5a6641dac52bad81a985c72641d6ca6b669c64"), looks := false }, kinds := [], alts := [], laidByText := true, laidKinds := [.data, .pinned], laidTests := true, laidLooks := .later }
def ConnOnceUptoCardSaid : Prop := Claim7.holds Tryz.pinned (.plain (OpenSpec.upto connOnceSpec)) connOnceUptoCard

/-- THE SECOND FORM's CARD OF 'wireschemalaw47.ConnBounded'. -/
def connBoundedUptoCard : Claim7 := { stood := { row := connBoundedUptoRow, standIns := [], harness := (true, "0faeccd67456158335430b113d5a6641dac52bad81a985c72641d6ca6b669c64"), looks := false }, kinds := [], alts := [], laidByText := true, laidKinds := [.data, .pinned], laidTests := true, laidLooks := .later }
def ConnBoundedUptoCardSaid : Prop := Claim7.holds Tryz.pinned (.plain (OpenSpec.upto connBoundedSpec)) connBoundedUptoCard
end Rows
end Go.Proofs.YthiocbcokfondaaGreatDoor
