/-
  DERIVED. GIVEN WITH THE SEED: THE CARDS: each row of YtihpeophmijaaaaDoorRows.lean that lists a variable, with what it lists TIED to the program's text (the seventh form; the later family's looks); each row that meets fmt, with fmt's text TOLD by the authors' own Lean function (tested against real Go, not proved from fmt's source: count such statements apart). THE CARD IS WHAT COUNTS. Prove the row's statement (the work); the ties are given (YtihpeophmijaaaaDoorTie.lean); close each card by the builder's one call (the guide's Derived/Test/ToyasCard.lean, 'card_holds'). Laid BY PROGRAM, IN A SANDBOX (cutbox-door.mjs). By AI agents, Wed Nov 11 2026. No macro, syntax, notation, axiom, sorry.
-/
import Derived.Test.YtihpeophmijaaaaDoorRows
import GoSem.ClaimSeven
namespace Go.Proofs.YtihpeophmijaaaaDoor
namespace Rows

/-- THE TIED CARD OF 'wireschemalaw04.ScalarNorms'. -/
def scalarNormsCard : Claim7 := { stood := { row := scalarNormsRow, standIns := [], harness := (true, "6ff9fb4a89ec55dee1c36cbdc0e5a5d9471b8e8e3a002d3e9e060af10427c3c1"), looks := true }, kinds := [], alts := [], laidByText := true, laidKinds := [.data, .data, .data, .sentinel, .sentinel], laidTests := true, laidLooks := .later }
def ScalarNormsCardSaid : Prop := Claim7.holds Tryd.pinned (.plain (OpenSpec.ofChange scalarNormsSpec)) scalarNormsCard

/-- THE TIED CARD OF 'wireschemalaw04.ScalarRoundTrips'. -/
def scalarRoundTripsCard : Claim7 := { stood := { row := scalarRoundTripsRow, standIns := [], harness := (true, "6ff9fb4a89ec55dee1c36cbdc0e5a5d9471b8e8e3a002d3e9e060af10427c3c1"), looks := true }, kinds := [], alts := [], laidByText := true, laidKinds := [.data, .data, .data, .sentinel, .sentinel], laidTests := true, laidLooks := .later }
def ScalarRoundTripsCardSaid : Prop := Claim7.holds Tryd.pinned (.plain (OpenSpec.ofChange scalarRoundTripsSpec)) scalarRoundTripsCard

/-- THE TIED CARD OF 'wireschemalaw04.ScalarCompares'. -/
def scalarComparesCard : Claim7 := { stood := { row := scalarComparesRow, standIns := [], harness := (true, "6ff9fb4a89ec55dee1c36cbdc0e5a5d9471b8e8e3a002d3e9e060af10427c3c1"), looks := true }, kinds := [], alts := [], laidByText := true, laidKinds := [.data, .data, .data, .sentinel, .sentinel], laidTests := true, laidLooks := .later }
def ScalarComparesCardSaid : Prop := Claim7.holds Tryd.pinned (.plain (OpenSpec.ofChange scalarComparesSpec)) scalarComparesCard

/-- THE TIED CARD OF 'wireschemalaw04.ScalarOrdered'. -/
def scalarOrderedCard : Claim7 := { stood := { row := scalarOrderedRow, standIns := [], harness := (true, "6ff9fb4a89ec55dee1c36cbdc0e5a5d9471b8e8e3a002d3e9e060af10427c3c1"), looks := true }, kinds := [], alts := [], laidByText := true, laidKinds := [.data, .data, .data, .sentinel, .sentinel], laidTests := true, laidLooks := .later }
def ScalarOrderedCardSaid : Prop := Claim7.holds Tryd.pinned (.plain (OpenSpec.ofChange scalarOrderedSpec)) scalarOrderedCard

/-- THE SECOND FORM's CARD OF 'wireschemalaw04.ScalarNorms'. -/
def scalarNormsUptoCard : Claim7 := { stood := { row := scalarNormsUptoRow, standIns := [], harness := (true, "6ff9fb4a89ec55dee1c36cbdc0e5a5d9471b8e8e3a002d3e9e060af10427c3c1"), looks := true }, kinds := [], alts := [], laidByText := true, laidKinds := [.data, .data, .data, .sentinel, .sentinel], laidTests := true, laidLooks := .later }
def ScalarNormsUptoCardSaid : Prop := Claim7.holds Tryd.pinned (.plain (OpenSpec.upto scalarNormsSpec)) scalarNormsUptoCard

/-- THE SECOND FORM's CARD OF 'wireschemalaw04.ScalarRoundTrips'. -/
def scalarRoundTripsUptoCard : Claim7 := { stood := { row := scalarRoundTripsUptoRow, standIns := [], harness := (true, "6ff9fb4a89ec55dee1c36cbdc0e5a5d9471b8e8e3a002d3e9e060af10427c3c1"), looks := true }, kinds := [], alts := [], laidByText := true, laidKinds := [.data, .data, .data, .sentinel, .sentinel], laidTests := true, laidLooks := .later }
def ScalarRoundTripsUptoCardSaid : Prop := Claim7.holds Tryd.pinned (.plain (OpenSpec.upto scalarRoundTripsSpec)) scalarRoundTripsUptoCard

/-- THE SECOND FORM's CARD OF 'wireschemalaw04.ScalarCompares'. -/
def scalarComparesUptoCard : Claim7 := { stood := { row := scalarComparesUptoRow, standIns := [], harness := (true, "6ff9fb4a89ec55dee1c36cbdc0e5a5d9471b8e8e3a002d3e9e060af10427c3c1"), looks := true }, kinds := [], alts := [], laidByText := true, laidKinds := [.data, .data, .data, .sentinel, .sentinel], laidTests := true, laidLooks := .later }
def ScalarComparesUptoCardSaid : Prop := Claim7.holds Tryd.pinned (.plain (OpenSpec.upto scalarComparesSpec)) scalarComparesUptoCard

/-- THE SECOND FORM's CARD OF 'wireschemalaw04.ScalarOrdered'. -/
def scalarOrderedUptoCard : Claim7 := { stood := { row := scalarOrderedUptoRow, standIns := [], harness := (true, "6ff9fb4a89ec55dee1c36cbdc0e5a5d9471b8e8e3a002d3e9e060af10427c3c1"), looks := true }, kinds := [], alts := [], laidByText := true, laidKinds := [.data, .data, .data, .sentinel, .sentinel], laidTests := true, laidLooks := .later }
def ScalarOrderedUptoCardSaid : Prop := Claim7.holds Tryd.pinned (.plain (OpenSpec.upto scalarOrderedSpec)) scalarOrderedUptoCard
end Rows
end Go.Proofs.YtihpeophmijaaaaDoor
