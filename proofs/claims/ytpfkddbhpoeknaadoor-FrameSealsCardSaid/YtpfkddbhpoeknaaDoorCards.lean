/-
  DERIVED. GIVEN WITH THE SEED: THE CARDS: each row of YtpfkddbhpoeknaaDoorRows.lean that lists a variable, with what it lists TIED to the program's text (the seventh form; the later family's looks); each row that meets fmt, with fmt's text TOLD by the authors' own Lean function (tested against real Go, not proved from fmt's source: count such statements apart). THE CARD IS WHAT COUNTS. Prove the row's statement (the work); the ties are given (YtpfkddbhpoeknaaDoorTie.lean); close each card by the builder's one call (the guide's Derived/Test/ToyasCard.lean, 'card_holds'). Laid BY PROGRAM, IN A SANDBOX (cutbox-door.mjs). By AI agents, Wed Nov 11 2026. No macro, syntax, notation, axiom, sorry.
-/
import Derived.Test.YtpfkddbhpoeknaaDoorRows
import GoSem.ClaimSeven
namespace Go.Proofs.YtpfkddbhpoeknaaDoor
namespace Rows

/-- THE TIED CARD OF 'wireschemalaw44.FrameReads'. -/
def frameReadsCard : Claim7 := { stood := { row := frameReadsRow, standIns := [], harness := (true, "56eaf4a58972bbfe2746a04a5f8490ca2798f890f0ae515126b1a9d72b72d0db"), looks := false }, kinds := [], alts := [], laidByText := true, laidKinds := [.data, .pinned], laidTests := true, laidLooks := .later }
def FrameReadsCardSaid : Prop := Claim7.holds Tryd.pinned (.plain (OpenSpec.ofChange frameReadsSpec)) frameReadsCard

/-- THE TIED CARD OF 'wireschemalaw44.FrameHeads'. -/
def frameHeadsCard : Claim7 := { stood := { row := frameHeadsRow, standIns := [], harness := (true, "56eaf4a58972bbfe2746a04a5f8490ca2798f890f0ae515126b1a9d72b72d0db"), looks := false }, kinds := [], alts := [], laidByText := true, laidKinds := [.data, .pinned], laidTests := true, laidLooks := .later }
def FrameHeadsCardSaid : Prop := Claim7.holds Tryd.pinned (.plain (OpenSpec.ofChange frameHeadsSpec)) frameHeadsCard

/-- THE TIED CARD OF 'wireschemalaw44.FrameSeals'. -/
def frameSealsCard : Claim7 := { stood := { row := frameSealsRow, standIns := [], harness := (true, "56eaf4a58972bbfe2746a04a5f8490ca2798f890f0ae515126b1a9d72b72d0db"), looks := false }, kinds := [], alts := [], laidByText := true, laidKinds := [.data, .pinned], laidTests := true, laidLooks := .later }
def FrameSealsCardSaid : Prop := Claim7.holds Tryd.pinned (.plain (OpenSpec.ofChange frameSealsSpec)) frameSealsCard

/-- THE TIED CARD OF 'wireschemalaw44.FrameRuns'. -/
def frameRunsCard : Claim7 := { stood := { row := frameRunsRow, standIns := [], harness := (true, "56eaf4a58972bbfe2746a04a5f8490ca2798f890f0ae515126b1a9d72b72d0db"), looks := false }, kinds := [], alts := [], laidByText := true, laidKinds := [.data, .pinned], laidTests := true, laidLooks := .later }
def FrameRunsCardSaid : Prop := Claim7.holds Tryd.pinned (.plain (OpenSpec.ofChange frameRunsSpec)) frameRunsCard

/-- THE TIED CARD OF 'wireschemalaw44.FrameRoundTrips'. -/
def frameRoundTripsCard : Claim7 := { stood := { row := frameRoundTripsRow, standIns := [], harness := (true, "56eaf4a58972bbfe2746a04a5f8490ca2798f890f0ae515126b1a9d72b72d0db"), looks := false }, kinds := [], alts := [], laidByText := true, laidKinds := [.data, .pinned], laidTests := true, laidLooks := .later }
def FrameRoundTripsCardSaid : Prop := Claim7.holds Tryd.pinned (.plain (OpenSpec.ofChange frameRoundTripsSpec)) frameRoundTripsCard

/-- THE TIED CARD OF 'wireschemalaw44.FrameSplits'. -/
def frameSplitsCard : Claim7 := { stood := { row := frameSplitsRow, standIns := [], harness := (true, "56eaf4a58972bbfe2746a04a5f8490ca2798f890f0ae515126b1a9d72b72d0db"), looks := false }, kinds := [], alts := [], laidByText := true, laidKinds := [.data, .pinned], laidTests := true, laidLooks := .later }
def FrameSplitsCardSaid : Prop := Claim7.holds Tryd.pinned (.plain (OpenSpec.ofChange frameSplitsSpec)) frameSplitsCard

/-- THE SECOND FORM's CARD OF 'wireschemalaw44.FrameReads'. -/
def frameReadsUptoCard : Claim7 := { stood := { row := frameReadsUptoRow, standIns := [], harness := (true, "56eaf4a58972bbfe2746a04a5f8490ca2798f890f0ae515126b1a9d72b72d0db"), looks := false }, kinds := [], alts := [], laidByText := true, laidKinds := [.data, .pinned], laidTests := true, laidLooks := .later }
def FrameReadsUptoCardSaid : Prop := Claim7.holds Tryd.pinned (.plain (OpenSpec.upto frameReadsSpec)) frameReadsUptoCard

/-- THE SECOND FORM's CARD OF 'wireschemalaw44.FrameHeads'. -/
def frameHeadsUptoCard : Claim7 := { stood := { row := frameHeadsUptoRow, standIns := [], harness := (true, "56eaf4a58972bbfe2746a04a5f8490ca2798f890f0ae515126b1a9d72b72d0db"), looks := false }, kinds := [], alts := [], laidByText := true, laidKinds := [.data, .pinned], laidTests := true, laidLooks := .later }
def FrameHeadsUptoCardSaid : Prop := Claim7.holds Tryd.pinned (.plain (OpenSpec.upto frameHeadsSpec)) frameHeadsUptoCard

/-- THE SECOND FORM's CARD OF 'wireschemalaw44.FrameSeals'. -/
def frameSealsUptoCard : Claim7 := { stood := { row := frameSealsUptoRow, standIns := [], harness := (true, "56eaf4a58972bbfe2746a04a5f8490ca2798f890f0ae515126b1a9d72b72d0db"), looks := false }, kinds := [], alts := [], laidByText := true, laidKinds := [.data, .pinned], laidTests := true, laidLooks := .later }
def FrameSealsUptoCardSaid : Prop := Claim7.holds Tryd.pinned (.plain (OpenSpec.upto frameSealsSpec)) frameSealsUptoCard

/-- THE SECOND FORM's CARD OF 'wireschemalaw44.FrameRuns'. -/
def frameRunsUptoCard : Claim7 := { stood := { row := frameRunsUptoRow, standIns := [], harness := (true, "56eaf4a58972bbfe2746a04a5f8490ca2798f890f0ae515126b1a9d72b72d0db"), looks := false }, kinds := [], alts := [], laidByText := true, laidKinds := [.data, .pinned], laidTests := true, laidLooks := .later }
def FrameRunsUptoCardSaid : Prop := Claim7.holds Tryd.pinned (.plain (OpenSpec.upto frameRunsSpec)) frameRunsUptoCard

/-- THE SECOND FORM's CARD OF 'wireschemalaw44.FrameRoundTrips'. -/
def frameRoundTripsUptoCard : Claim7 := { stood := { row := frameRoundTripsUptoRow, standIns := [], harness := (true, "56eaf4a58972bbfe2746a04a5f8490ca2798f890f0ae515126b1a9d72b72d0db"), looks := false }, kinds := [], alts := [], laidByText := true, laidKinds := [.data, .pinned], laidTests := true, laidLooks := .later }
def FrameRoundTripsUptoCardSaid : Prop := Claim7.holds Tryd.pinned (.plain (OpenSpec.upto frameRoundTripsSpec)) frameRoundTripsUptoCard

/-- THE SECOND FORM's CARD OF 'wireschemalaw44.FrameSplits'. -/
def frameSplitsUptoCard : Claim7 := { stood := { row := frameSplitsUptoRow, standIns := [], harness := (true, "56eaf4a58972bbfe2746a04a5f8490ca2798f890f0ae515126b1a9d72b72d0db"), looks := false }, kinds := [], alts := [], laidByText := true, laidKinds := [.data, .pinned], laidTests := true, laidLooks := .later }
def FrameSplitsUptoCardSaid : Prop := Claim7.holds Tryd.pinned (.plain (OpenSpec.upto frameSplitsSpec)) frameSplitsUptoCard
end Rows
end Go.Proofs.YtpfkddbhpoeknaaDoor
