/-
  DERIVED. GIVEN WITH THE SEED: THE CARDS: each row of YtlljocgcpaoenaaDoorRows.lean that lists a variable, with what it lists TIED to the program's text (the seventh form; the later family's looks); each row that meets fmt, with fmt's text TOLD by the authors' own Lean function (tested against real Go, not proved from fmt's source: count such statements apart). THE CARD IS WHAT COUNTS. Prove the row's statement (the work); the ties are given (YtlljocgcpaoenaaDoorTie.lean); close each card by the builder's one call (the guide's Derived/Test/ToyasCard.lean, 'card_holds'). Laid BY PROGRAM, IN A SANDBOX (cutbox-door.mjs). By AI agents, Wed Nov 11 2026. No macro, syntax, notation, axiom, sorry.
-/
import Derived.Test.YtlljocgcpaoenaaDoorRows
import GoSem.ClaimSeven
namespace Go.Proofs.YtlljocgcpaoenaaDoor
namespace Rows

/-- THE TIED CARD OF 'wireschemalaw42.StatusNames'. -/
def statusNamesCard : Claim7 := { stood := { row := statusNamesRow, standIns := [], harness := (true, "1317d6e1ac68b65d6264dbae6d923d5f7f408fe40e813ccbb33c0bb1f658deea"), looks := true }, kinds := [], alts := [], laidByText := true, laidKinds := [.data, .data, .data, .sentinel, .sentinel, .data, .data, .data], laidTests := true, laidLooks := .later }
def StatusNamesCardSaid : Prop := Claim7.holds Tryd.pinned (.plain (OpenSpec.ofChange statusNamesSpec)) statusNamesCard

/-- THE TIED CARD OF 'wireschemalaw42.StatusPacks'. -/
def statusPacksCard : Claim7 := { stood := { row := statusPacksRow, standIns := [], harness := (true, "1317d6e1ac68b65d6264dbae6d923d5f7f408fe40e813ccbb33c0bb1f658deea"), looks := true }, kinds := [], alts := [], laidByText := true, laidKinds := [.data, .data, .data, .sentinel, .sentinel, .data, .data, .data], laidTests := true, laidLooks := .later }
def StatusPacksCardSaid : Prop := Claim7.holds Tryd.pinned (.plain (OpenSpec.ofChange statusPacksSpec)) statusPacksCard

/-- THE TIED CARD OF 'wireschemalaw42.StatusUnpacks'. -/
def statusUnpacksCard : Claim7 := { stood := { row := statusUnpacksRow, standIns := [], harness := (true, "1317d6e1ac68b65d6264dbae6d923d5f7f408fe40e813ccbb33c0bb1f658deea"), looks := true }, kinds := [], alts := [], laidByText := true, laidKinds := [.data, .data, .data, .sentinel, .sentinel, .data, .data, .data], laidTests := true, laidLooks := .later }
def StatusUnpacksCardSaid : Prop := Claim7.holds Tryd.pinned (.plain (OpenSpec.ofChange statusUnpacksSpec)) statusUnpacksCard

/-- THE TIED CARD OF 'wireschemalaw42.StatusOfs'. -/
def statusOfsCard : Claim7 := { stood := { row := statusOfsRow, standIns := [], harness := (true, "1317d6e1ac68b65d6264dbae6d923d5f7f408fe40e813ccbb33c0bb1f658deea"), looks := true }, kinds := [], alts := [], laidByText := true, laidKinds := [.data, .data, .data, .sentinel, .sentinel, .data, .data, .data], laidTests := true, laidLooks := .later }
def StatusOfsCardSaid : Prop := Claim7.holds Tryd.pinned (.plain (OpenSpec.ofChange statusOfsSpec)) statusOfsCard

/-- THE TIED CARD OF 'wireschemalaw42.StatusSpans'. -/
def statusSpansCard : Claim7 := { stood := { row := statusSpansRow, standIns := [], harness := (true, "1317d6e1ac68b65d6264dbae6d923d5f7f408fe40e813ccbb33c0bb1f658deea"), looks := true }, kinds := [], alts := [], laidByText := true, laidKinds := [.data, .data, .data, .sentinel, .sentinel, .data, .data, .data], laidTests := true, laidLooks := .later }
def StatusSpansCardSaid : Prop := Claim7.holds Tryd.pinned (.plain (OpenSpec.ofChange statusSpansSpec)) statusSpansCard

/-- THE TIED CARD OF 'wireschemalaw42.StatusTimes'. -/
def statusTimesCard : Claim7 := { stood := { row := statusTimesRow, standIns := [], harness := (true, "1317d6e1ac68b65d6264dbae6d923d5f7f408fe40e813ccbb33c0bb1f658deea"), looks := true }, kinds := [], alts := [], laidByText := true, laidKinds := [.data, .data, .data, .sentinel, .sentinel, .data, .data, .data], laidTests := true, laidLooks := .later }
def StatusTimesCardSaid : Prop := Claim7.holds Tryd.pinned (.plain (OpenSpec.ofChange statusTimesSpec)) statusTimesCard

/-- THE TIED CARD OF 'wireschemalaw42.StatusRoundTrips'. -/
def statusRoundTripsCard : Claim7 := { stood := { row := statusRoundTripsRow, standIns := [], harness := (true, "1317d6e1ac68b65d6264dbae6d923d5f7f408fe40e813ccbb33c0bb1f658deea"), looks := true }, kinds := [], alts := [], laidByText := true, laidKinds := [.data, .data, .data, .sentinel, .sentinel, .data, .data, .data], laidTests := true, laidLooks := .later }
def StatusRoundTripsCardSaid : Prop := Claim7.holds Tryd.pinned (.plain (OpenSpec.ofChange statusRoundTripsSpec)) statusRoundTripsCard

/-- THE TIED CARD OF 'wireschemalaw42.StatusWhole'. -/
def statusWholeCard : Claim7 := { stood := { row := statusWholeRow, standIns := [], harness := (true, "1317d6e1ac68b65d6264dbae6d923d5f7f408fe40e813ccbb33c0bb1f658deea"), looks := true }, kinds := [], alts := [], laidByText := true, laidKinds := [.data, .data, .data, .sentinel, .sentinel, .data, .data, .data], laidTests := true, laidLooks := .later }
def StatusWholeCardSaid : Prop := Claim7.holds Tryd.pinned (.plain (OpenSpec.ofChange statusWholeSpec)) statusWholeCard

/-- THE TIED CARD OF 'wireschemalaw42.StatusDeadlines'. -/
def statusDeadlinesCard : Claim7 := { stood := { row := statusDeadlinesRow, standIns := [], harness := (true, "1317d6e1ac68b65d6264dbae6d923d5f7f408fe40e813ccbb33c0bb1f658deea"), looks := true }, kinds := [], alts := [], laidByText := true, laidKinds := [.data, .data, .data, .sentinel, .sentinel, .data, .data, .data], laidTests := true, laidLooks := .later }
def StatusDeadlinesCardSaid : Prop := Claim7.holds Tryd.pinned (.plain (OpenSpec.ofChange statusDeadlinesSpec)) statusDeadlinesCard

/-- THE SECOND FORM's CARD OF 'wireschemalaw42.StatusNames'. -/
def statusNamesUptoCard : Claim7 := { stood := { row := statusNamesUptoRow, standIns := [], harness := (true, "1317d6e1ac68b65d6264dbae6d923d5f7f408fe40e813ccbb33c0bb1f658deea"), looks := true }, kinds := [], alts := [], laidByText := true, laidKinds := [.data, .data, .data, .sentinel, .sentinel, .data, .data, .data], laidTests := true, laidLooks := .later }
def StatusNamesUptoCardSaid : Prop := Claim7.holds Tryd.pinned (.plain (OpenSpec.upto statusNamesSpec)) statusNamesUptoCard

/-- THE SECOND FORM's CARD OF 'wireschemalaw42.StatusPacks'. -/
def statusPacksUptoCard : Claim7 := { stood := { row := statusPacksUptoRow, standIns := [], harness := (true, "1317d6e1ac68b65d6264dbae6d923d5f7f408fe40e813ccbb33c0bb1f658deea"), looks := true }, kinds := [], alts := [], laidByText := true, laidKinds := [.data, .data, .data, .sentinel, .sentinel, .data, .data, .data], laidTests := true, laidLooks := .later }
def StatusPacksUptoCardSaid : Prop := Claim7.holds Tryd.pinned (.plain (OpenSpec.upto statusPacksSpec)) statusPacksUptoCard

/-- THE SECOND FORM's CARD OF 'wireschemalaw42.StatusUnpacks'. -/
def statusUnpacksUptoCard : Claim7 := { stood := { row := statusUnpacksUptoRow, standIns := [], harness := (true, "1317d6e1ac68b65d6264dbae6d923d5f7f408fe40e813ccbb33c0bb1f658deea"), looks := true }, kinds := [], alts := [], laidByText := true, laidKinds := [.data, .data, .data, .sentinel, .sentinel, .data, .data, .data], laidTests := true, laidLooks := .later }
def StatusUnpacksUptoCardSaid : Prop := Claim7.holds Tryd.pinned (.plain (OpenSpec.upto statusUnpacksSpec)) statusUnpacksUptoCard

/-- THE SECOND FORM's CARD OF 'wireschemalaw42.StatusOfs'. -/
def statusOfsUptoCard : Claim7 := { stood := { row := statusOfsUptoRow, standIns := [], harness := (true, "1317d6e1ac68b65d6264dbae6d923d5f7f408fe40e813ccbb33c0bb1f658deea"), looks := true }, kinds := [], alts := [], laidByText := true, laidKinds := [.data, .data, .data, .sentinel, .sentinel, .data, .data, .data], laidTests := true, laidLooks := .later }
def StatusOfsUptoCardSaid : Prop := Claim7.holds Tryd.pinned (.plain (OpenSpec.upto statusOfsSpec)) statusOfsUptoCard

/-- THE SECOND FORM's CARD OF 'wireschemalaw42.StatusSpans'. -/
def statusSpansUptoCard : Claim7 := { stood := { row := statusSpansUptoRow, standIns := [], harness := (true, "1317d6e1ac68b65d6264dbae6d923d5f7f408fe40e813ccbb33c0bb1f658deea"), looks := true }, kinds := [], alts := [], laidByText := true, laidKinds := [.data, .data, .data, .sentinel, .sentinel, .data, .data, .data], laidTests := true, laidLooks := .later }
def StatusSpansUptoCardSaid : Prop := Claim7.holds Tryd.pinned (.plain (OpenSpec.upto statusSpansSpec)) statusSpansUptoCard

/-- THE SECOND FORM's CARD OF 'wireschemalaw42.StatusTimes'. -/
def statusTimesUptoCard : Claim7 := { stood := { row := statusTimesUptoRow, standIns := [], harness := (true, "1317d6e1ac68b65d6264dbae6d923d5f7f408fe40e813ccbb33c0bb1f658deea"), looks := true }, kinds := [], alts := [], laidByText := true, laidKinds := [.data, .data, .data, .sentinel, .sentinel, .data, .data, .data], laidTests := true, laidLooks := .later }
def StatusTimesUptoCardSaid : Prop := Claim7.holds Tryd.pinned (.plain (OpenSpec.upto statusTimesSpec)) statusTimesUptoCard

/-- THE SECOND FORM's CARD OF 'wireschemalaw42.StatusRoundTrips'. -/
def statusRoundTripsUptoCard : Claim7 := { stood := { row := statusRoundTripsUptoRow, standIns := [], harness := (true, "1317d6e1ac68b65d6264dbae6d923d5f7f408fe40e813ccbb33c0bb1f658deea"), looks := true }, kinds := [], alts := [], laidByText := true, laidKinds := [.data, .data, .data, .sentinel, .sentinel, .data, .data, .data], laidTests := true, laidLooks := .later }
def StatusRoundTripsUptoCardSaid : Prop := Claim7.holds Tryd.pinned (.plain (OpenSpec.upto statusRoundTripsSpec)) statusRoundTripsUptoCard

/-- THE SECOND FORM's CARD OF 'wireschemalaw42.StatusWhole'. -/
def statusWholeUptoCard : Claim7 := { stood := { row := statusWholeUptoRow, standIns := [], harness := (true, "1317d6e1ac68b65d6264dbae6d923d5f7f408fe40e813ccbb33c0bb1f658deea"), looks := true }, kinds := [], alts := [], laidByText := true, laidKinds := [.data, .data, .data, .sentinel, .sentinel, .data, .data, .data], laidTests := true, laidLooks := .later }
def StatusWholeUptoCardSaid : Prop := Claim7.holds Tryd.pinned (.plain (OpenSpec.upto statusWholeSpec)) statusWholeUptoCard

/-- THE SECOND FORM's CARD OF 'wireschemalaw42.StatusDeadlines'. -/
def statusDeadlinesUptoCard : Claim7 := { stood := { row := statusDeadlinesUptoRow, standIns := [], harness := (true, "1317d6e1ac68b65d6264dbae6d923d5f7f408fe40e813ccbb33c0bb1f658deea"), looks := true }, kinds := [], alts := [], laidByText := true, laidKinds := [.data, .data, .data, .sentinel, .sentinel, .data, .data, .data], laidTests := true, laidLooks := .later }
def StatusDeadlinesUptoCardSaid : Prop := Claim7.holds Tryd.pinned (.plain (OpenSpec.upto statusDeadlinesSpec)) statusDeadlinesUptoCard
end Rows
end Go.Proofs.YtlljocgcpaoenaaDoor
