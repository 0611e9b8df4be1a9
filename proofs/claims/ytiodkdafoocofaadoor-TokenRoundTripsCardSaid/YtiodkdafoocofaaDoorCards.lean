/-
  DERIVED. GIVEN WITH THE SEED: THE CARDS: each row of YtiodkdafoocofaaDoorRows.lean that lists a variable, with what it lists TIED to the program's text (the seventh form; the later family's looks); each row that meets fmt, with fmt's text TOLD by the authors' own Lean function (tested against real Go, not proved from fmt's source: count such statements apart). THE CARD IS WHAT COUNTS. Prove the row's statement (the work); the ties are given (YtiodkdafoocofaaDoorTie.lean); close each card by the builder's one call (the guide's Derived/Test/ToyasCard.lean, 'card_holds'). Laid BY PROGRAM, IN A SANDBOX (cutbox-door.mjs). By AI agents, Wed Nov 11 2026. No macro, syntax, notation, axiom, sorry.
-/
import Derived.Test.YtiodkdafoocofaaDoorRows
import GoSem.ClaimSeven
namespace Go.Proofs.YtiodkdafoocofaaDoor
namespace Rows

/-- THE TIED CARD OF 'wireschemalaw07.TokenLines'. -/
def tokenLinesCard : Claim7 := { stood := { row := tokenLinesRow, standIns := [], harness := (true, "9369b32a508a23ca299a458aaf2852366fca8422cb1c5949e37c60c1fb5ead5b"), looks := true }, kinds := [], alts := [], laidByText := true, laidKinds := [.data, .data, .data, .data, .sentinel, .sentinel, .pinned], laidTests := true, laidLooks := .later }
def TokenLinesCardSaid : Prop := Claim7.holds Tryd.pinned (.plain (OpenSpec.ofChange tokenLinesSpec)) tokenLinesCard

/-- THE TIED CARD OF 'wireschemalaw07.TokenRoundTrips'. -/
def tokenRoundTripsCard : Claim7 := { stood := { row := tokenRoundTripsRow, standIns := [], harness := (true, "9369b32a508a23ca299a458aaf2852366fca8422cb1c5949e37c60c1fb5ead5b"), looks := true }, kinds := [], alts := [], laidByText := true, laidKinds := [.data, .data, .data, .data, .sentinel, .sentinel, .pinned], laidTests := true, laidLooks := .later }
def TokenRoundTripsCardSaid : Prop := Claim7.holds Tryd.pinned (.plain (OpenSpec.ofChange tokenRoundTripsSpec)) tokenRoundTripsCard

/-- THE TIED CARD OF 'wireschemalaw07.TokenSpaces'. -/
def tokenSpacesCard : Claim7 := { stood := { row := tokenSpacesRow, standIns := [], harness := (true, "9369b32a508a23ca299a458aaf2852366fca8422cb1c5949e37c60c1fb5ead5b"), looks := true }, kinds := [], alts := [], laidByText := true, laidKinds := [.data, .data, .data, .data, .sentinel, .sentinel, .pinned], laidTests := true, laidLooks := .later }
def TokenSpacesCardSaid : Prop := Claim7.holds Tryd.pinned (.plain (OpenSpec.ofChange tokenSpacesSpec)) tokenSpacesCard

/-- THE TIED CARD OF 'wireschemalaw07.TokenCompares'. -/
def tokenComparesCard : Claim7 := { stood := { row := tokenComparesRow, standIns := [], harness := (true, "9369b32a508a23ca299a458aaf2852366fca8422cb1c5949e37c60c1fb5ead5b"), looks := true }, kinds := [], alts := [], laidByText := true, laidKinds := [.data, .data, .data, .data, .sentinel, .sentinel, .pinned], laidTests := true, laidLooks := .later }
def TokenComparesCardSaid : Prop := Claim7.holds Tryd.pinned (.plain (OpenSpec.ofChange tokenComparesSpec)) tokenComparesCard

/-- THE SECOND FORM's CARD OF 'wireschemalaw07.TokenLines'. -/
def tokenLinesUptoCard : Claim7 := { stood := { row := tokenLinesUptoRow, standIns := [], harness := (true, "9369b32a508a23ca299a458aaf2852366fca8422cb1c5949e37c60c1fb5ead5b"), looks := true }, kinds := [], alts := [], laidByText := true, laidKinds := [.data, .data, .data, .data, .sentinel, .sentinel, .pinned], laidTests := true, laidLooks := .later }
def TokenLinesUptoCardSaid : Prop := Claim7.holds Tryd.pinned (.plain (OpenSpec.upto tokenLinesSpec)) tokenLinesUptoCard

/-- THE SECOND FORM's CARD OF 'wireschemalaw07.TokenRoundTrips'. -/
def tokenRoundTripsUptoCard : Claim7 := { stood := { row := tokenRoundTripsUptoRow, standIns := [], harness := (true, "9369b32a508a23ca299a458aaf2852366fca8422cb1c5949e37c60c1fb5ead5b"), looks := true }, kinds := [], alts := [], laidByText := true, laidKinds := [.data, .data, .data, .data, .sentinel, .sentinel, .pinned], laidTests := true, laidLooks := .later }
def TokenRoundTripsUptoCardSaid : Prop := Claim7.holds Tryd.pinned (.plain (OpenSpec.upto tokenRoundTripsSpec)) tokenRoundTripsUptoCard

/-- THE SECOND FORM's CARD OF 'wireschemalaw07.TokenSpaces'. -/
def tokenSpacesUptoCard : Claim7 := { stood := { row := tokenSpacesUptoRow, standIns := [], harness := (true, "9369b32a508a23ca299a458aaf2852366fca8422cb1c5949e37c60c1fb5ead5b"), looks := true }, kinds := [], alts := [], laidByText := true, laidKinds := [.data, .data, .data, .data, .sentinel, .sentinel, .pinned], laidTests := true, laidLooks := .later }
def TokenSpacesUptoCardSaid : Prop := Claim7.holds Tryd.pinned (.plain (OpenSpec.upto tokenSpacesSpec)) tokenSpacesUptoCard

/-- THE SECOND FORM's CARD OF 'wireschemalaw07.TokenCompares'. -/
def tokenComparesUptoCard : Claim7 := { stood := { row := tokenComparesUptoRow, standIns := [], harness := (true, "9369b32a508a23ca299a458aaf2852366fca8422cb1c5949e37c60c1fb5ead5b"), looks := true }, kinds := [], alts := [], laidByText := true, laidKinds := [.data, .data, .data, .data, .sentinel, .sentinel, .pinned], laidTests := true, laidLooks := .later }
def TokenComparesUptoCardSaid : Prop := Claim7.holds Tryd.pinned (.plain (OpenSpec.upto tokenComparesSpec)) tokenComparesUptoCard
end Rows
end Go.Proofs.YtiodkdafoocofaaDoor
