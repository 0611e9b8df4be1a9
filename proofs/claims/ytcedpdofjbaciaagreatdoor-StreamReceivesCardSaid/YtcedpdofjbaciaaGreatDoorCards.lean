/-
  DERIVED. GIVEN WITH THE SEED: THE CARDS: each row of YtcedpdofjbaciaaGreatDoorRows.lean that lists a variable, with what it lists TIED to the program's text (the seventh form; the later family's looks); each row that meets fmt, with fmt's text TOLD by the authors' own Lean function (tested against real Go, not proved from fmt's source: count such statements apart). THE CARD IS WHAT COUNTS. Prove the row's statement (the work); the ties are given (YtcedpdofjbaciaaGreatDoorTie.lean); close each card by the builder's one call (the guide's Derived/Test/ToyasCard.lean, 'card_holds'). Laid BY PROGRAM, IN A SANDBOX (cutbox-door.mjs). By AI agents, Wed Nov 11 2026. No macro, syntax, notation, axiom, sorry.
-/
import Derived.Test.YtcedpdofjbaciaaGreatDoorRows
import GoSem.ClaimSeven
namespace Go.Proofs.YtcedpdofjbaciaaGreatDoor
namespace Rows

/-- THE TIED CARD OF 'wireschemalaw46.StreamSends'. -/
def streamSendsCard : Claim7 := { stood := { row := streamSendsRow, standIns := [], harness := (true, "54fbda044b62d1d499311ddcd0682b7891662c8b7dd93c75851befcfe809e670"), looks := false }, kinds := [], alts := [], laidByText := true, laidKinds := [.data, .pinned], laidTests := true, laidLooks := .later }
def StreamSendsCardSaid : Prop := Claim7.holds Tryz.pinned (.plain (OpenSpec.ofChange streamSendsSpec)) streamSendsCard

/-- THE TIED CARD OF 'wireschemalaw46.StreamReceives'. -/
def streamReceivesCard : Claim7 := { stood := { row := streamReceivesRow, standIns := [], harness := (true, "54fbda044b62d1d499311ddcd0682b7891662c8b7dd93c75851befcfe809e670"), looks := false }, kinds := [], alts := [], laidByText := true, laidKinds := [.data, .pinned], laidTests := true, laidLooks := .later }
def StreamReceivesCardSaid : Prop := Claim7.holds Tryz.pinned (.plain (OpenSpec.ofChange streamReceivesSpec)) streamReceivesCard

/-- THE SECOND FORM's CARD OF 'wireschemalaw46.StreamSends'. -/
def streamSendsUptoCard : Claim7 := { stood := { row := streamSendsUptoRow, standIns := [], harness := (true, "54fbda044b62d1d499311ddcd0682b7891662c8b7dd93c75851befcfe809e670"), looks := false }, kinds := [], alts := [], laidByText := true, laidKinds := [.data, .pinned], laidTests := true, laidLooks := .later }
def StreamSendsUptoCardSaid : Prop := Claim7.holds Tryz.pinned (.plain (OpenSpec.upto streamSendsSpec)) streamSendsUptoCard

/-- THE SECOND FORM's CARD OF 'wireschemalaw46.StreamReceives'. -/
def streamReceivesUptoCard : Claim7 := { stood := { row := streamReceivesUptoRow, standIns := [], harness := (true, "54fbda044b62d1d499311ddcd0682b7891662c8b7dd93c75851befcfe809e670"), looks := false }, kinds := [], alts := [], laidByText := true, laidKinds := [.data, .pinned], laidTests := true, laidLooks := .later }
def StreamReceivesUptoCardSaid : Prop := Claim7.holds Tryz.pinned (.plain (OpenSpec.upto streamReceivesSpec)) streamReceivesUptoCard
end Rows
end Go.Proofs.YtcedpdofjbaciaaGreatDoor
