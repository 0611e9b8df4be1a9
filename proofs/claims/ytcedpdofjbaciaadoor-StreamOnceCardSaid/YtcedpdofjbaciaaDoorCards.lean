/-
  DERIVED. GIVEN WITH THE SEED: THE CARDS: each row of YtcedpdofjbaciaaDoorRows.lean that lists a variable, with what it lists TIED to the program's text (the seventh form; the later family's looks); each row that meets fmt, with fmt's text TOLD by the authors' own Lean function (tested against real Go, not proved from fmt's source: count such statements apart). THE CARD IS WHAT COUNTS. Prove the row's statement (the work); the ties are given (YtcedpdofjbaciaaDoorTie.lean); close each card by the builder's one call (the guide's Derived/Test/ToyasCard.lean, 'card_holds'). Laid BY PROGRAM, IN A SANDBOX (cutbox-door.mjs). By AI agents, Wed Nov 11 2026. No macro, syntax, notation, axiom, sorry.
-/
import Derived.Test.YtcedpdofjbaciaaDoorRows
import GoSem.ClaimSeven
namespace Go.Proofs.YtcedpdofjbaciaaDoor
namespace Rows

/-- THE TIED CARD OF 'wireschemalaw46.StreamOpens'. -/
def streamOpensCard : Claim7 := { stood := { row := streamOpensRow, standIns := [], harness := (true, "c257a4f48c91a38a55fa5499f9fc25b8071b107ca1e5b2cec09694b1ff06e099"), looks := false }, kinds := [], alts := [], laidByText := true, laidKinds := [.data, .pinned], laidTests := true, laidLooks := .later }
def StreamOpensCardSaid : Prop := Claim7.holds Tryd.pinned (.plain (OpenSpec.ofChange streamOpensSpec)) streamOpensCard

/-- THE TIED CARD OF 'wireschemalaw46.StreamEnds'. -/
def streamEndsCard : Claim7 := { stood := { row := streamEndsRow, standIns := [], harness := (true, "c257a4f48c91a38a55fa5499f9fc25b8071b107ca1e5b2cec09694b1ff06e099"), looks := false }, kinds := [], alts := [], laidByText := true, laidKinds := [.data, .pinned], laidTests := true, laidLooks := .later }
def StreamEndsCardSaid : Prop := Claim7.holds Tryd.pinned (.plain (OpenSpec.ofChange streamEndsSpec)) streamEndsCard

/-- THE TIED CARD OF 'wireschemalaw46.StreamMirrors'. -/
def streamMirrorsCard : Claim7 := { stood := { row := streamMirrorsRow, standIns := [], harness := (true, "c257a4f48c91a38a55fa5499f9fc25b8071b107ca1e5b2cec09694b1ff06e099"), looks := false }, kinds := [], alts := [], laidByText := true, laidKinds := [.data, .pinned], laidTests := true, laidLooks := .later }
def StreamMirrorsCardSaid : Prop := Claim7.holds Tryd.pinned (.plain (OpenSpec.ofChange streamMirrorsSpec)) streamMirrorsCard

/-- THE TIED CARD OF 'wireschemalaw46.StreamOnce'. -/
def streamOnceCard : Claim7 := { stood := { row := streamOnceRow, standIns := [], harness := (true, "c257a4f48c91a38a55fa5499f9fc25b8071b107ca1e5b2cec09694b1ff06e099"), looks := false }, kinds := [], alts := [], laidByText := true, laidKinds := [.data, .pinned], laidTests := true, laidLooks := .later }
def StreamOnceCardSaid : Prop := Claim7.holds Tryd.pinned (.plain (OpenSpec.ofChange streamOnceSpec)) streamOnceCard

/-- THE SECOND FORM's CARD OF 'wireschemalaw46.StreamOpens'. -/
def streamOpensUptoCard : Claim7 := { stood := { row := streamOpensUptoRow, standIns := [], harness := (true, "c257a4f48c91a38a55fa5499f9fc25b8071b107ca1e5b2cec09694b1ff06e099"), looks := false }, kinds := [], alts := [], laidByText := true, laidKinds := [.data, .pinned], laidTests := true, laidLooks := .later }
def StreamOpensUptoCardSaid : Prop := Claim7.holds Tryd.pinned (.plain (OpenSpec.upto streamOpensSpec)) streamOpensUptoCard

/-- THE SECOND FORM's CARD OF 'wireschemalaw46.StreamEnds'. -/
def streamEndsUptoCard : Claim7 := { stood := { row := streamEndsUptoRow, standIns := [], harness := (true, "c257a4f48c91a38a55fa5499f9fc25b8071b107ca1e5b2cec09694b1ff06e099"), looks := false }, kinds := [], alts := [], laidByText := true, laidKinds := [.data, .pinned], laidTests := true, laidLooks := .later }
def StreamEndsUptoCardSaid : Prop := Claim7.holds Tryd.pinned (.plain (OpenSpec.upto streamEndsSpec)) streamEndsUptoCard

/-- THE SECOND FORM's CARD OF 'wireschemalaw46.StreamMirrors'. -/
def streamMirrorsUptoCard : Claim7 := { stood := { row := streamMirrorsUptoRow, standIns := [], harness := (true, "c257a4f48c91a38a55fa5499f9fc25b8071b107ca1e5b2cec09694b1ff06e099"), looks := false }, kinds := [], alts := [], laidByText := true, laidKinds := [.data, .pinned], laidTests := true, laidLooks := .later }
def StreamMirrorsUptoCardSaid : Prop := Claim7.holds Tryd.pinned (.plain (OpenSpec.upto streamMirrorsSpec)) streamMirrorsUptoCard

/-- THE SECOND FORM's CARD OF 'wireschemalaw46.StreamOnce'. -/
def streamOnceUptoCard : Claim7 := { stood := { row := streamOnceUptoRow, standIns := [], harness := (true, "c257a4f48c91a38a55fa5499f9fc25b8071b107ca1e5b2cec09694b1ff06e099"), looks := false }, kinds := [], alts := [], laidByText := true, laidKinds := [.data, .pinned], laidTests := true, laidLooks := .later }
def StreamOnceUptoCardSaid : Prop := Claim7.holds Tryd.pinned (.plain (OpenSpec.upto streamOnceSpec)) streamOnceUptoCard
end Rows
end Go.Proofs.YtcedpdofjbaciaaDoor
