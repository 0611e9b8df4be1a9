/-
  DERIVED. GIVEN WITH THE SEED: THE CARDS: each row of YtngieldaebnffaaDoorRows.lean that lists a variable, with what it lists TIED to the program's text (the seventh form; the later family's looks); each row that meets fmt, with fmt's text TOLD by the authors' own Lean function (tested against real Go, not proved from fmt's source: count such statements apart). THE CARD IS WHAT COUNTS. Prove the row's statement (the work); the ties are given (YtngieldaebnffaaDoorTie.lean); close each card by the builder's one call (the guide's Derived/Test/ToyasCard.lean, 'card_holds'). Laid BY PROGRAM, IN A SANDBOX (cutbox-door.mjs). By AI agents, Wed Nov 11 2026. No macro, syntax, notation, axiom, sorry.
-/
import Derived.Test.YtngieldaebnffaaDoorRows
import GoSem.ClaimSeven
namespace Go.Proofs.YtngieldaebnffaaDoor
namespace Rows

/-- THE TIED CARD OF 'wireschemalaw43.MethodPaths'. -/
def methodPathsCard : Claim7 := { stood := { row := methodPathsRow, standIns := [], harness := (true, "7ea7c3ef0a8ad0f6400f494aa72999b32d5ff276e3bc90e14c480e15f2d836c8"), looks := false }, kinds := [], alts := [], laidByText := true, laidKinds := [.data, .pinned], laidTests := true, laidLooks := .later }
def MethodPathsCardSaid : Prop := Claim7.holds Tryd.pinned (.plain (OpenSpec.ofChange methodPathsSpec)) methodPathsCard

/-- THE TIED CARD OF 'wireschemalaw43.MethodFinds'. -/
def methodFindsCard : Claim7 := { stood := { row := methodFindsRow, standIns := [], harness := (true, "7ea7c3ef0a8ad0f6400f494aa72999b32d5ff276e3bc90e14c480e15f2d836c8"), looks := false }, kinds := [], alts := [], laidByText := true, laidKinds := [.data, .pinned], laidTests := true, laidLooks := .later }
def MethodFindsCardSaid : Prop := Claim7.holds Tryd.pinned (.plain (OpenSpec.ofChange methodFindsSpec)) methodFindsCard

/-- THE SECOND FORM's CARD OF 'wireschemalaw43.MethodPaths'. -/
def methodPathsUptoCard : Claim7 := { stood := { row := methodPathsUptoRow, standIns := [], harness := (true, "7ea7c3ef0a8ad0f6400f494aa72999b32d5ff276e3bc90e14c480e15f2d836c8"), looks := false }, kinds := [], alts := [], laidByText := true, laidKinds := [.data, .pinned], laidTests := true, laidLooks := .later }
def MethodPathsUptoCardSaid : Prop := Claim7.holds Tryd.pinned (.plain (OpenSpec.upto methodPathsSpec)) methodPathsUptoCard

/-- THE SECOND FORM's CARD OF 'wireschemalaw43.MethodFinds'. -/
def methodFindsUptoCard : Claim7 := { stood := { row := methodFindsUptoRow, standIns := [], harness := (true, "7ea7c3ef0a8ad0f6400f494aa72999b32d5ff276e3bc90e14c480e15f2d836c8"), looks := false }, kinds := [], alts := [], laidByText := true, laidKinds := [.data, .pinned], laidTests := true, laidLooks := .later }
def MethodFindsUptoCardSaid : Prop := Claim7.holds Tryd.pinned (.plain (OpenSpec.upto methodFindsSpec)) methodFindsUptoCard
end Rows
end Go.Proofs.YtngieldaebnffaaDoor
