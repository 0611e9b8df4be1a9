/-
  DERIVED. GIVEN WITH THE SEED: THE CARDS: each row of YtmdkfbmpenohiaaDoorRows.lean that lists a variable, with what it lists TIED to the program's text (the seventh form; the later family's looks); each row that meets fmt, with fmt's text TOLD by the authors' own Lean function (tested against real Go, not proved from fmt's source: count such statements apart). THE CARD IS WHAT COUNTS. Prove the row's statement (the work); the ties are given (YtmdkfbmpenohiaaDoorTie.lean); close each card by the builder's one call (the guide's Derived/Test/ToyasCard.lean, 'card_holds'). Laid BY PROGRAM, IN A SANDBOX (cutbox-door.mjs). By AI agents, Wed Nov 11 2026. No macro, syntax, notation, axiom, sorry.
-/
import Derived.Test.YtmdkfbmpenohiaaDoorRows
import GoSem.ClaimSeven
namespace Go.Proofs.YtmdkfbmpenohiaaDoor
namespace Rows

/-- THE TIED CARD OF 'wireschemalaw53.ClientFinds'. -/
def clientFindsCard : Claim7 := { stood := { row := clientFindsRow, standIns := [], harness := (true, "6d2d18a7e125e5f98cda940b291b6e34dc822bd0cbab1857a8a42d76878e9256"), looks := false }, kinds := [], alts := [], laidByText := true, laidKinds := [.data, .pinned], laidTests := true, laidLooks := .later }
def ClientFindsCardSaid : Prop := Claim7.holds Tryd.pinned (.plain (OpenSpec.ofChange clientFindsSpec)) clientFindsCard

/-- THE TIED CARD OF 'wireschemalaw53.ClientOnce'. -/
def clientOnceCard : Claim7 := { stood := { row := clientOnceRow, standIns := [], harness := (true, "6d2d18a7e125e5f98cda940b291b6e34dc822bd0cbab1857a8a42d76878e9256"), looks := false }, kinds := [], alts := [], laidByText := true, laidKinds := [.data, .pinned], laidTests := true, laidLooks := .later }
def ClientOnceCardSaid : Prop := Claim7.holds Tryd.pinned (.plain (OpenSpec.ofChange clientOnceSpec)) clientOnceCard

/-- THE TIED CARD OF 'wireschemalaw53.ClientBudget'. -/
def clientBudgetCard : Claim7 := { stood := { row := clientBudgetRow, standIns := [], harness := (true, "6d2d18a7e125e5f98cda940b291b6e34dc822bd0cbab1857a8a42d76878e9256"), looks := false }, kinds := [], alts := [], laidByText := true, laidKinds := [.data, .pinned], laidTests := true, laidLooks := .later }
def ClientBudgetCardSaid : Prop := Claim7.holds Tryd.pinned (.plain (OpenSpec.ofChange clientBudgetSpec)) clientBudgetCard

/-- THE TIED CARD OF 'wireschemalaw53.ClientBusy'. -/
def clientBusyCard : Claim7 := { stood := { row := clientBusyRow, standIns := [], harness := (true, "6d2d18a7e125e5f98cda940b291b6e34dc822bd0cbab1857a8a42d76878e9256"), looks := false }, kinds := [], alts := [], laidByText := true, laidKinds := [.data, .pinned], laidTests := true, laidLooks := .later }
def ClientBusyCardSaid : Prop := Claim7.holds Tryd.pinned (.plain (OpenSpec.ofChange clientBusySpec)) clientBusyCard

/-- THE SECOND FORM's CARD OF 'wireschemalaw53.ClientFinds'. -/
def clientFindsUptoCard : Claim7 := { stood := { row := clientFindsUptoRow, standIns := [], harness := (true, "6d2d18a7e125e5f98cda940b291b6e34dc822bd0cbab1857a8a42d76878e9256"), looks := false }, kinds := [], alts := [], laidByText := true, laidKinds := [.data, .pinned], laidTests := true, laidLooks := .later }
def ClientFindsUptoCardSaid : Prop := Claim7.holds Tryd.pinned (.plain (OpenSpec.upto clientFindsSpec)) clientFindsUptoCard

/-- THE SECOND FORM's CARD OF 'wireschemalaw53.ClientOnce'. -/
def clientOnceUptoCard : Claim7 := { stood := { row := clientOnceUptoRow, standIns := [], harness := (true, "6d2d18a7e125e5f98cda940b291b6e34dc822bd0cbab1857a8a42d76878e9256"), looks := false }, kinds := [], alts := [], laidByText := true, laidKinds := [.data, .pinned], laidTests := true, laidLooks := .later }
def ClientOnceUptoCardSaid : Prop := Claim7.holds Tryd.pinned (.plain (OpenSpec.upto clientOnceSpec)) clientOnceUptoCard

/-- THE SECOND FORM's CARD OF 'wireschemalaw53.ClientBudget'. -/
def clientBudgetUptoCard : Claim7 := { stood := { row := clientBudgetUptoRow, standIns := [], harness := (true, "6d2d18a7e125e5f98cda940b291b6e34dc822bd0cbab1857a8a42d76878e9256"), looks := false }, kinds := [], alts := [], laidByText := true, laidKinds := [.data, .pinned], laidTests := true, laidLooks := .later }
def ClientBudgetUptoCardSaid : Prop := Claim7.holds Tryd.pinned (.plain (OpenSpec.upto clientBudgetSpec)) clientBudgetUptoCard

/-- THE SECOND FORM's CARD OF 'wireschemalaw53.ClientBusy'. -/
def clientBusyUptoCard : Claim7 := { stood := { row := clientBusyUptoRow, standIns := [], harness := (true, "6d2d18a7e125e5f98cda940b291b6e34dc822bd0cbab1857a8a42d76878e9256"), looks := false }, kinds := [], alts := [], laidByText := true, laidKinds := [.data, .pinned], laidTests := true, laidLooks := .later }
def ClientBusyUptoCardSaid : Prop := Claim7.holds Tryd.pinned (.plain (OpenSpec.upto clientBusySpec)) clientBusyUptoCard
end Rows
end Go.Proofs.YtmdkfbmpenohiaaDoor
