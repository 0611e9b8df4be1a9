/- What the walks over package scalar read of the package-level variables. -/
import Derived.Test.YtiodkdafoocofaaGreatDoorChecked
import Derived.WalkKit
import Derived.Below
import Derived.Lib.LaidTab
import Derived.Lib.ItoaNum
import Derived.Lib.ItoaMem
namespace Go.Proofs.YtiodkdafoocofaaGreatDoor.Y
open Go.RowKit
def IsErr (w : World) (g : Nat) : Prop := ∃ e0, w.cell? ⟨g, 0, none⟩ = some e0 ∧ (e0 = .nilIface ∨ ∃ te pe, e0 = .iface te pe)
structure Gs (w : World) : Prop where
  tab : Lib.TabIs Tryz.prog w "internal/strconv.uint64pow10" .u64 Lib.pow10Tab
  syn : IsErr w 2
  rng : IsErr w 3
  brn : w.cell? ⟨5, 15, none⟩ = some (.int .u8 4)
theorem heap_here {w : World} {g : Nat} {o : Obj} (h : w.heap[g]? = some o) : g < w.heap.size := (Array.getElem?_eq_some_iff.1 h).1
theorem cell_here {w : World} {b o : Nat} {v : Value} (h : w.cell? ⟨b, o, none⟩ = some v) : b < w.heap.size := by
  unfold World.cell? at h
  cases hh : w.heap[b]? with
  | none => rw [hh] at h; cases h
  | some o => exact heap_here hh
theorem IsErr.below {w w' : World} {g : Nat} (h : IsErr w g) (hb : Below w.heap.size w w') : IsErr w' g := by
  obtain ⟨e0, h0, k0⟩ := h
  exact ⟨e0, (hb.cell (p := ⟨g, 0, none⟩) (cell_here h0)).trans h0, k0⟩
theorem tab_below {P : Program} {w w' : World} {n : String} {k : IntKind} {zs : List Int} (h : Lib.TabIs P w n k zs) (hb : Below w.heap.size w w') : Lib.TabIs P w' n k zs := by
  unfold Lib.TabIs World.var? at *
  cases hg : P.globalNamed n with
  | none => rw [hg] at h; cases h
  | some g =>
    rw [hg] at h
    simp only [Option.bind_some] at h ⊢
    cases hh : w.heap[g]? with
    | none => rw [hh] at h; cases h
    | some o => rw [hb.block g (heap_here hh), hh]; rw [hh] at h; exact h
theorem Gs.below {w w' : World} (h : Gs w) (hb : Below w.heap.size w w') : Gs w' :=
  ⟨tab_below h.tab hb, h.syn.below hb, h.rng.below hb, (hb.cell (p := ⟨5, 15, none⟩) (cell_here h.brn)).trans h.brn⟩
theorem Gs.keep {w0 w : World} (h : Gs w0) (hb : Below w0.heap.size w0 w) : Gs w := h.below hb
theorem below_grow (w : World) (k : Nat) (os : Array Obj) : Below w.heap.size w (Sort.grow (w.drewN k) os) :=
  ⟨rfl, rfl, rfl, by show w.heap.size ≤ (w.heap ++ os).size; simp, fun i hi => by show (w.heap ++ os)[i]? = _; rw [Array.getElem?_append_left hi]⟩
end Go.Proofs.YtiodkdafoocofaaGreatDoor.Y
