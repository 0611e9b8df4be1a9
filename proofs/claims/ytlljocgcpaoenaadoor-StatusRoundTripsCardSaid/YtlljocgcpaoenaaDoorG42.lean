/- What the walks over package status read of the package-level variables. -/
import Derived.Test.YtlljocgcpaoenaaDoorChecked
import Derived.WalkKit
import Derived.Below
import Derived.Lib.LaidTab
import Derived.Lib.ItoaNum
import Derived.Laws.Rows
import Derived.Lib.Hide
namespace Go.Proofs.YtlljocgcpaoenaaDoor
open Go.RowKit

def nm (i : Nat) : List UInt8 := match i with
  | 0 => [111, 107] | 1 => [99, 97, 110, 99, 101, 108, 108, 101, 100] | 2 => [105, 110, 118, 97, 108, 105, 100] | 3 => [100, 101, 97, 100, 108, 105, 110, 101]
  | 4 => [110, 111, 116, 95, 102, 111, 117, 110, 100] | 5 => [101, 120, 105, 115, 116, 115] | 6 => [100, 101, 110, 105, 101, 100] | 7 => [101, 120, 104, 97, 117, 115, 116, 101, 100]
  | 8 => [102, 97, 105, 108, 101, 100] | 9 => [97, 98, 111, 114, 116, 101, 100] | 10 => [117, 110, 105, 109, 112, 108, 101, 109, 101, 110, 116, 101, 100] | 11 => [105, 110, 116, 101, 114, 110, 97, 108]
  | 12 => [117, 110, 97, 118, 97, 105, 108, 97, 98, 108, 101] | 13 => [100, 97, 116, 97, 95, 108, 111, 115, 115] | _ => []
def namesV : Array Value := ((List.range 14).map fun i => Value.string ⟨(nm i).toArray⟩).toArray
def codesV : Array Value := #[.int .i64 0, .int .i64 0, .int .i64 23, .int .i64 3, .int .i64 21, .int .i64 6, .int .i64 22, .int .i64 7, .int .i64 3, .int .i64 7, .int .i64 17, .int .i64 7, .int .i64 10, .int .i64 4, .int .i64 9, .int .i64 5, .int .i64 20, .int .i64 8, .int .i64 24, .int .i64 9, .int .i64 25, .int .i64 13, .int .i64 11, .int .i64 11, .int .i64 19, .int .i64 11]
def unitsV : Array Value := #[.int .i64 3600000, .int .i64 60000, .int .i64 1000, .int .i64 1]
def IsErr (w : World) (g : Nat) : Prop := ∃ e0, w.cell? ⟨g, 0, none⟩ = some e0 ∧ (e0 = .nilIface ∨ ∃ te pe, e0 = .iface te pe)
structure Gs (w : World) : Prop where
  names : ∃ ty fz, w.heap[0]? = some (.cells namesV ty fz)
  codes : ∃ ty fz, w.heap[1]? = some (.cells codesV ty fz)
  units : ∃ ty fz, w.heap[2]? = some (.cells unitsV ty fz)
  tab : Lib.TabIs Tryd.prog w "internal/strconv.uint64pow10" .u64 Lib.pow10Tab
  syn : IsErr w 4
  rng : IsErr w 5
theorem heap_here {w : World} {g : Nat} {o : Obj} (h : w.heap[g]? = some o) : g < w.heap.size := (Array.getElem?_eq_some_iff.1 h).1
theorem cell_here {w : World} {b o : Nat} {v : Value} (h : w.cell? ⟨b, o, none⟩ = some v) : b < w.heap.size := by
  unfold World.cell? at h
  cases hh : w.heap[b]? with
  | none => rw [hh] at h; cases h
  | some o => exact heap_here hh
theorem IsErr.below {w w' : World} {g : Nat} (h : IsErr w g) (hb : Below w.heap.size w w') : IsErr w' g := by
  obtain ⟨e0, h0, k0⟩ := h
  exact ⟨e0, (hb.cell (p := ⟨g, 0, none⟩) (cell_here h0)).trans h0, k0⟩
theorem row_below {w w' : World} {g : Nat} {cs : Array Value} (h : ∃ ty fz, w.heap[g]? = some (.cells cs ty fz)) (hb : Below w.heap.size w w') : ∃ ty fz, w'.heap[g]? = some (.cells cs ty fz) := by
  obtain ⟨ty, fz, h⟩ := h
  exact ⟨ty, fz, (hb.block g (heap_here h)).trans h⟩
theorem row_cell {w : World} {g : Nat} {cs : Array Value} (h : ∃ ty fz, w.heap[g]? = some (.cells cs ty fz)) (i : Nat) {v : Value} (hv : cs[i]? = some v) : w.cell? ⟨g, i, none⟩ = some v := by
  obtain ⟨ty, fz, h⟩ := h
  rw [cell_of_row w g i cs ty fz h, hv]
theorem tab_below {P : Program} {w w' : World} {n : String} {k : IntKind} {zs : List Int} (h : Lib.TabIs P w n k zs) (hb : Below w.heap.size w w') : Lib.TabIs P w' n k zs := by
  unfold Lib.TabIs World.var? at *
  cases hg : P.globalNamed n with
  | none => rw [hg] at h; cases h
  | some g =>
    rw [hg] at h
    simp only [Option.bind_some] at h ⊢
    cases hh : w.heap[g]? with
    | none => rw [hh] at h; cases h
    | some o => rw [hb.block g (heap_here hh), hh]; rw [hh] at h; exact h
theorem Gs.below {w w' : World} (h : Gs w) (hb : Below w.heap.size w w') : Gs w' :=
  ⟨row_below h.names hb, row_below h.codes hb, row_below h.units hb, tab_below h.tab hb, h.syn.below hb, h.rng.below hb⟩
end Go.Proofs.YtlljocgcpaoenaaDoor
