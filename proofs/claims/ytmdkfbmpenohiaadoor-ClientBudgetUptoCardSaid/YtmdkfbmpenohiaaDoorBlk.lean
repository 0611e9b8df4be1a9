/- Blocks that are known whole, and results that lie in them. -/
import Derived.Test.YtmdkfbmpenohiaaDoorChecked
import Derived.WalkKit
import Derived.Below
import Derived.Lib.Hide
import Derived.Laws.Rows
namespace Go.Proofs.YtmdkfbmpenohiaaDoor
open Go.RowKit

/-- block g holds just the cells cs, and they may be written. -/
def Bk (w : World) (g : Nat) (t : TypeId) (cs : Array Value) : Prop := w.heap[g]? = some (.cells cs t (0, 0))
theorem Bk.here {w : World} {g : Nat} {t : TypeId} {cs : Array Value} (h : Bk w g t cs) : g < w.heap.size := (Array.getElem?_eq_some_iff.1 h).1
theorem Bk.at_ {w : World} {g : Nat} {t : TypeId} {cs : Array Value} (h : Bk w g t cs) (i : Nat) {v : Value} (hv : cs[i]? = some v) : w.cell? ⟨g, i, none⟩ = some v := by
  rw [cell_of_row w g i cs t (0, 0) h, hv]
theorem Bk.new (w : World) (t : TypeId) (cs : Array Value) : Bk (w.alloc (.cells cs t)) w.heap.size t cs := heap_alloc_new w _
theorem Bk.keep {w w' : World} {g : Nat} {t : TypeId} {cs : Array Value} (h : Bk w g t cs) (hb : Below w.heap.size w w') : Bk w' g t cs := (hb.block g h.here).trans h
theorem Bk.more {w : World} {g : Nat} {t : TypeId} {cs : Array Value} (h : Bk w g t cs) (o : Obj) : Bk (w.alloc o) g t cs := h.keep ((Below.refl _ _).alloc (Nat.le_refl _) o)
theorem Bk.put {w : World} {g : Nat} {t : TypeId} {cs : Array Value} (h : Bk w g t cs) (i : Nat) (v : Value) : Bk (w.setCell ⟨g, i, none⟩ v) g t (cs.setIfInBounds i v) := heap_setCell_same w g i cs t v h
/-- a type whose values are aggregates of n cells: closed facts. -/
structure AggT (P : Program) (ty : TypeId) (n : Nat) : Prop where
  agg : (match P.underlying ty with | some (.struct _) => true | some (.array _ _) => true | _ => false) = true
  size : (P.info? ty).map (·.size) = some n
theorem AggT.load {P : Program} {w : World} {g : Nat} {t ty : TypeId} {cs : Array Value} (h : AggT P ty cs.size) (hb : Bk w g t cs) : (loadVar ty ⟨g, 0, none⟩).run P w = .ok (.agg cs) w := by
  have h1 := h.agg
  cases hu : P.underlying ty with
  | none => rw [hu] at h1; cases h1
  | some d =>
    rw [hu] at h1
    exact run_loadVar_row w g t ty cs (0, 0) d hb hu (by cases d <;> simp_all) h.size
end Go.Proofs.YtmdkfbmpenohiaaDoor
