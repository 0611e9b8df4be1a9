/- A block that holds bytes: read, written, made out of a string and turned back into one. -/
import Derived.Test.YtpfkddbhpoeknaaDoorChecked
import Derived.WalkKit
import Derived.WalkSpells
import Derived.WalkLawsBesides
import Derived.Lib.Hide
import Derived.Below
namespace Go.Proofs.YtpfkddbhpoeknaaDoor
open Go.RowKit

/-- block b begins with the bytes l, and they may be written. -/
def Bs (w : World) (b : Nat) (l : List UInt8) : Prop := b < w.heap.size ∧ (∀ i (h : i < l.length), w.cell? ⟨b, i, none⟩ = some (.int .u8 (l[i].toNat : Int))) ∧ ∀ i, i < l.length → w.frozen? ⟨b, i, none⟩ = false
theorem Bs.cell {w : World} {b : Nat} {l : List UInt8} (h : Bs w b l) {i : Nat} (hi : i < l.length) : w.cell? ⟨b, i, none⟩ = some (.int .u8 (l[i].toNat : Int)) := h.2.1 i hi
theorem Bs.free {w : World} {b : Nat} {l : List UInt8} (h : Bs w b l) {i : Nat} (hi : i < l.length) : w.frozen? ⟨b, i, none⟩ = false := h.2.2 i hi
theorem Bs.below {w w' : World} {b : Nat} {l : List UInt8} (h : Bs w b l) (hb : Below w.heap.size w w') : Bs w' b l :=
  ⟨Nat.lt_of_lt_of_le h.1 hb.size, fun i hi => (hb.cell (p := ⟨b, i, none⟩) h.1).trans (h.cell hi), fun i hi => (hb.frozen (p := ⟨b, i, none⟩) h.1).trans (h.free hi)⟩
theorem Bs.set {w : World} {b : Nat} {l : List UInt8} (h : Bs w b l) {i : Nat} (hi : i < l.length) (v : UInt8) : Bs (w.setCell ⟨b, i, none⟩ (.int .u8 (v.toNat : Int))) b (l.set i v) := by
  refine ⟨by simpa [World.setCell] using h.1, fun j hj => ?_, fun j hj => ?_⟩
  · rw [List.length_set] at hj
    by_cases e : i = j
    · subst e
      rw [World.cell?_setCell_same _ _ _ (h.cell hi)]; simp
    · rw [World.cell?_setCell_other _ _ _ _ (fun x => e (by cases x; rfl)), h.cell hj]
      simp [e]
  · rw [List.length_set] at hj
    rw [World.frozen?_setCell]; exact h.free hj
theorem Bs.back {w : World} {b : Nat} {l : List UInt8} (h : Bs w b l) (cap : Nat) :
    (convert 41 9 (.slice (some ⟨b, 0, none⟩) l.length cap)).run Tryd.prog w = .ok (.string ⟨l.toArray⟩) w := by
  refine run_convert_bytes_back _ _ _ _ _ _ l Tryd.underlying41 Tryd.underlying5 Tryd.underlying9 fun j hj => ?_
  have : (⟨b, 0, none⟩ : Addr).add j = ⟨b, j, none⟩ := by unfold Addr.add; split <;> simp_all
  rw [this]; exact h.cell hj
theorem bs_of (s : ByteArray) (w : World) : ∃ cap W1, (convert 9 41 (.string s)).run Tryd.prog w = .ok (.slice (some ⟨w.heap.size, 0, none⟩) s.size cap) W1 ∧ Below w.heap.size w W1 ∧
    w.heap.size < W1.heap.size ∧ s.size ≤ cap ∧ Bs W1 w.heap.size s.data.toList := by
  have hsz : w.heap.size < (w.drew.alloc (.cells (bytesRow s (grownCap w s.size 0 5)) 5 ((bytesRow s (grownCap w s.size 0 5)).size, (bytesRow s (grownCap w s.size 0 5)).size + 1))).heap.size := by show _ < (w.heap.push _).size; simp
  refine ⟨_, _, run_bytes_of_string w _ _ _ s Tryd.underlying9 Tryd.underlying41 Tryd.underlying5, (Below.refl _ _).drew.alloc (Nat.le_refl _) _, hsz, ?_, hsz, fun k hk0 => ?_, fun o ho0 => ?_⟩
  · unfold grownCap Question.cut; simp only; exact Nat.le_add_right _ _
  · have hk : k < s.data.size := by simpa using hk0
    have h := World.cell?_alloc_mark w.drew (bytesRow s (grownCap w s.size 0 5)) 5 ((bytesRow s (grownCap w s.size 0 5)).size, (bytesRow s (grownCap w s.size 0 5)).size + 1) k
    refine h.trans ?_
    unfold bytesRow
    rw [Array.getElem?_append_left (by simpa using hk)]
    rw [Array.getElem?_map, Array.getElem?_eq_getElem hk]
    rfl
  · have ho : o < s.size := by simpa using ho0
    have h := World.frozen?_alloc_mark w.drew (bytesRow s (grownCap w s.size 0 5)) 5 (bytesRow s (grownCap w s.size 0 5)).size ((bytesRow s (grownCap w s.size 0 5)).size + 1) o
    refine h.trans ?_
    have hb : s.size ≤ (bytesRow s (grownCap w s.size 0 5)).size := by unfold bytesRow; simp
    have : ¬ (bytesRow s (grownCap w s.size 0 5)).size ≤ o := by omega
    simp [this]
end Go.Proofs.YtpfkddbhpoeknaaDoor
