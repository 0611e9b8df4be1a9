/- Statuses: Check, Pack and Unpack, the program's and the reference's. -/
import Derived.Test.YtngieldaebnffaaDoorUtf
import Derived.Test.YtngieldaebnffaaDoorTake
import Derived.Test.YtngieldaebnffaaDoorRegion
namespace Go.Proofs.YtngieldaebnffaaDoor
open Go.RowKit

theorem bcell {W w1 : World} (hb : Below W.heap.size W w1) : (∀ b o, b < W.heap.size → w1.cell? ⟨b, o, none⟩ = W.cell? ⟨b, o, none⟩) ∧ (∀ b o, b < W.heap.size → w1.frozen? ⟨b, o, none⟩ = W.frozen? ⟨b, o, none⟩) :=
  ⟨fun b o h => hb.cell (p := ⟨b, o, none⟩) h, fun b o h => hb.frozen (p := ⟨b, o, none⟩) h⟩
def checkS (c : Int) (s : ByteArray) : Int := if c < 0 ∨ 13 < c then 1 else if validS s = false then 7 else if 4096 < s.size then 3 else if c = 0 ∧ s.size ≠ 0 then 1 else 0
def catB (l : List UInt8) (s : ByteArray) : ByteArray := ⟨l.toArray⟩ ++ s
def packS (c : Int) (s : ByteArray) : ByteArray := if checkS c s = 0 then catB (putL c.toNat) s else ⟨#[]⟩
structure UnS where
  code : Int
  text : ByteArray
  err : Int
def unpackU (s : ByteArray) (u n : Nat) : UnS :=
  if n ≠ (putL u).length then ⟨0, ⟨#[]⟩, 5⟩ else if 13 < u then ⟨0, ⟨#[]⟩, 6⟩
  else if checkS u (s.extract n s.size) = 0 then ⟨u, s.extract n s.size, 0⟩ else ⟨0, ⟨#[]⟩, checkS u (s.extract n s.size)⟩
def unpackS (s : ByteArray) : UnS := if (TakeS s).2.2 = 0 then unpackU s (TakeS s).1 (TakeS s).2.1 else ⟨0, ⟨#[]⟩, (TakeS s).2.2⟩
theorem size_zero {s : ByteArray} : (s.size = 0) ↔ s.toList = [] := by
  rw [ByteArray.toList_eq, ← List.length_eq_zero_iff, Array.length_toList]; exact Iff.rfl
theorem isE_true {s : ByteArray} (h : s.size = 0) : s.toList.isEmpty = true ∧ s.toList = [] := ⟨by rw [size_zero.1 h]; rfl, size_zero.1 h⟩
theorem isE_false {s : ByteArray} (h : s.size ≠ 0) : s.toList.isEmpty = false ∧ ¬ s.toList = [] := by
  have : ¬ s.toList = [] := fun e => h (size_zero.2 e)
  exact ⟨by cases hh : s.toList with | nil => exact absurd hh this | cons => rfl, this⟩
theorem chk_ok (f : FuncId) (c d : Int) (s : ByteArray) (h : checkS c s = d) (hc : ∀ w, Calls Tryd.prog f #[.agg #[.int .i64 c, .string s]] w fun e w' => e = .returned (.int .i64 (checkS c s)) ∧ Below w.heap.size w w') (w : World) :
    Calls Tryd.prog f #[.agg #[.int .i64 c, .string s]] w fun e w' => e = .returned (.int .i64 d) ∧ Below w.heap.size w w' := by subst h; exact hc w
theorem checkS_code (c : Int) (s : ByteArray) : checkS c s = 0 ∨ checkS c s = 1 ∨ checkS c s = 7 ∨ checkS c s = 3 := by unfold checkS; (repeat' split) <;> simp
theorem checkS_ok {c : Int} {s : ByteArray} (h : checkS c s = 0) : 0 ≤ c ∧ c ≤ 13 ∧ validS s = true ∧ s.size ≤ 4096 ∧ (c = 0 → s.size = 0) := by
  unfold checkS at h
  split at h
  · cases h
  · split at h
    · cases h
    · rename_i hv
      split at h
      · cases h
      · split at h
        · cases h
        · exact ⟨by omega, by omega, by simpa using hv, by omega, by omega⟩
end Go.Proofs.YtngieldaebnffaaDoor
