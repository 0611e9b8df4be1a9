/- The reference's count, next and First: what each call returns; they leave memory alone. -/
import Derived.Test.YtngieldaebnffaaDoorShapes
import Derived.Test.YtngieldaebnffaaDoorRegion
import Derived.Deep.QuietTactic
import Derived.BigQuiet
import Derived.Lib.Hide
namespace Go.Proofs.YtngieldaebnffaaDoor
open Go.RowKit

def cnt (l : List UInt8) (c : Int) : Int := (l.filter fun x => (x.toNat : Int) == c).length
theorem cnt_le (l : List UInt8) (c : Int) : 0 ≤ cnt l c ∧ cnt l c ≤ l.length := by
  unfold cnt; exact ⟨by omega, by have := List.length_filter_le (fun x : UInt8 => (x.toNat : Int) == c) l; omega⟩
theorem cnt_snoc (l : List UInt8) (x : UInt8) (c : Int) : cnt (l ++ [x]) c = cnt l c + if ((x.toNat : Int) == c) = true then 1 else 0 := by
  unfold cnt
  rw [List.filter_append]
  by_cases h : ((x.toNat : Int) == c) = true <;> simp [h]
theorem ret_int {k : IntKind} {a b : Int} (h : a = b) : Ending.returned (.int k a) = .returned (.int k b) := by rw [h]
theorem ret_bool {a b : Bool} (h : a = b) : Ending.returned (.bool a) = .returned (.bool b) := by rw [h]
theorem take_snoc' (s : ByteArray) {k : Nat} (h : k < s.size) : s.data.toList.take (k + 1) = s.data.toList.take k ++ [s[k]] := by
  rw [List.take_succ_eq_append_getElem (by simpa using h)]; rfl
def refOk (s : Int) (l : List UInt8) (c : Int) : Bool :=
  if !isS s || decide (0 < cnt l 115 + cnt l 120) then false
  else if c = 113 then !decide (0 < cnt l 101) && roomS (cnt l 113) (c2 s)
  else if c = 101 then !decide (0 < cnt l 101) && decide (c1 s ≤ cnt l 113)
  else if c = 114 then roomS (cnt l 114) (c4 s)
  else if c = 115 then decide (c1 s ≤ cnt l 113) && decide (c3 s ≤ cnt l 114) && (decide (0 < cnt l 101) || outS s)
  else c == 120
def rq (s : Int) (l : List UInt8) : Bool := !decide (0 < cnt l 101) && roomS (cnt l 113) (c2 s)
def re (s : Int) (l : List UInt8) : Bool := !decide (0 < cnt l 101) && decide (c1 s ≤ cnt l 113)
def rr (s : Int) (l : List UInt8) : Bool := roomS (cnt l 114) (c4 s)
def rs (s : Int) (l : List UInt8) : Bool := decide (c1 s ≤ cnt l 113) && decide (c3 s ≤ cnt l 114) && (decide (0 < cnt l 101) || outS s)
end Go.Proofs.YtngieldaebnffaaDoor
