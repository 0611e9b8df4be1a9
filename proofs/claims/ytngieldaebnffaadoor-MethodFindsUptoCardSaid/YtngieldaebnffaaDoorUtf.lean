/- UTF-8: what utf.Bad and utf.Valid, and the reference's Size, Bad and Valid return; they leave what lay in memory alone. -/
import Derived.Test.YtngieldaebnffaaDoorUtfLaw
import Derived.Test.YtngieldaebnffaaDoorShelf
import Derived.WalkKit
import Derived.WalkSpells
import Derived.WalkLawsBesides
import Derived.Lib.Hide
import Derived.Lib.OthersKept
import Derived.WalkSmall
import Derived.Below
namespace Go.Proofs.YtngieldaebnffaaDoor
open Go.RowKit

theorem at_elem (s : ByteArray) {i k : Nat} (h : i + k < s.size) : (s[i + k].toNat : Nat) = atL (s.data.toList.drop i) k := by
  rw [← get_at]
  congr 1
  show s.data[i + k] = s.data[i + k]!
  rw [getElem!_pos]
theorem u_ret_bool {a b : Bool} (h : a = b) : Ending.returned (.bool a) = .returned (.bool b) := by rw [h]
theorem u_ret_int {k : IntKind} {a b : Int} (h : a = b) : Ending.returned (.int k a) = .returned (.int k b) := by rw [h]
theorem btw_drop (l : List UInt8) (j k lo hi : Nat) : btw (l.drop j) k lo hi = btw l (j + k) lo hi := by
  unfold btw atL
  rw [List.length_drop, List.getD_eq_getElem?_getD, List.getElem?_drop, List.getD_eq_getElem?_getD]
  congr 2
  rw [decide_eq_decide]; omega
theorem tailB_drop : ∀ (n : Nat) (l : List UInt8) (j k : Nat), tailB n (l.drop j) k = tailB n l (j + k)
  | 0, _, _, _ => rfl
  | n + 1, l, j, k => by rw [tailB, tailB, btw_drop, tailB_drop n, Nat.add_assoc]
theorem byte_eq {a c : Int} (h : a ≠ c) : (a == c) = false ∧ (a != c) = true := by
  have : (a == c) = false := by simpa using h
  exact ⟨this, by rw [bne, this]; rfl⟩
theorem byte_eq' {a c : Int} (h : a = c) : (a == c) = true ∧ (a != c) = false := by
  have : (a == c) = true := by simpa using h
  exact ⟨this, by rw [bne, this]; rfl⟩
theorem badI_lo (s : ByteArray) (hs : s.size ≤ 4611686018427387900) : -1 ≤ badI s ∧ badI s ≤ 9223372036854775807 := by
  rcases badAt_lo s s.size 0 (by omega) with h | h
  · exact h
  · omega
end Go.Proofs.YtngieldaebnffaaDoor
