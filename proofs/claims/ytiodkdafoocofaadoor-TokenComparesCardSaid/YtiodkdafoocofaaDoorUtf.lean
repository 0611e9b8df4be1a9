/- UTF-8: what utf.Bad and utf.Valid, and the reference's Size, Bad and Valid return; they leave what lay in memory alone. -/
import Derived.Test.YtiodkdafoocofaaDoorUtfLaw
import Derived.Test.YtiodkdafoocofaaDoorShelf
import Derived.WalkKit
import Derived.WalkSpells
import Derived.WalkLawsBesides
import Derived.Lib.Hide
import Derived.Lib.OthersKept
import Derived.WalkSmall
import Derived.Below
namespace Go.Proofs.YtiodkdafoocofaaDoor
open Go.RowKit

theorem at_elem (s : ByteArray) {i k : Nat} (h : i + k < s.size) : (s[i + k].toNat : Nat) = atL (s.data.toList.drop i) k := by
  rw [← get_at]
  congr 1
  show s.data[i + k] = s.data[i + k]!
  rw [getElem!_pos]
theorem u_ret_bool {a b : Bool} (h : a = b) : Ending.returned (.bool a) = .returned (.bool b) := by rw [h]
theorem u_ret_int {k : IntKind} {a b : Int} (h : a = b) : Ending.returned (.int k a) = .returned (.int k b) := by rw [h]
theorem btw_drop (l : List UInt8) (j k lo hi : Nat) : btw (l.drop j) k lo hi = btw l (j + k) lo hi := by
  unfold btw atL
  rw [List.length_drop, List.getD_eq_getElem?_getD, List.getElem?_drop, List.getD_eq_getElem?_getD]
  congr 2
  rw [decide_eq_decide]; omega
theorem tailB_drop : ∀ (n : Nat) (l : List UInt8) (j k : Nat), tailB n (l.drop j) k = tailB n l (j + k)
  | 0, _, _, _ => rfl
  | n + 1, l, j, k => by rw [tailB, tailB, btw_drop, tailB_drop n, Nat.add_assoc]
theorem byte_eq {a c : Int} (h : a ≠ c) : (a == c) = false ∧ (a != c) = true := by
  have : (a == c) = false := by simpa using h
  exact ⟨this, by rw [bne, this]; rfl⟩
theorem byte_eq' {a c : Int} (h : a = c) : (a == c) = true ∧ (a != c) = false := by
  have : (a == c) = true := by simpa using h
  exact ⟨this, by rw [bne, this]; rfl⟩
theorem badI_lo (s : ByteArray) (hs : s.size ≤ 4611686018427387900) : -1 ≤ badI s ∧ badI s ≤ 9223372036854775807 := by
  rcases badAt_lo s s.size 0 (by omega) with h | h
  · exact h
  · omega
theorem wrong_any (s : ByteArray) (i : Nat) (c : Int) (w : World) (hi : i ≤ s.size) (_ : s.size ≤ 4611686018427387900) :
    Calls Tryd.prog 68 #[.string s, .int .i64 i, .int .i32 c] w fun e w' => e = .returned (.bool (decide (c = 65533) && !fffd (s.data.toList.drop i))) ∧ w = w' := by
  have he : (s.extract i s.size).data.toList = s.data.toList.drop i := by
    rw [ByteArray.data_extract, Array.toList_extract, List.extract_eq_take_drop, List.take_of_length_le]
    rw [List.length_drop, Array.length_toList]; exact Nat.le_refl _
  have HP := Lib.hid (show ∀ w, Calls Tryd.prog 38 #[.string (s.extract i s.size), .string ⟨#[239, 191, 189]⟩] w fun e w' => e = .returned (.bool (fffd (s.data.toList.drop i))) ∧ w = w' from
    fun w => (Tryd.strings_HasPrefix _ _ w).mono fun e w' ⟨h1, h2⟩ => ⟨by rw [h1, he]; rfl, h2.symm⟩)
  clear he
  by_cases hc : c = 65533
  · subst hc
    go_enter Tryd.func68, Tryd.ntmps68
    go_wp2_with fail
    refine (HP.out _).mono ?_; rintro e w1 ⟨rfl, rfl⟩
    go_wp2_with fail
    go_ret
    exact ⟨u_ret_bool (by simp), rfl⟩
  · obtain ⟨hq, _⟩ := byte_eq hc
    have HR := Lib.hid (show (decide (c = 65533) && !fffd (s.data.toList.drop i)) = false by rw [decide_eq_false hc]; rfl)
    clear hc
    go_enter Tryd.func68, Tryd.ntmps68
    go_wp2_with fail
    go_ret
    exact ⟨u_ret_bool HR.out.symm, rfl⟩
end Go.Proofs.YtiodkdafoocofaaDoor
