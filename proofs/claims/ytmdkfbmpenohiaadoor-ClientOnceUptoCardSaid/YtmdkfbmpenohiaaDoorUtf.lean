/- UTF-8: what utf.Bad and utf.Valid, and the reference's Size, Bad and Valid return; they leave what lay in memory alone. -/
import Derived.Test.YtmdkfbmpenohiaaDoorBunV
import Derived.Test.YtmdkfbmpenohiaaDoorShelf
import Derived.WalkKit
import Derived.WalkSpells
import Derived.WalkLawsBesides
import Derived.Lib.Hide
import Derived.Lib.OthersKept
import Derived.WalkSmall
import Derived.Below
namespace Go.Proofs.YtmdkfbmpenohiaaDoor
open Go.RowKit

theorem at_elem (s : ByteArray) {i k : Nat} (h : i + k < s.size) : (s[i + k].toNat : Nat) = atL (s.data.toList.drop i) k := by
  rw [← get_at]
  congr 1
  show s.data[i + k] = s.data[i + k]!
  rw [getElem!_pos]
theorem u_ret_bool {a b : Bool} (h : a = b) : Ending.returned (.bool a) = .returned (.bool b) := by rw [h]
theorem u_ret_int {k : IntKind} {a b : Int} (h : a = b) : Ending.returned (.int k a) = .returned (.int k b) := by rw [h]
theorem byte_eq {a c : Int} (h : a ≠ c) : (a == c) = false ∧ (a != c) = true := by
  have : (a == c) = false := by simpa using h
  exact ⟨this, by rw [bne, this]; rfl⟩
theorem wrong_any (s : ByteArray) (i : Nat) (c : Int) (w : World) (hi : i ≤ s.size) (_ : s.size ≤ 4611686018427387900) :
    Calls Tryd.prog 73 #[.string s, .int .i64 i, .int .i32 c] w fun e w' => e = .returned (.bool (decide (c = 65533) && !fffd (s.data.toList.drop i))) ∧ w = w' := by
  have he : (s.extract i s.size).data.toList = s.data.toList.drop i := by
    rw [ByteArray.data_extract, Array.toList_extract, List.extract_eq_take_drop, List.take_of_length_le]
    rw [List.length_drop, Array.length_toList]; exact Nat.le_refl _
  have HP := Lib.hid (show ∀ w, Calls Tryd.prog 78 #[.string (s.extract i s.size), .string ⟨#[239, 191, 189]⟩] w fun e w' => e = .returned (.bool (fffd (s.data.toList.drop i))) ∧ w = w' from
    fun w => (Tryd.strings_HasPrefix _ _ w).mono fun e w' ⟨h1, h2⟩ => ⟨by rw [h1, he]; rfl, h2.symm⟩)
  clear he
  by_cases hc : c = 65533
  · subst hc
    go_enter Tryd.func73, Tryd.ntmps73
    go_wp2_with fail
    refine (HP.out _).mono ?_; rintro e w1 ⟨rfl, rfl⟩
    go_wp2_with fail
    go_ret
    exact ⟨u_ret_bool (by simp), rfl⟩
  · obtain ⟨hq, _⟩ := byte_eq hc
    have HR := Lib.hid (show (decide (c = 65533) && !fffd (s.data.toList.drop i)) = false by rw [decide_eq_false hc]; rfl)
    clear hc
    go_enter Tryd.func73, Tryd.ntmps73
    go_wp2_with fail
    go_ret
    exact ⟨u_ret_bool HR.out.symm, rfl⟩
theorem utfBad_any (s : ByteArray) (w : World) (hs : s.size ≤ 4611686018427387900) :
    Calls Tryd.prog 66 #[.string s] w fun e w' => e = .returned (.int .i64 (badI s)) ∧ Below w.heap.size w w' := by
  have HS := Lib.hid hs; clear hs
  go_enter Tryd.func66, Tryd.ntmps66
  go_wp2
  go_loopw [] (fun wr => ∃ pos : Nat, pos ≤ s.size ∧ wr.heap[w.heap.size]? = some (.stringIter s pos) ∧ Below w.heap.size w wr ∧ badI s = badAt s pos) (fun wr => s.size - wr.iterPos w.heap.size)
  case atStart => exact ⟨0, Nat.zero_le _, World.iter_heap w s 0, (Below.refl _ w).alloc (Nat.le_refl _) _, rfl⟩
  case round =>
    obtain ⟨pos, hpos, hit, hbw, hx⟩ := hrel
    have HX := Lib.hid hx; have HB := Lib.hid hbw; clear hx hbw
    by_cases hp : pos < s.size
    · have hnx : ∀ ty, (Instr.next (.pointer (some ⟨w.heap.size, 0, none⟩)) true ty).run Tryd.prog wr = _ := fun ty => Lib.run_next_any_at wr w.heap.size s pos ty hit hp
      have hdz := dec_sz (s.data.toList.drop pos)
      rw [← decode_dec] at hdz
      have HIT := Lib.hid (Lib.iterAt_heap wr w.heap.size s pos (pos + (Utf8.decode s pos).2) hit)
      have HB2 := Lib.hid (Lib.below_iterAt HB.out (k := w.heap.size) (Nat.le_refl _) s (pos + (Utf8.decode s pos).2))
      have HO := Lib.hid hit; clear hit
      have hzl := szL_le (s.data.toList.drop pos) (by rw [← size_drop]; exact hp)
      have hlen : (s.data.toList.drop pos).length = s.size - pos := by rw [List.length_drop, Array.length_toList]; rfl
      have HW := Lib.hid (fun w c => wrong_any s pos c w hpos HS.out)
      have HST := Lib.hid (badAt_step s pos hp)
      have HWR := Lib.hid (badAt_wrong s pos hp)
      generalize Utf8.decode s pos = D at *
      obtain ⟨dc, dn⟩ := D
      rcases hdz with ⟨hz, hd, hf⟩ | ⟨hz, hd, hf⟩
      · obtain ⟨rfl, rfl⟩ := Prod.mk.inj hd
        have HR := Lib.hid (show badI s = pos by rw [HX.out, HWR.out hz])
        have HC := Lib.hid (fun w => (HW.out w 65533).mono fun e w' h => (show e = .returned (.bool true) ∧ w = w' by rw [hf] at h; exact h))
        clear hz hf hzl hlen hd
        go_wp2_with fail
        refine (HC.out _).mono ?_; rintro e w1 ⟨rfl, rfl⟩
        go_wp2_with fail
        go_ret
        exact ⟨u_ret_int HR.out.symm, HB2.out⟩
      · have HR := Lib.hid (show badI s = badAt s (pos + dn) by rw [HX.out, HST.out hz]; rw [← hd])
        have hw0 : (decide ((dc : Int) = 65533) && !fffd (s.data.toList.drop pos)) = false := by
          rcases hf with h | h
          · rw [decide_eq_false (show ¬ (dc : Int) = 65533 by have : dc ≠ 65533 := h; omega)]; rfl
          · rw [h]; simp
        have HC := Lib.hid (fun w => (HW.out w dc).mono fun e w' h => (show e = .returned (.bool false) ∧ w = w' by rw [hw0] at h; exact h))
        have hz1 : pos + dn ≤ s.size := by have : dn = _ := hd; omega
        have hz2 : 0 < dn := by have : dn = _ := hd; omega
        clear hz hf hw0 hzl hlen hd
        go_wp2_with fail
        refine (HC.out _).mono ?_; rintro e w1 ⟨rfl, rfl⟩
        go_wp2_with fail
        go_roundw
        case rel => exact ⟨pos + dn, hz1, HIT.out, HB2.out, HR.out⟩
        case measure => rw [iterPos_of HIT.out, iterPos_of HO.out]; show s.size - (pos + dn) < s.size - pos; omega
    · have hnx : ∀ ty, (Instr.next (.pointer (some ⟨w.heap.size, 0, none⟩)) true ty).run Tryd.prog wr = _ := fun ty => Lib.run_next_end_at wr w.heap.size s pos ty hit hp
      have HR := Lib.hid (show badI s = -1 by rw [HX.out, badAt_end s pos (by omega)])
      go_wp2_with fail
      go_ret
      exact ⟨u_ret_int HR.out.symm, HB.out⟩
theorem utfValid_any (s : ByteArray) (w : World) (hs : s.size ≤ 4611686018427387900) :
    Calls Tryd.prog 50 #[.string s] w fun e w' => e = .returned (.bool (validS s)) ∧ Below w.heap.size w w' := by
  have HC := Lib.hid (fun w => utfBad_any s w hs)
  have HV := Lib.hid (show validS s = decide (badI s < 0) from rfl)
  generalize badI s = B at *
  go_enter Tryd.func50, Tryd.ntmps50
  go_wp2_with fail
  refine (HC.out _).mono ?_; rintro e w1 ⟨rfl, hb⟩
  go_wp2_with fail
  go_ret
  exact ⟨u_ret_bool HV.out.symm, hb⟩
end Go.Proofs.YtmdkfbmpenohiaaDoor
