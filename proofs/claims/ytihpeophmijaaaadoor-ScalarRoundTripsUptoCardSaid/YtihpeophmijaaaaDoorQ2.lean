/- The reference's quoted texts and hexadecimal digits. -/
import Derived.Test.YtihpeophmijaaaaDoorQ1
namespace Go.Proofs.YtihpeophmijaaaaDoor.Y
open Go.RowKit
theorem tdiv16 (c : Nat) (hc : c < 256) : IntKind.u8.wrap ((c : Int).tdiv 16) = ((c / 16 : Nat) : Int) := by rw [Int.tdiv_eq_ediv_of_nonneg (by omega), IntKind.wrap_u8']; omega
theorem tmod16 (c : Nat) : (c : Int).tmod 16 = ((c % 16 : Nat) : Int) := by rw [Int.tmod_eq_emod_of_nonneg (by omega)]; omega
theorem q_ret_int {k : IntKind} {a b : Int} (h : a = b) : Ending.returned (.int k a) = Ending.returned (.int k b) := by rw [h]
theorem b_app (a b : ByteArray) : (a ++ b).data.toList = a.data.toList ++ b.data.toList := by simp
theorem cut_part (s : ByteArray) (k n : Nat) : (s.extract k (k + n)).data.toList = (s.data.toList.drop k).take n := by
  rw [ByteArray.data_extract, Array.toList_extract, List.extract_eq_take_drop]; simp
theorem sz_lit1 : (⟨#[92, 34]⟩ : ByteArray).size = 2 := rfl
theorem sz_lit2 : (⟨#[92, 92]⟩ : ByteArray).size = 2 := rfl
theorem sz_lit3 : (⟨#[92, 110]⟩ : ByteArray).size = 2 := rfl
theorem sz_lit4 : (⟨#[92, 116]⟩ : ByteArray).size = 2 := rfl
theorem sz_lit5 : (⟨#[92, 114]⟩ : ByteArray).size = 2 := rfl
theorem sz_lit6 : (⟨#[92, 120]⟩ : ByteArray).size = 2 := rfl
theorem sz_lit7 : (⟨#[34]⟩ : ByteArray).size = 1 := rfl
theorem sz_hx (c : Nat) : (⟨(hx2 c).toArray⟩ : ByteArray).size = 2 := rfl
theorem size_of_sz (s : ByteArray) (j : Nat) (w : World) (hj : j < s.size) (hs : s.size ≤ 4611686018427387900) : Calls Tryd.prog 81 #[.string s, .int .i64 (j : Int)] w fun e w' => e = .returned (.int .i64 ((szL (s.data.toList.drop j) : Nat) : Int)) ∧ Below w.heap.size w w' := of_same (size_any s j w hj hs)
theorem hexsum {a b : Int} (ha : ¬ a < 0) (hb : ¬ b < 0) (ha2 : a ≤ 15) (hb2 : b ≤ 15) : IntKind.u8.wrap (IntKind.i64.wrap (IntKind.i64.wrap (16 * a) + b)) = (((16 * a + b).toNat : Nat) : Int) := by
  rw [IntWalk.i64_in (16 * a) (by omega), IntWalk.i64_in _ (by omega), IntKind.wrap_u8']; omega
theorem lit_byte {x : Int} (n : Nat) (hn : n < 256) (h : x = (n : Int)) : [Value.int .u8 x] = cellsB [UInt8.ofNat n] := by
  subst h
  have e : (UInt8.ofNat n).toNat = n := by rw [UInt8.toNat_ofNat']; omega
  simp [cellsB, e]
theorem ne_of_bne {a b : Int} (h : (a != b) = true) : a ≠ b := by simpa using h
theorem eq_of_bne {a b : Int} (h : (a != b) = false) : a = b := by simpa using h
theorem q_idx1 {s : ByteArray} (h : holdsC [((s.size : Int) == 0, false)] = true) : (0 : Int) = ((0 : Nat) : Int) ∧ 0 < s.size := by
  have : ¬ s.size = 0 := by simpa [holdsC] using h
  exact ⟨rfl, by omega⟩
end Go.Proofs.YtihpeophmijaaaaDoor.Y
