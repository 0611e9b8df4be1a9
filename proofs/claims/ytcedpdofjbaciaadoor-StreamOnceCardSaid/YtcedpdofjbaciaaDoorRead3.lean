/- Heads: the head of bytes, the reference's HeadRead. -/
import Derived.Test.YtcedpdofjbaciaaDoorRead2
namespace Go.Proofs.YtcedpdofjbaciaaDoor
open Go.RowKit

theorem takeN_err (s : ByteArray) {e : Int} (he : e ≠ 0) : takeN s e = ⟨0, s, e⟩ := by unfold takeN; rw [if_neg he]
theorem takeX_err (s : ByteArray) {e : Int} (he : e ≠ 0) : takeX s e = ⟨⟨#[]⟩, s, e⟩ := by unfold takeX; rw [takeN_err s he]; unfold textOf; rw [if_neg he]
theorem hdEnd_err (s0 : ByteArray) (h : HdV) (l : Nat) (ms : List (ByteArray × ByteArray)) (r : ByteArray) {e : Int} (he : e ≠ 0) : hdEnd s0 h l ⟨ms, r, e⟩ = ⟨hdZero, e⟩ := by unfold hdEnd; rw [if_pos he]
theorem ext_ext (s : ByteArray) {n k : Nat} (hn : n ≤ s.size) (_ : k ≤ (s.extract n s.size).size) : (s.extract n s.size).extract k (s.extract n s.size).size = s.extract (n + k) s.size := by
  have h1 : (s.extract n s.size).size = s.size - n := by rw [ByteArray.size_extract]; omega
  refine ByteArray.ext (Array.ext' ?_)
  rw [h1] at *
  simp only [ByteArray.data_extract, Array.toList_extract, List.extract_eq_take_drop]
  have hl : s.data.toList.length = s.size := by rw [Array.length_toList]; rfl
  rw [List.take_of_length_le (l := s.data.toList.drop n) (by rw [List.length_drop]; omega), List.drop_drop, List.take_of_length_le (by rw [List.length_drop]; omega), List.take_of_length_le (by rw [List.length_drop]; omega)]
end Go.Proofs.YtcedpdofjbaciaaDoor
