/- Heads: the reference's take. -/
import Derived.Test.YtcedpdofjbaciaaDoorRead1
import Derived.Test.YtcedpdofjbaciaaDoorUnp
namespace Go.Proofs.YtcedpdofjbaciaaDoor
open Go.RowKit

theorem ret3s {a a' b b' : ByteArray} {c c' : Int} (h1 : a = a') (h2 : b = b') (h3 : c = c') : Ending.returned (.tuple #[.string a, .string b, .int .i64 c]) = .returned (.tuple #[.string a', .string b', .int .i64 c']) := by rw [h1, h2, h3]
theorem takeX_eq (s : ByteArray) {u n : Nat} {c : Int} (h : TakeS s = (u, n, c)) : takeX s 0 = textOf ⟨u, s.extract n s.size, c⟩ := by unfold takeX takeN; rw [if_pos rfl, h]
theorem takeS_le {s : ByteArray} {u n : Nat} {c : Int} (h : TakeS s = (u, n, c)) : n ≤ s.size := by
  have hl : s.data.toList.length = s.size := by rw [Array.length_toList]; rfl
  rcases takeL_err s.data.toList with h0 | h0 | h0
  · have h2 := takeL_ok (l := s.data.toList) (u := u) (m := n) (by rw [show takeL s.data.toList = (u, n, c) from h] at h0 ⊢; simp at h0; rw [h0])
    omega
  · rw [show takeL s.data.toList = (u, n, c) from h] at h0; simp at h0; omega
  · rw [show takeL s.data.toList = (u, n, c) from h] at h0; simp at h0; omega
def rtRest (t : TkT) : ByteArray := if t.err = 0 then t.rest else ⟨#[]⟩
end Go.Proofs.YtcedpdofjbaciaaDoor
