/- Heads: the reference's take. -/
import Derived.Test.YtpfkddbhpoeknaaGreatDoorRead1
import Derived.Test.YtpfkddbhpoeknaaGreatDoorUnp
namespace Go.Proofs.YtpfkddbhpoeknaaGreatDoor
open Go.RowKit

theorem ret3s {a a' b b' : ByteArray} {c c' : Int} (h1 : a = a') (h2 : b = b') (h3 : c = c') : Ending.returned (.tuple #[.string a, .string b, .int .i64 c]) = .returned (.tuple #[.string a', .string b', .int .i64 c']) := by rw [h1, h2, h3]
theorem takeX_eq (s : ByteArray) {u n : Nat} {c : Int} (h : TakeS s = (u, n, c)) : takeX s 0 = textOf ⟨u, s.extract n s.size, c⟩ := by unfold takeX takeN; rw [if_pos rfl, h]
theorem takeS_le {s : ByteArray} {u n : Nat} {c : Int} (h : TakeS s = (u, n, c)) : n ≤ s.size := by
  have hl : s.data.toList.length = s.size := by rw [Array.length_toList]; rfl
  rcases takeL_err s.data.toList with h0 | h0 | h0
  · have h2 := takeL_ok (l := s.data.toList) (u := u) (m := n) (by rw [show takeL s.data.toList = (u, n, c) from h] at h0 ⊢; simp at h0; rw [h0])
    omega
  · rw [show takeL s.data.toList = (u, n, c) from h] at h0; simp at h0; omega
  · rw [show takeL s.data.toList = (u, n, c) from h] at h0; simp at h0; omega
def rtRest (t : TkT) : ByteArray := if t.err = 0 then t.rest else ⟨#[]⟩
set_option maxHeartbeats 1000000 in
theorem rtake_any (s : ByteArray) (w : World) (hs : s.size ≤ 4611686018427387900) :
    Calls Tryz.prog 45 #[.string s] w fun e w' => e = .returned (.tuple #[.string (takeX s 0).text, .string (rtRest (takeX s 0)), .int .i64 (takeX s 0).err]) ∧ Below w.heap.size w w' := by
  obtain ⟨⟨u, n, c⟩, hT⟩ : ∃ t, TakeS s = t := ⟨_, rfl⟩
  have HX := Lib.hid (takeX_eq s hT)
  have hn := takeS_le hT
  have HT := Lib.hid (takeC _ s u n c hT fun w => refTake_any s w (by omega))
  generalize takeX s 0 = X at *
  by_cases hc : c = 0
  · subst hc
    have hu := takeS_lt hT
    have hes : (s.extract n s.size).size = s.size - n := by rw [ByteArray.size_extract]; omega
    have hwt : IntKind.u64.wrap ((s.size - n : Nat) : Int) = ((s.size - n : Nat) : Int) := by rw [IntKind.wrap_u64]; omega
    by_cases hlt : s.size - n < u
    · have HR := Lib.hid (show X = ⟨⟨#[]⟩, s.extract n s.size, 4⟩ by rw [HX.out]; unfold textOf; rw [if_pos rfl, if_pos (by rw [hes]; exact hlt)])
      have hd := decide_eq_true (show ((s.size - n : Nat) : Int) < (u : Int) by omega)
      clear hT hu
      go_enter Tryz.func45, Tryz.ntmps45
      go_wp2_with fail
      refine (HT.out _).mono ?_; rintro e w1 ⟨rfl, rfl⟩
      go_wp2_with fail
      go_ret3
      exact ⟨ret3s (by rw [HR.out]; try rfl) (by rw [HR.out]; try rfl) (by rw [HR.out]; try rfl), Below.refl _ _⟩
    · have HR := Lib.hid (show X = ⟨(s.extract n s.size).extract 0 u, (s.extract n s.size).extract u (s.extract n s.size).size, 0⟩ by rw [HX.out]; unfold textOf; rw [if_pos rfl, if_neg (by rw [hes]; exact hlt)])
      have hd := decide_eq_false (show ¬ ((s.size - n : Nat) : Int) < (u : Int) by omega)
      have hul : u ≤ s.size - n := by omega
      clear hT hu
      go_enter Tryz.func45, Tryz.ntmps45
      go_wp2_with fail
      refine (HT.out _).mono ?_; rintro e w1 ⟨rfl, rfl⟩
      go_wp2_with fail
      go_quiet (fail)
      go_wp2_with fail
      go_ret3
      exact ⟨ret3s (by rw [HR.out]; try rfl) (by rw [HR.out]; unfold rtRest; rw [if_pos rfl]; try rw [hes]) (by rw [HR.out]; try rfl), below_drewN (Below.refl _ _) _⟩
  · obtain ⟨q1, q2⟩ := byte_eq hc
    have HR := Lib.hid (show X = ⟨⟨#[]⟩, s.extract n s.size, c⟩ by rw [HX.out]; unfold textOf; rw [if_neg hc])
    have HRR := Lib.hid (show rtRest X = ⟨#[]⟩ by rw [HR.out]; unfold rtRest; rw [if_neg hc])
    clear hT hc
    go_enter Tryz.func45, Tryz.ntmps45
    go_wp2_with fail
    refine (HT.out _).mono ?_; rintro e w1 ⟨rfl, rfl⟩
    go_wp2_with fail
    go_ret3
    exact ⟨ret3s (by rw [HR.out]; try rfl) (by rw [HRR.out]; try rfl) (by rw [HR.out]; try rfl), Below.refl _ _⟩
end Go.Proofs.YtpfkddbhpoeknaaGreatDoor
