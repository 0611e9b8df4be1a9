/- The taker's methods: number and text. -/
import Derived.Test.YtpfkddbhpoeknaaGreatDoorFrLaw
import Derived.Test.YtpfkddbhpoeknaaGreatDoorBlk
import Derived.Test.YtpfkddbhpoeknaaGreatDoorIdent
namespace Go.Proofs.YtpfkddbhpoeknaaGreatDoor
open Go.RowKit

theorem grown_refl (w : World) (r : Option Nat) : w.grownBy w r := ⟨rfl, rfl, rfl, Nat.le_refl _, fun _ _ _ => rfl⟩
theorem grown_trans {a b c : World} {r : Option Nat} (h : a.grownBy b r) (k : b.grownBy c r) : a.grownBy c r :=
  ⟨k.os.trans h.os, k.tape.trans h.tape, k.output.trans h.output, Nat.le_trans h.size k.size, fun i hi hr => (k.block i (Nat.lt_of_lt_of_le hi h.size) hr).trans (h.block i hi hr)⟩
theorem grown_set {a b : World} {g : Nat} (h : a.grownBy b (some g)) (i : Nat) (v : Value) : a.grownBy (b.setCell ⟨g, i, none⟩ v) (some g) :=
  ⟨h.os, h.tape, h.output, by simpa [World.setCell] using h.size, fun k hk hr => (Below.heap_setCell b ⟨g, i, none⟩ v k (fun e => hr (by simp [e]))).trans (h.block k hk hr)⟩
theorem grown_below {a b : World} {r : Option Nat} (h : Below a.heap.size a b) : a.grownBy b r := ⟨h.os, h.tape, h.output, h.size, fun k hk _ => h.block k hk⟩
theorem Bk.beside {w w' : World} {g b : Nat} {t : TypeId} {cs : Array Value} (h : Bk w g t cs) (hg : w.grownBy w' (some b)) (hn : g ≠ b) : Bk w' g t cs := (hg.block g h.here (fun e => hn (Option.some.inj e))).trans h
theorem mlen_beside {w w' : World} {b : Nat} (h : MLen w) (hg : w.grownBy w' (some b)) (hn : 0 ≠ b) : MLen w' := by
  obtain ⟨m, hm⟩ := h
  refine ⟨m, ?_⟩
  rw [← hm]
  exact World.cell?_of_block (hg.block _ (cell_blk hm) (fun e => hn (Option.some.inj e)))
abbrev TK : TypeId := 63
theorem v_ret_u {a b : Nat} (h : a = b) : Ending.returned (.int .u64 (a : Int)) = .returned (.int .u64 (b : Int)) := by rw [h]
set_option maxHeartbeats 1000000 in
theorem number_any (b : Nat) (s : ByteArray) (e : Int) (w : World) (hk : Bk w b TK #[.string s, .int .i64 e]) (hs : s.size ≤ 4611686018427387900) :
    Calls Tryz.prog 36 #[.pointer (some ⟨b, 0, none⟩)] w fun r w' => r = .returned (.int .u64 ((takeN s e).num : Nat)) ∧ Bk w' b TK #[.string (takeN s e).rest, .int .i64 (takeN s e).err] ∧ w.grownBy w' (some b) := by
  have HK := Lib.hid hk
  have c0 : w.cell? ⟨b, 0, none⟩ = some (.string s) := hk.at_ 0 rfl
  have c1 : w.cell? ⟨b, 1, none⟩ = some (.int .i64 e) := hk.at_ 1 rfl
  have cf := hk.free
  clear hk
  by_cases he : e = 0
  · subst he
    have ht := take_any s w (by omega)
    obtain ⟨⟨u, n, c⟩, hT⟩ : ∃ t, TakeS s = t := ⟨_, rfl⟩
    have hn : n ≤ s.size := by
      rcases takeL_err s.data.toList with h | h | h
      · have h2 := takeL_ok (l := s.data.toList) (u := u) (m := n) (by rw [show takeL s.data.toList = (u, n, c) from hT] at h ⊢; simp at h; rw [h])
        have : s.data.toList.length = s.size := by rw [Array.length_toList]; rfl
        omega
      · rw [show takeL s.data.toList = (u, n, c) from hT] at h; simp at h; omega
      · rw [show takeL s.data.toList = (u, n, c) from hT] at h; simp at h; omega
    have HR := Lib.hid (show takeN s 0 = ⟨u, s.extract n s.size, c⟩ by unfold takeN; rw [if_pos rfl, hT])
    rw [hT] at ht
    have HT := Lib.hid ht; clear ht hT
    go_enter Tryz.func36, Tryz.ntmps36
    go_wp2_with fail
    refine (HT.out).mono ?_; rintro e w1 ⟨rfl, rfl⟩
    go_wp2_with fail
    go_ret
    refine ⟨v_ret_u (by rw [HR.out]), ?_, grown_set (grown_set (grown_refl _ _) _ _) _ _⟩
    rw [HR.out]
    exact (HK.out.put 1 _).put 0 _
  · have hq := byte_eq he
    obtain ⟨q1, q2⟩ := hq
    have HR := Lib.hid (show takeN s e = ⟨0, s, e⟩ by unfold takeN; rw [if_neg he])
    clear he
    go_enter Tryz.func36, Tryz.ntmps36
    go_wp2_with fail
    go_ret
    refine ⟨v_ret_u (by rw [HR.out]), ?_, grown_refl _ _⟩
    rw [HR.out]
    exact HK.out
theorem takeN_le (s : ByteArray) (e : Int) : (takeN s e).rest.size ≤ s.size := by
  unfold takeN; split
  · rw [ByteArray.size_extract]; show min _ _ - _ ≤ _; omega
  · exact Nat.le_refl _
theorem takeN_lt (s : ByteArray) (e : Int) : (takeN s e).num < 18446744073709551616 := by
  unfold takeN; split
  · rcases takeL_err s.data.toList with h | h | h
    · exact takeS_lt (s := s) (u := (TakeS s).1) (n := (TakeS s).2.1) (Prod.ext rfl (Prod.ext rfl h))
    · show (takeL s.data.toList).1 < _; rw [h]; omega
    · show (takeL s.data.toList).1 < _; rw [h]; omega
  · show 0 < _; omega
theorem takeX_le (s : ByteArray) (e : Int) : (takeX s e).rest.size ≤ s.size ∧ (takeX s e).text.size ≤ s.size := by
  have h := takeN_le s e
  unfold takeX textOf
  split
  · split
    · exact ⟨h, Nat.zero_le _⟩
    · constructor
      · rw [ByteArray.size_extract]; show min _ _ - _ ≤ _; omega
      · rw [ByteArray.size_extract]; show min _ _ - _ ≤ _; omega
  · exact ⟨h, Nat.zero_le _⟩
set_option maxHeartbeats 1000000 in
theorem text_any (b : Nat) (s : ByteArray) (e : Int) (w : World) (hk : Bk w b TK #[.string s, .int .i64 e]) (hs : s.size ≤ 4611686018427387900) :
    Calls Tryz.prog 35 #[.pointer (some ⟨b, 0, none⟩)] w fun r w' => r = .returned (.string (takeX s e).text) ∧ Bk w' b TK #[.string (takeX s e).rest, .int .i64 (takeX s e).err] ∧ w.grownBy w' (some b) := by
  have HC := Lib.hid (number_any b s e w hk hs)
  have hl := takeN_le s e
  have hlt := takeN_lt s e
  have HX := Lib.hid (show takeX s e = textOf (takeN s e) from rfl)
  generalize takeN s e = T at *
  generalize takeX s e = R at *
  obtain ⟨n, t, c⟩ := T
  have HW := Lib.hid (show t.size ≤ 4611686018427387900 by have : t.size ≤ s.size := hl; omega)
  clear hk
  by_cases hc : c = 0
  · subst hc
    have hwt : IntKind.u64.wrap (t.size : Int) = t.size := by have := HW.out; rw [IntKind.wrap_u64]; omega
    by_cases hn : t.size < n
    · have HR := Lib.hid (show R = ⟨⟨#[]⟩, t, 4⟩ by rw [HX.out]; unfold textOf; rw [if_pos rfl, if_pos hn])
      have hn1 : decide ((t.size : Int) < (n : Int)) = true := decide_eq_true (by omega)
      go_enter Tryz.func35, Tryz.ntmps35
      go_wp2_with fail
      refine (HC.out).mono ?_; rintro e w1 ⟨rfl, hk1, hg1⟩
      have HK1 := Lib.hid hk1; have HG1 := Lib.hid hg1
      have c0 : w1.cell? ⟨b, 0, none⟩ = some (.string t) := hk1.at_ 0 rfl
      have c1 : w1.cell? ⟨b, 1, none⟩ = some (.int .i64 0) := hk1.at_ 1 rfl
      have cf := hk1.free
      clear hk1 hg1
      go_wp2_with fail
      go_ret
      refine ⟨by rw [HR.out]; rfl, ?_, grown_set HG1.out _ _⟩
      rw [HR.out]
      exact HK1.out.put 1 _
    · have HR := Lib.hid (show R = ⟨t.extract 0 n, t.extract n t.size, 0⟩ by rw [HX.out]; unfold textOf; rw [if_pos rfl, if_neg hn])
      have hn1 : decide ((t.size : Int) < (n : Int)) = false := decide_eq_false (by omega)
      have hn2 : n ≤ t.size := by omega
      go_enter Tryz.func35, Tryz.ntmps35
      go_wp2_with fail
      refine (HC.out).mono ?_; rintro e w1 ⟨rfl, hk1, hg1⟩
      have HK1 := Lib.hid hk1; have HG1 := Lib.hid hg1
      have c0 : w1.cell? ⟨b, 0, none⟩ = some (.string t) := hk1.at_ 0 rfl
      have c1 : w1.cell? ⟨b, 1, none⟩ = some (.int .i64 0) := hk1.at_ 1 rfl
      have cf := hk1.free
      clear hk1 hg1
      go_wp2_with fail
      go_ret
      refine ⟨by rw [HR.out]; rfl, ?_, grown_set HG1.out _ _⟩
      rw [HR.out]
      exact HK1.out.put 0 _
  · obtain ⟨q1, q2⟩ := byte_eq hc
    have HR := Lib.hid (show R = ⟨⟨#[]⟩, t, c⟩ by rw [HX.out]; unfold textOf; rw [if_neg hc])
    clear hc
    go_enter Tryz.func35, Tryz.ntmps35
    go_wp2_with fail
    refine (HC.out).mono ?_; rintro e w1 ⟨rfl, hk1, hg1⟩
    have HK1 := Lib.hid hk1; have HG1 := Lib.hid hg1
    have c0 : w1.cell? ⟨b, 0, none⟩ = some (.string t) := hk1.at_ 0 rfl
    have c1 : w1.cell? ⟨b, 1, none⟩ = some (.int .i64 c) := hk1.at_ 1 rfl
    have cf := hk1.free
    clear hk1 hg1
    go_wp2_with fail
    go_ret
    refine ⟨by rw [HR.out]; rfl, ?_, HG1.out⟩
    rw [HR.out]
    exact HK1.out
end Go.Proofs.YtpfkddbhpoeknaaGreatDoor
