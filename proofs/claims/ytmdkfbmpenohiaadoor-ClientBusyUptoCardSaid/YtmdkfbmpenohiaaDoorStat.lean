/- Statuses: Check, Pack and Unpack, the program's and the reference's. -/
import Derived.Test.YtmdkfbmpenohiaaDoorUtf
import Derived.Test.YtmdkfbmpenohiaaDoorBunOw
import Derived.Test.YtmdkfbmpenohiaaDoorRegion
namespace Go.Proofs.YtmdkfbmpenohiaaDoor
open Go.RowKit

theorem bcell {W w1 : World} (hb : Below W.heap.size W w1) : (∀ b o, b < W.heap.size → w1.cell? ⟨b, o, none⟩ = W.cell? ⟨b, o, none⟩) ∧ (∀ b o, b < W.heap.size → w1.frozen? ⟨b, o, none⟩ = W.frozen? ⟨b, o, none⟩) :=
  ⟨fun b o h => hb.cell (p := ⟨b, o, none⟩) h, fun b o h => hb.frozen (p := ⟨b, o, none⟩) h⟩
def checkS (c : Int) (s : ByteArray) : Int := if c < 0 ∨ 13 < c then 1 else if validS s = false then 7 else if 4096 < s.size then 3 else if c = 0 ∧ s.size ≠ 0 then 1 else 0
def catB (l : List UInt8) (s : ByteArray) : ByteArray := ⟨l.toArray⟩ ++ s
def packS (c : Int) (s : ByteArray) : ByteArray := if checkS c s = 0 then catB (putL c.toNat) s else ⟨#[]⟩
structure UnS where
  code : Int
  text : ByteArray
  err : Int
def unpackU (s : ByteArray) (u n : Nat) : UnS :=
  if n ≠ (putL u).length then ⟨0, ⟨#[]⟩, 5⟩ else if 13 < u then ⟨0, ⟨#[]⟩, 6⟩
  else if checkS u (s.extract n s.size) = 0 then ⟨u, s.extract n s.size, 0⟩ else ⟨0, ⟨#[]⟩, checkS u (s.extract n s.size)⟩
def unpackS (s : ByteArray) : UnS := if (TakeS s).2.2 = 0 then unpackU s (TakeS s).1 (TakeS s).2.1 else ⟨0, ⟨#[]⟩, (TakeS s).2.2⟩
theorem size_zero {s : ByteArray} : (s.size = 0) ↔ s.toList = [] := by
  rw [ByteArray.toList_eq, ← List.length_eq_zero_iff, Array.length_toList]; exact Iff.rfl
theorem isE_true {s : ByteArray} (h : s.size = 0) : s.toList.isEmpty = true ∧ s.toList = [] := ⟨by rw [size_zero.1 h]; rfl, size_zero.1 h⟩
theorem isE_false {s : ByteArray} (h : s.size ≠ 0) : s.toList.isEmpty = false ∧ ¬ s.toList = [] := by
  have : ¬ s.toList = [] := fun e => h (size_zero.2 e)
  exact ⟨by cases hh : s.toList with | nil => exact absurd hh this | cons => rfl, this⟩
set_option maxHeartbeats 1000000 in
theorem check_any (c : Int) (s : ByteArray) (w : World) (hs : s.size ≤ 4611686018427387900) :
    Calls Tryd.prog 34 #[.agg #[.int .i64 c, .string s]] w fun e w' => e = .returned (.int .i64 (checkS c s)) ∧ Below w.heap.size w w' := by
  by_cases h1 : c < 0
  · have HR := Lib.hid (show checkS c s = 1 by unfold checkS; rw [if_pos (.inl h1)])
    go_enter Tryd.func34, Tryd.ntmps34
    go_wp2_with fail
    go_ret
    exact ⟨u_ret_int (by rw [HR.out]), (Below.refl _ _).alloc (Nat.le_refl _) _⟩
  by_cases h2 : 13 < c
  · have HR := Lib.hid (show checkS c s = 1 by unfold checkS; rw [if_pos (.inr h2)])
    go_enter Tryd.func34, Tryd.ntmps34
    go_wp2_with fail
    go_ret
    exact ⟨u_ret_int (by rw [HR.out]), (Below.refl _ _).alloc (Nat.le_refl _) _⟩
  have hV := fun w => utfValid_any s w hs
  cases hv : validS s with
  | false =>
    rw [hv] at hV
    have HV := Lib.hid hV
    have HR := Lib.hid (show checkS c s = 7 by unfold checkS; rw [if_neg (by omega), if_pos hv])
    clear hv hV
    go_enter Tryd.func34, Tryd.ntmps34
    go_wp2_with fail
    refine (HV.out _).mono ?_; rintro e w1 ⟨rfl, hb⟩
    obtain ⟨hcb, hfb⟩ := bcell hb
    go_wp2_with fail
    go_ret
    exact ⟨u_ret_int (by rw [HR.out]), ((Below.refl _ _).alloc (Nat.le_refl _) _).trans (hb.mono (by simp))⟩
  | true =>
    rw [hv] at hV
    have HV := Lib.hid hV
    by_cases h3 : 4096 < s.size
    · have HR := Lib.hid (show checkS c s = 3 by unfold checkS; rw [if_neg (by omega), if_neg (by rw [hv]; simp), if_pos h3])
      clear hv hV
      go_enter Tryd.func34, Tryd.ntmps34
      go_wp2_with fail
      refine (HV.out _).mono ?_; rintro e w1 ⟨rfl, hb⟩
      obtain ⟨hcb, hfb⟩ := bcell hb
      go_wp2_with fail
      go_ret
      exact ⟨u_ret_int (by rw [HR.out]), ((Below.refl _ _).alloc (Nat.le_refl _) _).trans (hb.mono (by simp))⟩
    · by_cases h4 : c = 0
      · subst h4
        by_cases h5 : s.size = 0
        · obtain ⟨e1, e2⟩ := isE_true h5
          have HR := Lib.hid (show checkS 0 s = 0 by unfold checkS; rw [if_neg (by omega), if_neg (by rw [hv]; simp), if_neg h3, if_neg (by omega)])
          clear hv hV h5
          go_enter Tryd.func34, Tryd.ntmps34
          go_wp2_with fail
          refine (HV.out _).mono ?_; rintro e w1 ⟨rfl, hb⟩
          obtain ⟨hcb, hfb⟩ := bcell hb
          go_wp2_with fail
          go_ret
          exact ⟨u_ret_int (by rw [HR.out]), ((Below.refl _ _).alloc (Nat.le_refl _) _).trans (hb.mono (by simp))⟩
        · obtain ⟨e1, e2⟩ := isE_false h5
          have HR := Lib.hid (show checkS 0 s = 1 by unfold checkS; rw [if_neg (by omega), if_neg (by rw [hv]; simp), if_neg h3, if_pos ⟨rfl, h5⟩])
          clear hv hV h5
          go_enter Tryd.func34, Tryd.ntmps34
          go_wp2_with fail
          refine (HV.out _).mono ?_; rintro e w1 ⟨rfl, hb⟩
          obtain ⟨hcb, hfb⟩ := bcell hb
          go_wp2_with fail
          go_ret
          exact ⟨u_ret_int (by rw [HR.out]), ((Below.refl _ _).alloc (Nat.le_refl _) _).trans (hb.mono (by simp))⟩
      · have hq := (byte_eq h4).1
        have HR := Lib.hid (show checkS c s = 0 by unfold checkS; rw [if_neg (by omega), if_neg (by rw [hv]; simp), if_neg h3, if_neg (by omega)])
        clear hv hV h4
        go_enter Tryd.func34, Tryd.ntmps34
        go_wp2_with fail
        refine (HV.out _).mono ?_; rintro e w1 ⟨rfl, hb⟩
        obtain ⟨hcb, hfb⟩ := bcell hb
        go_wp2_with fail
        go_ret
        exact ⟨u_ret_int (by rw [HR.out]), ((Below.refl _ _).alloc (Nat.le_refl _) _).trans (hb.mono (by simp))⟩
end Go.Proofs.YtmdkfbmpenohiaaDoor
