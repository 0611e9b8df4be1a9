/- Legal, Complete (the program's and the reference's), Path, and awake. -/
import Derived.Test.YtngieldaebnffaaDoorRefFirst
namespace Go.Proofs.YtngieldaebnffaaDoor
open Go.RowKit

def legalS (s : Int) (l : List UInt8) : Bool := decide (firstS s l < 0)
def lastS (l : List UInt8) : Bool := match l.getLast? with | some c => (c.toNat : Int) == 115 || (c.toNat : Int) == 120 | none => false
def completeS (s : Int) (l : List UInt8) : Bool := legalS s l && lastS l
theorem firstFrom_ge (s : Int) : ∀ (l : List UInt8) (t : St) (k : Nat), -1 ≤ firstFrom s t l k ∧ (firstFrom s t l k = -1 ∨ 0 ≤ firstFrom s t l k)
  | [], _, _ => by simp [firstFrom]
  | c :: l, t, k => by
    unfold firstFrom
    split
    · exact firstFrom_ge s l _ _
    · omega
theorem legal_eq (s : Int) (l : List UInt8) : (firstS s l == -1) = legalS s l := by
  have := firstFrom_ge s l St.zero 0
  unfold legalS firstS
  rw [Bool.eq_iff_iff]; simp; omega
theorem legal_any (s : Int) (ev : ByteArray) (w : World) (hs : ev.size ≤ 1000000000) :
    Calls Tryd.prog 31 #[.int .i64 s, .string ev] w fun e w' => e = .returned (.bool (legalS s ev.data.toList)) ∧ Below w.heap.size w w' := by
  go_enter Tryd.func31, Tryd.ntmps31
  go_wp2_with (go_at_call 18; refine (first_any _ _ _ (by omega)).mono ?_; rintro e w' ⟨rfl, hb⟩)
  go_ret
  exact ⟨rfl, hb⟩
theorem last_some (ev : ByteArray) (h : 0 < ev.size) : lastS ev.data.toList = ((ev[ev.size - 1].toNat : Int) == 115 || (ev[ev.size - 1].toNat : Int) == 120) := by
  have : ev.data.toList.getLast? = some ev[ev.size - 1] := by
    rw [List.getLast?_eq_getElem?]
    have hl : ev.data.toList.length = ev.size := by simp
    rw [hl, List.getElem?_eq_getElem (by rw [hl]; omega)]; rfl
  unfold lastS; rw [this]
theorem last_none (ev : ByteArray) (h : ev.size = 0) : lastS ev.data.toList = false := by
  have : ev.data.toList = [] := by
    have hl : ev.data.toList.length = ev.size := by simp
    exact List.length_eq_zero_iff.1 (by omega)
  rw [this]; rfl
def AnsB (b : Bool) (w : World) (e : Ending) (w' : World) : Prop := e = .returned (.bool b) ∧ Below w.heap.size w w'
set_option maxHeartbeats 1000000 in
theorem complete_any (s : Int) (ev : ByteArray) (w : World) (hs : ev.size ≤ 1000000000) :
    Calls Tryd.prog 17 #[.int .i64 s, .string ev] w (AnsB (completeS s ev.data.toList) w) := by
  have HC := Lib.hid (fun w => legal_any s ev w hs)
  cases hl : legalS s ev.data.toList with
  | false =>
    have HR : Hid (completeS s ev.data.toList = false) := Lib.hid (by simp [completeS, hl])
    go_enter Tryd.func17, Tryd.ntmps17
    go_wp2_with (go_at_call 31; refine (HC.out _).mono ?_; rw [hl]; rintro e w' ⟨rfl, hb⟩)
    go_ret
    exact ⟨ret_bool HR.out.symm, hb⟩
  | true =>
    by_cases hz : ev.size = 0
    · have HR : Hid (completeS s ev.data.toList = false) := Lib.hid (by simp [completeS, last_none ev hz])
      have hz2 : decide (0 < (ev.size : Int)) = false := decide_eq_false (by omega)
      have hz3 : ev.size ≤ 0 := by omega
      clear hz
      go_enter Tryd.func17, Tryd.ntmps17
      go_wp2_with (go_at_call 31; refine (HC.out _).mono ?_; rw [hl]; rintro e w' ⟨rfl, hb⟩)
      go_ret
      exact ⟨ret_bool HR.out.symm, hb⟩
    · have hz2 : 0 < ev.size := by omega
      clear hz
      have hlast := last_some ev hz2
      cases h1 : ((ev[ev.size - 1].toNat : Int) == 115) <;> cases h2 : ((ev[ev.size - 1].toNat : Int) == 120)
      all_goals
        have HR : Hid (completeS s ev.data.toList = _) := Lib.hid (by rw [completeS, hl, hlast, h1, h2])
        clear hlast
        go_enter Tryd.func17, Tryd.ntmps17
        go_wp2_with (go_at_call 31; refine (HC.out _).mono ?_; rw [hl]; rintro e w' ⟨rfl, hb⟩)
        go_ret
        exact ⟨ret_bool HR.out.symm, hb⟩
theorem path_any (a b : ByteArray) (w : World) (ha : a.size ≤ 281474976710656) (hb : b.size ≤ 281474976710656) : Calls Tryd.prog 9 #[.string a, .string b] w fun e w' => e = .returned (.string (a ++ ⟨#[47]⟩ ++ b)) ∧ w = w' := by
  have h1 : ¬ 9223372036854775807 < a.size + 1 := by omega
  have h2 : ¬ 9223372036854775807 < a.size + 1 + b.size := by omega
  go_enter Tryd.func9, Tryd.ntmps9
  go_wp2
  go_ret
  exact ⟨rfl, rfl⟩
theorem aw1 : completeS 1 [113, 101, 114, 115] = true := by decide
theorem aw2 : firstS 1 [113, 113, 101] = 1 := by decide
theorem awake_any (w : World) : Calls Tryd.prog 6 #[] w (AnsB true w) := by
  go_enter Tryd.func6, Tryd.ntmps6
  go_wp2_with (first | (go_at_call 17; refine (complete_any 1 ⟨#[113, 101, 114, 115]⟩ _ (by decide)).mono ?_; rw [show (⟨#[113, 101, 114, 115]⟩ : ByteArray).data.toList = [113, 101, 114, 115] from rfl, aw1]; rintro e w1 ⟨rfl, hb1⟩) | (go_at_call 18; refine (first_any 1 ⟨#[113, 113, 101]⟩ _ (by decide)).mono ?_; rw [show (⟨#[113, 113, 101]⟩ : ByteArray).data.toList = [113, 113, 101] from rfl, aw2]; rintro e w2 ⟨rfl, hb2⟩) | (go_at_call 9; refine (path_any _ _ _ (by decide) (by decide)).mono ?_; rintro e w3 ⟨rfl, rfl⟩))
  go_ret
  exact ⟨ret_bool (by rw [ByteArray.toList_eq]; rfl), hb1.trans (hb2.mono hb1.size)⟩
end Go.Proofs.YtngieldaebnffaaDoor
