/- Legal, Complete (the program's and the reference's), Path, and awake. -/
import Derived.Test.YtcedpdofjbaciaaDoorRefFirst
namespace Go.Proofs.YtcedpdofjbaciaaDoor
open Go.RowKit

def legalS (s : Int) (l : List UInt8) : Bool := decide (firstS s l < 0)
def lastS (l : List UInt8) : Bool := match l.getLast? with | some c => (c.toNat : Int) == 115 || (c.toNat : Int) == 120 | none => false
def completeS (s : Int) (l : List UInt8) : Bool := legalS s l && lastS l
theorem firstFrom_ge (s : Int) : ∀ (l : List UInt8) (t : St) (k : Nat), -1 ≤ firstFrom s t l k ∧ (firstFrom s t l k = -1 ∨ 0 ≤ firstFrom s t l k)
  | [], _, _ => by simp [firstFrom]
  | c :: l, t, k => by
    unfold firstFrom
    split
    · exact firstFrom_ge s l _ _
    · omega
theorem legal_eq (s : Int) (l : List UInt8) : (firstS s l == -1) = legalS s l := by
  have := firstFrom_ge s l St.zero 0
  unfold legalS firstS
  rw [Bool.eq_iff_iff]; simp; omega
theorem legal_any (s : Int) (ev : ByteArray) (w : World) (hs : ev.size ≤ 1000000000) :
    Calls Tryd.prog 20 #[.int .i64 s, .string ev] w fun e w' => e = .returned (.bool (legalS s ev.data.toList)) ∧ Below w.heap.size w w' := by
  go_enter Tryd.func20, Tryd.ntmps20
  go_wp2_with (go_at_call 51; refine (first_any _ _ _ (by omega)).mono ?_; rintro e w' ⟨rfl, hb⟩)
  go_ret
  exact ⟨rfl, hb⟩
theorem last_some (ev : ByteArray) (h : 0 < ev.size) : lastS ev.data.toList = ((ev[ev.size - 1].toNat : Int) == 115 || (ev[ev.size - 1].toNat : Int) == 120) := by
  have : ev.data.toList.getLast? = some ev[ev.size - 1] := by
    rw [List.getLast?_eq_getElem?]
    have hl : ev.data.toList.length = ev.size := by simp
    rw [hl, List.getElem?_eq_getElem (by rw [hl]; omega)]; rfl
  unfold lastS; rw [this]
theorem last_none (ev : ByteArray) (h : ev.size = 0) : lastS ev.data.toList = false := by
  have : ev.data.toList = [] := by
    have hl : ev.data.toList.length = ev.size := by simp
    exact List.length_eq_zero_iff.1 (by omega)
  rw [this]; rfl
def AnsB (b : Bool) (w : World) (e : Ending) (w' : World) : Prop := e = .returned (.bool b) ∧ Below w.heap.size w w'
set_option maxHeartbeats 1000000 in
theorem complete_any (s : Int) (ev : ByteArray) (w : World) (hs : ev.size ≤ 1000000000) :
    Calls Tryd.prog 21 #[.int .i64 s, .string ev] w (AnsB (completeS s ev.data.toList) w) := by
  have HC := Lib.hid (fun w => legal_any s ev w hs)
  cases hl : legalS s ev.data.toList with
  | false =>
    have HR : Hid (completeS s ev.data.toList = false) := Lib.hid (by simp [completeS, hl])
    go_enter Tryd.func21, Tryd.ntmps21
    go_wp2_with (go_at_call 20; refine (HC.out _).mono ?_; rw [hl]; rintro e w' ⟨rfl, hb⟩)
    go_ret
    exact ⟨ret_bool HR.out.symm, hb⟩
  | true =>
    by_cases hz : ev.size = 0
    · have HR : Hid (completeS s ev.data.toList = false) := Lib.hid (by simp [completeS, last_none ev hz])
      have hz2 : decide (0 < (ev.size : Int)) = false := decide_eq_false (by omega)
      have hz3 : ev.size ≤ 0 := by omega
      clear hz
      go_enter Tryd.func21, Tryd.ntmps21
      go_wp2_with (go_at_call 20; refine (HC.out _).mono ?_; rw [hl]; rintro e w' ⟨rfl, hb⟩)
      go_ret
      exact ⟨ret_bool HR.out.symm, hb⟩
    · have hz2 : 0 < ev.size := by omega
      clear hz
      have hlast := last_some ev hz2
      cases h1 : ((ev[ev.size - 1].toNat : Int) == 115) <;> cases h2 : ((ev[ev.size - 1].toNat : Int) == 120)
      all_goals
        have HR : Hid (completeS s ev.data.toList = _) := Lib.hid (by rw [completeS, hl, hlast, h1, h2])
        clear hlast
        go_enter Tryd.func21, Tryd.ntmps21
        go_wp2_with (go_at_call 20; refine (HC.out _).mono ?_; rw [hl]; rintro e w' ⟨rfl, hb⟩)
        go_ret
        exact ⟨ret_bool HR.out.symm, hb⟩
theorem aw1 : completeS 1 [113, 101, 114, 115] = true := by decide
theorem aw2 : firstS 1 [113, 113, 101] = 1 := by decide
end Go.Proofs.YtcedpdofjbaciaaDoor
