/- strconv.ParseUint at base 10. -/
import Derived.Test.YtiodkdafoocofaaGreatDoorShelf
import Derived.Test.YtiodkdafoocofaaGreatDoorGsc
import Derived.Test.YtiodkdafoocofaaGreatDoorTokLaw
import Derived.Lib.SmallJoins
import Derived.Lib.ParseIntBCases
import Derived.Lib.ParseIntBTie
import Derived.Lib.ParseIntBMem
import Derived.Lib.AtoiAllCases
import Derived.WalkKit
import Derived.WalkSpells
import Derived.WalkLawsBesides
import Derived.Lib.Hide
import Derived.Below
namespace Go.Proofs.YtiodkdafoocofaaGreatDoor.Y
open Go.RowKit
def errV7 (c : Int) : Value := if c = 0 then .nilIface else .iface 96 (.int .i64 c)
def ErrIs7 (c : Int) (v : Value) : Prop := (c = 0 ∧ v = .nilIface) ∨ (c ≠ 0 ∧ ∃ N, v = .iface 98 (.pointer (some ⟨N, 0, none⟩)))
def ParseAns7 (n : Nat) (c : Int) (w : World) (e : Ending) (w' : World) : Prop := ∃ v, e = .returned (.tuple #[.int .u64 n, v]) ∧ ErrIs7 c v ∧ Below w.heap.size w w'
theorem uintB_val7 {l : List UInt8} (h0 : l ≠ []) (h : l.all isDig = true) : Lib.parseUintB 64 l = if valN l < 18446744073709551616 then .ok (valN l) else .range := by
  unfold Lib.parseUintB
  rw [if_neg h0, show (2 : Nat) ^ 64 - 1 = 18446744073709551615 by decide, Lib.parseUintM_64, parseUint10_val l 0 (by omega) h]
  rfl
/-- what ParseUint at base 10 hands on: its number, and 0 (no error), 1 or 2. -/
def v10 (l : List UInt8) : Nat × Int := match Lib.parseUintB 64 l with
  | .ok n => (n, 0)
  | .range => (18446744073709551615, 1)
  | _ => (0, 2)
theorem v10_tuple (T : TypeId) (l : List UInt8) : Lib.uintTupleM T 18446744073709551615 (Lib.parseUintB 64 l) = .tuple #[.int .u64 (v10 l).1, if (v10 l).2 = 0 then .nilIface else .iface T (.int .i64 (v10 l).2)] := by
  unfold v10
  cases Lib.parseUintB 64 l <;> rfl
theorem v10_code (l : List UInt8) : (v10 l).2 = 0 ∨ (v10 l).2 = 1 ∨ (v10 l).2 = 2 := by
  unfold v10; cases Lib.parseUintB 64 l <;> simp
theorem v10_dig {l : List UInt8} (h0 : l ≠ []) (h : l.all isDig = true) : v10 l = if valN l < 18446744073709551616 then (valN l, 0) else (18446744073709551615, 1) := by
  unfold v10
  rw [uintB_val7 h0 h]
  by_cases ha : valN l < 18446744073709551616
  · rw [if_pos ha, if_pos ha]
  · rw [if_neg ha, if_neg ha]
theorem iv10_any (s : ByteArray) (w : World) (hs : s.size ≤ 281474976710656) : Calls Tryz.prog 74 #[.string s, .int .i64 10, .int .i64 64] w fun e w' => e = .returned (.tuple #[.int .u64 (v10 s.data.toList).1, errV7 (v10 s.data.toList).2]) ∧ Below w.heap.size w w' := by
  refine (Tryz.internal_strconv_ParseUint_10_at64 s (by omega) w).mono ?_
  rintro e w' ⟨he, hw⟩
  rw [v10_tuple] at he
  refine ⟨he, ?_⟩
  rcases hw with rfl | rfl
  · exact Below.refl _ _
  · exact Joins.below_bytesWorld _ _ _ _ (Nat.le_refl _)
theorem v10_any (s : ByteArray) (w : World) (hs : s.size ≤ 281474976710656) (hg : Gs w) : Calls Tryz.prog 54 #[.string s, .int .i64 10, .int .i64 64] w (ParseAns7 (v10 s.data.toList).1 (v10 s.data.toList).2 w) := by
  have HI := Lib.hid (fun w => iv10_any s w hs)
  have hc := v10_code s.data.toList
  generalize (v10 s.data.toList).1 = n at *
  generalize (v10 s.data.toList).2 = c at *
  have HG := Lib.hid hg; clear hg
  rcases hc with rfl | rfl | rfl
  · go_enter Tryz.func54, Tryz.ntmps54
    go_wp2_with fail
    refine (HI.out _).mono ?_; rw [show errV7 0 = .nilIface from rfl]; rintro e w1 ⟨rfl, hb1⟩
    go_wp2_with fail
    go_ret2
    exact ⟨_, rfl, .inl ⟨rfl, rfl⟩, hb1⟩
  · go_enter Tryz.func54, Tryz.ntmps54
    go_wp2_with fail
    refine (HI.out _).mono ?_; rw [show errV7 1 = .iface 96 (.int .i64 1) from rfl]; rintro e w1 ⟨rfl, hb1⟩
    obtain ⟨e1, h1, k1⟩ := (HG.out.below hb1).rng
    have H1 := Lib.hid h1; clear h1
    go_wp2_with fail
    refine (Tryz.strconv_toError_range _ s _ _ e1 _ hs H1.out k1).mono ?_; rintro e w2 ⟨N, rfl, _, _, hb2⟩
    go_wp2_with fail
    go_ret2
    exact ⟨_, rfl, .inr ⟨by decide, N, rfl⟩, hb1.trans (hb2.mono hb1.size)⟩
  · go_enter Tryz.func54, Tryz.ntmps54
    go_wp2_with fail
    refine (HI.out _).mono ?_; rw [show errV7 2 = .iface 96 (.int .i64 2) from rfl]; rintro e w1 ⟨rfl, hb1⟩
    obtain ⟨e0, h0, k0⟩ := (HG.out.below hb1).syn
    have H0 := Lib.hid h0; clear h0
    go_wp2_with fail
    refine (Tryz.strconv_toError_syntax _ s _ _ e0 _ hs H0.out k0).mono ?_; rintro e w2 ⟨N, rfl, _, _, hb2⟩
    go_wp2_with fail
    go_ret2
    exact ⟨_, rfl, .inr ⟨by decide, N, rfl⟩, hb1.trans (hb2.mono hb1.size)⟩
end Go.Proofs.YtiodkdafoocofaaGreatDoor.Y
