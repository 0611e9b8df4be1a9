/- Mix, Seal and Open, the program's and the reference's. -/
import Derived.Test.YtpfkddbhpoeknaaGreatDoorEight
namespace Go.Proofs.YtpfkddbhpoeknaaGreatDoor
open Go.RowKit

def mixI (a b : Nat) : Int := fnvI (le8 a ++ le8 b)
def crcV (l : List UInt8) : Nat := 4294967295 - crcR l
def sealB (s : ByteArray) : ByteArray := s ++ ⟨(le4 (crcV s.data.toList)).toArray⟩
theorem crcV_lt (l : List UInt8) : crcV l < 4294967296 := by unfold crcV; omega
theorem le8_size (u : Nat) : (⟨(le8 u).toArray⟩ : ByteArray).size = 8 := rfl
theorem le4_size (u : Nat) : (⟨(le4 u).toArray⟩ : ByteArray).size = 4 := rfl
theorem cat_data (l m : List UInt8) : ((⟨l.toArray⟩ : ByteArray) ++ ⟨m.toArray⟩ : ByteArray).data.toList = l ++ m := by simp [ByteArray.data_append]
theorem sealB_size (s : ByteArray) : (sealB s).size = s.size + 4 := by unfold sealB; rw [ByteArray.size_append]; rfl
theorem seal_any (s : ByteArray) (w : World) (hs : s.size ≤ 281474976710656) : Calls Tryz.prog 39 #[.string s] w fun e w' => e = .returned (.string (sealB s)) ∧ Below w.heap.size w w' := by
  have h1 := le4_size (crcV s.data.toList)
  have hs2 : s.size ≤ 9223372036854775806 := by omega
  go_enter Tryz.func39, Tryz.ntmps39
  go_wp2_with fail
  refine (crc_any s _ hs2).mono ?_; rintro e w1 ⟨rfl, rfl⟩
  go_wp2_with fail
  refine (low4_any (crcV s.data.toList) _).mono ?_; rintro e w2 ⟨rfl, hb2⟩
  go_wp2_with fail
  go_ret
  exact ⟨rfl, hb2⟩
theorem ext4 (u : Nat) : (⟨(le8 u).toArray⟩ : ByteArray).extract 0 4 = ⟨(le4 u).toArray⟩ := by
  refine ByteArray.ext (Array.ext' ?_)
  simp [le8, le4, ByteArray.data_extract]
def openB (s : ByteArray) : ByteArray × Int :=
  if s.size < 4 then (⟨#[]⟩, 4) else if ((sealB (s.extract 0 (s.size - 4))).toList == s.toList) = true then (s.extract 0 (s.size - 4), 0) else (⟨#[]⟩, 25)
theorem open_any (s : ByteArray) (w : World) (hs : s.size ≤ 281474976710656) : Calls Tryz.prog 38 #[.string s] w fun e w' => e = .returned (.tuple #[.string (openB s).1, .int .i64 (openB s).2]) ∧ Below w.heap.size w w' := by
  by_cases h4 : s.size < 4
  · have HR := Lib.hid (show openB s = (⟨#[]⟩, 4) by unfold openB; rw [if_pos h4])
    go_enter Tryz.func38, Tryz.ntmps38
    go_wp2
    go_ret2
    exact ⟨by rw [HR.out]; rfl, Below.refl _ _⟩
  · have h4' : 4 ≤ s.size := by omega
    have HC := Lib.hid (fun w => seal_any (s.extract 0 (s.size - 4)) w (by rw [ByteArray.size_extract]; omega))
    cases hq : ((sealB (s.extract 0 (s.size - 4))).toList == s.toList) with
    | true =>
      have HR := Lib.hid (show openB s = (s.extract 0 (s.size - 4), 0) by unfold openB; rw [if_neg h4, if_pos hq])
      clear h4
      go_enter Tryz.func38, Tryz.ntmps38
      go_wp2_with fail
      refine (HC.out _).mono ?_; rintro e w1 ⟨rfl, hb1⟩
      go_wp2_with fail
      go_ret2
      exact ⟨by rw [HR.out]; rfl, hb1⟩
    | false =>
      have HR := Lib.hid (show openB s = (⟨#[]⟩, 25) by unfold openB; rw [if_neg h4, if_neg (by simp [hq])])
      clear h4
      go_enter Tryz.func38, Tryz.ntmps38
      go_wp2_with fail
      refine (HC.out _).mono ?_; rintro e w1 ⟨rfl, hb1⟩
      go_wp2_with fail
      go_ret2
      exact ⟨by rw [HR.out]; rfl, hb1⟩
end Go.Proofs.YtpfkddbhpoeknaaGreatDoor
