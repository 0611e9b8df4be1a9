/- The references' decimal numbers. -/
import Derived.Test.YtiodkdafoocofaaDoorTabY
import Derived.Lib.ItoaNum
import Derived.Laws.Bits64
import Derived.Laws.BitsAllLaws
namespace Go.Proofs.YtiodkdafoocofaaDoor.Y
open Go.RowKit
theorem nDig20 (u : Nat) (hu : u < 18446744073709551616) : (Lib.decDigits u).length ≤ 20 := by
  rw [Lib.decDigits_length]
  by_cases h : 1 ≤ u
  · have := Lib.numDigits_eq u h hu; split at this <;> omega
  · obtain rfl : u = 0 := by omega
    decide +kernel
theorem decS_step (v : Nat) (h : 10 ≤ v) : Lib.decDigits v = Lib.decDigits (v / 10) ++ [UInt8.ofNat (48 + v % 10)] := by
  rw [Lib.decDigits, dif_neg (by omega)]
theorem decS_one (v : Nat) (h : ¬ 10 ≤ v) : Lib.decDigits v = [UInt8.ofNat (48 + v % 10)] := by
  rw [Lib.decDigits, dif_pos (by omega), Nat.mod_eq_of_lt (by omega)]
def decH (v : Nat) : List UInt8 := if 10 ≤ v then Lib.decDigits (v / 10) else []
theorem decH_eq (v : Nat) : Lib.decDigits v = decH v ++ [UInt8.ofNat (48 + v % 10)] := by
  unfold decH
  by_cases h : 10 ≤ v
  · rw [if_pos h, decS_step v h]
  · rw [if_neg h, decS_one v h]; rfl
theorem decB (v : Nat) : IntKind.u8.wrap (IntKind.u64.wrap (48 + (v : Int).tmod 10)) = ((48 + v % 10 : Nat) : Int) := by
  rw [Int.tmod_eq_emod_of_nonneg (by omega), IntKind.wrap_u64, IntKind.wrap_u8']; omega
theorem lsizeR (l : List UInt8) : (⟨l.toArray⟩ : ByteArray).size = l.length := by show l.toArray.size = _; simp
theorem mkbaR (a b : List UInt8) : (⟨a.toArray⟩ : ByteArray) ++ ⟨b.toArray⟩ = ⟨(a ++ b).toArray⟩ := ByteArray.ext (by simp [ByteArray.data_append])
theorem litB (n : Nat) (h : n < 256) {x : Int} (hx : x = (n : Int)) : [Value.int .u8 x] = cellsB [UInt8.ofNat n] := by
  subst hx; simp [cellsB, Nat.mod_eq_of_lt h]
end Go.Proofs.YtiodkdafoocofaaDoor.Y
