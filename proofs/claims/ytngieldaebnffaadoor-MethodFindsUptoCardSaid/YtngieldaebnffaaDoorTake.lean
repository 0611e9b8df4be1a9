/- Variable-length integers: the walks of Take and of the reference's Take and Short. -/
import Derived.Test.YtngieldaebnffaaDoorVar
namespace Go.Proofs.YtngieldaebnffaaDoor
open Go.RowKit

theorem pow7 (n : Nat) : (2 : Nat) ^ (7 * n) = 128 ^ n := by rw [Nat.pow_mul]
theorem nat_or_add (U x n : Nat) (hU : U < 128 ^ n) : U ||| (x * 128 ^ n) = U + x * 128 ^ n := by
  have h := Nat.two_pow_add_eq_or_of_lt (i := 7 * n) (b := U) (by rw [pow7]; exact hU) x
  rw [pow7] at h
  rw [Nat.mul_comm x, Nat.or_comm, ← h, Nat.add_comm]
theorem byte_lim (n c : Nat) (h : n < 9 ∨ (n = 9 ∧ c ≤ 1)) : c % 128 * 128 ^ n ≤ 9223372036854775808 := by
  rcases h with h | ⟨rfl, h⟩
  · have h1 : 128 ^ n ≤ 128 ^ 8 := Nat.pow_le_pow_right (by decide) (by omega)
    have h2 : c % 128 * 128 ^ n ≤ 127 * 128 ^ 8 := Nat.mul_le_mul (by omega) h1
    exact Nat.le_trans h2 (by decide)
  · have h2 : c % 128 * 128 ^ 9 ≤ 1 * 128 ^ 9 := Nat.mul_le_mul_right _ (by omega)
    exact Nat.le_trans h2 (by decide)
theorem pow_lim (n : Nat) (h : n ≤ 9) : 128 ^ n ≤ 9223372036854775808 := Nat.le_trans (Nat.pow_le_pow_right (by decide) h) (by decide)
theorem or_shift (U n : Nat) (c : UInt8) (hU : U < 128 ^ n) (hn : n < 9 ∨ (n = 9 ∧ c.toNat ≤ 1)) :
    bits .or .u64 (U : Int) (IntKind.u64.wrap (IntKind.u64.wrap (bits .and .u8 (c.toNat : Int) 127) * 2 ^ (7 * n))) = ((U + c.toNat % 128 * 128 ^ n : Nat) : Int) := by
  have hc := c.toNat_lt
  have h1 := u8_and_nat c.toNat 127 hc (by omega)
  rw [show ((127 : Nat) : Int) = 127 from rfl] at h1
  rw [h1, show (127 : Nat) = 2 ^ 7 - 1 from rfl, Nat.and_two_pow_sub_one_eq_mod]
  have hl := byte_lim n c.toNat hn
  have hp := pow_lim n (by omega)
  have e : ((c.toNat % 2 ^ 7 : Nat) : Int) * 2 ^ (7 * n) = ((c.toNat % 128 * 128 ^ n : Nat) : Int) := by
    rw [Int.natCast_mul, ← pow7, Int.natCast_pow]; rfl
  have w1 : IntKind.u64.wrap ((c.toNat % 2 ^ 7 : Nat) : Int) = ((c.toNat % 2 ^ 7 : Nat) : Int) := by rw [IntKind.wrap_u64]; omega
  rw [w1, e]
  have w2 : IntKind.u64.wrap ((c.toNat % 128 * 128 ^ n : Nat) : Int) = ((c.toNat % 128 * 128 ^ n : Nat) : Int) := by rw [IntKind.wrap_u64]; omega
  rw [w2, u64_or_nat _ _ (by omega) (by omega), nat_or_add U _ n hU]
theorem or_shift9 (U : Nat) (c : UInt8) (hU : U < 128 ^ 9) (hc : c.toNat ≤ 1) :
    bits .or .u64 (U : Int) (IntKind.u64.wrap (IntKind.u64.wrap (bits .and .u8 (c.toNat : Int) 127) * 9223372036854775808)) = ((U + c.toNat % 128 * 128 ^ 9 : Nat) : Int) := or_shift U 9 c hU (.inr ⟨rfl, hc⟩)
def TakeS (s : ByteArray) : Nat × Nat × Int := takeL s.data.toList
theorem drop_cons (s : ByteArray) {k : Nat} (h : k < s.size) : s.data.toList.drop k = s[k] :: s.data.toList.drop (k + 1) := by
  rw [List.drop_eq_getElem_cons (by simpa using h)]; rfl
theorem drop_end (s : ByteArray) {k : Nat} (h : s.size ≤ k) : s.data.toList.drop k = [] := List.drop_eq_nil_of_le (by rw [Array.length_toList]; exact h)
theorem take_next (s : ByteArray) (n U : Nat) (h : n < s.size) (hn : n ≤ 9) : takeF (10 - n) (s.data.toList.drop n) n U =
    if n = 9 ∧ 1 < s[n].toNat then (0, 0, 6) else if s[n].toNat < 128 then (U + s[n].toNat % 128 * 128 ^ n, n + 1, 0) else takeF (10 - (n + 1)) (s.data.toList.drop (n + 1)) (n + 1) (U + s[n].toNat % 128 * 128 ^ n) := by
  rw [drop_cons s h, show 10 - n = (10 - (n + 1)) + 1 by omega, takeF]
  simp only [show (10 - (n + 1) = 0) ↔ n = 9 by omega]
theorem lt_next {U n c : Nat} (hU : U < 128 ^ n) : U + c % 128 * 128 ^ n < 128 ^ (n + 1) := by
  rw [pow_step]
  have : c % 128 * 128 ^ n ≤ 127 * 128 ^ n := Nat.mul_le_mul_right _ (by omega)
  omega
theorem v_ret3 {a a' b b' c c' : Int} (h1 : a = a') (h2 : b = b') (h3 : c = c') : Ending.returned (.tuple #[.int .u64 a, .int .i64 b, .int .i64 c]) = .returned (.tuple #[.int .u64 a', .int .i64 b', .int .i64 c']) := by rw [h1, h2, h3]
theorem ext_take (s : ByteArray) (n : Nat) : (s.extract 0 n).data.toList = s.data.toList.take n := by
  rw [ByteArray.data_extract, Array.toList_extract, List.extract_eq_take_drop]; simp
theorem takeS_cut {s : ByteArray} {u n : Nat} (h : TakeS s = (u, n, 0)) : TakeS (s.extract 0 n) = (u, n, 0) := by
  unfold TakeS takeL at *
  have := take_cut 10 _ 0 0 u n h
  rw [ext_take]
  simpa using this
theorem take_lt : ∀ (k : Nat) (l : List UInt8) (n a u m : Nat), n + k = 10 → a < 128 ^ n → takeF k l n a = (u, m, 0) → u < 18446744073709551616
  | 0, _, _, _, _, _, _, _, h => by simp [takeF] at h
  | _ + 1, [], _, _, _, _, _, _, h => by simp [takeF] at h
  | k + 1, c :: l, n, a, u, m, hk, ha, h => by
    unfold takeF at h
    split at h
    · simp at h
    · rename_i h1
      split at h
      · simp only [Prod.mk.injEq] at h
        have := byte_lim n c.toNat (by omega)
        have := pow_lim n (by omega)
        omega
      · exact take_lt k l (n + 1) _ u m (by omega) (lt_next ha) h
theorem takeS_lt {s : ByteArray} {u n : Nat} (h : TakeS s = (u, n, 0)) : u < 18446744073709551616 := take_lt 10 _ 0 0 u n rfl (by decide) h
end Go.Proofs.YtngieldaebnffaaDoor
