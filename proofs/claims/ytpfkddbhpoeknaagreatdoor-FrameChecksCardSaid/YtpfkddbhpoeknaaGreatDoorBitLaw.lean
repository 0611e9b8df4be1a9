/- The plain law of the checksum: eight single-bit steps are the two steps by table. No program in sight. -/
import Derived.Test.YtpfkddbhpoeknaaGreatDoorCrc
namespace Go.Proofs.YtpfkddbhpoeknaaGreatDoor
open Go.RowKit

def poly : Nat := 3988292384
def one (x : Nat) : Nat := if x % 2 = 1 then x / 2 ^^^ poly else x / 2
def bit1 (r c : Nat) : Nat := if r % 2 = c % 2 then r / 2 else r / 2 ^^^ poly
def bitK : Nat → Nat → Nat → Nat
  | 0, r, _ => r
  | k + 1, r, c => bit1 (bitK k r c) (c / 2 ^ k)
def oneK : Nat → Nat → Nat
  | 0, x => x
  | k + 1, x => one (oneK k x)
theorem xor_mod2 (a b : Nat) : (a ^^^ b) % 2 = if a % 2 = b % 2 then 0 else 1 := by
  have h := Nat.xor_mod_two_pow (a := a) (b := b) (n := 1)
  rw [Nat.pow_one] at h
  rw [h]
  rcases Nat.mod_two_eq_zero_or_one a with h1 | h1 <;> rcases Nat.mod_two_eq_zero_or_one b with h2 | h2 <;> rw [h1, h2] <;> rfl
theorem one_xor (R C : Nat) : one (R ^^^ C) = bit1 R C ^^^ (C / 2) := by
  unfold one bit1
  rw [xor_mod2, Nat.xor_div_two]
  by_cases h : R % 2 = C % 2
  · rw [if_pos h, if_neg (by omega), if_pos h]
  · rw [if_neg h, if_pos rfl, if_neg h, Nat.xor_assoc, Nat.xor_assoc, Nat.xor_comm (C / 2) poly]
theorem bitK_one (r c : Nat) : ∀ k, oneK k (r ^^^ c) = bitK k r c ^^^ (c / 2 ^ k)
  | 0 => by simp [oneK, bitK]
  | k + 1 => by
    simp only [oneK, bitK]
    rw [bitK_one r c k, one_xor, Nat.div_div_eq_div_mul, Nat.pow_succ]
theorem bit_eight (r : Nat) (c : UInt8) : bitK 8 r c.toNat = oneK 8 (r ^^^ c.toNat) := by
  rw [bitK_one]
  have : c.toNat / 2 ^ 8 = 0 := Nat.div_eq_of_lt c.toNat_lt
  rw [this, Nat.xor_zero]
theorem one_xor2 (a b : Nat) : one (a ^^^ b) = one a ^^^ one b := by
  have hp : poly ^^^ poly = 0 := Nat.xor_self _
  unfold one
  rw [xor_mod2, Nat.xor_div_two]
  rcases Nat.mod_two_eq_zero_or_one a with h1 | h1 <;> rcases Nat.mod_two_eq_zero_or_one b with h2 | h2 <;> rw [h1, h2]
  · rfl
  · show a / 2 ^^^ b / 2 ^^^ poly = a / 2 ^^^ (b / 2 ^^^ poly)
    rw [Nat.xor_assoc]
  · show a / 2 ^^^ b / 2 ^^^ poly = a / 2 ^^^ poly ^^^ b / 2
    rw [Nat.xor_assoc, Nat.xor_assoc, Nat.xor_comm poly]
  · show a / 2 ^^^ b / 2 = a / 2 ^^^ poly ^^^ (b / 2 ^^^ poly)
    rw [Nat.xor_assoc, ← Nat.xor_assoc poly, Nat.xor_comm poly (b / 2), Nat.xor_assoc (b / 2), hp, Nat.xor_zero]
theorem oneK_xor (a b : Nat) : ∀ k, oneK k (a ^^^ b) = oneK k a ^^^ oneK k b
  | 0 => rfl
  | k + 1 => by simp only [oneK]; rw [oneK_xor a b k, one_xor2]
theorem one_even (q : Nat) : one (2 * q) = q := by unfold one; rw [if_neg (by omega)]; omega
theorem split16 (x : Nat) : x = (16 * (x / 16)) ^^^ (x % 16) := by
  have h := Nat.two_pow_add_eq_or_of_lt (i := 4) (b := x % 16) (Nat.mod_lt _ (by omega)) (x / 16)
  have hx : x = 16 * (x / 16) + x % 16 := (Nat.div_add_mod x 16).symm
  have hd : (16 * (x / 16)) ||| (x % 16) = (16 * (x / 16)) ^^^ (x % 16) := by
    refine Nat.eq_of_testBit_eq fun i => ?_
    rw [Nat.testBit_or, Nat.testBit_xor]
    by_cases hi : i < 4
    · have : (16 * (x / 16)).testBit i = false := by
        rw [show 16 = 2 ^ 4 from rfl, Nat.testBit_two_pow_mul]; simp; omega
      simp [this]
    · have : (x % 16).testBit i = false := Nat.testBit_lt_two_pow (Nat.lt_of_lt_of_le (Nat.mod_lt _ (by omega)) (Nat.pow_le_pow_right (by decide : 0 < 2) (Nat.le_of_not_lt hi)))
      simp [this]
  rw [← hd, ← h]; exact hx
theorem st4_one (x : Nat) : st4 x = oneK 4 x := by
  have e : oneK 4 x = oneK 4 (16 * (x / 16)) ^^^ oneK 4 (x % 16) := by rw [← oneK_xor, ← split16]
  rw [e]
  unfold st4
  congr 1
  · simp only [oneK]
    rw [show 16 * (x / 16) = 2 * (2 * (2 * (2 * (x / 16)))) by omega, one_even, one_even, one_even, one_even]
  · have hm : x % 16 < 16 := Nat.mod_lt _ (by omega)
    generalize x % 16 = j at *
    have hc : j = 0 ∨ j = 1 ∨ j = 2 ∨ j = 3 ∨ j = 4 ∨ j = 5 ∨ j = 6 ∨ j = 7 ∨ j = 8 ∨ j = 9 ∨ j = 10 ∨ j = 11 ∨ j = 12 ∨ j = 13 ∨ j = 14 ∨ j = 15 := by omega
    rcases hc with rfl | rfl | rfl | rfl | rfl | rfl | rfl | rfl | rfl | rfl | rfl | rfl | rfl | rfl | rfl | rfl <;> rfl
theorem crcStep_bits (r : Nat) (c : UInt8) : crcStep r c = bitK 8 r c.toNat := by
  rw [bit_eight]
  unfold crcStep
  rw [st4_one, st4_one]
  rfl
theorem bit1_lt {r c : Nat} (h : r < 4294967296) : bit1 r c < 4294967296 := by
  unfold bit1
  split
  · omega
  · exact xor_lt32 (by omega) (by unfold poly; omega)
theorem bitK_lt {r c : Nat} (h : r < 4294967296) : ∀ k, bitK k r c < 4294967296
  | 0 => h
  | k + 1 => bit1_lt (bitK_lt h k)
theorem bitK_succ (k r c : Nat) : bitK (k + 1) r c = bit1 (bitK k r c) (c / 2 ^ k) := rfl
set_option maxHeartbeats 1000000 in
theorem refCrc_any (s : ByteArray) (w : World) (hs : s.size ≤ 9223372036854775806) :
    Calls Tryz.prog 63 #[.string s] w fun e w' => e = .returned (.int .u64 ((4294967295 - crcR s.data.toList : Nat) : Int)) ∧ w = w' := by
  go_enter Tryz.func63, Tryz.ntmps63
  go_wp2
  go_loop [3, 4] (fun h i => ∃ k : Nat, k ≤ s.size ∧ i = .int .i64 k ∧ h = .int .u64 ((crcR (s.data.toList.take k) : Nat) : Int)) (fun _ i => s.size - (intOf i).toNat)
  case atStart => exact ⟨0, Nat.zero_le _, rfl, rfl⟩
  case round =>
    obtain ⟨k, hk, rfl, rfl⟩ := hrel
    have hr := crcR_lt (s.data.toList.take k)
    by_cases hlt : k < s.size
    · have HS := Lib.hid (crcR_snoc (s.data.toList.take k) s[k])
      have HT := Lib.hid (take_snoc s hlt)
      have HB := Lib.hid (crcStep_bits (crcR (s.data.toList.take k)) s[k])
      generalize crcR (s.data.toList.take k) = r at *
      have hc64 := wrap64_byte s[k]
      go_wp2
      go_loop [3, 5, 6] (fun R C i => ∃ m : Nat, m ≤ 8 ∧ i = .int .i64 m ∧ R = .int .u64 ((bitK m r s[k].toNat : Nat) : Int) ∧ C = .int .u64 ((s[k].toNat / 2 ^ m : Nat) : Int)) (fun _ _ i => 8 - (intOf i).toNat)
      case atStart => exact ⟨0, by omega, rfl, rfl, by simp⟩
      case round =>
        obtain ⟨m, hm, rfl, rfl, rfl⟩ := hrel
        by_cases hm8 : m < 8
        · have hR := bitK_lt (c := s[k].toNat) hr m
          have HK := Lib.hid (bitK_succ m r s[k].toNat)
          have HC := Lib.hid (show s[k].toNat / 2 ^ (m + 1) = s[k].toNat / 2 ^ m / 2 by rw [Nat.div_div_eq_div_mul, Nat.pow_succ])
          have hC : s[k].toNat / 2 ^ m ≤ 255 := Nat.le_trans (Nat.div_le_self _ _) (by have := s[k].toNat_lt; omega)
          generalize bitK m r s[k].toNat = R at *
          generalize s[k].toNat / 2 ^ m = C at *
          have e1 : bits .xor .u64 ((R : Int) / 2) 3988292384 = ((R / 2 ^^^ poly : Nat) : Int) := by
            rw [show ((R : Int) / 2) = ((R / 2 : Nat) : Int) by omega]
            exact u64_xor_nat (R / 2) poly (by omega) (by unfold poly; omega)
          by_cases hd : R % 2 = C % 2
          · have e2 : ((R : Int) % 2 != (C : Int) % 2) = false := by simp; omega
            have HB1 := Lib.hid (show bit1 R C = R / 2 by unfold bit1; rw [if_pos hd])
            clear hd
            go_wp2
            go_round
            case rel => exact ⟨m + 1, by omega, by go_num, by rw [HK.out, HB1.out]; go_num, by rw [HC.out]; go_num⟩
            case measure => simp [intOf]; omega
          · have e2 : ((R : Int) % 2 != (C : Int) % 2) = true := by simp; omega
            have HB1 := Lib.hid (show bit1 R C = R / 2 ^^^ poly by unfold bit1; rw [if_neg hd])
            clear hd
            go_wp2
            go_round
            case rel => exact ⟨m + 1, by omega, by go_num, by rw [HK.out, HB1.out], by rw [HC.out]; go_num⟩
            case measure => simp [intOf]; omega
        · obtain rfl : m = 8 := by omega
          go_wp2
          go_round
          case rel => exact ⟨k + 1, hlt, by go_num, by rw [HT.out, HS.out, HB.out]⟩
          case measure => simp [intOf]; omega
    · go_wp2
      go_ret
      exact ⟨ret_int (by have := crcR_lt s.data.toList; rw [List.take_of_length_le (by simp; omega)]; omega), rfl⟩
end Go.Proofs.YtpfkddbhpoeknaaGreatDoor
