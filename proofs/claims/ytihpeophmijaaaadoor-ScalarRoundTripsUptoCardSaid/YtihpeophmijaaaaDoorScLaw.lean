/- Scalar values, in plain terms. No program. -/
import Derived.Test.YtihpeophmijaaaaDoorUtfLaw
import Derived.WalkKit
import Derived.Laws.BitsAllLaws
import Derived.Laws.Bits64
namespace Go.Proofs.YtihpeophmijaaaaDoor.Y
open Go.RowKit
def isS (k : Int) : Bool := decide (1 ≤ k) && decide (k ≤ 9)
def txS (k : Int) : Bool := k == 7 || k == 8
def leanS (k b : Int) (t : ByteArray) (n : Nat) : Bool := n == 0 && (if txS k then b == 0 else t.size == 0)
def withinS (k b : Int) : Bool := if k = 1 then decide (b ≤ 1) else if k = 2 then decide (-2147483648 ≤ IntKind.i64.wrap b) && decide (IntKind.i64.wrap b ≤ 2147483647) else if k = 9 then decide (b ≤ 2147483647) else if k = 4 then decide (b ≤ 4294967295) else true
def fitsS (kind k b : Int) (t : ByteArray) (n : Nat) : Bool := isS kind && (k == kind) && leanS k b t n && withinS kind b && decide (t.size ≤ 4096) && (kind != 7 || validS t)
/-- 0: no number, 1: infinite, 2: zero, 3: subnormal, 4: normal. -/
def classS (b : Int) : Int := if 9218868437227405312 < b % 9223372036854775808 then 0 else if b % 9223372036854775808 = 9218868437227405312 then 1 else if b % 9223372036854775808 = 0 then 2 else if b % 9223372036854775808 < 4503599627370496 then 3 else 4
def normS (k b : Int) : Int := if k = 6 ∧ classS b = 0 then 9221120237041090560 else b
theorem and_frac (b : Int) (h : 0 ≤ b ∧ b < 18446744073709551616) : bits .and .u64 b 4503599627370495 = b % 4503599627370496 := by
  obtain ⟨n, rfl⟩ : ∃ n : Nat, b = n := ⟨b.toNat, by omega⟩
  have h1 := u64_and_nat n 4503599627370495 (by omega) (by omega)
  have h2 : n &&& 4503599627370495 = n % 4503599627370496 := Nat.and_two_pow_sub_one_eq_mod n 52
  rw [h2] at h1
  have e : ((4503599627370495 : Nat) : Int) = 4503599627370495 := rfl
  rw [e] at h1
  rw [h1]; omega
theorem and_expo (b : Int) (h : 0 ≤ b ∧ b < 18446744073709551616) : bits .and .u64 b 9218868437227405312 = b % 9223372036854775808 - b % 4503599627370496 := by
  obtain ⟨n, rfl⟩ : ∃ n : Nat, b = n := ⟨b.toNat, by omega⟩
  have h1 := u64_and_nat n 9218868437227405312 (by omega) (by omega)
  have h2 : n &&& 9218868437227405312 = n % 9223372036854775808 - n % 4503599627370496 := by
    have e1 : n = (n / 4503599627370496) * 4503599627370496 + n % 4503599627370496 := by omega
    have e2 : n &&& 9218868437227405312 = ((n >>> 52) &&& 2047) <<< 52 := by
      apply Nat.eq_of_testBit_eq
      intro i
      rw [Nat.testBit_and, Nat.testBit_shiftLeft, Nat.testBit_and, Nat.testBit_shiftRight]
      have e3 : (9218868437227405312 : Nat) = 2047 <<< 52 := by decide
      rw [e3, Nat.testBit_shiftLeft]
      by_cases hi : 52 ≤ i
      · simp [hi, show 52 + (i - 52) = i by omega]
      · simp [hi]
    rw [e2, Nat.shiftRight_eq_div_pow, Nat.shiftLeft_eq]
    have e4 : (n / 2 ^ 52) &&& 2047 = (n / 2 ^ 52) % 2048 := Nat.and_two_pow_sub_one_eq_mod (n / 2 ^ 52) 11
    rw [e4]
    have e5 : (2 : Nat) ^ 52 = 4503599627370496 := by decide
    rw [e5]; omega
  rw [h2] at h1
  have e : ((9218868437227405312 : Nat) : Int) = 9218868437227405312 := rfl
  rw [e] at h1
  rw [h1]; omega
theorem and_sign (b : Int) (h : 0 ≤ b ∧ b < 18446744073709551616) : bits .and .u64 b 9223372036854775808 = if 9223372036854775808 ≤ b then 9223372036854775808 else 0 := by
  obtain ⟨n, rfl⟩ : ∃ n : Nat, b = n := ⟨b.toNat, by omega⟩
  have h1 := u64_and_nat n 9223372036854775808 (by omega) (by omega)
  have h2 : n &&& 9223372036854775808 = if 9223372036854775808 ≤ n then 9223372036854775808 else 0 := by
    have e2 : n &&& 9223372036854775808 = ((n >>> 63) &&& 1) <<< 63 := by
      apply Nat.eq_of_testBit_eq
      intro i
      rw [Nat.testBit_and, Nat.testBit_shiftLeft, Nat.testBit_and, Nat.testBit_shiftRight]
      have e3 : (9223372036854775808 : Nat) = 1 <<< 63 := by decide
      rw [e3, Nat.testBit_shiftLeft]
      by_cases hi : 63 ≤ i
      · simp [hi, show 63 + (i - 63) = i by omega]
      · simp [hi]
    rw [e2, Nat.shiftRight_eq_div_pow, Nat.shiftLeft_eq]
    have e4 : (n / 2 ^ 63) &&& 1 = (n / 2 ^ 63) % 2 := Nat.and_two_pow_sub_one_eq_mod (n / 2 ^ 63) 1
    rw [e4]
    have e5 : (2 : Nat) ^ 63 = 9223372036854775808 := by decide
    rw [e5]; split <;> omega
  rw [h2] at h1
  have e : ((9223372036854775808 : Nat) : Int) = 9223372036854775808 := rfl
  rw [e] at h1
  rw [h1]
  split <;> split <;> omega
theorem class_prog (b : Int) (_ : 0 ≤ b ∧ b < 18446744073709551616) : classS b = if b % 9223372036854775808 - b % 4503599627370496 = 9218868437227405312 ∧ b % 4503599627370496 ≠ 0 then 0 else if b % 9223372036854775808 - b % 4503599627370496 = 9218868437227405312 then 1 else if b % 9223372036854775808 - b % 4503599627370496 = 0 ∧ b % 4503599627370496 = 0 then 2 else if b % 9223372036854775808 - b % 4503599627370496 = 0 then 3 else 4 := by
  unfold classS
  (repeat' split) <;> first | rfl | omega
theorem class_norm (b : Int) : classS (normS 6 b) = classS b := by
  unfold normS
  split
  · rename_i h; rw [h.2]; decide
  · rfl
theorem norm_norm (k b : Int) : normS k (normS k b) = normS k b := by
  unfold normS
  by_cases h : k = 6 ∧ classS b = 0
  · rw [if_pos h]; split <;> rfl
  · rw [if_neg h, if_neg h]
/-- numbers in the order of the doubles. -/
def placeS (b : Int) : Int := if classS b = 0 then 18446744073709551615 else if 9223372036854775808 ≤ b then 18446744073709551615 - b else b + 9223372036854775808
def cmpI (a b : Int) : Int := if a < b then -1 else if b < a then 1 else 0
def strLt (a b : ByteArray) : Bool := Op.bytesLess a.toList b.toList
def cmpT (a b : ByteArray) : Int := if strLt a b = true then -1 else if strLt b a = true then 1 else 0
def intS (k b : Int) : Int := if isS k && !(k == 6) && !txS k then IntKind.i64.wrap b else 0
def cmpS (ka ba : Int) (ta : ByteArray) (kb bb : Int) (tb : ByteArray) : Int :=
  if ka ≠ kb then cmpI ka kb else if isS ka = false then 0 else if txS ka = true then cmpT ta tb else if ka = 2 ∨ ka = 3 then cmpI (IntKind.i64.wrap ba) (IntKind.i64.wrap bb) else if ka = 6 then cmpI (placeS ba) (placeS bb) else cmpI ba bb
end Go.Proofs.YtihpeophmijaaaaDoor.Y
