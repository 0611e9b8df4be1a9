/- Decimal numerals, plain: their value, and how the library's parse of them ends. No program in sight. -/
import Derived.Lib.AtoiAll
import Derived.Lib.AtoiAllCases
import Derived.Lib.ItoaNum
import Derived.Lib.Hide
namespace Go.Proofs.YtiodkdafoocofaaGreatDoor
open Go

def isDig (c : UInt8) : Bool := decide (48 ≤ c.toNat) && decide (c.toNat ≤ 57)
def valF (acc : Nat) (l : List UInt8) : Nat := l.foldl (fun a c => a * 10 + (c.toNat - 48)) acc
def valN (l : List UInt8) : Nat := valF 0 l
theorem valF_cons (a : Nat) (c : UInt8) (l : List UInt8) : valF a (c :: l) = valF (a * 10 + (c.toNat - 48)) l := by unfold valF; rw [List.foldl_cons]
theorem valF_snoc (a : Nat) (l : List UInt8) (c : UInt8) : valF a (l ++ [c]) = valF a l * 10 + (c.toNat - 48) := by simp [valF]
theorem valF_le : ∀ (l : List UInt8) (a : Nat), a ≤ valF a l
  | [], a => Nat.le_refl _
  | c :: l, a => by rw [valF_cons]; have := valF_le l (a * 10 + (c.toNat - 48)); omega
theorem isDig_iff (c : UInt8) : isDig c = true ↔ (48 ≤ c.toNat ∧ c.toNat ≤ 57) := by simp [isDig]
theorem parseUint10_val : ∀ (l : List UInt8) (a : Nat), a < 18446744073709551616 → (l.all isDig) = true → Lib.parseUint10 a l = if valF a l < 18446744073709551616 then .ok (valF a l) else .range
  | [], a, ha, _ => by rw [Lib.parseUint10, if_pos (by exact ha)]; rfl
  | c :: l, a, ha, h => by
    simp only [List.all_cons, Bool.and_eq_true, isDig_iff] at h
    have hm := valF_le l (a * 10 + (c.toNat - 48))
    rw [Lib.parseUint10, if_pos h.1, valF_cons]
    by_cases h1 : 1844674407370955162 ≤ a
    · rw [if_pos h1, if_neg (by omega)]
    · rw [if_neg h1]
      by_cases h2 : 18446744073709551616 ≤ a * 10 + (c.toNat - 48)
      · rw [if_pos h2, if_neg (by omega)]
      · rw [if_neg h2]; exact parseUint10_val l _ (by omega) h.2
theorem atoi_val (l : List UInt8) (h0 : l ≠ []) (h : (l.all isDig) = true) : Lib.atoiAll l = if valN l < 9223372036854775808 then .ok (valN l : Int) else .range := by
  cases l with
  | nil => exact absurd rfl h0
  | cons c r =>
    have hc : 48 ≤ c.toNat ∧ c.toNat ≤ 57 := by
      simp only [List.all_cons, Bool.and_eq_true, isDig_iff] at h; exact h.1
    rw [Lib.atoiAll_plain c r (by omega) (by omega)]
    unfold Lib.parseMag
    rw [if_neg h0, parseUint10_val _ 0 (by omega) h]
    unfold valN
    by_cases h1 : valF 0 (c :: r) < 18446744073709551616
    · rw [if_pos h1]
      unfold Lib.signless
      by_cases h2 : valF 0 (c :: r) < 9223372036854775808
      · simp [h2]
      · simp [h2]
    · rw [if_neg h1, if_neg (by omega)]; rfl
theorem dec_digit (d : Nat) (h : d < 10) : (UInt8.ofNat (48 + d)).toNat = 48 + d := by rw [UInt8.toNat_ofNat']; omega
theorem dec_all (u : Nat) : ((Lib.decDigits u).all isDig) = true := by
  induction u using Nat.strongRecOn with
  | ind u ih =>
    rw [Lib.decDigits]
    split
    · rename_i h
      simp only [List.all_cons, List.all_nil, Bool.and_true, isDig_iff, dec_digit u h]; omega
    · rename_i h
      rw [List.all_append, ih (u / 10) (by omega)]
      simp only [List.all_cons, List.all_nil, Bool.and_true, Bool.true_and, isDig_iff, dec_digit _ (Nat.mod_lt u (by decide : 10 > 0))]; omega
theorem dec_val (u : Nat) : valN (Lib.decDigits u) = u := by
  induction u using Nat.strongRecOn with
  | ind u ih =>
    rw [Lib.decDigits]
    split
    · rename_i h
      show 0 * 10 + ((UInt8.ofNat (48 + u)).toNat - 48) = u
      rw [dec_digit u h]; omega
    · rename_i h
      unfold valN at *
      rw [valF_snoc, ih (u / 10) (by omega), dec_digit _ (Nat.mod_lt u (by decide : 10 > 0))]; omega
theorem dec_ne (u : Nat) : Lib.decDigits u ≠ [] := by
  rw [Lib.decDigits]; split <;> simp
theorem dec_head (u : Nat) (h : 0 < u) : (Lib.decDigits u).head? ≠ some 48 := by
  induction u using Nat.strongRecOn with
  | ind u ih =>
    rw [Lib.decDigits]
    split
    · rename_i h1
      intro e
      have := congrArg UInt8.toNat (Option.some.inj e)
      rw [dec_digit u h1] at this
      have h48 : (48 : UInt8).toNat = 48 := rfl
      omega
    · rename_i h1
      have := ih (u / 10) (by omega) (by omega)
      rw [List.head?_append]
      cases hh : (Lib.decDigits (u / 10)).head? with
      | none => exact absurd (List.head?_eq_none_iff.1 hh) (dec_ne _)
      | some x => rw [hh] at this; simpa using this
/-- a decimal numeral without superfluous zeros. -/
def decOk (l : List UInt8) : Bool := !l.isEmpty && !(l.head? == some 48 && l != [48]) && l.all isDig
theorem decOk_dec (u : Nat) : decOk (Lib.decDigits u) = true := by
  unfold decOk
  rw [dec_all]
  have h1 : (Lib.decDigits u).isEmpty = false := by cases h : Lib.decDigits u with | nil => exact absurd h (dec_ne u) | cons => rfl
  rw [h1]
  by_cases hu : 0 < u
  · have := dec_head u hu
    have h2 : ((Lib.decDigits u).head? == some 48) = false := by rw [beq_eq_false_iff_ne]; exact this
    rw [h2]; rfl
  · obtain rfl : u = 0 := by omega
    have e : Lib.decDigits 0 = [48] := by rw [Lib.decDigits]; rfl
    rw [e]; rfl
theorem nDig_le (u : Nat) (k : Nat) (h : u < 10 ^ k) (hk : 0 < k) : (Lib.decDigits u).length ≤ k := by
  induction k generalizing u with
  | zero => omega
  | succ k ih =>
    rw [Lib.decDigits]
    split
    · simp
    · rename_i h1
      have hk0 : 0 < k := by
        cases k with
        | zero => simp at h; omega
        | succ => omega
      have := ih (u / 10) (by rw [Nat.div_lt_iff_lt_mul (by decide), ← Nat.pow_succ]; exact h) hk0
      simp; omega
end Go.Proofs.YtiodkdafoocofaaGreatDoor
