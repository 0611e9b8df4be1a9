/- Spans of time, plain: their texts and what is read of texts. No program in sight. -/
import Derived.Test.YtlljocgcpaoenaaDoorDec
namespace Go.Proofs.YtlljocgcpaoenaaDoor
open Go

def unitN (b : UInt8) : Nat := if b = 72 then 3600000 else if b = 77 then 60000 else if b = 83 then 1000 else if b = 109 then 1 else 0
/-- the length of the unit with an index, and its letter. -/
def unitAt (i : Nat) : Nat := match i with | 0 => 3600000 | 1 => 60000 | 2 => 1000 | _ => 1
def letAt (i : Nat) : UInt8 := match i with | 0 => 72 | 1 => 77 | 2 => 83 | _ => 109
/-- the index of the greatest unit that divides n. -/
def unitOf (n : Nat) : Nat := if n % 3600000 = 0 then 0 else if n % 60000 = 0 then 1 else if n % 1000 = 0 then 2 else 3
def spanN (n : Nat) : List UInt8 := if n = 0 then [48, 109] else Lib.decDigits (n / unitAt (unitOf n)) ++ [letAt (unitOf n)]
def spanL (ms : Int) : List UInt8 := if ms < 0 ∨ 1099511627776 < ms then [] else spanN ms.toNat
theorem unit_div (n : Nat) : n % unitAt (unitOf n) = 0 := by
  unfold unitOf; split
  · assumption
  · split
    · assumption
    · split
      · assumption
      · exact Nat.mod_one n
theorem unit_let (i : Nat) (h : i < 4) : unitN (letAt i) = unitAt i := by
  have : i = 0 ∨ i = 1 ∨ i = 2 ∨ i = 3 := by omega
  rcases this with rfl | rfl | rfl | rfl <;> rfl
theorem unitOf_lt (n : Nat) : unitOf n < 4 := by unfold unitOf; (repeat' split) <;> omega
def parseDB (d : List UInt8) (b : UInt8) (l : List UInt8) : Nat × Int :=
  if unitN b = 0 ∨ decOk d = false then (0, 2) else if 1099511627776 < valN d * unitN b then (0, 6) else if spanN (valN d * unitN b) ≠ l then (0, 2) else (valN d * unitN b, 0)
def parseSp (l : List UInt8) : Nat × Int := if l = [] then (0, 2) else parseDB (l.take (l.length - 1)) (l.getD (l.length - 1) 0) l
theorem parseSp_snoc (d : List UInt8) (b : UInt8) : parseSp (d ++ [b]) = parseDB d b (d ++ [b]) := by
  unfold parseSp
  rw [if_neg (by simp)]
  congr 1
  · simp
  · simp
/-- a span is read again. -/
theorem parse_span (n : Nat) (h : n ≤ 1099511627776) : parseSp (spanN n) = (n, 0) := by
  by_cases h0 : n = 0
  · subst h0; decide
  · have e : spanN n = Lib.decDigits (n / unitAt (unitOf n)) ++ [letAt (unitOf n)] := by unfold spanN; rw [if_neg h0]
    rw [e, parseSp_snoc]
    unfold parseDB
    have hu := unit_let _ (unitOf_lt n)
    have hp : 0 < unitAt (unitOf n) := by unfold unitAt; split <;> omega
    have hv : valN (Lib.decDigits (n / unitAt (unitOf n))) * unitAt (unitOf n) = n := by
      rw [dec_val]; exact Nat.div_mul_cancel (Nat.dvd_of_mod_eq_zero (unit_div n))
    rw [hu, decOk_dec, hv, if_neg (by simp; omega), if_neg (by omega), ← e, if_neg (by simp)]
theorem parse_code (l : List UInt8) : (parseSp l).2 = 0 ∨ (parseSp l) = (0, 2) ∨ (parseSp l) = (0, 6) := by
  unfold parseSp parseDB
  (repeat' split) <;> simp
theorem parse_ok (l : List UInt8) (h : (parseSp l).2 = 0) : (parseSp l).1 ≤ 1099511627776 ∧ spanN (parseSp l).1 = l := by
  unfold parseSp parseDB at *
  split at h
  · cases h
  · rename_i h1
    rw [if_neg h1]
    split at h
    · cases h
    · rename_i h2
      rw [if_neg h2]
      split at h
      · cases h
      · rename_i h3
        rw [if_neg h3]
        split at h
        · cases h
        · rename_i h4
          rw [if_neg h4]
          exact ⟨by omega, by simpa using h4⟩
theorem spanL_nat (n : Nat) (h : n ≤ 1099511627776) : spanL (n : Int) = spanN n := by
  unfold spanL; rw [if_neg (by omega)]; simp
/-- the reference's sum stops growing behind the greatest time. -/
def satF (a : Nat) (l : List UInt8) : Nat := l.foldl (fun a c => if a ≤ 1099511627776 then a * 10 + (c.toNat - 48) else a) a
theorem satF_cons (a : Nat) (c : UInt8) (l : List UInt8) : satF a (c :: l) = satF (if a ≤ 1099511627776 then a * 10 + (c.toNat - 48) else a) l := by unfold satF; rw [List.foldl_cons]
theorem sat_val : ∀ (l : List UInt8) (a v : Nat), ((v ≤ 1099511627776 ∧ a = v) ∨ (1099511627776 < v ∧ 1099511627776 < a)) → ((valF v l ≤ 1099511627776 ∧ satF a l = valF v l) ∨ (1099511627776 < valF v l ∧ 1099511627776 < satF a l))
  | [], a, v, h => h
  | c :: l, a, v, h => by
    rw [satF_cons, valF_cons]
    refine sat_val l _ _ ?_
    split <;> omega
end Go.Proofs.YtlljocgcpaoenaaDoor
