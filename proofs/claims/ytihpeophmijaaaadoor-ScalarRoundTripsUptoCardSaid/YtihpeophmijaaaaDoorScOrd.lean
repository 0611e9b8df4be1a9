/- Scalar values: what the laws say of the comparison, in plain terms. -/
import Derived.Test.YtihpeophmijaaaaDoorSc1
namespace Go.Proofs.YtihpeophmijaaaaDoor.Y
open Go.RowKit
theorem normS_bd (k b : Int) (h : 0 ≤ b ∧ b < 18446744073709551616) : 0 ≤ normS k b ∧ normS k b < 18446744073709551616 := by
  unfold normS; split <;> omega
theorem fits_norm (q k b : Int) (t : ByteArray) (n : Nat) : fitsS q k (normS k b) t n = fitsS q k b t n := by
  unfold normS
  split
  · rename_i h
    obtain ⟨rfl, h⟩ := h
    unfold fitsS leanS withinS txS
    by_cases hq : (6 : Int) = q
    · subst hq; simp
    · have : ((6 : Int) == q) = false := by simpa using hq
      simp [this]
  · rfl
theorem cmpI_neg (a b : Int) : cmpI b a = - cmpI a b := by unfold cmpI; (repeat' split) <;> omega
theorem cmpI_rng (a b : Int) : cmpI a b = -1 ∨ cmpI a b = 0 ∨ cmpI a b = 1 := by unfold cmpI; (repeat' split) <;> omega
theorem cmpI_zero (a b : Int) : cmpI a b = 0 ↔ a = b := by unfold cmpI; (repeat' split) <;> omega
theorem cmpT_neg (a b : ByteArray) : cmpT b a = - cmpT a b := by
  have := strLt_tri a b
  unfold cmpT; grind
theorem cmpT_rng (a b : ByteArray) : cmpT a b = -1 ∨ cmpT a b = 0 ∨ cmpT a b = 1 := by unfold cmpT; (repeat' split) <;> omega
theorem cmpT_zero (a b : ByteArray) : cmpT a b = 0 ↔ (a.toList == b.toList) = true := by
  have := strLt_tri a b
  unfold cmpT; grind
theorem less_trans : ∀ a b c : List UInt8, Op.bytesLess a b = true → Op.bytesLess b c = true → Op.bytesLess a c = true
  | [], [], _, h, _ => by simp [Op.bytesLess] at h
  | [], _ :: _, [], _, h => by simp [Op.bytesLess] at h
  | [], _ :: _, _ :: _, _, _ => rfl
  | _ :: _, [], _, h, _ => by simp [Op.bytesLess] at h
  | _ :: _, _ :: _, [], _, h => by simp [Op.bytesLess] at h
  | x :: a, y :: b, z :: c, h1, h2 => by
    have ih := less_trans a b c
    simp only [Op.bytesLess] at h1 h2 ⊢
    have e1 : (x < y) = (x.toNat < y.toNat) := rfl
    have e2 : (y < z) = (y.toNat < z.toNat) := rfl
    have e3 : (x < z) = (x.toNat < z.toNat) := rfl
    have e4 : (y < x) = (y.toNat < x.toNat) := rfl
    have e5 : (z < y) = (z.toNat < y.toNat) := rfl
    have e6 : (z < x) = (z.toNat < x.toNat) := rfl
    have f1 : (x = y) = (x.toNat = y.toNat) := by rw [UInt8.toNat_inj]
    have f2 : (y = z) = (y.toNat = z.toNat) := by rw [UInt8.toNat_inj]
    have f3 : (x = z) = (x.toNat = z.toNat) := by rw [UInt8.toNat_inj]
    grind
theorem cmpS_neg (ka ba kb bb : Int) (ta tb : ByteArray) : cmpS kb bb tb ka ba ta = - cmpS ka ba ta kb bb tb := by
  have h1 := cmpI_neg ka kb
  have h2 := cmpT_neg ta tb
  have h3 := cmpI_neg (IntKind.i64.wrap ba) (IntKind.i64.wrap bb)
  have h4 := cmpI_neg (placeS ba) (placeS bb)
  have h5 := cmpI_neg ba bb
  unfold cmpS
  grind
theorem cmpS_rng (ka ba kb bb : Int) (ta tb : ByteArray) : cmpS ka ba ta kb bb tb = -1 ∨ cmpS ka ba ta kb bb tb = 0 ∨ cmpS ka ba ta kb bb tb = 1 := by
  have h1 := cmpI_rng ka kb
  have h2 := cmpT_rng ta tb
  have h3 := cmpI_rng (IntKind.i64.wrap ba) (IntKind.i64.wrap bb)
  have h4 := cmpI_rng (placeS ba) (placeS bb)
  have h5 := cmpI_rng ba bb
  unfold cmpS
  grind
theorem place_norm (b : Int) : placeS (normS 6 b) = placeS b := by
  have := class_norm b
  unfold placeS
  rw [this]
  unfold normS
  grind
theorem norm_other {k b : Int} (h : k ≠ 6) : normS k b = b := by unfold normS; rw [if_neg (fun e => h e.1)]
theorem cmpS_norm (ka ba kb bb : Int) (ta tb : ByteArray) : cmpS ka (normS ka ba) ta kb (normS kb bb) tb = cmpS ka ba ta kb bb tb := by
  unfold cmpS
  by_cases h : ka ≠ kb
  · rw [if_pos h, if_pos h]
  · have : ka = kb := Classical.not_not.1 h
    subst this
    by_cases h6 : ka = 6
    · subst h6; rw [place_norm, place_norm]; simp
    · rw [norm_other h6, norm_other h6]
theorem cmpS_self (k b : Int) (t : ByteArray) : cmpS k b t k (normS k b) t = 0 := by
  have h1 : ∀ x, cmpI x x = 0 := fun x => (cmpI_zero x x).2 rfl
  have h2 : cmpT t t = 0 := (cmpT_zero t t).2 (by simp)
  unfold cmpS
  by_cases h6 : k = 6
  · subst h6; rw [place_norm]; simp [h1, h2]
  · rw [norm_other h6]; simp [h1, h2]
theorem wrap_neg {c : Int} (h : c = -1 ∨ c = 0 ∨ c = 1) : IntKind.i64.wrap (0 - c) = - c := by
  rw [IntWalk.i64_in _ (by omega)]; omega
theorem trans_I (a b c : Int) : (cmpI a b ≤ 0 → cmpI b c ≤ 0 → cmpI a c ≤ max (cmpI a b) (cmpI b c)) ∧ (cmpI a b ≤ 0 → cmpI b c ≤ 0 → cmpI a b + cmpI b c < 0 → cmpI a c = -1) := by
  unfold cmpI
  constructor <;> (repeat' split) <;> omega
theorem trans_T (a b c : ByteArray) : (cmpT a b ≤ 0 → cmpT b c ≤ 0 → cmpT a c ≤ max (cmpT a b) (cmpT b c)) ∧ (cmpT a b ≤ 0 → cmpT b c ≤ 0 → cmpT a b + cmpT b c < 0 → cmpT a c = -1) := by
  have h1 := strLt_tri a b
  have h2 := strLt_tri b c
  have h3 := strLt_tri a c
  have h4 : strLt a b = true → strLt b c = true → strLt a c = true := less_trans _ _ _
  have e1 : (a.toList == b.toList) = true → a = b := fun h => by
    rw [ByteArray.toList_eq, ByteArray.toList_eq] at h
    exact ByteArray.ext (Array.ext' (by simpa using h))
  have e2 : (b.toList == c.toList) = true → b = c := fun h => by
    rw [ByteArray.toList_eq, ByteArray.toList_eq] at h
    exact ByteArray.ext (Array.ext' (by simpa using h))
  by_cases f1 : (a.toList == b.toList) = true
  · obtain rfl := e1 f1
    unfold cmpT
    constructor <;> (repeat' split) <;> first | omega | grind
  · by_cases f2 : (b.toList == c.toList) = true
    · obtain rfl := e2 f2
      unfold cmpT
      constructor <;> (repeat' split) <;> first | omega | grind
    · unfold cmpT
      constructor <;> (repeat' split) <;> first | omega | grind
theorem cmpS_trans (ka ba kb bb kc bc : Int) (ta tb tc : ByteArray) : (cmpS ka ba ta kb bb tb ≤ 0 → cmpS kb bb tb kc bc tc ≤ 0 → cmpS ka ba ta kc bc tc ≤ max (cmpS ka ba ta kb bb tb) (cmpS kb bb tb kc bc tc)) ∧ (cmpS ka ba ta kb bb tb ≤ 0 → cmpS kb bb tb kc bc tc ≤ 0 → cmpS ka ba ta kb bb tb + cmpS kb bb tb kc bc tc < 0 → cmpS ka ba ta kc bc tc = -1) := by
  by_cases h1 : ka = kb
  · by_cases h2 : kb = kc
    · subst h1; subst h2
      have t1 := trans_T ta tb tc
      have t2 := trans_I (IntKind.i64.wrap ba) (IntKind.i64.wrap bb) (IntKind.i64.wrap bc)
      have t3 := trans_I (placeS ba) (placeS bb) (placeS bc)
      have t4 := trans_I ba bb bc
      unfold cmpS
      simp only [ne_eq, not_true_eq_false, if_false]
      (repeat' split) <;> first | assumption | (constructor <;> omega)
    · subst h1
      have r := cmpS_rng ka ba ka bb ta tb
      have e : ∀ x t, cmpS ka x t kc bc tc = cmpI ka kc := fun x t => by unfold cmpS; rw [if_pos h2]
      rw [e, e]
      have := cmpI_rng ka kc
      have := cmpI_zero ka kc
      constructor <;> omega
  · have e1 : cmpS ka ba ta kb bb tb = cmpI ka kb := by unfold cmpS; rw [if_pos h1]
    by_cases h2 : kb = kc
    · subst h2
      have r := cmpS_rng kb bb kb bc tb tc
      have e : cmpS ka ba ta kb bc tc = cmpI ka kb := by unfold cmpS; rw [if_pos h1]
      rw [e, e1]
      have := cmpI_rng ka kb
      have := cmpI_zero ka kb
      constructor <;> omega
    · have e2 : cmpS kb bb tb kc bc tc = cmpI kb kc := by unfold cmpS; rw [if_pos h2]
      rw [e1, e2]
      have t := trans_I ka kb kc
      have z1 := cmpI_zero ka kb
      have z2 := cmpI_zero kb kc
      have g1 := cmpI_rng ka kb
      have g2 := cmpI_rng kb kc
      have e3 : cmpI ka kb ≤ 0 → cmpI kb kc ≤ 0 → cmpS ka ba ta kc bc tc = -1 := by
        intro a1 a2
        have a3 := t.2 a1 a2 (by omega)
        have : ka ≠ kc := by intro e; rw [(cmpI_zero ka kc).2 e] at a3; omega
        unfold cmpS; rw [if_pos this]; exact a3
      constructor
      · intro a1 a2; rw [e3 a1 a2]; omega
      · intro a1 a2 _; exact e3 a1 a2
theorem place_eq (a b : Int) (ha : 0 ≤ a ∧ a < 18446744073709551616) (hb : 0 ≤ b ∧ b < 18446744073709551616) : placeS a = placeS b ↔ normS 6 a = normS 6 b := by
  have cl : ∀ x, classS x = 0 ↔ 9218868437227405312 < x % 9223372036854775808 := fun x => by unfold classS; (repeat' split) <;> simp_all
  have np : ∀ x, classS x = 0 → placeS x = 18446744073709551615 ∧ normS 6 x = 9221120237041090560 := fun x h => ⟨by unfold placeS; rw [if_pos h], by unfold normS; rw [if_pos ⟨rfl, h⟩]⟩
  have nn : ∀ x, classS x ≠ 0 → placeS x = (if 9223372036854775808 ≤ x then 18446744073709551615 - x else x + 9223372036854775808) ∧ normS 6 x = x := fun x h => ⟨by unfold placeS; rw [if_neg h], by unfold normS; rw [if_neg (fun e => h e.2)]⟩
  have nan : classS 9221120237041090560 = 0 := by decide
  by_cases d1 : classS a = 0 <;> by_cases d2 : classS b = 0
  · rw [(np a d1).1, (np a d1).2, (np b d2).1, (np b d2).2]; simp
  · have k2 : ¬ 9218868437227405312 < b % 9223372036854775808 := fun h => d2 ((cl b).2 h)
    rw [(np a d1).1, (np a d1).2, (nn b d2).1, (nn b d2).2]
    constructor
    · intro h; exfalso; split at h <;> omega
    · intro h; exfalso; rw [← h] at d2; exact d2 nan
  · have k1 : ¬ 9218868437227405312 < a % 9223372036854775808 := fun h => d1 ((cl a).2 h)
    rw [(nn a d1).1, (nn a d1).2, (np b d2).1, (np b d2).2]
    constructor
    · intro h; exfalso; split at h <;> omega
    · intro h; exfalso; rw [h] at d1; exact d1 nan
  · rw [(nn a d1).1, (nn a d1).2, (nn b d2).1, (nn b d2).2]
    (repeat' split) <;> omega
theorem cmp_same (ka ba kb bb : Int) (ta tb : ByteArray) (l1 p1 s1 r1 l2 p2 s2 r2 : Nat) (ha : 0 ≤ ba ∧ ba < 18446744073709551616) (hb : 0 ≤ bb ∧ bb < 18446744073709551616) (fa : fitsS ka ka ba ta (l1 + p1 + s1 + r1) = true) (fb : fitsS kb kb bb tb (l2 + p2 + s2 + r2) = true) :
    (cmpS ka ba ta kb bb tb == 0) = (ka == kb && normS ka ba == normS kb bb && ta.toList == tb.toList && ((l1 : Int) == (l2 : Int)) && ((p1 : Int) == (p2 : Int)) && ((s1 : Int) == (s2 : Int)) && ((r1 : Int) == (r2 : Int))) := by
  simp only [fitsS, leanS, Bool.and_eq_true, beq_iff_eq] at fa fb
  obtain ⟨⟨⟨⟨⟨f1, _⟩, f2, f3⟩, _⟩, _⟩, _⟩ := fa
  obtain ⟨⟨⟨⟨⟨g1, _⟩, g2, g3⟩, _⟩, _⟩, _⟩ := fb
  have hl : l1 = 0 ∧ p1 = 0 ∧ s1 = 0 ∧ r1 = 0 ∧ l2 = 0 ∧ p2 = 0 ∧ s2 = 0 ∧ r2 = 0 := by omega
  obtain ⟨rfl, rfl, rfl, rfl, rfl, rfl, rfl, rfl⟩ := hl
  have emp : ∀ x y : ByteArray, x.size = 0 → y.size = 0 → (x.toList == y.toList) = true := by
    intro x y h1 h2
    rw [ByteArray.toList_eq, ByteArray.toList_eq]
    have e1 : x.data.toList = [] := List.length_eq_zero_iff.1 (by simpa using h1)
    have e2 : y.data.toList = [] := List.length_eq_zero_iff.1 (by simpa using h2)
    rw [e1, e2]; rfl
  by_cases h : ka = kb
  · subst h
    unfold cmpS
    rw [if_neg (fun e => e rfl), if_neg (by rw [f1]; simp)]
    by_cases ht : txS ka = true
    · rw [if_pos ht] at f3 g3 ⊢
      obtain rfl := (by simpa using f3)
      obtain rfl := (by simpa using g3)
      have := cmpT_zero ta tb
      rw [Bool.eq_iff_iff]; simp only [beq_iff_eq] at *; simp [this]
    · rw [if_neg ht] at f3 g3 ⊢
      have := emp ta tb (by simpa using f3) (by simpa using g3)
      rw [this]
      by_cases h23 : ka = 2 ∨ ka = 3
      · rw [if_pos h23, norm_other (by omega), norm_other (by omega)]
        have z := cmpI_zero (IntKind.i64.wrap ba) (IntKind.i64.wrap bb)
        have e1 := toI ba ha
        have e2 := toI bb hb
        rw [Bool.eq_iff_iff]; simp only [beq_iff_eq, z]; simp
        rw [e1, e2]; constructor
        · intro h; (repeat' split at h) <;> omega
        · intro h; rw [h]
      · rw [if_neg h23]
        by_cases h6 : ka = 6
        · subst h6
          rw [if_pos rfl]
          have z := cmpI_zero (placeS ba) (placeS bb)
          have p := place_eq ba bb ha hb
          rw [Bool.eq_iff_iff]; simp only [beq_iff_eq, z, p]; simp
        · rw [if_neg h6, norm_other h6, norm_other h6]
          have z := cmpI_zero ba bb
          rw [Bool.eq_iff_iff]; simp only [beq_iff_eq, z]; simp
  · have hk : (ka == kb) = false := by simpa using h
    unfold cmpS
    rw [if_pos h, hk]
    have := cmpI_zero ka kb
    have hz : cmpI ka kb ≠ 0 := fun e => h (this.1 e)
    simp [hz]
end Go.Proofs.YtihpeophmijaaaaDoor.Y
