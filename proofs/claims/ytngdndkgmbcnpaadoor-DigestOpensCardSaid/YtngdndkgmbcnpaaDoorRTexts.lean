/- The reference's Text and Parse. -/
import Derived.Test.YtngdndkgmbcnpaaDoorDParse
namespace Go.Proofs.YtngdndkgmbcnpaaDoor
open Go.RowKit

/-- k digits of u, ahead of acc. -/
def hx : Nat → Nat → List UInt8 → List UInt8
  | 0, _, acc => acc
  | k + 1, u, acc => hx k (u / 16) (hexC (u % 16) :: acc)
theorem repeat_snoc (k : Nat) (l : List UInt8) : Lib.repeatL [48] (k + 1) ++ l = Lib.repeatL [48] k ++ 48 :: l := by
  induction k with
  | zero => rfl
  | succ k ih => rw [show Lib.repeatL [48] (k + 1 + 1) = 48 :: Lib.repeatL [48] (k + 1) from rfl, show Lib.repeatL [48] (k + 1) = 48 :: Lib.repeatL [48] k from rfl] at *; simp only [List.cons_append] at *; rw [ih]
theorem hx_pad : ∀ (n u : Nat) (acc : List UInt8), u < 16 ^ (n + 1) → hx (n + 1) u acc = Lib.repeatL [48] (n + 1 + acc.length - (hexF n u acc).length) ++ hexF n u acc
  | 0, u, acc, h => by
    simp only [hx, hexF, List.length_cons]
    rw [show 0 + 1 + acc.length - (acc.length + 1) = 0 by omega]
    rw [Nat.mod_eq_of_lt (by simpa using h)]; rfl
  | n + 1, u, acc, h => by
    rw [hx]
    by_cases hu : 16 ≤ u
    · rw [hx_pad n (u / 16) _ (by rw [Nat.div_lt_iff_lt_mul (by decide)]; rw [← Nat.pow_succ]; exact h), hexF_ge hu]
      congr 2; simp only [List.length_cons]; omega
    · rw [hexF_lt (n := n + 1) (by omega), show u / 16 = 0 by omega, Nat.mod_eq_of_lt (by omega), hx_pad n 0 _ (Nat.pow_pos (by decide)), hexF_lt (n := n) (by decide)]
      simp only [List.length_cons]
      rw [show n + 1 + (acc.length + 1) - (acc.length + 1 + 1) = n by omega, show n + 1 + 1 + acc.length - (acc.length + 1) = n + 1 by omega, repeat_snoc]
      rfl
theorem textL_hx (u : Nat) (h : u < 18446744073709551616) : textL u = hx 16 u [] := by
  rw [hx_pad 15 u [] (by simpa using h)]; rfl
theorem hx_len : ∀ (k u : Nat) (acc : List UInt8), (hx k u acc).length = k + acc.length
  | 0, _, _ => by simp [hx]
  | k + 1, u, acc => by rw [hx, hx_len k]; simp; omega
theorem hx_app : ∀ (k u : Nat) (acc : List UInt8), hx k u acc = hx k u [] ++ acc
  | 0, _, _ => rfl
  | k + 1, u, acc => by rw [hx, hx, hx_app k _ (_ :: acc), hx_app k _ [_]]; simp
/-- the value of a lower-case digit. -/
def lowV (c : UInt8) : Option Nat := if 48 ≤ c.toNat ∧ c.toNat ≤ 57 then some (c.toNat - 48) else if 97 ≤ c.toNat ∧ c.toNat ≤ 102 then some (c.toNat - 87) else none
def rp : List UInt8 → Nat → Option Nat
  | [], n => some n
  | c :: l, n => match lowV c with
    | some d => rp l (n * 16 + d)
    | none => none
def toPu : Option Nat → Nat × Int
  | some n => (n, 0)
  | none => (0, 2)
def rPu (l : List UInt8) : Nat × Int := if l.length = 16 then toPu (rp l 0) else (0, 2)
theorem lowV_hexC : ∀ d, d < 16 → lowV (hexC d) = some d := by decide
set_option maxRecDepth 20000 in
theorem lowV_some {c : UInt8} {d : Nat} (h : lowV c = some d) : d < 16 ∧ hexC d = c ∧ dig16 c = d := by
  have h2 : ∀ c : Fin 256, ∀ d, lowV (UInt8.ofNat c.1) = some d → d < 16 ∧ hexC d = UInt8.ofNat c.1 ∧ dig16 (UInt8.ofNat c.1) = d := by
    intro c d h
    have : ∀ c : Fin 256, ((lowV (UInt8.ofNat c.1)).all fun d => decide (d < 16 ∧ hexC d = UInt8.ofNat c.1 ∧ dig16 (UInt8.ofNat c.1) = d)) = true := by decide
    have := this c
    rw [h] at this
    exact of_decide_eq_true this
  have := h2 ⟨c.toNat, c.toNat_lt⟩ d
  simp only [UInt8.ofNat_toNat] at this
  exact this h
theorem rp_app : ∀ (l m : List UInt8) (n : Nat), rp (l ++ m) n = (rp l n).bind (rp m)
  | [], m, n => rfl
  | c :: l, m, n => by
    simp only [List.cons_append, rp]
    cases lowV c with
    | none => rfl
    | some d => exact rp_app l m _
theorem rp_hx : ∀ (k u n : Nat), u < 16 ^ k → rp (hx k u []) n = some (n * 16 ^ k + u)
  | 0, u, n, h => by simp at h; subst h; simp [hx, rp]
  | k + 1, u, n, h => by
    rw [hx, hx_app, rp_app, rp_hx k (u / 16) n (by rw [Nat.div_lt_iff_lt_mul (by decide), ← Nat.pow_succ]; exact h)]
    simp only [Option.bind_some, rp, lowV_hexC _ (Nat.mod_lt u (by decide))]
    congr 1
    rw [Nat.pow_succ]; have := Nat.div_add_mod u 16; rw [Nat.add_mul, Nat.mul_assoc]; omega
theorem hx_div : ∀ (k m d : Nat), d < 16 → hx (k + 1) (m * 16 + d) [] = hx k m [] ++ [hexC d]
  | k, m, d, h => by rw [hx, hx_app, show (m * 16 + d) / 16 = m by omega, show (m * 16 + d) % 16 = d by omega]
theorem rp_back : ∀ (l : List UInt8) (a n m : Nat), rp l n = some m → hx (a + l.length) m [] = hx a n [] ++ l
  | [], a, n, m, h => by simp only [rp, Option.some.injEq] at h; subst h; simp
  | c :: l, a, n, m, h => by
    rw [rp] at h
    cases hd : lowV c with
    | none => rw [hd] at h; cases h
    | some d =>
      rw [hd] at h
      obtain ⟨h1, h2, _⟩ := lowV_some hd
      have := rp_back l (a + 1) (n * 16 + d) m h
      rw [hx_div a n d h1, h2] at this
      rw [show a + (c :: l).length = a + 1 + l.length by simp only [List.length_cons]; omega, this]
      simp
theorem rp_pu : ∀ (l : List UInt8) (n m k : Nat), rp l n = some m → l.length + k = 16 → n < 16 ^ k → pu l n = (m, 0)
  | [], n, m, k, h, _, _ => by simp only [rp, Option.some.injEq] at h; subst h; rfl
  | c :: l, n, m, k, h, hk, hn => by
    rw [rp] at h
    cases hd : lowV c with
    | none => rw [hd] at h; cases h
    | some d =>
      rw [hd] at h
      obtain ⟨h1, _, h3⟩ := lowV_some hd
      simp only [List.length_cons] at hk
      have hcut : n < cut16 := by
        refine Nat.lt_of_lt_of_le hn (Nat.le_trans (Nat.pow_le_pow_right (by decide) (show k ≤ 15 by omega)) (by decide))
      rw [pu, if_neg (by omega), if_neg (by omega), h3]
      exact rp_pu l _ m (k + 1) h (by omega) (by rw [Nat.pow_succ]; omega)
theorem rp_lt : ∀ (l : List UInt8) (n m k : Nat), rp l n = some m → l.length + k = 16 → n < 16 ^ k → m < 18446744073709551616
  | [], n, m, k, h, hk, hn => by
    simp only [rp, Option.some.injEq] at h; subst h
    simp at hk; subst hk; simpa using hn
  | c :: l, n, m, k, h, hk, hn => by
    rw [rp] at h
    cases hd : lowV c with
    | none => rw [hd] at h; cases h
    | some d =>
      rw [hd] at h
      obtain ⟨h1, _, h3⟩ := lowV_some hd
      simp only [List.length_cons] at hk
      exact rp_lt l _ m (k + 1) h (by omega) (by rw [Nat.pow_succ]; omega)
theorem Pu_eq (l : List UInt8) : Pu l = rPu l := by
  unfold Pu rPu
  by_cases hl : l.length = 16
  · rw [if_pos hl]
    cases hr : rp l 0 with
    | none =>
      rw [if_neg]
      · rfl
      rintro ⟨_, h2⟩
      rw [textL_hx _ (pu16_lt l)] at h2
      have := rp_hx 16 (pu16 l).1 0 (by simpa using pu16_lt l)
      rw [h2, hr] at this
      cases this
    | some m =>
      have h1 : pu16 l = (m, 0) := by
        unfold pu16
        rw [if_neg (by intro h; subst h; simp at hl)]
        exact rp_pu l 0 m 0 hr (by omega) (by decide)
      have h2 := rp_back l 0 0 m hr
      rw [hl] at h2
      rw [h1, if_pos ⟨rfl, by rw [textL_hx m (rp_lt l 0 m 0 hr (by omega) (by decide))]; exact h2⟩]
      rfl
  · rw [if_neg hl, if_neg]
    rintro ⟨_, h2⟩
    rw [textL_hx _ (pu16_lt l)] at h2
    have := hx_len 16 (pu16 l).1 []
    rw [h2] at this
    simp at this
    exact hl this
theorem Pu_text (u : Nat) (h : u < 18446744073709551616) : Pu (textL u) = (u, 0) := by
  rw [Pu_eq, textL_hx u h]
  unfold rPu
  rw [if_pos (by rw [hx_len]; rfl), rp_hx 16 u 0 (by simpa using h)]
  simp [toPu]
theorem text_Pu (l : List UInt8) (h : (Pu l).2 = 0) : textL (Pu l).1 = l := by
  unfold Pu at *
  split at h
  · rename_i h2; rw [if_pos h2]; exact h2.2
  · cases h
end Go.Proofs.YtngdndkgmbcnpaaDoor
