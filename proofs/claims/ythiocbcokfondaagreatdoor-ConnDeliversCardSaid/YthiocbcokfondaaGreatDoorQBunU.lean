/- Texts of this claim merged into one: QUtfLaw, QIdLaw. -/
import GoSem.Core.Utf8
import Derived.Lib.Hide
import Derived.Lib.Strings
import Derived.Lib.SplitLaws
import Derived.Lib.IndexBytes
namespace Go.Proofs.YthiocbcokfondaaGreatDoor
open Go
def dj (l : List UInt8) (k : Nat) : Nat := (l.getD k 0).toNat
def pO (l : List UInt8) (k lo hi : Nat) : Bool := decide (k < l.length) && decide (lo ≤ dj l k) && decide (dj l k ≤ hi)
def cR : Nat → List UInt8 → Nat → Bool
  | 0, _, _ => true
  | n + 1, l, k => pO l k 128 191 && cR n l (k + 1)
def dZ (l : List UInt8) : Nat :=
  if dj l 0 < 128 then 1
  else if 194 ≤ dj l 0 ∧ dj l 0 ≤ 223 ∧ cR 1 l 1 = true then 2
  else if dj l 0 = 224 ∧ pO l 1 160 191 = true ∧ cR 1 l 2 = true then 3
  else if dj l 0 = 237 ∧ pO l 1 128 159 = true ∧ cR 1 l 2 = true then 3
  else if 225 ≤ dj l 0 ∧ dj l 0 ≤ 239 ∧ dj l 0 ≠ 237 ∧ cR 2 l 1 = true then 3
  else if dj l 0 = 240 ∧ pO l 1 144 191 = true ∧ cR 2 l 2 = true then 4
  else if 241 ≤ dj l 0 ∧ dj l 0 ≤ 243 ∧ cR 3 l 1 = true then 4
  else if dj l 0 = 244 ∧ pO l 1 128 143 = true ∧ cR 2 l 2 = true then 4
  else 0
theorem rm (l : List UInt8) (k : Nat) : dj l k < 256 := (l.getD k 0).toNat_lt
theorem ku (l : List UInt8) (k lo hi : Nat) : pO l k lo hi = true ↔ (k < l.length ∧ lo ≤ dj l k ∧ dj l k ≤ hi) := by simp [pO, and_assoc]
theorem mw (l : List UInt8) (k : Nat) : cR 1 l k = true ↔ (k < l.length ∧ 128 ≤ dj l k ∧ dj l k ≤ 191) := by
  simp only [cR, Bool.and_true]; exact ku _ _ _ _
theorem mx (l : List UInt8) (k : Nat) : cR 2 l k = true ↔ ((k < l.length ∧ 128 ≤ dj l k ∧ dj l k ≤ 191) ∧ (k + 1 < l.length ∧ 128 ≤ dj l (k + 1) ∧ dj l (k + 1) ≤ 191)) := by
  rw [cR, Bool.and_eq_true, mw, ku]
theorem qp (l : List UInt8) (k : Nat) : cR 3 l k = true ↔ ((k < l.length ∧ 128 ≤ dj l k ∧ dj l k ≤ 191) ∧ (k + 1 < l.length ∧ 128 ≤ dj l (k + 1) ∧ dj l (k + 1) ≤ 191) ∧ (k + 2 < l.length ∧ 128 ≤ dj l (k + 2) ∧ dj l (k + 2) ≤ 191)) := by
  rw [cR, Bool.and_eq_true, mx, ku]
def ng (l : List UInt8) (k : Nat) : Bool := decide (k < l.length) && (dj l k / 64 == 2)
def oy (l : List UInt8) : Nat × Nat :=
  if dj l 0 < 0x80 then (dj l 0, 1)
  else if dj l 0 / 32 == 6 && ng l 1 then
    if (dj l 0 % 32) * 64 + dj l 1 % 64 ≥ 0x80 then ((dj l 0 % 32) * 64 + dj l 1 % 64, 2) else (65533, 1)
  else if dj l 0 / 16 == 14 && ng l 1 && ng l 2 then
    if (dj l 0 % 16) * 4096 + (dj l 1 % 64) * 64 + dj l 2 % 64 ≥ 0x800 && Utf8.valid ((dj l 0 % 16) * 4096 + (dj l 1 % 64) * 64 + dj l 2 % 64 : Nat) then ((dj l 0 % 16) * 4096 + (dj l 1 % 64) * 64 + dj l 2 % 64, 3) else (65533, 1)
  else if dj l 0 / 8 == 30 && ng l 1 && ng l 2 && ng l 3 then
    if (dj l 0 % 8) * 262144 + (dj l 1 % 64) * 4096 + (dj l 2 % 64) * 64 + dj l 3 % 64 ≥ 0x10000 && Utf8.valid ((dj l 0 % 8) * 262144 + (dj l 1 % 64) * 4096 + (dj l 2 % 64) * 64 + dj l 3 % 64 : Nat) then ((dj l 0 % 8) * 262144 + (dj l 1 % 64) * 4096 + (dj l 2 % 64) * 64 + dj l 3 % 64, 4) else (65533, 1)
  else (65533, 1)
theorem yB (s : ByteArray) (i k : Nat) : (s.get! (i + k)).toNat = dj (s.data.toList.drop i) k := by
  unfold dj
  rw [List.getD_eq_getElem?_getD, List.getElem?_drop, Array.getElem?_toList]
  show (s.data[i + k]!).toNat = _
  rw [getElem!_def]
  cases s.data[i + k]? <;> rfl
theorem kw (s : ByteArray) (i k : Nat) : (i + k < s.size) ↔ k < (s.data.toList.drop i).length := by
  rw [List.length_drop, Array.length_toList]; show i + k < s.data.size ↔ _; omega
theorem lb (s : ByteArray) (i : Nat) : Utf8.decode s i = oy (s.data.toList.drop i) := by
  unfold Utf8.decode oy ng
  simp only [yB, kw]
  rfl
def pU (l : List UInt8) : Bool := Lib.hasPrefix l [239, 191, 189]
theorem yC (l : List UInt8) : pU l = true ↔ (2 < l.length ∧ dj l 0 = 239 ∧ dj l 1 = 191 ∧ dj l 2 = 189) := by
  unfold pU
  rcases l with _ | ⟨a, _ | ⟨b, _ | ⟨c, l⟩⟩⟩
  · simp [Lib.hasPrefix]
  · simp [Lib.hasPrefix]
  · simp [Lib.hasPrefix]
  · have h : ∀ x y : UInt8, (x == y) = decide (y.toNat = x.toNat) := fun x y => by rw [Bool.eq_iff_iff]; simp only [beq_iff_eq, decide_eq_true_eq, ← UInt8.toNat_inj]; exact eq_comm
    simp [Lib.hasPrefix, List.isPrefixOf, dj, h]
set_option maxHeartbeats 2000000 in
theorem AX (a b c d n : Nat) (h0 : a < 256) (h1 : b < 256) (h2 : c < 256) (h3 : d < 256) (z x y : Nat)
    (hz : z = if a < 128 then 1
      else if 194 ≤ a ∧ a ≤ 223 ∧ (1 < n ∧ 128 ≤ b ∧ b ≤ 191) then 2
      else if a = 224 ∧ (1 < n ∧ 160 ≤ b ∧ b ≤ 191) ∧ (2 < n ∧ 128 ≤ c ∧ c ≤ 191) then 3
      else if a = 237 ∧ (1 < n ∧ 128 ≤ b ∧ b ≤ 159) ∧ (2 < n ∧ 128 ≤ c ∧ c ≤ 191) then 3
      else if 225 ≤ a ∧ a ≤ 239 ∧ a ≠ 237 ∧ ((1 < n ∧ 128 ≤ b ∧ b ≤ 191) ∧ (2 < n ∧ 128 ≤ c ∧ c ≤ 191)) then 3
      else if a = 240 ∧ (1 < n ∧ 144 ≤ b ∧ b ≤ 191) ∧ ((2 < n ∧ 128 ≤ c ∧ c ≤ 191) ∧ (3 < n ∧ 128 ≤ d ∧ d ≤ 191)) then 4
      else if 241 ≤ a ∧ a ≤ 243 ∧ ((1 < n ∧ 128 ≤ b ∧ b ≤ 191) ∧ (2 < n ∧ 128 ≤ c ∧ c ≤ 191) ∧ (3 < n ∧ 128 ≤ d ∧ d ≤ 191)) then 4
      else if a = 244 ∧ (1 < n ∧ 128 ≤ b ∧ b ≤ 143) ∧ ((2 < n ∧ 128 ≤ c ∧ c ≤ 191) ∧ (3 < n ∧ 128 ≤ d ∧ d ≤ 191)) then 4
      else 0)
    (hx : (x, y) = if a < 128 then (a, 1)
      else if a / 32 = 6 ∧ (1 < n ∧ b / 64 = 2) then if 128 ≤ a % 32 * 64 + b % 64 then (a % 32 * 64 + b % 64, 2) else (65533, 1)
      else if (a / 16 = 14 ∧ (1 < n ∧ b / 64 = 2)) ∧ (2 < n ∧ c / 64 = 2) then
        if 2048 ≤ a % 16 * 4096 + b % 64 * 64 + c % 64 ∧ (a % 16 * 4096 + b % 64 * 64 + c % 64 < 55296 ∨ 57344 ≤ a % 16 * 4096 + b % 64 * 64 + c % 64 ∧ a % 16 * 4096 + b % 64 * 64 + c % 64 ≤ 1114111) then (a % 16 * 4096 + b % 64 * 64 + c % 64, 3) else (65533, 1)
      else if ((a / 8 = 30 ∧ (1 < n ∧ b / 64 = 2)) ∧ (2 < n ∧ c / 64 = 2)) ∧ (3 < n ∧ d / 64 = 2) then
        if 65536 ≤ a % 8 * 262144 + b % 64 * 4096 + c % 64 * 64 + d % 64 ∧ (a % 8 * 262144 + b % 64 * 4096 + c % 64 * 64 + d % 64 < 55296 ∨ 57344 ≤ a % 8 * 262144 + b % 64 * 4096 + c % 64 * 64 + d % 64 ∧ a % 8 * 262144 + b % 64 * 4096 + c % 64 * 64 + d % 64 ≤ 1114111) then (a % 8 * 262144 + b % 64 * 4096 + c % 64 * 64 + d % 64, 4) else (65533, 1)
      else (65533, 1)) :
    (z = 0 ∧ x = 65533 ∧ y = 1 ∧ ¬ (2 < n ∧ a = 239 ∧ b = 191 ∧ c = 189)) ∨ (z ≠ 0 ∧ y = z ∧ (x ≠ 65533 ∨ (2 < n ∧ a = 239 ∧ b = 191 ∧ c = 189))) := by
  by_cases g : a < 128
  · rw [if_pos g] at hx hz
    obtain ⟨ex, ey⟩ := Prod.mk.inj hx
    omega
  rw [if_neg g] at hx hz
  by_cases g2 : a / 32 = 6 ∧ (1 < n ∧ b / 64 = 2)
  · rw [if_pos g2] at hx
    have e1 : a % 32 = a - 192 := by omega
    have e2 : b % 64 = b - 128 := by omega
    have e3 : 192 ≤ a ∧ a ≤ 223 ∧ 1 < n ∧ 128 ≤ b ∧ b ≤ 191 := by omega
    rw [e1, e2] at hx
    clear g2 e1 e2
    by_cases g3 : 194 ≤ a
    · rw [if_pos (by omega)] at hx hz
      obtain ⟨ex, ey⟩ := Prod.mk.inj hx
      exact .inr ⟨by omega, by omega, by omega⟩
    · rw [if_neg (by omega)] at hx
      obtain ⟨ex, ey⟩ := Prod.mk.inj hx
      rw [if_neg (by omega), if_neg (by omega), if_neg (by omega), if_neg (by omega), if_neg (by omega), if_neg (by omega), if_neg (by omega)] at hz
      exact .inl ⟨hz, ex, ey, by omega⟩
  rw [if_neg g2] at hx
  rw [if_neg (by omega)] at hz
  clear g2
  by_cases g2 : (a / 16 = 14 ∧ (1 < n ∧ b / 64 = 2)) ∧ (2 < n ∧ c / 64 = 2)
  · rw [if_pos g2] at hx
    have e1 : a % 16 = a - 224 := by omega
    have e2 : b % 64 = b - 128 := by omega
    have e3 : c % 64 = c - 128 := by omega
    have e4 : 224 ≤ a ∧ a ≤ 239 ∧ 2 < n ∧ 128 ≤ b ∧ b ≤ 191 ∧ 128 ≤ c ∧ c ≤ 191 := by omega
    rw [e1, e2, e3] at hx
    clear g2 e1 e2 e3
    by_cases g3 : (a = 224 ∧ b < 160) ∨ (a = 237 ∧ 160 ≤ b)
    · rw [if_neg (by omega)] at hx
      obtain ⟨ex, ey⟩ := Prod.mk.inj hx
      rw [if_neg (by omega), if_neg (by omega), if_neg (by omega), if_neg (by omega), if_neg (by omega), if_neg (by omega)] at hz
      exact .inl ⟨hz, ex, ey, by omega⟩
    · rw [if_pos (by omega)] at hx
      obtain ⟨ex, ey⟩ := Prod.mk.inj hx
      have hz3 : z = 3 := by
        by_cases g4 : a = 224
        · rw [if_pos (by omega)] at hz; exact hz
        · rw [if_neg (by omega)] at hz
          by_cases g5 : a = 237
          · rw [if_pos (by omega)] at hz; exact hz
          · rw [if_neg (by omega), if_pos (by omega)] at hz; exact hz
      exact .inr ⟨by omega, by omega, by omega⟩
  rw [if_neg g2] at hx
  rw [if_neg (by omega), if_neg (by omega), if_neg (by omega)] at hz
  have hnf : ¬ (2 < n ∧ a = 239 ∧ b = 191 ∧ c = 189) := by omega
  clear g2
  by_cases g2 : ((a / 8 = 30 ∧ (1 < n ∧ b / 64 = 2)) ∧ (2 < n ∧ c / 64 = 2)) ∧ (3 < n ∧ d / 64 = 2)
  · rw [if_pos g2] at hx
    have e1 : a % 8 = a - 240 := by omega
    have e2 : b % 64 = b - 128 := by omega
    have e3 : c % 64 = c - 128 := by omega
    have e5 : d % 64 = d - 128 := by omega
    have e4 : 240 ≤ a ∧ a ≤ 247 ∧ 3 < n ∧ 128 ≤ b ∧ b ≤ 191 ∧ 128 ≤ c ∧ c ≤ 191 ∧ 128 ≤ d ∧ d ≤ 191 := by omega
    rw [e1, e2, e3, e5] at hx
    clear g2 e1 e2 e3 e5 hnf
    by_cases g3 : (a = 240 ∧ b < 144) ∨ (a = 244 ∧ 144 ≤ b) ∨ 245 ≤ a
    · rw [if_neg (by omega)] at hx
      obtain ⟨ex, ey⟩ := Prod.mk.inj hx
      rw [if_neg (by omega), if_neg (by omega), if_neg (by omega)] at hz
      exact .inl ⟨hz, ex, ey, by omega⟩
    · rw [if_pos (by omega)] at hx
      obtain ⟨ex, ey⟩ := Prod.mk.inj hx
      have hz3 : z = 4 := by
        by_cases g4 : a = 240
        · rw [if_pos (by omega)] at hz; exact hz
        · rw [if_neg (by omega)] at hz
          by_cases g5 : a = 244
          · rw [if_neg (by omega), if_pos (by omega)] at hz; exact hz
          · rw [if_pos (by omega)] at hz; exact hz
      exact .inr ⟨by omega, by omega, by omega⟩
  rw [if_neg g2] at hx
  obtain ⟨ex, ey⟩ := Prod.mk.inj hx
  rw [if_neg (by omega), if_neg (by omega), if_neg (by omega)] at hz
  exact .inl ⟨hz, ex, ey, hnf⟩
theorem wU (c : Nat) : Utf8.valid (c : Int) = true ↔ (c < 55296 ∨ 57344 ≤ c ∧ c ≤ 1114111) := by
  unfold Utf8.valid
  simp only [Bool.or_eq_true, Bool.and_eq_true, decide_eq_true_eq]
  omega
theorem Cx (l : List UInt8) : (dZ l = 0 ∧ oy l = (65533, 1) ∧ pU l = false) ∨ (dZ l ≠ 0 ∧ (oy l).2 = dZ l ∧ ((oy l).1 ≠ 65533 ∨ pU l = true)) := by
  have hf := yC l
  have hf2 : pU l = false ↔ ¬ (2 < l.length ∧ dj l 0 = 239 ∧ dj l 1 = 191 ∧ dj l 2 = 189) := by rw [← hf]; cases pU l <;> simp
  obtain ⟨x, y, hxy⟩ : ∃ x y, oy l = (x, y) := ⟨_, _, rfl⟩
  have h := AX (dj l 0) (dj l 1) (dj l 2) (dj l 3) l.length (rm l 0) (rm l 1) (rm l 2) (rm l 3) (dZ l) x y
    (by unfold dZ; simp only [ku, mw, mx, qp])
    (by rw [← hxy]; unfold oy ng; simp only [Bool.and_eq_true, decide_eq_true_eq, beq_iff_eq, ge_iff_le, wU])
  rw [hxy, hf, hf2]
  rcases h with ⟨e1, e2, e3, e4⟩ | ⟨e1, e2, e3⟩
  · exact .inl ⟨e1, by rw [e2, e3], e4⟩
  · exact .inr ⟨e1, e2, e3⟩
theorem yD (l : List UInt8) (h0 : 0 < l.length) : dZ l ≤ l.length ∧ dZ l ≤ 4 := by
  unfold dZ
  simp only [ku, mw, mx, qp]
  repeat' split
  all_goals omega
def AY : Nat → List UInt8 → Int → Int
  | 0, _, _ => -1
  | n + 1, l, i => if l = [] then -1 else if dZ l = 0 then i else AY n (l.drop (dZ l)) (i + dZ l)
theorem yE : ∀ (n : Nat) (l : List UInt8) (i : Int), l.length ≤ n → AY n l i = AY l.length l i := by
  intro n
  induction n using Nat.strongRecOn with
  | ind n ih =>
    intro l i h
    cases l with
    | nil => cases n <;> simp [AY]
    | cons c l =>
      cases n with
      | zero => simp at h
      | succ n =>
        simp only [List.length_cons, AY, reduceCtorEq, if_false]
        split
        · rfl
        · rename_i hz
          have hl : ((c :: l).drop (dZ (c :: l))).length ≤ l.length := by rw [List.length_drop, List.length_cons]; omega
          simp only [List.length_cons] at h
          rw [ih n (by omega) _ _ (by omega), ih l.length (by omega) _ _ hl]
def ip (s : ByteArray) (k : Nat) : Int := AY (s.data.toList.drop k).length (s.data.toList.drop k) k
theorem qq (s : ByteArray) (k : Nat) (h : s.size ≤ k) : ip s k = -1 := by
  have : s.data.toList.drop k = [] := List.drop_eq_nil_of_le (by rw [Array.length_toList]; exact h)
  unfold ip; rw [this]; rfl
theorem nh (s : ByteArray) (k : Nat) (h : k < s.size) (hz : dZ (s.data.toList.drop k) = 0) : ip s k = k := by
  unfold ip
  have h1 : 0 < (s.data.toList.drop k).length := by rw [List.length_drop, Array.length_toList]; show 0 < s.size - k; omega
  obtain ⟨n, hn⟩ : ∃ n, (s.data.toList.drop k).length = n + 1 := ⟨_, (Nat.succ_pred_eq_of_pos h1).symm⟩
  rw [hn, AY, if_neg (by intro e; rw [e] at h1; simp at h1), if_pos hz]
theorem oz (s : ByteArray) (k : Nat) (h : k < s.size) (hz : dZ (s.data.toList.drop k) ≠ 0) : ip s k = ip s (k + dZ (s.data.toList.drop k)) := by
  have h1 : 0 < (s.data.toList.drop k).length := by rw [List.length_drop, Array.length_toList]; show 0 < s.size - k; omega
  obtain ⟨n, hn⟩ : ∃ n, (s.data.toList.drop k).length = n + 1 := ⟨_, (Nat.succ_pred_eq_of_pos h1).symm⟩
  have e : ip s k = AY (n + 1) (s.data.toList.drop k) k := by unfold ip; rw [hn]
  rw [e, AY, if_neg (by intro e; rw [e] at h1; simp at h1), if_neg hz, List.drop_drop]
  unfold ip
  rw [yE _ _ _ (by rw [List.length_drop] at hn ⊢; omega)]
  congr 1
def lg (s : ByteArray) : Int := ip s 0
def gV (s : ByteArray) : Bool := decide (lg s < 0)
end Go.Proofs.YthiocbcokfondaaGreatDoor
namespace Go.Proofs.YthiocbcokfondaaGreatDoor
open Go
def dW (c : Nat) : Nat := if 97 ≤ c ∧ c ≤ 122 then 1 else if 65 ≤ c ∧ c ≤ 90 then 2 else if 48 ≤ c ∧ c ≤ 57 then 3 else if c = 95 then 4 else 0
def lh (c : UInt8) : Bool := decide (dW c.toNat = 1 ∨ dW c.toNat = 2)
def pP (c : UInt8) : Bool := decide (dW c.toNat ≠ 0)
def Cy (l : List UInt8) : Bool := match l with | [] => false | c :: _ => lh c
def bm (l : List UInt8) : Bool := decide (1 ≤ l.length ∧ l.length ≤ 40) && Cy l && l.all pP
def jJ : List UInt8 → List (List UInt8)
  | [] => [[]]
  | c :: r => if c = 46 then [] :: jJ r else match jJ r with | p :: ps => (c :: p) :: ps | [] => [[c]]
def cH (l : List UInt8) : Bool := decide (l.length ≤ 120) && (jJ l).all bm
def iT (acc : List UInt8) : List UInt8 → Bool
  | [] => bm acc
  | c :: r => if c = 46 then bm acc && iT [] r else iT (acc ++ [c]) r
theorem oA : ∀ (l : List UInt8), Lib.splitK [46] 0 (l.count 46) l = jJ l
  | [] => rfl
  | c :: r => by
    have ih := oA r
    by_cases h : c = 46
    · subst h
      have hix : Lib.index (46 :: r) [46] = 0 := by rw [Lib.index_one, Lib.indexByte]; rfl
      rw [List.count_cons_self, Lib.splitK, hix]
      simp [jJ, ih]
    · have hc : (c :: r).count 46 = r.count 46 := List.count_cons_of_ne (by simpa using h)
      have hix : Lib.index (c :: r) [46] = if Lib.index r [46] = -1 then -1 else Lib.index r [46] + 1 := by
        rw [Lib.index_one, Lib.index_one]
        rw [Lib.indexByte]
        simp only [beq_iff_eq, if_neg h]
      rw [hc, jJ, if_neg h, ← ih]
      cases hk : r.count 46 with
      | zero => rfl
      | succ k =>
        have hge := Lib.index_ge r [46]
        have hne : Lib.index r [46] ≠ -1 := by
          intro e
          have := Lib.count_miss e
          rw [Lib.count_one, hk] at this
          omega
        obtain ⟨i, hi⟩ : ∃ i : Nat, Lib.index r [46] = i := ⟨(Lib.index r [46]).toNat, by omega⟩
        rw [Lib.splitK, Lib.splitK, hix, hi]
        rw [if_neg (show ¬ ((i : Int) = -1) by omega)]
        rw [if_neg (show ¬ (((i : Int) + 1 == -1) = true) by rw [beq_iff_eq]; omega), if_neg (show ¬ (((i : Int) == -1) = true) by rw [beq_iff_eq]; omega)]
        have e1 : (((i : Int) + 1).toNat + 0) = i + 1 := by omega
        have e2 : (((i : Int) + 1).toNat + [(46 : UInt8)].length) = i + 1 + 1 := by simp only [List.length_cons, List.length_nil]; omega
        rw [e1, e2]
        simp
theorem uF (s : ByteArray) : (Lib.splitB ⟨#[46]⟩ 0 (Lib.countB s ⟨#[46]⟩) s).map (·.data.toList) = jJ s.data.toList := by
  rw [Lib.splitB_data, ← oA]
  have : Lib.countB s ⟨#[46]⟩ = s.data.toList.count 46 := by
    unfold Lib.countB; exact Lib.count_one 46 _
  rw [this]
theorem Cz (l : List UInt8) (h : 128 ≤ dj l 0) : 128 ≤ (oy l).1 := by
  unfold oy
  rw [if_neg (by omega)]
  (repeat' split) <;> simp_all <;> omega
theorem AZ (l : List UInt8) (h : dj l 0 < 128) : oy l = (dj l 0, 1) := by unfold oy; rw [if_pos (by omega)]
theorem sR {c : Nat} (h : 128 ≤ c) : dW c = 0 := by unfold dW; rw [if_neg (by omega), if_neg (by omega), if_neg (by omega), if_neg (by omega)]
theorem mz {l : List UInt8} {k : Nat} (h : k < l.length) (hg : pP l[k] = false) : bm l = false := by
  unfold bm
  have : l.all pP = false := by
    rw [List.all_eq_false]
    exact ⟨l[k], List.getElem_mem h, by simp [hg]⟩
  rw [this, Bool.and_false]
theorem iq {l : List UInt8} (h : 0 < l.length) (hg : lh l[0] = false) : bm l = false := by
  unfold bm
  cases l with
  | nil => simp at h
  | cons c r => rw [show Cy (c :: r) = lh c from rfl]; simp at hg; simp [hg]
theorem mA {l : List UInt8} (hg : ∀ k (h : k < l.length), pP l[k] = true) (h0 : ∀ (h : 0 < l.length), lh l[0] = true) : bm l = decide (1 ≤ l.length ∧ l.length ≤ 40) := by
  unfold bm
  have : l.all pP = true := by
    rw [List.all_eq_true]
    intro x hx
    obtain ⟨k, hk, rfl⟩ := List.mem_iff_getElem.1 hx
    exact hg k hk
  rw [this, Bool.and_true]
  cases l with
  | nil => simp
  | cons c r => rw [show Cy (c :: r) = lh c from rfl, show lh c = true from h0 (by simp), Bool.and_true]
end Go.Proofs.YthiocbcokfondaaGreatDoor
