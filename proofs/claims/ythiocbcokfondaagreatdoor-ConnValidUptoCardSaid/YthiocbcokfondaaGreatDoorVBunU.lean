/- Texts of this claim merged into one: VUtfLaw, VIdLaw. -/
import GoSem.Core.Utf8
import Derived.Lib.Hide
import Derived.Lib.Strings
import Derived.Lib.SplitLaws
import Derived.Lib.IndexBytes
namespace Go.Proofs.YthiocbcokfondaaGreatDoor
open Go
def cu (l : List UInt8) (k : Nat) : Nat := (l.getD k 0).toNat
def ld (l : List UInt8) (k lo hi : Nat) : Bool := decide (k < l.length) && decide (lo ≤ cu l k) && decide (cu l k ≤ hi)
def cc : Nat → List UInt8 → Nat → Bool
  | 0, _, _ => true
  | n + 1, l, k => ld l k 128 191 && cc n l (k + 1)
def cS (l : List UInt8) : Nat :=
  if cu l 0 < 128 then 1
  else if 194 ≤ cu l 0 ∧ cu l 0 ≤ 223 ∧ cc 1 l 1 = true then 2
  else if cu l 0 = 224 ∧ ld l 1 160 191 = true ∧ cc 1 l 2 = true then 3
  else if cu l 0 = 237 ∧ ld l 1 128 159 = true ∧ cc 1 l 2 = true then 3
  else if 225 ≤ cu l 0 ∧ cu l 0 ≤ 239 ∧ cu l 0 ≠ 237 ∧ cc 2 l 1 = true then 3
  else if cu l 0 = 240 ∧ ld l 1 144 191 = true ∧ cc 2 l 2 = true then 4
  else if 241 ≤ cu l 0 ∧ cu l 0 ≤ 243 ∧ cc 3 l 1 = true then 4
  else if cu l 0 = 244 ∧ ld l 1 128 143 = true ∧ cc 2 l 2 = true then 4
  else 0
theorem mr (l : List UInt8) (k : Nat) : cu l k < 256 := (l.getD k 0).toNat_lt
theorem gJ (l : List UInt8) (k lo hi : Nat) : ld l k lo hi = true ↔ (k < l.length ∧ lo ≤ cu l k ∧ cu l k ≤ hi) := by simp [ld, and_assoc]
theorem jh (l : List UInt8) (k : Nat) : cc 1 l k = true ↔ (k < l.length ∧ 128 ≤ cu l k ∧ cu l k ≤ 191) := by
  simp only [cc, Bool.and_true]; exact gJ _ _ _ _
theorem ji (l : List UInt8) (k : Nat) : cc 2 l k = true ↔ ((k < l.length ∧ 128 ≤ cu l k ∧ cu l k ≤ 191) ∧ (k + 1 < l.length ∧ 128 ≤ cu l (k + 1) ∧ cu l (k + 1) ≤ 191)) := by
  rw [cc, Bool.and_eq_true, jh, gJ]
theorem lF (l : List UInt8) (k : Nat) : cc 3 l k = true ↔ ((k < l.length ∧ 128 ≤ cu l k ∧ cu l k ≤ 191) ∧ (k + 1 < l.length ∧ 128 ≤ cu l (k + 1) ∧ cu l (k + 1) ≤ 191) ∧ (k + 2 < l.length ∧ 128 ≤ cu l (k + 2) ∧ cu l (k + 2) ≤ 191)) := by
  rw [cc, Bool.and_eq_true, ji, gJ]
def jI (l : List UInt8) (k : Nat) : Bool := decide (k < l.length) && (cu l k / 64 == 2)
def km (l : List UInt8) : Nat × Nat :=
  if cu l 0 < 0x80 then (cu l 0, 1)
  else if cu l 0 / 32 == 6 && jI l 1 then
    if (cu l 0 % 32) * 64 + cu l 1 % 64 ≥ 0x80 then ((cu l 0 % 32) * 64 + cu l 1 % 64, 2) else (65533, 1)
  else if cu l 0 / 16 == 14 && jI l 1 && jI l 2 then
    if (cu l 0 % 16) * 4096 + (cu l 1 % 64) * 64 + cu l 2 % 64 ≥ 0x800 && Utf8.valid ((cu l 0 % 16) * 4096 + (cu l 1 % 64) * 64 + cu l 2 % 64 : Nat) then ((cu l 0 % 16) * 4096 + (cu l 1 % 64) * 64 + cu l 2 % 64, 3) else (65533, 1)
  else if cu l 0 / 8 == 30 && jI l 1 && jI l 2 && jI l 3 then
    if (cu l 0 % 8) * 262144 + (cu l 1 % 64) * 4096 + (cu l 2 % 64) * 64 + cu l 3 % 64 ≥ 0x10000 && Utf8.valid ((cu l 0 % 8) * 262144 + (cu l 1 % 64) * 4096 + (cu l 2 % 64) * 64 + cu l 3 % 64 : Nat) then ((cu l 0 % 8) * 262144 + (cu l 1 % 64) * 4096 + (cu l 2 % 64) * 64 + cu l 3 % 64, 4) else (65533, 1)
  else (65533, 1)
theorem r5 (s : ByteArray) (i k : Nat) : (s.get! (i + k)).toNat = cu (s.data.toList.drop i) k := by
  unfold cu
  rw [List.getD_eq_getElem?_getD, List.getElem?_drop, Array.getElem?_toList]
  show (s.data[i + k]!).toNat = _
  rw [getElem!_def]
  cases s.data[i + k]? <;> rfl
theorem gK (s : ByteArray) (i k : Nat) : (i + k < s.size) ↔ k < (s.data.toList.drop i).length := by
  rw [List.length_drop, Array.length_toList]; show i + k < s.data.size ↔ _; omega
theorem ij (s : ByteArray) (i : Nat) : Utf8.decode s i = km (s.data.toList.drop i) := by
  unfold Utf8.decode km jI
  simp only [r5, gK]
  rfl
def ll (l : List UInt8) : Bool := Lib.hasPrefix l [239, 191, 189]
theorem r6 (l : List UInt8) : ll l = true ↔ (2 < l.length ∧ cu l 0 = 239 ∧ cu l 1 = 191 ∧ cu l 2 = 189) := by
  unfold ll
  rcases l with _ | ⟨a, _ | ⟨b, _ | ⟨c, l⟩⟩⟩
  · simp [Lib.hasPrefix]
  · simp [Lib.hasPrefix]
  · simp [Lib.hasPrefix]
  · have h : ∀ x y : UInt8, (x == y) = decide (y.toNat = x.toNat) := fun x y => by rw [Bool.eq_iff_iff]; simp only [beq_iff_eq, decide_eq_true_eq, ← UInt8.toNat_inj]; exact eq_comm
    simp [Lib.hasPrefix, List.isPrefixOf, cu, h]
set_option maxHeartbeats 2000000 in
theorem ul (a b c d n : Nat) (h0 : a < 256) (h1 : b < 256) (h2 : c < 256) (h3 : d < 256) (z x y : Nat)
    (hz : z = if a < 128 then 1
      else if 194 ≤ a ∧ a ≤ 223 ∧ (1 < n ∧ 128 ≤ b ∧ b ≤ 191) then 2
      else if a = 224 ∧ (1 < n ∧ 160 ≤ b ∧ b ≤ 191) ∧ (2 < n ∧ 128 ≤ c ∧ c ≤ 191) then 3
      else if a = 237 ∧ (1 < n ∧ 128 ≤ b ∧ b ≤ 159) ∧ (2 < n ∧ 128 ≤ c ∧ c ≤ 191) then 3
      else if 225 ≤ a ∧ a ≤ 239 ∧ a ≠ 237 ∧ ((1 < n ∧ 128 ≤ b ∧ b ≤ 191) ∧ (2 < n ∧ 128 ≤ c ∧ c ≤ 191)) then 3
      else if a = 240 ∧ (1 < n ∧ 144 ≤ b ∧ b ≤ 191) ∧ ((2 < n ∧ 128 ≤ c ∧ c ≤ 191) ∧ (3 < n ∧ 128 ≤ d ∧ d ≤ 191)) then 4
      else if 241 ≤ a ∧ a ≤ 243 ∧ ((1 < n ∧ 128 ≤ b ∧ b ≤ 191) ∧ (2 < n ∧ 128 ≤ c ∧ c ≤ 191) ∧ (3 < n ∧ 128 ≤ d ∧ d ≤ 191)) then 4
      else if a = 244 ∧ (1 < n ∧ 128 ≤ b ∧ b ≤ 143) ∧ ((2 < n ∧ 128 ≤ c ∧ c ≤ 191) ∧ (3 < n ∧ 128 ≤ d ∧ d ≤ 191)) then 4
      else 0)
    (hx : (x, y) = if a < 128 then (a, 1)
      else if a / 32 = 6 ∧ (1 < n ∧ b / 64 = 2) then if 128 ≤ a % 32 * 64 + b % 64 then (a % 32 * 64 + b % 64, 2) else (65533, 1)
      else if (a / 16 = 14 ∧ (1 < n ∧ b / 64 = 2)) ∧ (2 < n ∧ c / 64 = 2) then
        if 2048 ≤ a % 16 * 4096 + b % 64 * 64 + c % 64 ∧ (a % 16 * 4096 + b % 64 * 64 + c % 64 < 55296 ∨ 57344 ≤ a % 16 * 4096 + b % 64 * 64 + c % 64 ∧ a % 16 * 4096 + b % 64 * 64 + c % 64 ≤ 1114111) then (a % 16 * 4096 + b % 64 * 64 + c % 64, 3) else (65533, 1)
      else if ((a / 8 = 30 ∧ (1 < n ∧ b / 64 = 2)) ∧ (2 < n ∧ c / 64 = 2)) ∧ (3 < n ∧ d / 64 = 2) then
        if 65536 ≤ a % 8 * 262144 + b % 64 * 4096 + c % 64 * 64 + d % 64 ∧ (a % 8 * 262144 + b % 64 * 4096 + c % 64 * 64 + d % 64 < 55296 ∨ 57344 ≤ a % 8 * 262144 + b % 64 * 4096 + c % 64 * 64 + d % 64 ∧ a % 8 * 262144 + b % 64 * 4096 + c % 64 * 64 + d % 64 ≤ 1114111) then (a % 8 * 262144 + b % 64 * 4096 + c % 64 * 64 + d % 64, 4) else (65533, 1)
      else (65533, 1)) :
    (z = 0 ∧ x = 65533 ∧ y = 1 ∧ ¬ (2 < n ∧ a = 239 ∧ b = 191 ∧ c = 189)) ∨ (z ≠ 0 ∧ y = z ∧ (x ≠ 65533 ∨ (2 < n ∧ a = 239 ∧ b = 191 ∧ c = 189))) := by
  by_cases g : a < 128
  · rw [if_pos g] at hx hz
    obtain ⟨ex, ey⟩ := Prod.mk.inj hx
    omega
  rw [if_neg g] at hx hz
  by_cases g2 : a / 32 = 6 ∧ (1 < n ∧ b / 64 = 2)
  · rw [if_pos g2] at hx
    have e1 : a % 32 = a - 192 := by omega
    have e2 : b % 64 = b - 128 := by omega
    have e3 : 192 ≤ a ∧ a ≤ 223 ∧ 1 < n ∧ 128 ≤ b ∧ b ≤ 191 := by omega
    rw [e1, e2] at hx
    clear g2 e1 e2
    by_cases g3 : 194 ≤ a
    · rw [if_pos (by omega)] at hx hz
      obtain ⟨ex, ey⟩ := Prod.mk.inj hx
      exact .inr ⟨by omega, by omega, by omega⟩
    · rw [if_neg (by omega)] at hx
      obtain ⟨ex, ey⟩ := Prod.mk.inj hx
      rw [if_neg (by omega), if_neg (by omega), if_neg (by omega), if_neg (by omega), if_neg (by omega), if_neg (by omega), if_neg (by omega)] at hz
      exact .inl ⟨hz, ex, ey, by omega⟩
  rw [if_neg g2] at hx
  rw [if_neg (by omega)] at hz
  clear g2
  by_cases g2 : (a / 16 = 14 ∧ (1 < n ∧ b / 64 = 2)) ∧ (2 < n ∧ c / 64 = 2)
  · rw [if_pos g2] at hx
    have e1 : a % 16 = a - 224 := by omega
    have e2 : b % 64 = b - 128 := by omega
    have e3 : c % 64 = c - 128 := by omega
    have e4 : 224 ≤ a ∧ a ≤ 239 ∧ 2 < n ∧ 128 ≤ b ∧ b ≤ 191 ∧ 128 ≤ c ∧ c ≤ 191 := by omega
    rw [e1, e2, e3] at hx
    clear g2 e1 e2 e3
    by_cases g3 : (a = 224 ∧ b < 160) ∨ (a = 237 ∧ 160 ≤ b)
    · rw [if_neg (by omega)] at hx
      obtain ⟨ex, ey⟩ := Prod.mk.inj hx
      rw [if_neg (by omega), if_neg (by omega), if_neg (by omega), if_neg (by omega), if_neg (by omega), if_neg (by omega)] at hz
      exact .inl ⟨hz, ex, ey, by omega⟩
    · rw [if_pos (by omega)] at hx
      obtain ⟨ex, ey⟩ := Prod.mk.inj hx
      have hz3 : z = 3 := by
        by_cases g4 : a = 224
        · rw [if_pos (by omega)] at hz; exact hz
        · rw [if_neg (by omega)] at hz
          by_cases g5 : a = 237
          · rw [if_pos (by omega)] at hz; exact hz
          · rw [if_neg (by omega), if_pos (by omega)] at hz; exact hz
      exact .inr ⟨by omega, by omega, by omega⟩
  rw [if_neg g2] at hx
  rw [if_neg (by omega), if_neg (by omega), if_neg (by omega)] at hz
  have hnf : ¬ (2 < n ∧ a = 239 ∧ b = 191 ∧ c = 189) := by omega
  clear g2
  by_cases g2 : ((a / 8 = 30 ∧ (1 < n ∧ b / 64 = 2)) ∧ (2 < n ∧ c / 64 = 2)) ∧ (3 < n ∧ d / 64 = 2)
  · rw [if_pos g2] at hx
    have e1 : a % 8 = a - 240 := by omega
    have e2 : b % 64 = b - 128 := by omega
    have e3 : c % 64 = c - 128 := by omega
    have e5 : d % 64 = d - 128 := by omega
    have e4 : 240 ≤ a ∧ a ≤ 247 ∧ 3 < n ∧ 128 ≤ b ∧ b ≤ 191 ∧ 128 ≤ c ∧ c ≤ 191 ∧ 128 ≤ d ∧ d ≤ 191 := by omega
    rw [e1, e2, e3, e5] at hx
    clear g2 e1 e2 e3 e5 hnf
    by_cases g3 : (a = 240 ∧ b < 144) ∨ (a = 244 ∧ 144 ≤ b) ∨ 245 ≤ a
    · rw [if_neg (by omega)] at hx
      obtain ⟨ex, ey⟩ := Prod.mk.inj hx
      rw [if_neg (by omega), if_neg (by omega), if_neg (by omega)] at hz
      exact .inl ⟨hz, ex, ey, by omega⟩
    · rw [if_pos (by omega)] at hx
      obtain ⟨ex, ey⟩ := Prod.mk.inj hx
      have hz3 : z = 4 := by
        by_cases g4 : a = 240
        · rw [if_pos (by omega)] at hz; exact hz
        · rw [if_neg (by omega)] at hz
          by_cases g5 : a = 244
          · rw [if_neg (by omega), if_pos (by omega)] at hz; exact hz
          · rw [if_pos (by omega)] at hz; exact hz
      exact .inr ⟨by omega, by omega, by omega⟩
  rw [if_neg g2] at hx
  obtain ⟨ex, ey⟩ := Prod.mk.inj hx
  rw [if_neg (by omega), if_neg (by omega), if_neg (by omega)] at hz
  exact .inl ⟨hz, ex, ey, hnf⟩
theorem qu (c : Nat) : Utf8.valid (c : Int) = true ↔ (c < 55296 ∨ 57344 ≤ c ∧ c ≤ 1114111) := by
  unfold Utf8.valid
  simp only [Bool.or_eq_true, Bool.and_eq_true, decide_eq_true_eq]
  omega
theorem wi (l : List UInt8) : (cS l = 0 ∧ km l = (65533, 1) ∧ ll l = false) ∨ (cS l ≠ 0 ∧ (km l).2 = cS l ∧ ((km l).1 ≠ 65533 ∨ ll l = true)) := by
  have hf := r6 l
  have hf2 : ll l = false ↔ ¬ (2 < l.length ∧ cu l 0 = 239 ∧ cu l 1 = 191 ∧ cu l 2 = 189) := by rw [← hf]; cases ll l <;> simp
  obtain ⟨x, y, hxy⟩ : ∃ x y, km l = (x, y) := ⟨_, _, rfl⟩
  have h := ul (cu l 0) (cu l 1) (cu l 2) (cu l 3) l.length (mr l 0) (mr l 1) (mr l 2) (mr l 3) (cS l) x y
    (by unfold cS; simp only [gJ, jh, ji, lF])
    (by rw [← hxy]; unfold km jI; simp only [Bool.and_eq_true, decide_eq_true_eq, beq_iff_eq, ge_iff_le, qu])
  rw [hxy, hf, hf2]
  rcases h with ⟨e1, e2, e3, e4⟩ | ⟨e1, e2, e3⟩
  · exact .inl ⟨e1, by rw [e2, e3], e4⟩
  · exact .inr ⟨e1, e2, e3⟩
theorem r7 (l : List UInt8) (h0 : 0 < l.length) : cS l ≤ l.length ∧ cS l ≤ 4 := by
  unfold cS
  simp only [gJ, jh, ji, lF]
  repeat' split
  all_goals omega
def um : Nat → List UInt8 → Int → Int
  | 0, _, _ => -1
  | n + 1, l, i => if l = [] then -1 else if cS l = 0 then i else um n (l.drop (cS l)) (i + cS l)
theorem r8 : ∀ (n : Nat) (l : List UInt8) (i : Int), l.length ≤ n → um n l i = um l.length l i := by
  intro n
  induction n using Nat.strongRecOn with
  | ind n ih =>
    intro l i h
    cases l with
    | nil => cases n <;> simp [um]
    | cons c l =>
      cases n with
      | zero => simp at h
      | succ n =>
        simp only [List.length_cons, um, reduceCtorEq, if_false]
        split
        · rfl
        · rename_i hz
          have hl : ((c :: l).drop (cS (c :: l))).length ≤ l.length := by rw [List.length_drop, List.length_cons]; omega
          simp only [List.length_cons] at h
          rw [ih n (by omega) _ _ (by omega), ih l.length (by omega) _ _ hl]
def eX (s : ByteArray) (k : Nat) : Int := um (s.data.toList.drop k).length (s.data.toList.drop k) k
theorem lG (s : ByteArray) (k : Nat) (h : s.size ≤ k) : eX s k = -1 := by
  have : s.data.toList.drop k = [] := List.drop_eq_nil_of_le (by rw [Array.length_toList]; exact h)
  unfold eX; rw [this]; rfl
theorem jJ (s : ByteArray) (k : Nat) (h : k < s.size) (hz : cS (s.data.toList.drop k) = 0) : eX s k = k := by
  unfold eX
  have h1 : 0 < (s.data.toList.drop k).length := by rw [List.length_drop, Array.length_toList]; show 0 < s.size - k; omega
  obtain ⟨n, hn⟩ : ∃ n, (s.data.toList.drop k).length = n + 1 := ⟨_, (Nat.succ_pred_eq_of_pos h1).symm⟩
  rw [hn, um, if_neg (by intro e; rw [e] at h1; simp at h1), if_pos hz]
theorem kn (s : ByteArray) (k : Nat) (h : k < s.size) (hz : cS (s.data.toList.drop k) ≠ 0) : eX s k = eX s (k + cS (s.data.toList.drop k)) := by
  have h1 : 0 < (s.data.toList.drop k).length := by rw [List.length_drop, Array.length_toList]; show 0 < s.size - k; omega
  obtain ⟨n, hn⟩ : ∃ n, (s.data.toList.drop k).length = n + 1 := ⟨_, (Nat.succ_pred_eq_of_pos h1).symm⟩
  have e : eX s k = um (n + 1) (s.data.toList.drop k) k := by unfold eX; rw [hn]
  rw [e, um, if_neg (by intro e; rw [e] at h1; simp at h1), if_neg hz, List.drop_drop]
  unfold eX
  rw [r8 _ _ _ (by rw [List.length_drop] at hn ⊢; omega)]
  congr 1
def il (s : ByteArray) : Int := eX s 0
def eO (s : ByteArray) : Bool := decide (il s < 0)
end Go.Proofs.YthiocbcokfondaaGreatDoor
namespace Go.Proofs.YthiocbcokfondaaGreatDoor
open Go
def cQ (c : Nat) : Nat := if 97 ≤ c ∧ c ≤ 122 then 1 else if 65 ≤ c ∧ c ≤ 90 then 2 else if 48 ≤ c ∧ c ≤ 57 then 3 else if c = 95 then 4 else 0
def im (c : UInt8) : Bool := decide (cQ c.toNat = 1 ∨ cQ c.toNat = 2)
def lf (c : UInt8) : Bool := decide (cQ c.toNat ≠ 0)
def wj (l : List UInt8) : Bool := match l with | [] => false | c :: _ => im c
def bh (l : List UInt8) : Bool := decide (1 ≤ l.length ∧ l.length ≤ 40) && wj l && l.all lf
def f6 : List UInt8 → List (List UInt8)
  | [] => [[]]
  | c :: r => if c = 46 then [] :: f6 r else match f6 r with | p :: ps => (c :: p) :: ps | [] => [[c]]
theorem mu (l : List UInt8) : f6 l ≠ [] := by
  cases l with
  | nil => simp [f6]
  | cons c r => unfold f6; split <;> (try split) <;> simp
def ca (l : List UInt8) : Bool := decide (l.length ≤ 120) && (f6 l).all bh
def fv (acc : List UInt8) : List UInt8 → Bool
  | [] => bh acc
  | c :: r => if c = 46 then bh acc && fv [] r else fv (acc ++ [c]) r
theorem jj : ∀ (l acc : List UInt8), fv acc l = match f6 l with | p :: ps => bh (acc ++ p) && ps.all bh | [] => true
  | [], acc => by simp [fv, f6]
  | c :: r, acc => by
    unfold fv f6
    by_cases h : c = 46
    · rw [if_pos h, if_pos h, jj r []]
      cases hd : f6 r with
      | nil => exact absurd hd (mu r)
      | cons p ps => simp
    · rw [if_neg h, if_neg h, jj r _]
      cases hd : f6 r with
      | nil => exact absurd hd (mu r)
      | cons p ps => simp
theorem qv (l : List UInt8) : fv [] l = (f6 l).all bh := by
  rw [jj]
  cases hd : f6 l with
  | nil => exact absurd hd (mu l)
  | cons p ps => simp
theorem ko : ∀ (l : List UInt8), Lib.splitK [46] 0 (l.count 46) l = f6 l
  | [] => rfl
  | c :: r => by
    have ih := ko r
    by_cases h : c = 46
    · subst h
      have hix : Lib.index (46 :: r) [46] = 0 := by rw [Lib.index_one, Lib.indexByte]; rfl
      rw [List.count_cons_self, Lib.splitK, hix]
      simp [f6, ih]
    · have hc : (c :: r).count 46 = r.count 46 := List.count_cons_of_ne (by simpa using h)
      have hix : Lib.index (c :: r) [46] = if Lib.index r [46] = -1 then -1 else Lib.index r [46] + 1 := by
        rw [Lib.index_one, Lib.index_one]
        rw [Lib.indexByte]
        simp only [beq_iff_eq, if_neg h]
      rw [hc, f6, if_neg h, ← ih]
      cases hk : r.count 46 with
      | zero => rfl
      | succ k =>
        have hge := Lib.index_ge r [46]
        have hne : Lib.index r [46] ≠ -1 := by
          intro e
          have := Lib.count_miss e
          rw [Lib.count_one, hk] at this
          omega
        obtain ⟨i, hi⟩ : ∃ i : Nat, Lib.index r [46] = i := ⟨(Lib.index r [46]).toNat, by omega⟩
        rw [Lib.splitK, Lib.splitK, hix, hi]
        rw [if_neg (show ¬ ((i : Int) = -1) by omega)]
        rw [if_neg (show ¬ (((i : Int) + 1 == -1) = true) by rw [beq_iff_eq]; omega), if_neg (show ¬ (((i : Int) == -1) = true) by rw [beq_iff_eq]; omega)]
        have e1 : (((i : Int) + 1).toNat + 0) = i + 1 := by omega
        have e2 : (((i : Int) + 1).toNat + [(46 : UInt8)].length) = i + 1 + 1 := by simp only [List.length_cons, List.length_nil]; omega
        rw [e1, e2]
        simp
theorem oJ (s : ByteArray) : (Lib.splitB ⟨#[46]⟩ 0 (Lib.countB s ⟨#[46]⟩) s).map (·.data.toList) = f6 s.data.toList := by
  rw [Lib.splitB_data, ← ko]
  have : Lib.countB s ⟨#[46]⟩ = s.data.toList.count 46 := by
    unfold Lib.countB; exact Lib.count_one 46 _
  rw [this]
theorem wk (l : List UInt8) (h : 128 ≤ cu l 0) : 128 ≤ (km l).1 := by
  unfold km
  rw [if_neg (by omega)]
  (repeat' split) <;> simp_all <;> omega
theorem uo (l : List UInt8) (h : cu l 0 < 128) : km l = (cu l 0, 1) := by unfold km; rw [if_pos (by omega)]
theorem nf {c : Nat} (h : 128 ≤ c) : cQ c = 0 := by unfold cQ; rw [if_neg (by omega), if_neg (by omega), if_neg (by omega), if_neg (by omega)]
theorem jk {l : List UInt8} {k : Nat} (h : k < l.length) (hg : lf l[k] = false) : bh l = false := by
  unfold bh
  have : l.all lf = false := by
    rw [List.all_eq_false]
    exact ⟨l[k], List.getElem_mem h, by simp [hg]⟩
  rw [this, Bool.and_false]
theorem eY {l : List UInt8} (h : 0 < l.length) (hg : im l[0] = false) : bh l = false := by
  unfold bh
  cases l with
  | nil => simp at h
  | cons c r => rw [show wj (c :: r) = im c from rfl]; simp at hg; simp [hg]
theorem jl {l : List UInt8} (hg : ∀ k (h : k < l.length), lf l[k] = true) (h0 : ∀ (h : 0 < l.length), im l[0] = true) : bh l = decide (1 ≤ l.length ∧ l.length ≤ 40) := by
  unfold bh
  have : l.all lf = true := by
    rw [List.all_eq_true]
    intro x hx
    obtain ⟨k, hk, rfl⟩ := List.mem_iff_getElem.1 hx
    exact hg k hk
  rw [this, Bool.and_true]
  cases l with
  | nil => simp
  | cons c r => rw [show wj (c :: r) = im c from rfl, show im c = true from h0 (by simp), Bool.and_true]
end Go.Proofs.YthiocbcokfondaaGreatDoor
