/- Texts of this claim merged into one: KUtfLaw, KIdLaw, KVarLaw, KOwn, KVar, KTake. -/
import GoSem.Core.Utf8
import Derived.Lib.Hide
import Derived.Lib.Strings
import Derived.Lib.SplitLaws
import Derived.Lib.IndexBytes
import Derived.Test.YtklcfjlmlbnkaaaGreatDoorChecked
import Derived.WalkKit
import Derived.WalkSpells
import Derived.WalkLawsBesides
import Derived.Below
import Derived.OwnWalk
import Derived.Laws.AppendOwn
import Derived.Maps.AppendAt
import Derived.Laws.BitsAllLaws
namespace Go.Proofs.YtklcfjlmlbnkaaaGreatDoor
open Go
def dx (l : List UInt8) (k : Nat) : Nat := (l.getD k 0).toNat
def Fe (l : List UInt8) (k lo hi : Nat) : Bool := decide (k < l.length) && decide (lo ≤ dx l k) && decide (dx l k ≤ hi)
def ip : Nat → List UInt8 → Nat → Bool
  | 0, _, _ => true
  | n + 1, l, k => Fe l k 128 191 && ip n l (k + 1)
def vR (l : List UInt8) : Nat :=
  if dx l 0 < 128 then 1
  else if 194 ≤ dx l 0 ∧ dx l 0 ≤ 223 ∧ ip 1 l 1 = true then 2
  else if dx l 0 = 224 ∧ Fe l 1 160 191 = true ∧ ip 1 l 2 = true then 3
  else if dx l 0 = 237 ∧ Fe l 1 128 159 = true ∧ ip 1 l 2 = true then 3
  else if 225 ≤ dx l 0 ∧ dx l 0 ≤ 239 ∧ dx l 0 ≠ 237 ∧ ip 2 l 1 = true then 3
  else if dx l 0 = 240 ∧ Fe l 1 144 191 = true ∧ ip 2 l 2 = true then 4
  else if 241 ≤ dx l 0 ∧ dx l 0 ≤ 243 ∧ ip 3 l 1 = true then 4
  else if dx l 0 = 244 ∧ Fe l 1 128 143 = true ∧ ip 2 l 2 = true then 4
  else 0
theorem rQ (l : List UInt8) (k : Nat) : dx l k < 256 := (l.getD k 0).toNat_lt
theorem mf (l : List UInt8) (k lo hi : Nat) : Fe l k lo hi = true ↔ (k < l.length ∧ lo ≤ dx l k ∧ dx l k ≤ hi) := by simp [Fe, and_assoc]
theorem mU (l : List UInt8) (k : Nat) : ip 1 l k = true ↔ (k < l.length ∧ 128 ≤ dx l k ∧ dx l k ≤ 191) := by
  simp only [ip, Bool.and_true]; exact mf _ _ _ _
theorem mV (l : List UInt8) (k : Nat) : ip 2 l k = true ↔ ((k < l.length ∧ 128 ≤ dx l k ∧ dx l k ≤ 191) ∧ (k + 1 < l.length ∧ 128 ≤ dx l (k + 1) ∧ dx l (k + 1) ≤ 191)) := by
  rw [ip, Bool.and_eq_true, mU, mf]
theorem qD (l : List UInt8) (k : Nat) : ip 3 l k = true ↔ ((k < l.length ∧ 128 ≤ dx l k ∧ dx l k ≤ 191) ∧ (k + 1 < l.length ∧ 128 ≤ dx l (k + 1) ∧ dx l (k + 1) ≤ 191) ∧ (k + 2 < l.length ∧ 128 ≤ dx l (k + 2) ∧ dx l (k + 2) ≤ 191)) := by
  rw [ip, Bool.and_eq_true, mV, mf]
def nJ (l : List UInt8) (k : Nat) : Bool := decide (k < l.length) && (dx l k / 64 == 2)
def oJ (l : List UInt8) : Nat × Nat :=
  if dx l 0 < 0x80 then (dx l 0, 1)
  else if dx l 0 / 32 == 6 && nJ l 1 then
    if (dx l 0 % 32) * 64 + dx l 1 % 64 ≥ 0x80 then ((dx l 0 % 32) * 64 + dx l 1 % 64, 2) else (65533, 1)
  else if dx l 0 / 16 == 14 && nJ l 1 && nJ l 2 then
    if (dx l 0 % 16) * 4096 + (dx l 1 % 64) * 64 + dx l 2 % 64 ≥ 0x800 && Utf8.valid ((dx l 0 % 16) * 4096 + (dx l 1 % 64) * 64 + dx l 2 % 64 : Nat) then ((dx l 0 % 16) * 4096 + (dx l 1 % 64) * 64 + dx l 2 % 64, 3) else (65533, 1)
  else if dx l 0 / 8 == 30 && nJ l 1 && nJ l 2 && nJ l 3 then
    if (dx l 0 % 8) * 262144 + (dx l 1 % 64) * 4096 + (dx l 2 % 64) * 64 + dx l 3 % 64 ≥ 0x10000 && Utf8.valid ((dx l 0 % 8) * 262144 + (dx l 1 % 64) * 4096 + (dx l 2 % 64) * 64 + dx l 3 % 64 : Nat) then ((dx l 0 % 8) * 262144 + (dx l 1 % 64) * 4096 + (dx l 2 % 64) * 64 + dx l 3 % 64, 4) else (65533, 1)
  else (65533, 1)
theorem AO (s : ByteArray) (i k : Nat) : (s.get! (i + k)).toNat = dx (s.data.toList.drop i) k := by
  unfold dx
  rw [List.getD_eq_getElem?_getD, List.getElem?_drop, Array.getElem?_toList]
  show (s.data[i + k]!).toNat = _
  rw [getElem!_def]
  cases s.data[i + k]? <;> rfl
theorem qE (s : ByteArray) (i k : Nat) : (i + k < s.size) ↔ k < (s.data.toList.drop i).length := by
  rw [List.length_drop, Array.length_toList]; show i + k < s.data.size ↔ _; omega
theorem lE (s : ByteArray) (i : Nat) : Utf8.decode s i = oJ (s.data.toList.drop i) := by
  unfold Utf8.decode oJ nJ
  simp only [AO, qE]
  rfl
def qi (l : List UInt8) : Bool := Lib.hasPrefix l [239, 191, 189]
theorem AP (l : List UInt8) : qi l = true ↔ (2 < l.length ∧ dx l 0 = 239 ∧ dx l 1 = 191 ∧ dx l 2 = 189) := by
  unfold qi
  rcases l with _ | ⟨a, _ | ⟨b, _ | ⟨c, l⟩⟩⟩
  · simp [Lib.hasPrefix]
  · simp [Lib.hasPrefix]
  · simp [Lib.hasPrefix]
  · have h : ∀ x y : UInt8, (x == y) = decide (y.toNat = x.toNat) := fun x y => by rw [Bool.eq_iff_iff]; simp only [beq_iff_eq, decide_eq_true_eq, ← UInt8.toNat_inj]; exact eq_comm
    simp [Lib.hasPrefix, List.isPrefixOf, dx, h]
set_option maxHeartbeats 2000000 in
theorem Dt (a b c d n : Nat) (h0 : a < 256) (h1 : b < 256) (h2 : c < 256) (h3 : d < 256) (z x y : Nat)
    (hz : z = if a < 128 then 1
      else if 194 ≤ a ∧ a ≤ 223 ∧ (1 < n ∧ 128 ≤ b ∧ b ≤ 191) then 2
      else if a = 224 ∧ (1 < n ∧ 160 ≤ b ∧ b ≤ 191) ∧ (2 < n ∧ 128 ≤ c ∧ c ≤ 191) then 3
      else if a = 237 ∧ (1 < n ∧ 128 ≤ b ∧ b ≤ 159) ∧ (2 < n ∧ 128 ≤ c ∧ c ≤ 191) then 3
      else if 225 ≤ a ∧ a ≤ 239 ∧ a ≠ 237 ∧ ((1 < n ∧ 128 ≤ b ∧ b ≤ 191) ∧ (2 < n ∧ 128 ≤ c ∧ c ≤ 191)) then 3
      else if a = 240 ∧ (1 < n ∧ 144 ≤ b ∧ b ≤ 191) ∧ ((2 < n ∧ 128 ≤ c ∧ c ≤ 191) ∧ (3 < n ∧ 128 ≤ d ∧ d ≤ 191)) then 4
      else if 241 ≤ a ∧ a ≤ 243 ∧ ((1 < n ∧ 128 ≤ b ∧ b ≤ 191) ∧ (2 < n ∧ 128 ≤ c ∧ c ≤ 191) ∧ (3 < n ∧ 128 ≤ d ∧ d ≤ 191)) then 4
      else if a = 244 ∧ (1 < n ∧ 128 ≤ b ∧ b ≤ 143) ∧ ((2 < n ∧ 128 ≤ c ∧ c ≤ 191) ∧ (3 < n ∧ 128 ≤ d ∧ d ≤ 191)) then 4
      else 0)
    (hx : (x, y) = if a < 128 then (a, 1)
      else if a / 32 = 6 ∧ (1 < n ∧ b / 64 = 2) then if 128 ≤ a % 32 * 64 + b % 64 then (a % 32 * 64 + b % 64, 2) else (65533, 1)
      else if (a / 16 = 14 ∧ (1 < n ∧ b / 64 = 2)) ∧ (2 < n ∧ c / 64 = 2) then
        if 2048 ≤ a % 16 * 4096 + b % 64 * 64 + c % 64 ∧ (a % 16 * 4096 + b % 64 * 64 + c % 64 < 55296 ∨ 57344 ≤ a % 16 * 4096 + b % 64 * 64 + c % 64 ∧ a % 16 * 4096 + b % 64 * 64 + c % 64 ≤ 1114111) then (a % 16 * 4096 + b % 64 * 64 + c % 64, 3) else (65533, 1)
      else if ((a / 8 = 30 ∧ (1 < n ∧ b / 64 = 2)) ∧ (2 < n ∧ c / 64 = 2)) ∧ (3 < n ∧ d / 64 = 2) then
        if 65536 ≤ a % 8 * 262144 + b % 64 * 4096 + c % 64 * 64 + d % 64 ∧ (a % 8 * 262144 + b % 64 * 4096 + c % 64 * 64 + d % 64 < 55296 ∨ 57344 ≤ a % 8 * 262144 + b % 64 * 4096 + c % 64 * 64 + d % 64 ∧ a % 8 * 262144 + b % 64 * 4096 + c % 64 * 64 + d % 64 ≤ 1114111) then (a % 8 * 262144 + b % 64 * 4096 + c % 64 * 64 + d % 64, 4) else (65533, 1)
      else (65533, 1)) :
    (z = 0 ∧ x = 65533 ∧ y = 1 ∧ ¬ (2 < n ∧ a = 239 ∧ b = 191 ∧ c = 189)) ∨ (z ≠ 0 ∧ y = z ∧ (x ≠ 65533 ∨ (2 < n ∧ a = 239 ∧ b = 191 ∧ c = 189))) := by
  by_cases g : a < 128
  · rw [if_pos g] at hx hz
    obtain ⟨ex, ey⟩ := Prod.mk.inj hx
    omega
  rw [if_neg g] at hx hz
  by_cases g2 : a / 32 = 6 ∧ (1 < n ∧ b / 64 = 2)
  · rw [if_pos g2] at hx
    have e1 : a % 32 = a - 192 := by omega
    have e2 : b % 64 = b - 128 := by omega
    have e3 : 192 ≤ a ∧ a ≤ 223 ∧ 1 < n ∧ 128 ≤ b ∧ b ≤ 191 := by omega
    rw [e1, e2] at hx
    clear g2 e1 e2
    by_cases g3 : 194 ≤ a
    · rw [if_pos (by omega)] at hx hz
      obtain ⟨ex, ey⟩ := Prod.mk.inj hx
      exact .inr ⟨by omega, by omega, by omega⟩
    · rw [if_neg (by omega)] at hx
      obtain ⟨ex, ey⟩ := Prod.mk.inj hx
      rw [if_neg (by omega), if_neg (by omega), if_neg (by omega), if_neg (by omega), if_neg (by omega), if_neg (by omega), if_neg (by omega)] at hz
      exact .inl ⟨hz, ex, ey, by omega⟩
  rw [if_neg g2] at hx
  rw [if_neg (by omega)] at hz
  clear g2
  by_cases g2 : (a / 16 = 14 ∧ (1 < n ∧ b / 64 = 2)) ∧ (2 < n ∧ c / 64 = 2)
  · rw [if_pos g2] at hx
    have e1 : a % 16 = a - 224 := by omega
    have e2 : b % 64 = b - 128 := by omega
    have e3 : c % 64 = c - 128 := by omega
    have e4 : 224 ≤ a ∧ a ≤ 239 ∧ 2 < n ∧ 128 ≤ b ∧ b ≤ 191 ∧ 128 ≤ c ∧ c ≤ 191 := by omega
    rw [e1, e2, e3] at hx
    clear g2 e1 e2 e3
    by_cases g3 : (a = 224 ∧ b < 160) ∨ (a = 237 ∧ 160 ≤ b)
    · rw [if_neg (by omega)] at hx
      obtain ⟨ex, ey⟩ := Prod.mk.inj hx
      rw [if_neg (by omega), if_neg (by omega), if_neg (by omega), if_neg (by omega), if_neg (by omega), if_neg (by omega)] at hz
      exact .inl ⟨hz, ex, ey, by omega⟩
    · rw [if_pos (by omega)] at hx
      obtain ⟨ex, ey⟩ := Prod.mk.inj hx
      have hz3 : z = 3 := by
        by_cases g4 : a = 224
        · rw [if_pos (by omega)] at hz; exact hz
        · rw [if_neg (by omega)] at hz
          by_cases g5 : a = 237
          · rw [if_pos (by omega)] at hz; exact hz
          · rw [if_neg (by omega), if_pos (by omega)] at hz; exact hz
      exact .inr ⟨by omega, by omega, by omega⟩
  rw [if_neg g2] at hx
  rw [if_neg (by omega), if_neg (by omega), if_neg (by omega)] at hz
  have hnf : ¬ (2 < n ∧ a = 239 ∧ b = 191 ∧ c = 189) := by omega
  clear g2
  by_cases g2 : ((a / 8 = 30 ∧ (1 < n ∧ b / 64 = 2)) ∧ (2 < n ∧ c / 64 = 2)) ∧ (3 < n ∧ d / 64 = 2)
  · rw [if_pos g2] at hx
    have e1 : a % 8 = a - 240 := by omega
    have e2 : b % 64 = b - 128 := by omega
    have e3 : c % 64 = c - 128 := by omega
    have e5 : d % 64 = d - 128 := by omega
    have e4 : 240 ≤ a ∧ a ≤ 247 ∧ 3 < n ∧ 128 ≤ b ∧ b ≤ 191 ∧ 128 ≤ c ∧ c ≤ 191 ∧ 128 ≤ d ∧ d ≤ 191 := by omega
    rw [e1, e2, e3, e5] at hx
    clear g2 e1 e2 e3 e5 hnf
    by_cases g3 : (a = 240 ∧ b < 144) ∨ (a = 244 ∧ 144 ≤ b) ∨ 245 ≤ a
    · rw [if_neg (by omega)] at hx
      obtain ⟨ex, ey⟩ := Prod.mk.inj hx
      rw [if_neg (by omega), if_neg (by omega), if_neg (by omega)] at hz
      exact .inl ⟨hz, ex, ey, by omega⟩
    · rw [if_pos (by omega)] at hx
      obtain ⟨ex, ey⟩ := Prod.mk.inj hx
      have hz3 : z = 4 := by
        by_cases g4 : a = 240
        · rw [if_pos (by omega)] at hz; exact hz
        · rw [if_neg (by omega)] at hz
          by_cases g5 : a = 244
          · rw [if_neg (by omega), if_pos (by omega)] at hz; exact hz
          · rw [if_pos (by omega)] at hz; exact hz
      exact .inr ⟨by omega, by omega, by omega⟩
  rw [if_neg g2] at hx
  obtain ⟨ex, ey⟩ := Prod.mk.inj hx
  rw [if_neg (by omega), if_neg (by omega), if_neg (by omega)] at hz
  exact .inl ⟨hz, ex, ey, hnf⟩
theorem yK (c : Nat) : Utf8.valid (c : Int) = true ↔ (c < 55296 ∨ 57344 ≤ c ∧ c ≤ 1114111) := by
  unfold Utf8.valid
  simp only [Bool.or_eq_true, Bool.and_eq_true, decide_eq_true_eq]
  omega
theorem Ff (l : List UInt8) : (vR l = 0 ∧ oJ l = (65533, 1) ∧ qi l = false) ∨ (vR l ≠ 0 ∧ (oJ l).2 = vR l ∧ ((oJ l).1 ≠ 65533 ∨ qi l = true)) := by
  have hf := AP l
  have hf2 : qi l = false ↔ ¬ (2 < l.length ∧ dx l 0 = 239 ∧ dx l 1 = 191 ∧ dx l 2 = 189) := by rw [← hf]; cases qi l <;> simp
  obtain ⟨x, y, hxy⟩ : ∃ x y, oJ l = (x, y) := ⟨_, _, rfl⟩
  have h := Dt (dx l 0) (dx l 1) (dx l 2) (dx l 3) l.length (rQ l 0) (rQ l 1) (rQ l 2) (rQ l 3) (vR l) x y
    (by unfold vR; simp only [mf, mU, mV, qD])
    (by rw [← hxy]; unfold oJ nJ; simp only [Bool.and_eq_true, decide_eq_true_eq, beq_iff_eq, ge_iff_le, yK])
  rw [hxy, hf, hf2]
  rcases h with ⟨e1, e2, e3, e4⟩ | ⟨e1, e2, e3⟩
  · exact .inl ⟨e1, by rw [e2, e3], e4⟩
  · exact .inr ⟨e1, e2, e3⟩
theorem Fg (l : List UInt8) (h0 : 0 < l.length) : vR l ≤ l.length ∧ vR l ≤ 4 := by
  unfold vR
  simp only [mf, mU, mV, qD]
  repeat' split
  all_goals omega
def Du : Nat → List UInt8 → Int → Int
  | 0, _, _ => -1
  | n + 1, l, i => if l = [] then -1 else if vR l = 0 then i else Du n (l.drop (vR l)) (i + vR l)
theorem AQ : ∀ (n : Nat) (l : List UInt8) (i : Int), l.length ≤ n → Du n l i = Du l.length l i := by
  intro n
  induction n using Nat.strongRecOn with
  | ind n ih =>
    intro l i h
    cases l with
    | nil => cases n <;> simp [Du]
    | cons c l =>
      cases n with
      | zero => simp at h
      | succ n =>
        simp only [List.length_cons, Du, reduceCtorEq, if_false]
        split
        · rfl
        · rename_i hz
          have hl : ((c :: l).drop (vR (c :: l))).length ≤ l.length := by rw [List.length_drop, List.length_cons]; omega
          simp only [List.length_cons] at h
          rw [ih n (by omega) _ _ (by omega), ih l.length (by omega) _ _ hl]
def jJ (s : ByteArray) (k : Nat) : Int := Du (s.data.toList.drop k).length (s.data.toList.drop k) k
theorem yL (s : ByteArray) (k : Nat) (h : s.size ≤ k) : jJ s k = -1 := by
  have : s.data.toList.drop k = [] := List.drop_eq_nil_of_le (by rw [Array.length_toList]; exact h)
  unfold jJ; rw [this]; rfl
theorem tF (s : ByteArray) (k : Nat) (h : k < s.size) (hz : vR (s.data.toList.drop k) = 0) : jJ s k = k := by
  unfold jJ
  have h1 : 0 < (s.data.toList.drop k).length := by rw [List.length_drop, Array.length_toList]; show 0 < s.size - k; omega
  obtain ⟨n, hn⟩ : ∃ n, (s.data.toList.drop k).length = n + 1 := ⟨_, (Nat.succ_pred_eq_of_pos h1).symm⟩
  rw [hn, Du, if_neg (by intro e; rw [e] at h1; simp at h1), if_pos hz]
theorem vS (s : ByteArray) (k : Nat) (h : k < s.size) (hz : vR (s.data.toList.drop k) ≠ 0) : jJ s k = jJ s (k + vR (s.data.toList.drop k)) := by
  have h1 : 0 < (s.data.toList.drop k).length := by rw [List.length_drop, Array.length_toList]; show 0 < s.size - k; omega
  obtain ⟨n, hn⟩ : ∃ n, (s.data.toList.drop k).length = n + 1 := ⟨_, (Nat.succ_pred_eq_of_pos h1).symm⟩
  have e : jJ s k = Du (n + 1) (s.data.toList.drop k) k := by unfold jJ; rw [hn]
  rw [e, Du, if_neg (by intro e; rw [e] at h1; simp at h1), if_neg hz, List.drop_drop]
  unfold jJ
  rw [AQ _ _ _ (by rw [List.length_drop] at hn ⊢; omega)]
  congr 1
def tG (s : ByteArray) : Int := jJ s 0
def kg (s : ByteArray) : Bool := decide (tG s < 0)
end Go.Proofs.YtklcfjlmlbnkaaaGreatDoor
namespace Go.Proofs.YtklcfjlmlbnkaaaGreatDoor
open Go
def jS (c : Nat) : Nat := if 97 ≤ c ∧ c ≤ 122 then 1 else if 65 ≤ c ∧ c ≤ 90 then 2 else if 48 ≤ c ∧ c ≤ 57 then 3 else if c = 95 then 4 else 0
def qj (c : UInt8) : Bool := decide (jS c.toNat = 1 ∨ jS c.toNat = 2)
def C8 (c : UInt8) : Bool := decide (jS c.toNat ≠ 0)
def Fh (l : List UInt8) : Bool := match l with | [] => false | c :: _ => qj c
def bV (l : List UInt8) : Bool := decide (1 ≤ l.length ∧ l.length ≤ 40) && Fh l && l.all C8
def tH : List UInt8 → List (List UInt8)
  | [] => [[]]
  | c :: r => if c = 46 then [] :: tH r else match tH r with | p :: ps => (c :: p) :: ps | [] => [[c]]
def fP (l : List UInt8) : Bool := decide (l.length ≤ 120) && (tH l).all bV
theorem oK : ∀ (l : List UInt8), Lib.splitK [46] 0 (l.count 46) l = tH l
  | [] => rfl
  | c :: r => by
    have ih := oK r
    by_cases h : c = 46
    · subst h
      have hix : Lib.index (46 :: r) [46] = 0 := by rw [Lib.index_one, Lib.indexByte]; rfl
      rw [List.count_cons_self, Lib.splitK, hix]
      simp [tH, ih]
    · have hc : (c :: r).count 46 = r.count 46 := List.count_cons_of_ne (by simpa using h)
      have hix : Lib.index (c :: r) [46] = if Lib.index r [46] = -1 then -1 else Lib.index r [46] + 1 := by
        rw [Lib.index_one, Lib.index_one]
        rw [Lib.indexByte]
        simp only [beq_iff_eq, if_neg h]
      rw [hc, tH, if_neg h, ← ih]
      cases hk : r.count 46 with
      | zero => rfl
      | succ k =>
        have hge := Lib.index_ge r [46]
        have hne : Lib.index r [46] ≠ -1 := by
          intro e
          have := Lib.count_miss e
          rw [Lib.count_one, hk] at this
          omega
        obtain ⟨i, hi⟩ : ∃ i : Nat, Lib.index r [46] = i := ⟨(Lib.index r [46]).toNat, by omega⟩
        rw [Lib.splitK, Lib.splitK, hix, hi]
        rw [if_neg (show ¬ ((i : Int) = -1) by omega)]
        rw [if_neg (show ¬ (((i : Int) + 1 == -1) = true) by rw [beq_iff_eq]; omega), if_neg (show ¬ (((i : Int) == -1) = true) by rw [beq_iff_eq]; omega)]
        have e1 : (((i : Int) + 1).toNat + 0) = i + 1 := by omega
        have e2 : (((i : Int) + 1).toNat + [(46 : UInt8)].length) = i + 1 + 1 := by simp only [List.length_cons, List.length_nil]; omega
        rw [e1, e2]
        simp
theorem vT (s : ByteArray) : (Lib.splitB ⟨#[46]⟩ 0 (Lib.countB s ⟨#[46]⟩) s).map (·.data.toList) = tH s.data.toList := by
  rw [Lib.splitB_data, ← oK]
  have : Lib.countB s ⟨#[46]⟩ = s.data.toList.count 46 := by
    unfold Lib.countB; exact Lib.count_one 46 _
  rw [this]
theorem Fi (l : List UInt8) (h : 128 ≤ dx l 0) : 128 ≤ (oJ l).1 := by
  unfold oJ
  rw [if_neg (by omega)]
  (repeat' split) <;> simp_all <;> omega
theorem Dw (l : List UInt8) (h : dx l 0 < 128) : oJ l = (dx l 0, 1) := by unfold oJ; rw [if_pos (by omega)]
theorem tI {c : Nat} (h : 128 ≤ c) : jS c = 0 := by unfold jS; rw [if_neg (by omega), if_neg (by omega), if_neg (by omega), if_neg (by omega)]
theorem yM {l : List UInt8} {k : Nat} (h : k < l.length) (hg : C8 l[k] = false) : bV l = false := by
  unfold bV
  have : l.all C8 = false := by
    rw [List.all_eq_false]
    exact ⟨l[k], List.getElem_mem h, by simp [hg]⟩
  rw [this, Bool.and_false]
theorem tJ {l : List UInt8} (h : 0 < l.length) (hg : qj l[0] = false) : bV l = false := by
  unfold bV
  cases l with
  | nil => simp at h
  | cons c r => rw [show Fh (c :: r) = qj c from rfl]; simp at hg; simp [hg]
theorem yN {l : List UInt8} (hg : ∀ k (h : k < l.length), C8 l[k] = true) (h0 : ∀ (h : 0 < l.length), qj l[0] = true) : bV l = decide (1 ≤ l.length ∧ l.length ≤ 40) := by
  unfold bV
  have : l.all C8 = true := by
    rw [List.all_eq_true]
    intro x hx
    obtain ⟨k, hk, rfl⟩ := List.mem_iff_getElem.1 hx
    exact hg k hk
  rw [this, Bool.and_true]
  cases l with
  | nil => simp
  | cons c r => rw [show Fh (c :: r) = qj c from rfl, show qj c = true from h0 (by simp), Bool.and_true]
end Go.Proofs.YtklcfjlmlbnkaaaGreatDoor
namespace Go.Proofs.YtklcfjlmlbnkaaaGreatDoor
open Go
def gS : Nat → Nat → List UInt8
  | 0, u => [UInt8.ofNat u]
  | n + 1, u => if 128 ≤ u then UInt8.ofNat (u % 128 + 128) :: gS n (u / 128) else [UInt8.ofNat u]
def aM (u : Nat) : List UInt8 := gS 9 u
def cp : Nat → List UInt8 → Nat → Nat → Nat × Nat × Int
  | 0, _, _, _ => (0, 0, 6)
  | _ + 1, [], _, _ => (0, 0, 4)
  | k + 1, c :: l, n, u =>
    if k = 0 ∧ 1 < c.toNat then (0, 0, 6)
    else if c.toNat < 128 then (u + c.toNat % 128 * 128 ^ n, n + 1, 0)
    else cp k l (n + 1) (u + c.toNat % 128 * 128 ^ n)
def cr (l : List UInt8) : Nat × Nat × Int := cp 10 l 0 0
theorem tK : ∀ n u, 1 ≤ (gS n u).length ∧ (gS n u).length ≤ n + 1
  | 0, _ => by simp [gS]
  | n + 1, u => by
    unfold gS; split
    · have := tK n (u / 128); simp only [List.length_cons]; omega
    · simp
theorem cP (u : Nat) : 1 ≤ (aM u).length ∧ (aM u).length ≤ 10 := tK 9 u
theorem kh (n : Nat) : 128 ^ (n + 1) = 128 * 128 ^ n := by rw [Nat.pow_succ, Nat.mul_comm]
theorem tL : ∀ (k u n a : Nat) (rest : List UInt8), (u < 2 * 128 ^ k) → cp (k + 1) (gS k u ++ rest) n a = (a + u * 128 ^ n, n + (gS k u).length, 0)
  | 0, u, n, a, rest, h => by
    have hu : u < 2 := by simpa using h
    have e : (UInt8.ofNat u).toNat = u := by rw [UInt8.toNat_ofNat']; omega
    simp only [gS, List.cons_append, List.nil_append, cp, e, List.length_cons, List.length_nil]
    rw [if_neg (by omega), if_pos (by omega), Nat.mod_eq_of_lt (by omega)]
  | k + 1, u, n, a, rest, h => by
    by_cases h1 : 128 ≤ u
    · have e : (UInt8.ofNat (u % 128 + 128)).toNat = u % 128 + 128 := by rw [UInt8.toNat_ofNat']; omega
      rw [kh] at h
      have ih := tL k (u / 128) (n + 1) (a + u % 128 * 128 ^ n) rest (by omega)
      rw [gS, if_pos h1]
      simp only [List.cons_append, List.length_cons]
      rw [cp, if_neg (by omega), if_neg (by omega), e, show (u % 128 + 128) % 128 = u % 128 by omega, ih]
      refine Prod.ext ?_ (Prod.ext ?_ rfl)
      · show a + u % 128 * 128 ^ n + u / 128 * 128 ^ (n + 1) = a + u * 128 ^ n
        rw [kh, ← Nat.mul_assoc, Nat.add_assoc, ← Nat.add_mul]
        congr 2; omega
      · show n + 1 + (gS k (u / 128)).length = n + ((gS k (u / 128)).length + 1); omega
    · have e : (UInt8.ofNat u).toNat = u := by rw [UInt8.toNat_ofNat']; omega
      rw [gS, if_neg h1]
      simp only [List.cons_append, List.nil_append, List.length_cons, List.length_nil]
      rw [cp, if_neg (by omega), if_pos (by omega), e, Nat.mod_eq_of_lt (by omega)]
theorem yO (u : Nat) (rest : List UInt8) (h : u < 18446744073709551616) : cr (aM u ++ rest) = (u, (aM u).length, 0) := by
  unfold cr aM
  rw [tL 9 u 0 0 rest (by simpa using h)]
  simp
theorem jy : ∀ (k : Nat) (l : List UInt8) (n a u m : Nat), cp k l n a = (u, m, 0) → n < m ∧ m ≤ n + k ∧ m - n ≤ l.length
  | 0, _, _, _, _, _, h => by simp [cp] at h
  | _ + 1, [], _, _, _, _, h => by simp [cp] at h
  | k + 1, c :: l, n, a, u, m, h => by
    unfold cp at h
    split at h
    · simp at h
    · split at h
      · simp only [Prod.mk.injEq] at h; simp only [List.length_cons]; omega
      · have := jy k l (n + 1) _ u m h; simp only [List.length_cons]; omega
theorem ki {l : List UInt8} {u m : Nat} (h : cr l = (u, m, 0)) : 0 < m ∧ m ≤ 10 ∧ m ≤ l.length := by
  have := jy 10 l 0 0 u m h; omega
theorem mg : ∀ (k : Nat) (l : List UInt8) (n a : Nat), (cp k l n a).2.2 = 0 ∨ cp k l n a = (0, 0, 4) ∨ cp k l n a = (0, 0, 6)
  | 0, _, _, _ => .inr (.inr rfl)
  | _ + 1, [], _, _ => .inr (.inl rfl)
  | k + 1, c :: l, n, a => by
    unfold cp
    split
    · exact .inr (.inr rfl)
    · split
      · exact .inl rfl
      · exact mg k l _ _
theorem kQ (l : List UInt8) : (cr l).2.2 = 0 ∨ cr l = (0, 0, 4) ∨ cr l = (0, 0, 6) := mg 10 l 0 0
theorem tM : ∀ (k : Nat) (l : List UInt8) (n a u m : Nat) (r : List UInt8), cp k l n a = (u, m, 0) → cp k (l ++ r) n a = (u, m, 0)
  | 0, _, _, _, _, _, _, h => by simp [cp] at h
  | _ + 1, [], _, _, _, _, _, h => by simp [cp] at h
  | k + 1, c :: l, n, a, u, m, r, h => by
    unfold cp at h
    rw [List.cons_append, cp]
    split at h
    · simp at h
    · rename_i h1
      rw [if_neg h1]
      split at h
      · rename_i h2; rw [if_pos h2]; exact h
      · rename_i h2; rw [if_neg h2]; exact tM k l _ _ u m r h
end Go.Proofs.YtklcfjlmlbnkaaaGreatDoor
namespace Go.Proofs.YtklcfjlmlbnkaaaGreatDoor
open Go.RowKit
def fm (l : List UInt8) : List Value := l.map fun b => .int .u8 (b.toNat : Int)
theorem kb (l : List UInt8) (b : UInt8) : fm (l ++ [b]) = fm l ++ [.int .u8 (b.toNat : Int)] := by simp [fm]
theorem Fj : (Tryz.prog.info? 5).map (fun i => (i.zero, i.size, i.bytes)) = some (some (.int .u8 0), 1, 1) := by kernel_rfl
theorem AR (W : World) (base : Nat) (v : Value) (l : List UInt8) (h0 : l ≠ []) (h : W.ownsRow base 5 1 v l.length (fm l)) :
    (convert 107 9 v).run Tryz.prog W = .ok (.string ⟨l.toArray⟩) W := by
  obtain ⟨h1, h2 | ⟨g, cap, cur, rfl, hb, hg, hn, hm, hsz, htake⟩⟩ := h
  · exact absurd (List.length_eq_zero_iff.1 h2.2) h0
  · refine run_convert_bytes_back _ _ _ _ _ _ l Tryz.underlying107 Tryz.underlying5 Tryz.underlying9 fun j hj => ?_
    have := World.ownsRow.cells (w := W) (base := base) (e := 5) (size := 1) (v := .slice (some ⟨g, 0, none⟩) l.length cap) (n := l.length) (xs := fm l) ⟨h1, .inr ⟨g, cap, cur, rfl, hb, hg, hn, hm, hsz, htake⟩⟩ (g := g) rfl j (.int .u8 (l[j].toNat : Int)) (by simp [fm, List.getElem?_eq_getElem hj])
    exact this
end Go.Proofs.YtklcfjlmlbnkaaaGreatDoor
namespace Go.Proofs.YtklcfjlmlbnkaaaGreatDoor
open Go.RowKit
theorem qF {a b : ByteArray} (h : a = b) : Ending.returned (.string a) = .returned (.string b) := by rw [h]
theorem bN {k : IntKind} {a b : Int} (h : a = b) : Ending.returned (.int k a) = .returned (.int k b) := by rw [h]
set_option maxRecDepth 20000 in
theorem GJ : ∀ x : Fin 256, x.1 ||| 128 = x.1 % 128 + 128 := by decide
theorem Dx (U : Nat) : bits .or .u8 ((U : Int) % 256) 128 = ((U % 128 + 128 : Nat) : Int) := by
  have h := u8_or_nat (U % 256) 128 (by omega) (by omega)
  rw [GJ ⟨U % 256, by omega⟩] at h
  rw [show ((128 : Nat) : Int) = 128 from rfl, show ((U % 256 : Nat) : Int) = (U : Int) % 256 by omega] at h
  rw [h]; show ((U % 256 % 128 + 128 : Nat) : Int) = _; omega
set_option maxRecDepth 100000 in
set_option maxHeartbeats 1000000 in
theorem iq (u : Nat) (w : World) (hu : u < 18446744073709551616) :
    Calls Tryz.prog 41 #[.int .u64 u] w fun e w' => e = .returned (.string ⟨(aM u).toArray⟩) ∧ Below w.heap.size w w' := by
  obtain ⟨i0, hi, hz0, hz1, hz2⟩ := info_parts Fj
  have HI := Lib.hid hi; clear hi
  have HZ := Lib.hid hz0; clear hz0
  have HZ1 := Lib.hid hz1; clear hz1
  have HZ2 := Lib.hid hz2; clear hz2
  have HU := Lib.hid hu; clear hu
  go_enter Tryz.func41, Tryz.ntmps41
  go_wp2
  go_loopw [0, 3] (fun x v wr => ∃ (U j : Nat) (acc : List UInt8), j ≤ 9 ∧ x = .int .u64 U ∧ U < 2 * 128 ^ (9 - j) ∧ acc.length = j ∧ aM u = acc ++ gS (9 - j) U ∧ wr.ownsRow w.heap.size 5 1 v j (fm acc) ∧ Below w.heap.size w wr) (fun x _ _ => (intOf x).toNat)
  case atStart => exact ⟨u, 0, [], by omega, rfl, by have := HU.out; simpa using this, rfl, rfl, World.ownsRow_nil _ _ _ _, Below.refl _ _⟩
  case round =>
    obtain ⟨U, j, acc, hj, rfl, hU, hacc, hput, hown, hb⟩ := hrel
    have HO := Lib.hid hown; clear hown
    have HB := Lib.hid hb; have hbs := hb.size; clear hb
    have HP := Lib.hid hput; clear hput
    have HA := Lib.hid hacc; clear hacc
    have hU64 : U < 18446744073709551616 := Nat.lt_of_lt_of_le hU (Nat.le_trans (Nat.mul_le_mul_left 2 (Nat.pow_le_pow_right (by decide) (show 9 - j ≤ 9 by omega))) (by decide))
    by_cases hge : 128 ≤ U
    · have hj2 : j < 9 := by
        by_cases h : j = 9
        · subst h; simp at hU; omega
        · omega
      have HS := Lib.hid (show aM u = (acc ++ [UInt8.ofNat (U % 128 + 128)]) ++ gS (9 - (j + 1)) (U / 128) by
        rw [HP.out, show 9 - j = (9 - (j + 1)) + 1 by omega, gS, if_pos hge, List.append_assoc]; rfl)
      have HU2 := Lib.hid (show U / 128 < 2 * 128 ^ (9 - (j + 1)) by
        rw [show 9 - j = (9 - (j + 1)) + 1 by omega, kh] at hU; omega)
      have Al := Dx U
      have hgb : decide ((128 : Int) ≤ (U : Int)) = true := decide_eq_true (by omega)
      have hbc : ((U % 128 + 128 : Nat) : Int) = ((UInt8.ofNat (U % 128 + 128)).toNat : Int) := by rw [UInt8.toNat_ofNat']; omega
      rw [hbc] at Al
      clear hbc hU
      go_wp2_with (at_builtin; refine wpList_append_own _ rfl _ _ 107 rfl w.heap.size 5 i0 (.int .u8 0) 1 1 Tryz.underlying107 HI.out HZ.out HZ1.out HZ2.out rfl (by decide) _ j (fm acc) rfl (HO.out.alloc _) ⟨wr.heap.size, 0, none⟩ 1 1 [.int .u8 ((UInt8.ofNat (U % 128 + 128)).toNat : Int)] rfl rfl (cell_one_new _ _ _) (by simp [Value.oneCell']) (by unfold maxLen; omega) (by omega) (by simp; omega) ?_; intro v' w1 hown' hgrow _)
      have hb1 : Below w.heap.size w w1 := (HB.out.alloc hbs _).grown hgrow (by simp; omega) (fun g hg => (HO.out.lt g hg).1)
      have HO' := Lib.hid hown'; clear hown' hgrow
      go_wp2
      go_roundw
      case rel => exact ⟨U / 128, j + 1, acc ++ [UInt8.ofNat (U % 128 + 128)], by omega, by go_num, HU2.out, by rw [List.length_append, HA.out]; rfl, HS.out, by rw [kb]; exact HO'.out, hb1⟩
      case measure => simp [intOf]; omega
    · obtain ⟨c, rfl⟩ : ∃ c : UInt8, U = c.toNat := ⟨UInt8.ofNat U, by rw [UInt8.toNat_ofNat']; omega⟩
      have HS := Lib.hid (show aM u = acc ++ [c] by
        rw [HP.out]; congr 1
        cases hn : 9 - j with
        | zero => simp [gS]
        | succ n => rw [gS, if_neg hge]; simp)
      have hgb : decide ((128 : Int) ≤ (c.toNat : Int)) = false := decide_eq_false (by omega)
      clear hU hge hU64
      go_wp2_with (at_builtin; refine wpList_append_own _ rfl _ _ 107 rfl w.heap.size 5 i0 (.int .u8 0) 1 1 Tryz.underlying107 HI.out HZ.out HZ1.out HZ2.out rfl (by decide) _ j (fm acc) rfl (HO.out.alloc _) ⟨wr.heap.size, 0, none⟩ 1 1 [.int .u8 ((c.toNat : Int) % 256)] rfl rfl (cell_one_new _ _ _) (by simp [Value.oneCell']) (by unfold maxLen; omega) (by omega) (by simp; omega) ?_; intro v' w1 hown' hgrow _; have hb1 : Below w.heap.size w w1 := (HB.out.alloc hbs _).grown hgrow (by simp; omega) (fun g hg => (HO.out.lt g hg).1); rw [show (c.toNat : Int) % 256 = (c.toNat : Int) by have := c.toNat_lt; omega, ← kb, ← HA.out, show acc.length + 1 = (acc ++ [c]).length by simp] at hown'; have hcv := AR w1 w.heap.size _ (acc ++ [c]) (by simp) hown'; clear hown' hgrow)
      go_ret
      exact ⟨qF (by rw [HS.out]), hb1⟩
theorem Dy (u : Nat) (w : World) (hu : u < 18446744073709551616) :
    Calls Tryz.prog 74 #[.int .u64 u] w fun e w' => e = .returned (.int .i64 ((aM u).length : Nat)) ∧ w = w' := by
  have HU := Lib.hid hu; clear hu
  go_enter Tryz.func74, Tryz.ntmps74
  go_wp2
  go_loop [0, 3] (fun x v => ∃ (U j : Nat), j ≤ 9 ∧ x = .int .u64 U ∧ v = .int .i64 ((j : Int) + 1) ∧ U < 2 * 128 ^ (9 - j) ∧ (aM u).length = j + (gS (9 - j) U).length) (fun x _ => (intOf x).toNat)
  case atStart => exact ⟨u, 0, by omega, rfl, rfl, by have := HU.out; simpa using this, by rw [Nat.zero_add]; rfl⟩
  case round =>
    obtain ⟨U, j, hj, rfl, rfl, hU, hput⟩ := hrel
    have HP := Lib.hid hput; clear hput
    have hU64 : U < 18446744073709551616 := Nat.lt_of_lt_of_le hU (Nat.le_trans (Nat.mul_le_mul_left 2 (Nat.pow_le_pow_right (by decide) (show 9 - j ≤ 9 by omega))) (by decide))
    by_cases hge : 128 ≤ U
    · have hj2 : j < 9 := by
        by_cases h : j = 9
        · subst h; simp at hU; omega
        · omega
      have HS := Lib.hid (show (aM u).length = (j + 1) + (gS (9 - (j + 1)) (U / 128)).length by
        rw [HP.out, show 9 - j = (9 - (j + 1)) + 1 by omega, gS, if_pos hge, List.length_cons]; omega)
      have HU2 := Lib.hid (show U / 128 < 2 * 128 ^ (9 - (j + 1)) by
        rw [show 9 - j = (9 - (j + 1)) + 1 by omega, kh] at hU; omega)
      have hgb : decide ((128 : Int) ≤ (U : Int)) = true := decide_eq_true (by omega)
      clear hU
      go_wp2
      go_round
      case rel => exact ⟨U / 128, j + 1, by omega, by go_num, by go_num, HU2.out, HS.out⟩
      case measure => simp [intOf]; omega
    · have HS := Lib.hid (show (aM u).length = j + 1 by
        rw [HP.out]; congr 1
        cases hn : 9 - j with
        | zero => simp [gS]
        | succ n => rw [gS, if_neg hge]; simp)
      have hgb : decide ((128 : Int) ≤ (U : Int)) = false := decide_eq_false (by omega)
      clear hU
      go_wp2
      go_ret
      exact ⟨bN (by rw [HS.out]; omega), rfl⟩
end Go.Proofs.YtklcfjlmlbnkaaaGreatDoor
namespace Go.Proofs.YtklcfjlmlbnkaaaGreatDoor
open Go.RowKit
theorem Fk (n : Nat) : (2 : Nat) ^ (7 * n) = 128 ^ n := by rw [Nat.pow_mul]
theorem vU (U x n : Nat) (hU : U < 128 ^ n) : U ||| (x * 128 ^ n) = U + x * 128 ^ n := by
  have h := Nat.two_pow_add_eq_or_of_lt (i := 7 * n) (b := U) (by rw [Fk]; exact hU) x
  rw [Fk] at h
  rw [Nat.mul_comm x, Nat.or_comm, ← h, Nat.add_comm]
theorem tN (n c : Nat) (h : n < 9 ∨ (n = 9 ∧ c ≤ 1)) : c % 128 * 128 ^ n ≤ 9223372036854775808 := by
  rcases h with h | ⟨rfl, h⟩
  · have h1 : 128 ^ n ≤ 128 ^ 8 := Nat.pow_le_pow_right (by decide) (by omega)
    have h2 : c % 128 * 128 ^ n ≤ 127 * 128 ^ 8 := Nat.mul_le_mul (by omega) h1
    exact Nat.le_trans h2 (by decide)
  · have h2 : c % 128 * 128 ^ 9 ≤ 1 * 128 ^ 9 := Nat.mul_le_mul_right _ (by omega)
    exact Nat.le_trans h2 (by decide)
theorem xy (n : Nat) (h : n ≤ 9) : 128 ^ n ≤ 9223372036854775808 := Nat.le_trans (Nat.pow_le_pow_right (by decide) h) (by decide)
theorem tO (U n : Nat) (c : UInt8) (hU : U < 128 ^ n) (hn : n < 9 ∨ (n = 9 ∧ c.toNat ≤ 1)) :
    bits .or .u64 (U : Int) (IntKind.u64.wrap (IntKind.u64.wrap (bits .and .u8 (c.toNat : Int) 127) * 2 ^ (7 * n))) = ((U + c.toNat % 128 * 128 ^ n : Nat) : Int) := by
  have hc := c.toNat_lt
  have h1 := u8_and_nat c.toNat 127 hc (by omega)
  rw [show ((127 : Nat) : Int) = 127 from rfl] at h1
  rw [h1, show (127 : Nat) = 2 ^ 7 - 1 from rfl, Nat.and_two_pow_sub_one_eq_mod]
  have hl := tN n c.toNat hn
  have hp := xy n (by omega)
  have e : ((c.toNat % 2 ^ 7 : Nat) : Int) * 2 ^ (7 * n) = ((c.toNat % 128 * 128 ^ n : Nat) : Int) := by
    rw [Int.natCast_mul, ← Fk, Int.natCast_pow]; rfl
  have w1 : IntKind.u64.wrap ((c.toNat % 2 ^ 7 : Nat) : Int) = ((c.toNat % 2 ^ 7 : Nat) : Int) := by rw [IntKind.wrap_u64]; omega
  rw [w1, e]
  have w2 : IntKind.u64.wrap ((c.toNat % 128 * 128 ^ n : Nat) : Int) = ((c.toNat % 128 * 128 ^ n : Nat) : Int) := by rw [IntKind.wrap_u64]; omega
  rw [w2, u64_or_nat _ _ (by omega) (by omega), vU U _ n hU]
theorem yP (U : Nat) (c : UInt8) (hU : U < 128 ^ 9) (hc : c.toNat ≤ 1) :
    bits .or .u64 (U : Int) (IntKind.u64.wrap (IntKind.u64.wrap (bits .and .u8 (c.toNat : Int) 127) * 9223372036854775808)) = ((U + c.toNat % 128 * 128 ^ 9 : Nat) : Int) := tO U 9 c hU (.inr ⟨rfl, hc⟩)
def cx (s : ByteArray) : Nat × Nat × Int := cr s.data.toList
theorem yQ (s : ByteArray) {k : Nat} (h : k < s.size) : s.data.toList.drop k = s[k] :: s.data.toList.drop (k + 1) := by
  rw [List.drop_eq_getElem_cons (by simpa using h)]; rfl
theorem AU (s : ByteArray) {k : Nat} (h : s.size ≤ k) : s.data.toList.drop k = [] := List.drop_eq_nil_of_le (by rw [Array.length_toList]; exact h)
theorem yR (s : ByteArray) (n U : Nat) (h : n < s.size) (hn : n ≤ 9) : cp (10 - n) (s.data.toList.drop n) n U =
    if n = 9 ∧ 1 < s[n].toNat then (0, 0, 6) else if s[n].toNat < 128 then (U + s[n].toNat % 128 * 128 ^ n, n + 1, 0) else cp (10 - (n + 1)) (s.data.toList.drop (n + 1)) (n + 1) (U + s[n].toNat % 128 * 128 ^ n) := by
  rw [yQ s h, show 10 - n = (10 - (n + 1)) + 1 by omega, cp]
  simp only [show (10 - (n + 1) = 0) ↔ n = 9 by omega]
theorem xz {U n c : Nat} (hU : U < 128 ^ n) : U + c % 128 * 128 ^ n < 128 ^ (n + 1) := by
  rw [kh]
  have : c % 128 * 128 ^ n ≤ 127 * 128 ^ n := Nat.mul_le_mul_right _ (by omega)
  omega
theorem rR {a a' b b' c c' : Int} (h1 : a = a') (h2 : b = b') (h3 : c = c') : Ending.returned (.tuple #[.int .u64 a, .int .i64 b, .int .i64 c]) = .returned (.tuple #[.int .u64 a', .int .i64 b', .int .i64 c']) := by rw [h1, h2, h3]
set_option maxRecDepth 100000 in
set_option maxHeartbeats 2000000 in
theorem kj (s : ByteArray) (w : World) (hs : s.size ≤ 9223372036854775806) :
    Calls Tryz.prog 73 #[.string s] w fun e w' => e = .returned (.tuple #[.int .u64 ((cx s).1 : Nat), .int .i64 ((cx s).2.1 : Nat), .int .i64 (cx s).2.2]) ∧ w = w' := by
  have HT0 := Lib.hid (show cx s = cp 10 s.data.toList 0 0 from rfl)
  generalize cx s = R at *
  go_enter Tryz.func73, Tryz.ntmps73
  go_wp2
  go_step3
  go_wp2
  go_step3
  go_wp2
  go_loop [5, 6] (fun x i => ∃ n U : Nat, n ≤ 9 ∧ n ≤ s.size ∧ i = .int .i64 n ∧ x = .int .u64 U ∧ U < 128 ^ n ∧ R = cp (10 - n) (s.data.toList.drop n) n U) (fun _ i => 10 - (intOf i).toNat)
  case atStart => exact ⟨0, 0, by omega, Nat.zero_le _, rfl, rfl, by decide, HT0.out⟩
  case round =>
    obtain ⟨n, U, hn, hns, rfl, rfl, hU, hT⟩ := hrel
    have HT := Lib.hid hT; clear hT
    by_cases hz : n = s.size
    · have hqs : ((n : Int) == (s.size : Int)) = true := by rw [beq_iff_eq]; omega
      have HR := Lib.hid (show R = (0, 0, 4) by
        rw [HT.out, AU s (by omega)]
        obtain ⟨k, hk⟩ : ∃ k, 10 - n = k + 1 := ⟨9 - n, by omega⟩
        rw [hk]; rfl)
      clear hz hU
      go_wp2_with fail
      try rw [Exit.noGoto_ret]
      go_ret3
      exact ⟨rR (by rw [HR.out]; rfl) (by rw [HR.out]; rfl) (by rw [HR.out]), rfl⟩
    · have hlt : n < s.size := by omega
      have hqs : ((n : Int) == (s.size : Int)) = false := by rw [beq_eq_false_iff_ne]; omega
      have hnx := yR s n U hlt hn
      by_cases h9 : n = 9 ∧ 1 < s[n].toNat
      · have HR := Lib.hid (show R = (0, 0, 6) by rw [HT.out, hnx, if_pos h9])
        obtain ⟨rfl, h9b⟩ := h9
        have hqs2 : ((9 : Int) == (s.size : Int)) = false := hqs
        clear hz hnx hU hqs
        go_wp2_with fail
        try rw [Exit.noGoto_ret]
        go_ret3
        exact ⟨rR (by rw [HR.out]; rfl) (by rw [HR.out]; rfl) (by rw [HR.out]), rfl⟩
      · rw [if_neg h9] at hnx
        have Al := tO U n s[n] hU (by omega)
        have HL := Lib.hid (xz (c := s[n].toNat) hU)
        have HOR9 := Lib.hid (fun (e : n = 9) (h1 : s[n].toNat ≤ 1) => show bits .or .u64 (U : Int) (IntKind.u64.wrap (IntKind.u64.wrap (bits .and .u8 (s[n].toNat : Int) 127) * 9223372036854775808)) = ((U + s[n].toNat % 128 * 128 ^ n : Nat) : Int) by subst e; exact yP U _ hU h1)
        generalize U + s[n].toNat % 128 * 128 ^ n = V at *
        by_cases h8 : s[n].toNat < 128
        · rw [if_pos h8] at hnx
          have HR := Lib.hid (show R = (V, n + 1, 0) by rw [HT.out, hnx])
          clear hnx hU hz
          by_cases hq : n = 9
          · subst hq
            have h1 : s[9].toNat ≤ 1 := by omega
            have hqs2 : ((9 : Int) == (s.size : Int)) = false := hqs
            have hor9 := HOR9.out rfl h1
            clear h9 h8 hqs Al HOR9
            have h8 : s[9].toNat < 128 := by omega
            go_wp2_with fail
            try rw [Exit.noGoto_ret]
            go_ret3
            exact ⟨rR (by rw [HR.out]) (by rw [HR.out]; rfl) (by rw [HR.out]), rfl⟩
          · have hq9 : ((n : Int) == 9) = false := by rw [beq_eq_false_iff_ne]; omega
            clear h9 hq
            go_wp2_with fail
            try rw [Exit.noGoto_ret]
            go_ret3
            exact ⟨rR (by rw [HR.out]) (by rw [HR.out]; rfl) (by rw [HR.out]), rfl⟩
        · rw [if_neg h8] at hnx
          have HR := Lib.hid (show R = cp (10 - (n + 1)) (s.data.toList.drop (n + 1)) (n + 1) V by rw [HT.out, hnx])
          have hq : n < 9 := by omega
          have hq9 : ((n : Int) == 9) = false := by rw [beq_eq_false_iff_ne]; omega
          have h8' : 128 ≤ s[n].toNat := by omega
          clear hnx hU hz h9 h8
          go_wp2_with fail
          go_round
          case rel => exact ⟨n + 1, V, by omega, by omega, by go_num, rfl, HL.out, HR.out⟩
          case measure => simp [intOf]; omega
theorem rS : ∀ (k : Nat) (l : List UInt8) (n a u m : Nat), n + k = 10 → a < 128 ^ n → cp k l n a = (u, m, 0) → u < 18446744073709551616
  | 0, _, _, _, _, _, _, _, h => by simp [cp] at h
  | _ + 1, [], _, _, _, _, _, _, h => by simp [cp] at h
  | k + 1, c :: l, n, a, u, m, hk, ha, h => by
    unfold cp at h
    split at h
    · simp at h
    · rename_i h1
      split at h
      · simp only [Prod.mk.injEq] at h
        have := tN n c.toNat (by omega)
        have := xy n (by omega)
        omega
      · exact rS k l (n + 1) _ u m (by omega) (xz ha) h
theorem km {s : ByteArray} {u n : Nat} (h : cx s = (u, n, 0)) : u < 18446744073709551616 := rS 10 _ 0 0 u n rfl (by decide) h
end Go.Proofs.YtklcfjlmlbnkaaaGreatDoor
