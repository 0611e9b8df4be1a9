/- Texts of this claim merged into one: UtfLaw, IdLaw, VarLaw. -/
import GoSem.Core.Utf8
import Derived.Lib.Hide
import Derived.Lib.Strings
import Derived.Lib.SplitLaws
import Derived.Lib.IndexBytes
/- UTF-8, plain: the length of the well-formed sequence that a list of bytes begins with, and what the model's decoding makes of it. No program in sight. -/
namespace Go.Proofs.YtmdkfbmpenohiaaDoor
open Go

def atL (l : List UInt8) (k : Nat) : Nat := (l.getD k 0).toNat
/-- the byte at k exists and lies between lo and hi. -/
def btw (l : List UInt8) (k lo hi : Nat) : Bool := decide (k < l.length) && decide (lo ≤ atL l k) && decide (atL l k ≤ hi)
/-- n bytes from 128 to 191 from place k on. -/
def tailB : Nat → List UInt8 → Nat → Bool
  | 0, _, _ => true
  | n + 1, l, k => btw l k 128 191 && tailB n l (k + 1)
/-- the length of the well-formed sequence that l begins with, or 0. -/
def szL (l : List UInt8) : Nat :=
  if atL l 0 < 128 then 1
  else if 194 ≤ atL l 0 ∧ atL l 0 ≤ 223 ∧ tailB 1 l 1 = true then 2
  else if atL l 0 = 224 ∧ btw l 1 160 191 = true ∧ tailB 1 l 2 = true then 3
  else if atL l 0 = 237 ∧ btw l 1 128 159 = true ∧ tailB 1 l 2 = true then 3
  else if 225 ≤ atL l 0 ∧ atL l 0 ≤ 239 ∧ atL l 0 ≠ 237 ∧ tailB 2 l 1 = true then 3
  else if atL l 0 = 240 ∧ btw l 1 144 191 = true ∧ tailB 2 l 2 = true then 4
  else if 241 ≤ atL l 0 ∧ atL l 0 ≤ 243 ∧ tailB 3 l 1 = true then 4
  else if atL l 0 = 244 ∧ btw l 1 128 143 = true ∧ tailB 2 l 2 = true then 4
  else 0
theorem atL_lt (l : List UInt8) (k : Nat) : atL l k < 256 := (l.getD k 0).toNat_lt
theorem btw_iff (l : List UInt8) (k lo hi : Nat) : btw l k lo hi = true ↔ (k < l.length ∧ lo ≤ atL l k ∧ atL l k ≤ hi) := by simp [btw, and_assoc]
theorem tail1_iff (l : List UInt8) (k : Nat) : tailB 1 l k = true ↔ (k < l.length ∧ 128 ≤ atL l k ∧ atL l k ≤ 191) := by
  simp only [tailB, Bool.and_true]; exact btw_iff _ _ _ _
theorem tail2_iff (l : List UInt8) (k : Nat) : tailB 2 l k = true ↔ ((k < l.length ∧ 128 ≤ atL l k ∧ atL l k ≤ 191) ∧ (k + 1 < l.length ∧ 128 ≤ atL l (k + 1) ∧ atL l (k + 1) ≤ 191)) := by
  rw [tailB, Bool.and_eq_true, tail1_iff, btw_iff]
theorem tail3_iff (l : List UInt8) (k : Nat) : tailB 3 l k = true ↔ ((k < l.length ∧ 128 ≤ atL l k ∧ atL l k ≤ 191) ∧ (k + 1 < l.length ∧ 128 ≤ atL l (k + 1) ∧ atL l (k + 1) ≤ 191) ∧ (k + 2 < l.length ∧ 128 ≤ atL l (k + 2) ∧ atL l (k + 2) ≤ 191)) := by
  rw [tailB, Bool.and_eq_true, tail2_iff, btw_iff]
/-- the model's decoding, over a list. -/
def contL (l : List UInt8) (k : Nat) : Bool := decide (k < l.length) && (atL l k / 64 == 2)
def decL (l : List UInt8) : Nat × Nat :=
  if atL l 0 < 0x80 then (atL l 0, 1)
  else if atL l 0 / 32 == 6 && contL l 1 then
    if (atL l 0 % 32) * 64 + atL l 1 % 64 ≥ 0x80 then ((atL l 0 % 32) * 64 + atL l 1 % 64, 2) else (65533, 1)
  else if atL l 0 / 16 == 14 && contL l 1 && contL l 2 then
    if (atL l 0 % 16) * 4096 + (atL l 1 % 64) * 64 + atL l 2 % 64 ≥ 0x800 && Utf8.valid ((atL l 0 % 16) * 4096 + (atL l 1 % 64) * 64 + atL l 2 % 64 : Nat) then ((atL l 0 % 16) * 4096 + (atL l 1 % 64) * 64 + atL l 2 % 64, 3) else (65533, 1)
  else if atL l 0 / 8 == 30 && contL l 1 && contL l 2 && contL l 3 then
    if (atL l 0 % 8) * 262144 + (atL l 1 % 64) * 4096 + (atL l 2 % 64) * 64 + atL l 3 % 64 ≥ 0x10000 && Utf8.valid ((atL l 0 % 8) * 262144 + (atL l 1 % 64) * 4096 + (atL l 2 % 64) * 64 + atL l 3 % 64 : Nat) then ((atL l 0 % 8) * 262144 + (atL l 1 % 64) * 4096 + (atL l 2 % 64) * 64 + atL l 3 % 64, 4) else (65533, 1)
  else (65533, 1)
theorem get_at (s : ByteArray) (i k : Nat) : (s.get! (i + k)).toNat = atL (s.data.toList.drop i) k := by
  unfold atL
  rw [List.getD_eq_getElem?_getD, List.getElem?_drop, Array.getElem?_toList]
  show (s.data[i + k]!).toNat = _
  rw [getElem!_def]
  cases s.data[i + k]? <;> rfl
theorem size_drop (s : ByteArray) (i k : Nat) : (i + k < s.size) ↔ k < (s.data.toList.drop i).length := by
  rw [List.length_drop, Array.length_toList]; show i + k < s.data.size ↔ _; omega
theorem decode_dec (s : ByteArray) (i : Nat) : Utf8.decode s i = decL (s.data.toList.drop i) := by
  unfold Utf8.decode decL contL
  simp only [get_at, size_drop]
  rfl
/-- l begins with the three bytes of U+FFFD. -/
def fffd (l : List UInt8) : Bool := Lib.hasPrefix l [239, 191, 189]
theorem fffd_iff (l : List UInt8) : fffd l = true ↔ (2 < l.length ∧ atL l 0 = 239 ∧ atL l 1 = 191 ∧ atL l 2 = 189) := by
  unfold fffd
  rcases l with _ | ⟨a, _ | ⟨b, _ | ⟨c, l⟩⟩⟩
  · simp [Lib.hasPrefix]
  · simp [Lib.hasPrefix]
  · simp [Lib.hasPrefix]
  · have h : ∀ x y : UInt8, (x == y) = decide (y.toNat = x.toNat) := fun x y => by rw [Bool.eq_iff_iff]; simp only [beq_iff_eq, decide_eq_true_eq, ← UInt8.toNat_inj]; exact eq_comm
    simp [Lib.hasPrefix, List.isPrefixOf, atL, h]

set_option maxHeartbeats 2000000 in
theorem dec_num (a b c d n : Nat) (h0 : a < 256) (h1 : b < 256) (h2 : c < 256) (h3 : d < 256) (z x y : Nat)
    (hz : z = if a < 128 then 1
      else if 194 ≤ a ∧ a ≤ 223 ∧ (1 < n ∧ 128 ≤ b ∧ b ≤ 191) then 2
      else if a = 224 ∧ (1 < n ∧ 160 ≤ b ∧ b ≤ 191) ∧ (2 < n ∧ 128 ≤ c ∧ c ≤ 191) then 3
      else if a = 237 ∧ (1 < n ∧ 128 ≤ b ∧ b ≤ 159) ∧ (2 < n ∧ 128 ≤ c ∧ c ≤ 191) then 3
      else if 225 ≤ a ∧ a ≤ 239 ∧ a ≠ 237 ∧ ((1 < n ∧ 128 ≤ b ∧ b ≤ 191) ∧ (2 < n ∧ 128 ≤ c ∧ c ≤ 191)) then 3
      else if a = 240 ∧ (1 < n ∧ 144 ≤ b ∧ b ≤ 191) ∧ ((2 < n ∧ 128 ≤ c ∧ c ≤ 191) ∧ (3 < n ∧ 128 ≤ d ∧ d ≤ 191)) then 4
      else if 241 ≤ a ∧ a ≤ 243 ∧ ((1 < n ∧ 128 ≤ b ∧ b ≤ 191) ∧ (2 < n ∧ 128 ≤ c ∧ c ≤ 191) ∧ (3 < n ∧ 128 ≤ d ∧ d ≤ 191)) then 4
      else if a = 244 ∧ (1 < n ∧ 128 ≤ b ∧ b ≤ 143) ∧ ((2 < n ∧ 128 ≤ c ∧ c ≤ 191) ∧ (3 < n ∧ 128 ≤ d ∧ d ≤ 191)) then 4
      else 0)
    (hx : (x, y) = if a < 128 then (a, 1)
      else if a / 32 = 6 ∧ (1 < n ∧ b / 64 = 2) then if 128 ≤ a % 32 * 64 + b % 64 then (a % 32 * 64 + b % 64, 2) else (65533, 1)
      else if (a / 16 = 14 ∧ (1 < n ∧ b / 64 = 2)) ∧ (2 < n ∧ c / 64 = 2) then
        if 2048 ≤ a % 16 * 4096 + b % 64 * 64 + c % 64 ∧ (a % 16 * 4096 + b % 64 * 64 + c % 64 < 55296 ∨ 57344 ≤ a % 16 * 4096 + b % 64 * 64 + c % 64 ∧ a % 16 * 4096 + b % 64 * 64 + c % 64 ≤ 1114111) then (a % 16 * 4096 + b % 64 * 64 + c % 64, 3) else (65533, 1)
      else if ((a / 8 = 30 ∧ (1 < n ∧ b / 64 = 2)) ∧ (2 < n ∧ c / 64 = 2)) ∧ (3 < n ∧ d / 64 = 2) then
        if 65536 ≤ a % 8 * 262144 + b % 64 * 4096 + c % 64 * 64 + d % 64 ∧ (a % 8 * 262144 + b % 64 * 4096 + c % 64 * 64 + d % 64 < 55296 ∨ 57344 ≤ a % 8 * 262144 + b % 64 * 4096 + c % 64 * 64 + d % 64 ∧ a % 8 * 262144 + b % 64 * 4096 + c % 64 * 64 + d % 64 ≤ 1114111) then (a % 8 * 262144 + b % 64 * 4096 + c % 64 * 64 + d % 64, 4) else (65533, 1)
      else (65533, 1)) :
    (z = 0 ∧ x = 65533 ∧ y = 1 ∧ ¬ (2 < n ∧ a = 239 ∧ b = 191 ∧ c = 189)) ∨ (z ≠ 0 ∧ y = z ∧ (x ≠ 65533 ∨ (2 < n ∧ a = 239 ∧ b = 191 ∧ c = 189))) := by
  by_cases g : a < 128
  · rw [if_pos g] at hx hz
    obtain ⟨ex, ey⟩ := Prod.mk.inj hx
    omega
  rw [if_neg g] at hx hz
  by_cases g2 : a / 32 = 6 ∧ (1 < n ∧ b / 64 = 2)
  · rw [if_pos g2] at hx
    have e1 : a % 32 = a - 192 := by omega
    have e2 : b % 64 = b - 128 := by omega
    have e3 : 192 ≤ a ∧ a ≤ 223 ∧ 1 < n ∧ 128 ≤ b ∧ b ≤ 191 := by omega
    rw [e1, e2] at hx
    clear g2 e1 e2
    by_cases g3 : 194 ≤ a
    · rw [if_pos (by omega)] at hx hz
      obtain ⟨ex, ey⟩ := Prod.mk.inj hx
      exact .inr ⟨by omega, by omega, by omega⟩
    · rw [if_neg (by omega)] at hx
      obtain ⟨ex, ey⟩ := Prod.mk.inj hx
      rw [if_neg (by omega), if_neg (by omega), if_neg (by omega), if_neg (by omega), if_neg (by omega), if_neg (by omega), if_neg (by omega)] at hz
      exact .inl ⟨hz, ex, ey, by omega⟩
  rw [if_neg g2] at hx
  rw [if_neg (by omega)] at hz
  clear g2
  by_cases g2 : (a / 16 = 14 ∧ (1 < n ∧ b / 64 = 2)) ∧ (2 < n ∧ c / 64 = 2)
  · rw [if_pos g2] at hx
    have e1 : a % 16 = a - 224 := by omega
    have e2 : b % 64 = b - 128 := by omega
    have e3 : c % 64 = c - 128 := by omega
    have e4 : 224 ≤ a ∧ a ≤ 239 ∧ 2 < n ∧ 128 ≤ b ∧ b ≤ 191 ∧ 128 ≤ c ∧ c ≤ 191 := by omega
    rw [e1, e2, e3] at hx
    clear g2 e1 e2 e3
    by_cases g3 : (a = 224 ∧ b < 160) ∨ (a = 237 ∧ 160 ≤ b)
    · rw [if_neg (by omega)] at hx
      obtain ⟨ex, ey⟩ := Prod.mk.inj hx
      rw [if_neg (by omega), if_neg (by omega), if_neg (by omega), if_neg (by omega), if_neg (by omega), if_neg (by omega)] at hz
      exact .inl ⟨hz, ex, ey, by omega⟩
    · rw [if_pos (by omega)] at hx
      obtain ⟨ex, ey⟩ := Prod.mk.inj hx
      have hz3 : z = 3 := by
        by_cases g4 : a = 224
        · rw [if_pos (by omega)] at hz; exact hz
        · rw [if_neg (by omega)] at hz
          by_cases g5 : a = 237
          · rw [if_pos (by omega)] at hz; exact hz
          · rw [if_neg (by omega), if_pos (by omega)] at hz; exact hz
      exact .inr ⟨by omega, by omega, by omega⟩
  rw [if_neg g2] at hx
  rw [if_neg (by omega), if_neg (by omega), if_neg (by omega)] at hz
  have hnf : ¬ (2 < n ∧ a = 239 ∧ b = 191 ∧ c = 189) := by omega
  clear g2
  by_cases g2 : ((a / 8 = 30 ∧ (1 < n ∧ b / 64 = 2)) ∧ (2 < n ∧ c / 64 = 2)) ∧ (3 < n ∧ d / 64 = 2)
  · rw [if_pos g2] at hx
    have e1 : a % 8 = a - 240 := by omega
    have e2 : b % 64 = b - 128 := by omega
    have e3 : c % 64 = c - 128 := by omega
    have e5 : d % 64 = d - 128 := by omega
    have e4 : 240 ≤ a ∧ a ≤ 247 ∧ 3 < n ∧ 128 ≤ b ∧ b ≤ 191 ∧ 128 ≤ c ∧ c ≤ 191 ∧ 128 ≤ d ∧ d ≤ 191 := by omega
    rw [e1, e2, e3, e5] at hx
    clear g2 e1 e2 e3 e5 hnf
    by_cases g3 : (a = 240 ∧ b < 144) ∨ (a = 244 ∧ 144 ≤ b) ∨ 245 ≤ a
    · rw [if_neg (by omega)] at hx
      obtain ⟨ex, ey⟩ := Prod.mk.inj hx
      rw [if_neg (by omega), if_neg (by omega), if_neg (by omega)] at hz
      exact .inl ⟨hz, ex, ey, by omega⟩
    · rw [if_pos (by omega)] at hx
      obtain ⟨ex, ey⟩ := Prod.mk.inj hx
      have hz3 : z = 4 := by
        by_cases g4 : a = 240
        · rw [if_pos (by omega)] at hz; exact hz
        · rw [if_neg (by omega)] at hz
          by_cases g5 : a = 244
          · rw [if_neg (by omega), if_pos (by omega)] at hz; exact hz
          · rw [if_pos (by omega)] at hz; exact hz
      exact .inr ⟨by omega, by omega, by omega⟩
  rw [if_neg g2] at hx
  obtain ⟨ex, ey⟩ := Prod.mk.inj hx
  rw [if_neg (by omega), if_neg (by omega), if_neg (by omega)] at hz
  exact .inl ⟨hz, ex, ey, hnf⟩
theorem valid_iff (c : Nat) : Utf8.valid (c : Int) = true ↔ (c < 55296 ∨ 57344 ≤ c ∧ c ≤ 1114111) := by
  unfold Utf8.valid
  simp only [Bool.or_eq_true, Bool.and_eq_true, decide_eq_true_eq]
  omega
theorem dec_sz (l : List UInt8) : (szL l = 0 ∧ decL l = (65533, 1) ∧ fffd l = false) ∨ (szL l ≠ 0 ∧ (decL l).2 = szL l ∧ ((decL l).1 ≠ 65533 ∨ fffd l = true)) := by
  have hf := fffd_iff l
  have hf2 : fffd l = false ↔ ¬ (2 < l.length ∧ atL l 0 = 239 ∧ atL l 1 = 191 ∧ atL l 2 = 189) := by rw [← hf]; cases fffd l <;> simp
  obtain ⟨x, y, hxy⟩ : ∃ x y, decL l = (x, y) := ⟨_, _, rfl⟩
  have h := dec_num (atL l 0) (atL l 1) (atL l 2) (atL l 3) l.length (atL_lt l 0) (atL_lt l 1) (atL_lt l 2) (atL_lt l 3) (szL l) x y
    (by unfold szL; simp only [btw_iff, tail1_iff, tail2_iff, tail3_iff])
    (by rw [← hxy]; unfold decL contL; simp only [Bool.and_eq_true, decide_eq_true_eq, beq_iff_eq, ge_iff_le, valid_iff])
  rw [hxy, hf, hf2]
  rcases h with ⟨e1, e2, e3, e4⟩ | ⟨e1, e2, e3⟩
  · exact .inl ⟨e1, by rw [e2, e3], e4⟩
  · exact .inr ⟨e1, e2, e3⟩
theorem szL_le (l : List UInt8) (h0 : 0 < l.length) : szL l ≤ l.length ∧ szL l ≤ 4 := by
  unfold szL
  simp only [btw_iff, tail1_iff, tail2_iff, tail3_iff]
  repeat' split
  all_goals omega
/-- the place of the first wrong byte, or -1. -/
def bad : Nat → List UInt8 → Int → Int
  | 0, _, _ => -1
  | n + 1, l, i => if l = [] then -1 else if szL l = 0 then i else bad n (l.drop (szL l)) (i + szL l)
theorem bad_fuel : ∀ (n : Nat) (l : List UInt8) (i : Int), l.length ≤ n → bad n l i = bad l.length l i := by
  intro n
  induction n using Nat.strongRecOn with
  | ind n ih =>
    intro l i h
    cases l with
    | nil => cases n <;> simp [bad]
    | cons c l =>
      cases n with
      | zero => simp at h
      | succ n =>
        simp only [List.length_cons, bad, reduceCtorEq, if_false]
        split
        · rfl
        · rename_i hz
          have hl : ((c :: l).drop (szL (c :: l))).length ≤ l.length := by rw [List.length_drop, List.length_cons]; omega
          simp only [List.length_cons] at h
          rw [ih n (by omega) _ _ (by omega), ih l.length (by omega) _ _ hl]
def badAt (s : ByteArray) (k : Nat) : Int := bad (s.data.toList.drop k).length (s.data.toList.drop k) k
theorem badAt_end (s : ByteArray) (k : Nat) (h : s.size ≤ k) : badAt s k = -1 := by
  have : s.data.toList.drop k = [] := List.drop_eq_nil_of_le (by rw [Array.length_toList]; exact h)
  unfold badAt; rw [this]; rfl
theorem badAt_wrong (s : ByteArray) (k : Nat) (h : k < s.size) (hz : szL (s.data.toList.drop k) = 0) : badAt s k = k := by
  unfold badAt
  have h1 : 0 < (s.data.toList.drop k).length := by rw [List.length_drop, Array.length_toList]; show 0 < s.size - k; omega
  obtain ⟨n, hn⟩ : ∃ n, (s.data.toList.drop k).length = n + 1 := ⟨_, (Nat.succ_pred_eq_of_pos h1).symm⟩
  rw [hn, bad, if_neg (by intro e; rw [e] at h1; simp at h1), if_pos hz]
theorem badAt_step (s : ByteArray) (k : Nat) (h : k < s.size) (hz : szL (s.data.toList.drop k) ≠ 0) : badAt s k = badAt s (k + szL (s.data.toList.drop k)) := by
  have h1 : 0 < (s.data.toList.drop k).length := by rw [List.length_drop, Array.length_toList]; show 0 < s.size - k; omega
  obtain ⟨n, hn⟩ : ∃ n, (s.data.toList.drop k).length = n + 1 := ⟨_, (Nat.succ_pred_eq_of_pos h1).symm⟩
  have e : badAt s k = bad (n + 1) (s.data.toList.drop k) k := by unfold badAt; rw [hn]
  rw [e, bad, if_neg (by intro e; rw [e] at h1; simp at h1), if_neg hz, List.drop_drop]
  unfold badAt
  rw [bad_fuel _ _ _ (by rw [List.length_drop] at hn ⊢; omega)]
  congr 1
def badI (s : ByteArray) : Int := badAt s 0
def validS (s : ByteArray) : Bool := decide (badI s < 0)
end Go.Proofs.YtmdkfbmpenohiaaDoor

/- Names, plain: parts, full names and their pieces. No program in sight. -/
namespace Go.Proofs.YtmdkfbmpenohiaaDoor
open Go

def clsN (c : Nat) : Nat := if 97 ≤ c ∧ c ≤ 122 then 1 else if 65 ≤ c ∧ c ≤ 90 then 2 else if 48 ≤ c ∧ c ≤ 57 then 3 else if c = 95 then 4 else 0
def letC (c : UInt8) : Bool := decide (clsN c.toNat = 1 ∨ clsN c.toNat = 2)
def goC (c : UInt8) : Bool := decide (clsN c.toNat ≠ 0)
def letH (l : List UInt8) : Bool := match l with | [] => false | c :: _ => letC c
/-- a part of a name. -/
def partOk (l : List UInt8) : Bool := decide (1 ≤ l.length ∧ l.length ≤ 40) && letH l && l.all goC
/-- the pieces between dots. -/
def dotP : List UInt8 → List (List UInt8)
  | [] => [[]]
  | c :: r => if c = 46 then [] :: dotP r else match dotP r with | p :: ps => (c :: p) :: ps | [] => [[c]]
/-- a full name. -/
def fullOk (l : List UInt8) : Bool := decide (l.length ≤ 120) && (dotP l).all partOk
def fullR (acc : List UInt8) : List UInt8 → Bool
  | [] => partOk acc
  | c :: r => if c = 46 then partOk acc && fullR [] r else fullR (acc ++ [c]) r
theorem splitK_dot : ∀ (l : List UInt8), Lib.splitK [46] 0 (l.count 46) l = dotP l
  | [] => rfl
  | c :: r => by
    have ih := splitK_dot r
    by_cases h : c = 46
    · subst h
      have hix : Lib.index (46 :: r) [46] = 0 := by rw [Lib.index_one, Lib.indexByte]; rfl
      rw [List.count_cons_self, Lib.splitK, hix]
      simp [dotP, ih]
    · have hc : (c :: r).count 46 = r.count 46 := List.count_cons_of_ne (by simpa using h)
      have hix : Lib.index (c :: r) [46] = if Lib.index r [46] = -1 then -1 else Lib.index r [46] + 1 := by
        rw [Lib.index_one, Lib.index_one]
        rw [Lib.indexByte]
        simp only [beq_iff_eq, if_neg h]
      rw [hc, dotP, if_neg h, ← ih]
      cases hk : r.count 46 with
      | zero => rfl
      | succ k =>
        have hge := Lib.index_ge r [46]
        have hne : Lib.index r [46] ≠ -1 := by
          intro e
          have := Lib.count_miss e
          rw [Lib.count_one, hk] at this
          omega
        obtain ⟨i, hi⟩ : ∃ i : Nat, Lib.index r [46] = i := ⟨(Lib.index r [46]).toNat, by omega⟩
        rw [Lib.splitK, Lib.splitK, hix, hi]
        rw [if_neg (show ¬ ((i : Int) = -1) by omega)]
        rw [if_neg (show ¬ (((i : Int) + 1 == -1) = true) by rw [beq_iff_eq]; omega), if_neg (show ¬ (((i : Int) == -1) = true) by rw [beq_iff_eq]; omega)]
        have e1 : (((i : Int) + 1).toNat + 0) = i + 1 := by omega
        have e2 : (((i : Int) + 1).toNat + [(46 : UInt8)].length) = i + 1 + 1 := by simp only [List.length_cons, List.length_nil]; omega
        rw [e1, e2]
        simp
theorem splitB_dot (s : ByteArray) : (Lib.splitB ⟨#[46]⟩ 0 (Lib.countB s ⟨#[46]⟩) s).map (·.data.toList) = dotP s.data.toList := by
  rw [Lib.splitB_data, ← splitK_dot]
  have : Lib.countB s ⟨#[46]⟩ = s.data.toList.count 46 := by
    unfold Lib.countB; exact Lib.count_one 46 _
  rw [this]
/-- a rune that is no ASCII is none of the class. -/
theorem dec_ge (l : List UInt8) (h : 128 ≤ atL l 0) : 128 ≤ (decL l).1 := by
  unfold decL
  rw [if_neg (by omega)]
  (repeat' split) <;> simp_all <;> omega
theorem dec_asc (l : List UInt8) (h : atL l 0 < 128) : decL l = (atL l 0, 1) := by unfold decL; rw [if_pos (by omega)]
theorem clsN_big {c : Nat} (h : 128 ≤ c) : clsN c = 0 := by unfold clsN; rw [if_neg (by omega), if_neg (by omega), if_neg (by omega), if_neg (by omega)]
theorem partOk_at {l : List UInt8} {k : Nat} (h : k < l.length) (hg : goC l[k] = false) : partOk l = false := by
  unfold partOk
  have : l.all goC = false := by
    rw [List.all_eq_false]
    exact ⟨l[k], List.getElem_mem h, by simp [hg]⟩
  rw [this, Bool.and_false]
theorem partOk_head {l : List UInt8} (h : 0 < l.length) (hg : letC l[0] = false) : partOk l = false := by
  unfold partOk
  cases l with
  | nil => simp at h
  | cons c r => rw [show letH (c :: r) = letC c from rfl]; simp at hg; simp [hg]
theorem partOk_ok {l : List UInt8} (hg : ∀ k (h : k < l.length), goC l[k] = true) (h0 : ∀ (h : 0 < l.length), letC l[0] = true) : partOk l = decide (1 ≤ l.length ∧ l.length ≤ 40) := by
  unfold partOk
  have : l.all goC = true := by
    rw [List.all_eq_true]
    intro x hx
    obtain ⟨k, hk, rfl⟩ := List.mem_iff_getElem.1 hx
    exact hg k hk
  rw [this, Bool.and_true]
  cases l with
  | nil => simp
  | cons c r => rw [show letH (c :: r) = letC c from rfl, show letC c = true from h0 (by simp), Bool.and_true]
end Go.Proofs.YtmdkfbmpenohiaaDoor

/- Variable-length integers, plain: their bytes, and what is read of bytes. No program in sight. -/
namespace Go.Proofs.YtmdkfbmpenohiaaDoor
open Go

def putF : Nat → Nat → List UInt8
  | 0, u => [UInt8.ofNat u]
  | n + 1, u => if 128 ≤ u then UInt8.ofNat (u % 128 + 128) :: putF n (u / 128) else [UInt8.ofNat u]
/-- the bytes of u. -/
def putL (u : Nat) : List UInt8 := putF 9 u
def takeF : Nat → List UInt8 → Nat → Nat → Nat × Nat × Int
  | 0, _, _, _ => (0, 0, 6)
  | _ + 1, [], _, _ => (0, 0, 4)
  | k + 1, c :: l, n, u =>
    if k = 0 ∧ 1 < c.toNat then (0, 0, 6)
    else if c.toNat < 128 then (u + c.toNat % 128 * 128 ^ n, n + 1, 0)
    else takeF k l (n + 1) (u + c.toNat % 128 * 128 ^ n)
/-- the number that l begins with, its length, and the error. -/
def takeL (l : List UInt8) : Nat × Nat × Int := takeF 10 l 0 0
theorem putF_len : ∀ n u, 1 ≤ (putF n u).length ∧ (putF n u).length ≤ n + 1
  | 0, _ => by simp [putF]
  | n + 1, u => by
    unfold putF; split
    · have := putF_len n (u / 128); simp only [List.length_cons]; omega
    · simp
theorem putL_len (u : Nat) : 1 ≤ (putL u).length ∧ (putL u).length ≤ 10 := putF_len 9 u
theorem pow_step (n : Nat) : 128 ^ (n + 1) = 128 * 128 ^ n := by rw [Nat.pow_succ, Nat.mul_comm]
end Go.Proofs.YtmdkfbmpenohiaaDoor
