/- Texts of this claim merged into one: QuoteLaw, Q1, Q2. -/
import Derived.Test.YtpfkddbhpoeknaaGreatDoorUtfLaw
import Derived.Lib.MapLaws
import Derived.Test.YtpfkddbhpoeknaaGreatDoorWk
import Derived.Test.YtpfkddbhpoeknaaGreatDoorUtf
import Derived.Test.YtpfkddbhpoeknaaGreatDoorShelf
/- Quoted texts and hexadecimal digits, in plain lists of bytes. No program. -/
namespace Go.Proofs.YtpfkddbhpoeknaaGreatDoor.Y
open Go.RowKit
theorem encode_list (r : Int) : (Utf8.encode r).data.toList = Lib.encodeRune r := by
  unfold Utf8.encode
  by_cases hv : Utf8.valid r = true
  · have hv' := hv
    simp only [Utf8.valid, Bool.or_eq_true, Bool.and_eq_true, decide_eq_true_eq] at hv'
    rw [if_pos hv]
    obtain ⟨n, rfl⟩ : ∃ n : Nat, r = n := ⟨r.toNat, by omega⟩
    have hn : ((n : Int)).toNat = n := by omega
    rw [hn]
    have hb : ∀ k : Nat, (k : Int).toNat.toUInt8 = UInt8.ofNat k := fun k => by simp [Nat.toUInt8]
    unfold Lib.encodeRune
    by_cases h1 : n < 128
    · rw [if_pos h1, Lib.encodeRuneZ_one (by omega) (by omega)]
      simp
    · rw [if_neg h1]
      by_cases h2 : n < 2048
      · rw [if_pos h2, Lib.encodeRuneZ_two (by omega) (by omega)]
        have e1 : (192 + (n : Int) / 64) = ((192 + n / 64 : Nat) : Int) := by omega
        have e2 : (128 + (n : Int) % 64) = ((128 + n % 64 : Nat) : Int) := by omega
        simp only [List.map_cons, List.map_nil, e1, e2, hb]
      · rw [if_neg h2]
        by_cases h3 : n < 65536
        · rw [if_pos h3, Lib.encodeRuneZ_three (by omega)]
          have e1 : (224 + (n : Int) / 4096) = ((224 + n / 4096 : Nat) : Int) := by omega
          have e2 : (128 + (n : Int) / 64 % 64) = ((128 + n / 64 % 64 : Nat) : Int) := by omega
          have e3 : (128 + (n : Int) % 64) = ((128 + n % 64 : Nat) : Int) := by omega
          simp only [List.map_cons, List.map_nil, e1, e2, e3, hb]
        · rw [if_neg h3, Lib.encodeRuneZ_four (by omega) (by omega)]
          have e1 : (240 + (n : Int) / 262144) = ((240 + n / 262144 : Nat) : Int) := by omega
          have e2 : (128 + (n : Int) / 4096 % 64) = ((128 + n / 4096 % 64 : Nat) : Int) := by omega
          have e3 : (128 + (n : Int) / 64 % 64) = ((128 + n / 64 % 64 : Nat) : Int) := by omega
          have e4 : (128 + (n : Int) % 64) = ((128 + n % 64 : Nat) : Int) := by omega
          simp only [List.map_cons, List.map_nil, e1, e2, e3, e4, hb]
  · have hv' : ¬ ((0 ≤ r ∧ r < 55296) ∨ (57344 ≤ r ∧ r ≤ 1114111)) := by simpa [Utf8.valid] using hv
    rw [if_neg hv]
    unfold Lib.encodeRune
    rw [Lib.encodeRuneZ_bad (by omega)]
    rfl
theorem decL_decodeL (l : List UInt8) : decL l = Lib.decodeL l := by
  have := decode_dec ⟨l.toArray⟩ 0
  simpa [Lib.decodeL] using this.symm
theorem fffd_sz {l : List UInt8} (h : fffd l = true) : szL l = 3 := by
  obtain ⟨h1, h2, h3, h4⟩ := (fffd_iff l).1 h
  unfold szL
  rw [if_neg (by omega), if_neg (fun e => by have := e.2.1; omega), if_neg (fun e => by have := e.1; omega), if_neg (fun e => by have := e.1; omega), if_pos ⟨by omega, by omega, by omega, (tail2_iff l 1).2 ⟨⟨by omega, by omega, by omega⟩, by omega, by show 128 ≤ atL l 2; omega, by show atL l 2 ≤ 191; omega⟩⟩]
/-- a rune that stands for whole bytes is written as those. -/
theorem encode_dec (l : List UInt8) (hne : l ≠ []) (h : szL l ≠ 0) : Utf8.encode ((decL l).1 : Int) = ⟨(l.take (szL l)).toArray⟩ := by
  have hz := dec_sz l
  have h2 : (decL l).2 = szL l ∧ ((decL l).1 ≠ 65533 ∨ fffd l = true) := by
    rcases hz with hz | hz
    · exact absurd hz.1 h
    · exact hz.2
  have hv : ¬ ((Lib.decodeL l).1 = 65533 ∧ (Lib.decodeL l).2 = 1) := by
    rw [← decL_decodeL]
    rintro ⟨h3, h4⟩
    rcases h2.2 with h5 | h5
    · exact h5 h3
    · have h6 := fffd_sz h5
      omega
  have he := Lib.encode_decode l hne hv
  rw [← decL_decodeL, h2.1] at he
  refine ByteArray.ext (Array.ext' ?_)
  rw [encode_list, he]
/-- a hexadecimal digit. -/
def hxC (d : Nat) : UInt8 := if d < 10 then UInt8.ofNat (48 + d) else UInt8.ofNat (87 + d)
def hx2 (b : Nat) : List UInt8 := [hxC (b / 16), hxC (b % 16)]
/-- one part of a text, quoted; how long it is. -/
def qpart (l : List UInt8) : List UInt8 :=
  if atL l 0 = 34 then [92, 34] else if atL l 0 = 92 then [92, 92] else if atL l 0 = 10 then [92, 110] else if atL l 0 = 9 then [92, 116] else if atL l 0 = 13 then [92, 114]
  else if atL l 0 < 32 ∨ atL l 0 = 127 ∨ szL l = 0 then [92, 120] ++ hx2 (atL l 0) else l.take (szL l)
def qlen (l : List UInt8) : Nat := if szL l = 0 then 1 else szL l
def qrest : Nat → List UInt8 → List UInt8
  | 0, _ => []
  | n + 1, l => if l = [] then [] else qpart l ++ qrest n (l.drop (qlen l))
theorem qlen_pos (l : List UInt8) : 1 ≤ qlen l := by unfold qlen; split <;> omega
theorem qlen_le (l : List UInt8) (h : 0 < l.length) : qlen l ≤ l.length ∧ qlen l ≤ 4 := by
  have := szL_le l h
  unfold qlen; split <;> omega
theorem qpart_len (l : List UInt8) (h : 0 < l.length) : (qpart l).length ≤ 4 * qlen l := by
  have h1 := qlen_pos l
  have h2 := szL_le l h
  unfold qpart
  (repeat' split) <;> first | (simp [hx2]; omega) | (rw [List.length_take]; unfold qlen at h1 ⊢; split <;> omega)
theorem qrest_fuel : ∀ (n m : Nat) (l : List UInt8), l.length ≤ n → l.length ≤ m → qrest n l = qrest m l
  | 0, 0, _, _, _ => rfl
  | 0, m + 1, l, h, _ => by
    have : l = [] := List.length_eq_zero_iff.1 (by omega)
    subst this; simp [qrest]
  | n + 1, 0, l, _, h => by
    have : l = [] := List.length_eq_zero_iff.1 (by omega)
    subst this; simp [qrest]
  | n + 1, m + 1, l, h1, h2 => by
    unfold qrest
    by_cases h : l = []
    · rw [if_pos h, if_pos h]
    · rw [if_neg h, if_neg h]
      have hl : 0 < l.length := List.length_pos_iff.2 h
      have hp := qlen_pos l
      rw [qrest_fuel n m _ (by rw [List.length_drop]; omega) (by rw [List.length_drop]; omega)]
theorem qrest_len : ∀ (n : Nat) (l : List UInt8), (qrest n l).length ≤ 4 * l.length
  | 0, l => by simp [qrest]
  | n + 1, l => by
    unfold qrest
    by_cases h : l = []
    · rw [if_pos h]; simp
    · rw [if_neg h]
      have hl : 0 < l.length := List.length_pos_iff.2 h
      have h1 := qpart_len l hl
      have h2 := qrest_len n (l.drop (qlen l))
      have h3 := (qlen_le l hl).1
      rw [List.length_drop] at h2
      rw [List.length_append]; omega
/-- the parts from a place on. -/
def qAt (s : ByteArray) (k : Nat) : List UInt8 := qrest (s.data.toList.drop k).length (s.data.toList.drop k)
theorem len_bytes (s : ByteArray) : s.data.toList.length = s.size := by rw [Array.length_toList]; rfl
theorem qAt_end (s : ByteArray) (k : Nat) (h : s.size ≤ k) : qAt s k = [] := by
  have : s.data.toList.drop k = [] := List.drop_eq_nil_of_le (by rw [len_bytes]; exact h)
  unfold qAt; rw [this]; rfl
theorem qAt_step (s : ByteArray) (k : Nat) (h : k < s.size) : qAt s k = qpart (s.data.toList.drop k) ++ qAt s (k + qlen (s.data.toList.drop k)) := by
  have hl : (s.data.toList.drop k).length = s.size - k := by rw [List.length_drop, len_bytes]
  have hne : s.data.toList.drop k ≠ [] := List.length_pos_iff.1 (by omega)
  unfold qAt
  obtain ⟨n, hn⟩ : ∃ n, (s.data.toList.drop k).length = n + 1 := ⟨(s.data.toList.drop k).length - 1, by omega⟩
  have hp := qlen_pos (s.data.toList.drop k)
  generalize hq : qlen (s.data.toList.drop k) = q at *
  rw [hn, qrest, if_neg hne, hq, List.drop_drop]
  congr 1
  refine qrest_fuel _ _ _ ?_ (Nat.le_refl _)
  rw [List.length_drop, len_bytes]; omega
def quoteL (s : ByteArray) : List UInt8 := [34] ++ qAt s 0 ++ [34]
def quoteS (s : ByteArray) : ByteArray := ⟨(quoteL s).toArray⟩
theorem qAt_len (s : ByteArray) (k : Nat) : (qAt s k).length ≤ 4 * (s.size - k) := by
  have := qrest_len (s.data.toList.drop k).length (s.data.toList.drop k)
  have e : (s.data.toList.drop k).length = s.size - k := by rw [List.length_drop, len_bytes]
  unfold qAt
  omega
theorem quoteL_len (s : ByteArray) : (quoteL s).length ≤ 4 * s.size + 2 := by
  have := qAt_len s 0
  unfold quoteL
  simp only [List.length_append, List.length_cons, List.length_nil]; omega
theorem atL_drop (s : ByteArray) (k : Nat) (h : k < s.size) : s.data.toList[k]? = some (s.data.toList[k]'(by rw [len_bytes]; exact h)) ∧ (s.data.toList[k]'(by rw [len_bytes]; exact h)).toNat = atL (s.data.toList.drop k) 0 := by
  refine ⟨List.getElem?_eq_getElem _, ?_⟩
  unfold atL
  rw [List.getD_eq_getElem?_getD, List.getElem?_drop, Nat.add_zero, List.getElem?_eq_getElem (by rw [len_bytes]; exact h)]
  rfl
/-! reading a quoted text -/
def hv (c : Nat) : Int := if 48 ≤ c ∧ c ≤ 57 then (c : Int) - 48 else if 97 ≤ c ∧ c ≤ 102 then (c : Int) - 87 else -1
theorem hv_rng (c : Nat) : -1 ≤ hv c ∧ hv c ≤ 15 := by unfold hv; (repeat' split) <;> omega
/-- what an escape stands for, and its length; 0: it is none. -/
def escS (l : List UInt8) : Nat × Nat :=
  if l.length < 2 then (0, 0) else if atL l 1 = 34 ∨ atL l 1 = 92 then (atL l 1, 2) else if atL l 1 = 110 then (10, 2) else if atL l 1 = 116 then (9, 2) else if atL l 1 = 114 then (13, 2)
  else if atL l 1 ≠ 120 ∨ l.length < 4 ∨ hv (atL l 2) < 0 ∨ hv (atL l 3) < 0 then (0, 0) else ((16 * hv (atL l 2) + hv (atL l 3)).toNat, 4)
theorem escS_ok (l : List UInt8) : (escS l).2 ≤ l.length ∧ (escS l).2 ≤ 4 ∧ (escS l).1 < 256 := by
  have h1 := atL_lt l 1
  have h2 := hv_rng (atL l 2)
  have h3 := hv_rng (atL l 3)
  unfold escS
  (repeat' split) <;> simp only [] <;> omega
def oneS (l : List UInt8) : Nat × Nat := if atL l 0 = 92 then escS l else (atL l 0, 1)
theorem oneS_ok (l : List UInt8) (h : 0 < l.length) : (oneS l).2 ≤ l.length ∧ (oneS l).2 ≤ 4 ∧ (oneS l).1 < 256 := by
  have h1 := escS_ok l
  have h2 := atL_lt l 0
  unfold oneS
  split
  · exact h1
  · exact ⟨h, by simp only []; omega, h2⟩
/-- the text up to the closing quote, and where that stands. -/
def uqF : Nat → List UInt8 → List UInt8 → Nat → Option (List UInt8 × Nat)
  | 0, _, _, _ => none
  | n + 1, l, acc, k => if l = [] then none else if atL l 0 = 34 then some (acc, k) else if (oneS l).2 = 0 then none else uqF n (l.drop (oneS l).2) (acc ++ [UInt8.ofNat (oneS l).1]) (k + (oneS l).2)
theorem uqF_fuel : ∀ (n m : Nat) (l acc : List UInt8) (k : Nat), l.length < n → l.length < m → uqF n l acc k = uqF m l acc k
  | 0, _, _, _, _, h, _ => by omega
  | _ + 1, 0, _, _, _, _, h => by omega
  | n + 1, m + 1, l, acc, k, h1, h2 => by
    unfold uqF
    by_cases hl : l = []
    · rw [if_pos hl, if_pos hl]
    · rw [if_neg hl, if_neg hl]
      by_cases h3 : atL l 0 = 34
      · rw [if_pos h3, if_pos h3]
      · rw [if_neg h3, if_neg h3]
        by_cases h4 : (oneS l).2 = 0
        · rw [if_pos h4, if_pos h4]
        · rw [if_neg h4, if_neg h4]
          have := List.length_pos_iff.2 hl
          exact uqF_fuel n m _ _ _ (by rw [List.length_drop]; omega) (by rw [List.length_drop]; omega)
def uqAt (s : ByteArray) (k : Nat) (acc : List UInt8) : Option (List UInt8 × Nat) := uqF (s.size + 1) (s.data.toList.drop k) acc k
theorem uqAt_end (s : ByteArray) (k : Nat) (acc : List UInt8) (h : s.size ≤ k) : uqAt s k acc = none := by
  have : s.data.toList.drop k = [] := List.drop_eq_nil_of_le (by rw [len_bytes]; exact h)
  unfold uqAt uqF; rw [if_pos this]
theorem uqAt_step (s : ByteArray) (k : Nat) (acc : List UInt8) (h : k < s.size) : uqAt s k acc = if atL (s.data.toList.drop k) 0 = 34 then some (acc, k) else if (oneS (s.data.toList.drop k)).2 = 0 then none else uqAt s (k + (oneS (s.data.toList.drop k)).2) (acc ++ [UInt8.ofNat (oneS (s.data.toList.drop k)).1]) := by
  have hl : (s.data.toList.drop k).length = s.size - k := by rw [List.length_drop, len_bytes]
  have hne : s.data.toList.drop k ≠ [] := List.length_pos_iff.1 (by omega)
  unfold uqAt
  rw [uqF, if_neg hne, List.drop_drop]
  by_cases h3 : atL (s.data.toList.drop k) 0 = 34
  · rw [if_pos h3, if_pos h3]
  · rw [if_neg h3, if_neg h3]
    by_cases h4 : (oneS (s.data.toList.drop k)).2 = 0
    · rw [if_pos h4, if_pos h4]
    · rw [if_neg h4, if_neg h4]
      refine uqF_fuel _ _ _ _ _ ?_ ?_ <;> (rw [List.length_drop, len_bytes]; omega)
/-- a text whose quoted form s begins with, how long that is, and the error. -/
structure UnqV where
  text : ByteArray
  len : Nat
  err : Int
def unqS (s : ByteArray) : UnqV := if s.size = 0 ∨ atL s.data.toList 0 ≠ 34 then ⟨⟨#[]⟩, 0, 2⟩ else match uqAt s 1 [] with
  | none => ⟨⟨#[]⟩, 0, 2⟩
  | some (acc, k) => if quoteL ⟨acc.toArray⟩ = s.data.toList.take (k + 1) then ⟨⟨acc.toArray⟩, k + 1, 0⟩ else ⟨⟨#[]⟩, 0, 2⟩
/-! hexadecimal digits -/
def hexL : List UInt8 → List UInt8
  | [] => []
  | b :: r => hx2 b.toNat ++ hexL r
theorem hexL_len (l : List UInt8) : (hexL l).length = 2 * l.length := by
  induction l with
  | nil => rfl
  | cons b r ih => simp only [hexL, List.length_append, ih, hx2, List.length_cons, List.length_nil]; omega
theorem hexL_snoc (l : List UInt8) (b : UInt8) : hexL (l ++ [b]) = hexL l ++ hx2 b.toNat := by
  induction l with
  | nil => simp [hexL]
  | cons x r ih => simp only [List.cons_append, hexL, ih, List.append_assoc]
/-- bytes of digits; false: there is something else. -/
def unhL : List UInt8 → List UInt8 × Bool
  | [] => ([], true)
  | [_] => ([], false)
  | a :: b :: r => if hv a.toNat < 0 ∨ hv b.toNat < 0 then ([], false) else (UInt8.ofNat (16 * hv a.toNat + hv b.toNat).toNat :: (unhL r).1, (unhL r).2)
def unhS (s : ByteArray) : ByteArray × Int := if s.size % 2 ≠ 0 then (⟨#[]⟩, 2) else if (unhL s.data.toList).2 = true then (⟨(unhL s.data.toList).1.toArray⟩, 0) else (⟨#[]⟩, 2)
end Go.Proofs.YtpfkddbhpoeknaaGreatDoor.Y

/- Package utf: what it returns for quoted texts and hexadecimal digits. -/
namespace Go.Proofs.YtpfkddbhpoeknaaGreatDoor.Y
open Go.RowKit
theorem fdiv16 (n : Nat) : ((n : Int)).fdiv (2 ^ (min 4 IntKind.u8.bits)) = ((n / 16 : Nat) : Int) := by
  have e : (2 : Int) ^ (min 4 IntKind.u8.bits) = 16 := by decide
  rw [e, Int.fdiv_eq_ediv_of_nonneg _ (by decide)]; omega
theorem and15 (n : Nat) (h : n < 256) : bits .and .u8 (n : Int) 15 = ((n % 16 : Nat) : Int) := by
  have h1 := u8_and_nat n 15 h (by omega)
  have h2 : n &&& 15 = n % 16 := Nat.and_two_pow_sub_one_eq_mod n 4
  rw [h2] at h1; exact h1
def digs : ByteArray := ⟨#[48, 49, 50, 51, 52, 53, 54, 55, 56, 57, 97, 98, 99, 100, 101, 102]⟩
theorem digs_at : ∀ d, d < 16 → atB digs d = (hxC d).toNat := by decide
theorem digs_cut : ∀ d, d < 16 → digs.extract d (d + 1) = ⟨#[hxC d]⟩ := by decide
theorem mkba (a b : List UInt8) : (⟨a.toArray⟩ : ByteArray) ++ ⟨b.toArray⟩ = ⟨(a ++ b).toArray⟩ := ByteArray.ext (by simp [ByteArray.data_append])
theorem atB_drop (s : ByteArray) (k : Nat) : atB s k = atL (s.data.toList.drop k) 0 := by
  unfold atB atL
  rw [List.getD_eq_getElem?_getD, List.getD_eq_getElem?_getD, List.getElem?_drop, Nat.add_zero]
theorem atB_drop' (s : ByteArray) (k j : Nat) : atB s (k + j) = atL (s.data.toList.drop k) j := by
  unfold atB atL
  rw [List.getD_eq_getElem?_getD, List.getD_eq_getElem?_getD, List.getElem?_drop]
theorem drop_ne {s : ByteArray} {k : Nat} (h : k < s.size) : s.data.toList.drop k ≠ [] := by
  apply List.length_pos_iff.1
  rw [List.length_drop, len_bytes]; omega
/-- what a rune says of the byte that it begins with. -/
theorem rune_byte (l : List UInt8) : (∀ c < 128, ((decL l).1 = c ↔ atL l 0 = c)) ∧ ((decL l).1 < 32 ↔ atL l 0 < 32) ∧ (szL l = 0 ↔ (decL l).1 = 65533 ∧ fffd l = false) := by
  have hz := dec_sz l
  have h0 := atL_lt l 0
  have key : atL l 0 < 128 → (decL l).1 = atL l 0 ∧ szL l = 1 := by
    intro h
    constructor
    · unfold decL; rw [if_pos h]
    · unfold szL; rw [if_pos h]
  have key2 : 128 ≤ atL l 0 → 128 ≤ (decL l).1 := by
    intro h
    unfold decL
    rw [if_neg (by omega)]
    (repeat' split) <;> (try simp_all) <;> (try omega)
  refine ⟨fun c hc => ?_, ?_, ?_⟩
  · by_cases h : atL l 0 < 128
    · rw [(key h).1]
    · have := key2 (by omega); omega
  · by_cases h : atL l 0 < 128
    · rw [(key h).1]
    · have := key2 (by omega); omega
  · rcases hz with ⟨h1, h2, h3⟩ | ⟨h1, h2, h3⟩
    · rw [h1, h2, h3]; simp
    · constructor
      · intro h; exact absurd h h1
      · rintro ⟨h4, h5⟩
        rcases h3 with h3 | h3
        · exact absurd h4 h3
        · rw [h5] at h3; cases h3
theorem ret_str {a b : ByteArray} (h : a = b) : Ending.returned (.string a) = Ending.returned (.string b) := by rw [h]
theorem sz92 : (⟨#[92, 120]⟩ : ByteArray).size = 2 := rfl
theorem wrap_u8s (n : Nat) (h : n < 255) : IntKind.u8.wrap ((n : Int) + 1) = ((n + 1 : Nat) : Int) := by rw [IntKind.wrap_u8']; omega
set_option maxRecDepth 100000 in
set_option maxHeartbeats 4000000 in
theorem escape_any (c : Nat) (w : World) (hc : c < 256) : Calls Tryz.prog 71 #[.int .u8 (c : Int)] w fun e w' => e = .returned (.string ⟨([92, 120] ++ hx2 c).toArray⟩) ∧ Below w.heap.size w w' := by
  refine sx_enter Tryz.func71 rfl Tryz.ntmps71 rfl rfl ?_
  repeat' (first | refine sc_seq ?_ | refine sc_region ?_ | refine sq_then ?_ | refine sc_ret ?_ | refine sc_skip ?_ | refine sc_block ?_ | refine sc_exit ?_ | refine sq_pass_ret ?_ | refine sq_pass_exit ?_ | refine sq_blk_normal ?_ | refine sq_blk_ret ?_ | refine sq_blk_hit ?_ | refine sq_blk_miss rfl ?_ | refine sc_regionD follows_any rfl (by kernel_rfl) ?_ | refine sx_nil ?_ | refine sr_nil0 ?_ | (refine sr_nil1 ?_; intro g) | ((first | refine' sx_v rfl ?_ rfl rfl ?_ | refine' sr_v rfl ?_ rfl rfl rfl ?_); rotate_left; first | exact vo_part tok (c / 16) (c / 16 + 1) rfl rfl rfl rfl rfl rfl rfl rfl (fun _ => ⟨fdiv16 c, (by show IntKind.u8.wrap (((c : Int)).fdiv (2 ^ (min 4 IntKind.u8.bits)) + 1) = _; rw [fdiv16, wrap_u8s _ (by omega)]), Nat.le_succ _, by show _ ≤ 16; omega⟩) | exact vo_part tok (c % 16) (c % 16 + 1) rfl rfl rfl rfl rfl rfl rfl rfl (fun _ => ⟨and15 c hc, (by show IntKind.u8.wrap (bits .and .u8 (c : Int) 15 + 1) = _; rw [and15 c hc, wrap_u8s _ (by omega)]), Nat.le_succ _, by show _ ≤ 16; omega⟩) | exact vo_join rfl rfl rfl rfl rfl (fun _ => by simp only [ByteArray.size_append, ByteArray.size_extract, sz92]; omega) | exact vo_un tok rfl rfl rfl rfl | exact vo_bin tok rfl rfl rfl rfl rfl rfl | exact vo_or rfl rfl rfl rfl rfl | exact vo_and rfl rfl rfl rfl rfl | exact vo_load tok 0 rfl rfl rfl rfl rfl | exact vo_load tok 1 rfl rfl rfl rfl rfl | exact vo_load tok 2 rfl rfl rfl rfl rfl | exact vo_load tok 3 rfl rfl rfl rfl rfl | exact vo_eqs tok eqOK rfl rfl rfl rfl rfl rfl (by kernel_rfl) | exact vo_nes tok eqOK rfl rfl rfl rfl rfl rfl (by kernel_rfl) | exact vo_len tok rfl rfl rfl rfl rfl rfl rfl | exact vo_max rfl rfl rfl rfl rfl | exact vo_min rfl rfl rfl rfl rfl | exact vo_sh rfl rfl rfl rfl rfl rfl rfl | exact vo_build tok rfl rfl trivial rfl rfl rfl | exact vo_build tok rfl rfl ⟨rfl, trivial⟩ rfl rfl rfl | exact vo_build tok rfl rfl ⟨rfl, rfl, trivial⟩ rfl rfl rfl | exact vo_build tok rfl rfl ⟨rfl, rfl, rfl, trivial⟩ rfl rfl rfl | exact vo_build tok rfl rfl ⟨rfl, rfl, rfl, rfl, trivial⟩ rfl rfl rfl | exact vo_build tok rfl rfl ⟨rfl, rfl, rfl, rfl, rfl, trivial⟩ rfl rfl rfl | exact vo_build tok rfl rfl ⟨rfl, rfl, rfl, rfl, rfl, rfl, trivial⟩ rfl rfl rfl | exact vo_build tok rfl rfl ⟨rfl, rfl, rfl, rfl, rfl, rfl, rfl, trivial⟩ rfl rfl rfl | exact vo_build tok rfl rfl ⟨rfl, rfl, rfl, rfl, rfl, rfl, rfl, rfl, trivial⟩ rfl rfl rfl) | (refine sx_box rfl rfl rfl rfl rfl rfl ?_; intro g) | (refine sx_alloc tok rfl rfl rfl rfl rfl rfl ?_; intro g) | refine sr_alloc tok rfl rfl rfl rfl rfl rfl ?_ | refine sr_box rfl rfl rfl rfl rfl rfl ?_ | refine sx_store tok 0 rfl rfl rfl rfl rfl rfl rfl rfl rfl rfl rfl rfl ?_ | refine sx_store tok 1 rfl rfl rfl rfl rfl rfl rfl rfl rfl rfl rfl rfl ?_ | refine sx_store tok 2 rfl rfl rfl rfl rfl rfl rfl rfl rfl rfl rfl rfl ?_ | refine sx_store tok 3 rfl rfl rfl rfl rfl rfl rfl rfl rfl rfl rfl rfl ?_ | refine sc_cond rfl (fun h => ?_) (fun h => ?_))
  all_goals
    refine sq_ret tok (fun _ => 0) rfl rfl trivial rfl fun w hm => ⟨?_, hm.below⟩
    refine ret_str ?_
    have h1 := digs_cut (c / 16) (by omega)
    have h2 := digs_cut (c % 16) (by omega)
    unfold digs at h1 h2
    rw [h1, h2]
    rfl
set_option maxRecDepth 100000 in
set_option maxHeartbeats 4000000 in
theorem form_any (s : ByteArray) (k : Nat) (w : World) (hk : k < s.size) (hs : s.size ≤ 4611686018427387900) : Calls Tryz.prog 52 #[.string s, .int .i64 (k : Int), .int .i32 ((decL (s.data.toList.drop k)).1 : Int)] w fun e w' => e = .returned (.string ⟨(qpart (s.data.toList.drop k)).toArray⟩) ∧ Below w.heap.size w w' := by
  have hne := drop_ne hk
  obtain ⟨r1, r2, r3⟩ := rune_byte (s.data.toList.drop k)
  have q1 := r1 34 (by omega)
  have q2 := r1 92 (by omega)
  have q3 := r1 10 (by omega)
  have q4 := r1 9 (by omega)
  have q5 := r1 13 (by omega)
  have q6 := r1 127 (by omega)
  have hab := atB_drop s k
  clear r1
  refine sx_enter Tryz.func52 rfl Tryz.ntmps52 rfl rfl ?_
  repeat' (first | refine sc_seq ?_ | refine sc_region ?_ | refine sq_then ?_ | refine sc_ret ?_ | refine sc_skip ?_ | refine sc_block ?_ | refine sc_exit ?_ | refine sq_pass_ret ?_ | refine sq_pass_exit ?_ | refine sq_blk_normal ?_ | refine sq_blk_ret ?_ | refine sq_blk_hit ?_ | refine sq_blk_miss rfl ?_ | refine sc_regionD follows_any rfl (by kernel_rfl) ?_ | refine sx_nil ?_ | refine sr_nil0 ?_ | (refine sr_nil1 ?_; intro g) | ((first | refine' sx_v rfl ?_ rfl rfl ?_ | refine' sr_v rfl ?_ rfl rfl rfl ?_); rotate_left; first | exact vo_byte tok k rfl rfl rfl rfl rfl rfl (fun _ => ⟨rfl, hk⟩) | exact vo_un tok rfl rfl rfl rfl | exact vo_bin tok rfl rfl rfl rfl rfl rfl | exact vo_or rfl rfl rfl rfl rfl | exact vo_and rfl rfl rfl rfl rfl | exact vo_load tok 0 rfl rfl rfl rfl rfl | exact vo_load tok 1 rfl rfl rfl rfl rfl | exact vo_load tok 2 rfl rfl rfl rfl rfl | exact vo_load tok 3 rfl rfl rfl rfl rfl | exact vo_eqs tok eqOK rfl rfl rfl rfl rfl rfl (by kernel_rfl) | exact vo_nes tok eqOK rfl rfl rfl rfl rfl rfl (by kernel_rfl) | exact vo_len tok rfl rfl rfl rfl rfl rfl rfl | exact vo_max rfl rfl rfl rfl rfl | exact vo_min rfl rfl rfl rfl rfl | exact vo_sh rfl rfl rfl rfl rfl rfl rfl | exact vo_build tok rfl rfl trivial rfl rfl rfl | exact vo_build tok rfl rfl ⟨rfl, trivial⟩ rfl rfl rfl | exact vo_build tok rfl rfl ⟨rfl, rfl, trivial⟩ rfl rfl rfl | exact vo_build tok rfl rfl ⟨rfl, rfl, rfl, trivial⟩ rfl rfl rfl | exact vo_build tok rfl rfl ⟨rfl, rfl, rfl, rfl, trivial⟩ rfl rfl rfl | exact vo_build tok rfl rfl ⟨rfl, rfl, rfl, rfl, rfl, trivial⟩ rfl rfl rfl | exact vo_build tok rfl rfl ⟨rfl, rfl, rfl, rfl, rfl, rfl, trivial⟩ rfl rfl rfl | exact vo_build tok rfl rfl ⟨rfl, rfl, rfl, rfl, rfl, rfl, rfl, trivial⟩ rfl rfl rfl | exact vo_build tok rfl rfl ⟨rfl, rfl, rfl, rfl, rfl, rfl, rfl, rfl, trivial⟩ rfl rfl rfl) | refine sx_call rfl (callOp rfl rfl rfl rfl ⟨rfl, rfl, rfl, trivial⟩ rfl (by kernel_rfl)) (fun w hm => of_same (wrong_any s k _ w (by omega) (by omega))) rfl rfl ?_ | refine sr_call rfl (callOp rfl rfl rfl rfl ⟨rfl, rfl, rfl, trivial⟩ rfl (by kernel_rfl)) rfl (fun w hm => of_same (wrong_any s k _ w (by omega) (by omega))) rfl rfl ?_ | refine sx_call rfl (callOp rfl rfl rfl rfl ⟨rfl, trivial⟩ rfl (by kernel_rfl)) (fun w hm => escape_any _ w (atB_lt _ _)) rfl rfl ?_ | refine sr_call rfl (callOp rfl rfl rfl rfl ⟨rfl, trivial⟩ rfl (by kernel_rfl)) rfl (fun w hm => escape_any _ w (atB_lt _ _)) rfl rfl ?_ | (refine sx_box rfl rfl rfl rfl rfl rfl ?_; intro g) | (refine sx_alloc tok rfl rfl rfl rfl rfl rfl ?_; intro g) | refine sr_alloc tok rfl rfl rfl rfl rfl rfl ?_ | refine sr_box rfl rfl rfl rfl rfl rfl ?_ | refine sx_store tok 0 rfl rfl rfl rfl rfl rfl rfl rfl rfl rfl rfl rfl ?_ | refine sx_store tok 1 rfl rfl rfl rfl rfl rfl rfl rfl rfl rfl rfl rfl ?_ | refine sx_store tok 2 rfl rfl rfl rfl rfl rfl rfl rfl rfl rfl rfl rfl ?_ | refine sx_store tok 3 rfl rfl rfl rfl rfl rfl rfl rfl rfl rfl rfl rfl ?_ | refine sc_cond rfl (fun h => ?_) (fun h => ?_))
  all_goals
    refine sq_ret tok (fun _ => 0) rfl rfl trivial rfl fun w hm => ⟨?_, hm.below⟩
    refine ret_str ?_
    clear hm
    rw [← atB_drop] at r2
    first | (rw [encode_dec _ hne (by grind)]; unfold qpart; grind) | (unfold qpart; grind)
theorem take_snoc {s : ByteArray} {j : Nat} (h : j < s.size) : s.data.toList.take (j + 1) = s.data.toList.take j ++ [UInt8.ofNat (atB s j)] ∧ (UInt8.ofNat (atB s j)).toNat = atB s j := by
  have hlt : j < s.data.toList.length := by rw [len_bytes]; exact h
  have e : UInt8.ofNat (atB s j) = s.data.toList[j] := by
    unfold atB
    rw [List.getD_eq_getElem?_getD, List.getElem?_eq_getElem hlt]; simp
  constructor
  · rw [List.take_add_one, List.getElem?_eq_getElem hlt, e]; rfl
  · rw [e]; unfold atB; rw [List.getD_eq_getElem?_getD, List.getElem?_eq_getElem hlt]; rfl
theorem hex_cells (s : ByteArray) (j : Nat) (h : j < s.size) : cellsB (hexL (s.data.toList.take j)) ++ [.int .u8 (atB digs (atB s j / 16) : Int), .int .u8 (atB digs (atB s j % 16) : Int)] = cellsB (hexL (s.data.toList.take (j + 1))) := by
  have hb := atB_lt s j
  rw [(take_snoc h).1, hexL_snoc, (take_snoc h).2, digs_at _ (by omega), digs_at _ (by omega)]
  simp [cellsB, hx2]
set_option maxRecDepth 100000 in
theorem hv_digs : ∀ c : Fin 256, Lib.indexByte digs.data.toList (((c.1 : Nat) : Int).toNat.toUInt8) = hv c.1 := by decide
def plainS (c : Nat) : Nat × Bool := if c = 34 ∨ c = 92 then (c, true) else if c = 110 then (10, true) else if c = 116 then (9, true) else if c = 114 then (13, true) else (0, false)
theorem ret_esc {x y : Int} {p : Nat × Nat} (h1 : x = p.1) (h2 : y = p.2) : Ending.returned (.tuple ⟨[.int .u8 x, .int .i64 y]⟩) = Ending.returned (.tuple #[.int .u8 (p.1 : Nat), .int .i64 (p.2 : Nat)]) := by rw [h1, h2]
theorem len_drop (s : ByteArray) (k : Nat) : (s.data.toList.drop k).length = s.size - k := by rw [List.length_drop, len_bytes]
theorem hexbyte : ∀ a b : Fin 16, IntKind.u8.wrap (bits .or .i64 (IntKind.i64.wrap (((a.1 : Nat) : Int) * 2 ^ (min 4 IntKind.i64.bits))) ((b.1 : Nat) : Int)) = ((16 * a.1 + b.1 : Nat) : Int) := by
  have e : (2 : Int) ^ (min 4 IntKind.i64.bits) = 16 := by decide
  rw [e]
  decide +kernel
theorem hexbyte' {a b : Int} (ha : ¬ a < 0) (hb : ¬ b < 0) (ha2 : a ≤ 15) (hb2 : b ≤ 15) : IntKind.u8.wrap (bits .or .i64 (IntKind.i64.wrap (a * 2 ^ (min 4 IntKind.i64.bits))) b) = (((16 * a + b).toNat : Nat) : Int) := by
  have h := hexbyte ⟨a.toNat, by omega⟩ ⟨b.toNat, by omega⟩
  have e1 : ((a.toNat : Nat) : Int) = a := by omega
  have e2 : ((b.toNat : Nat) : Int) = b := by omega
  simp only [e1, e2] at h
  rw [h]; omega
theorem unhL_step {s : ByteArray} {j : Nat} (h : 2 * j + 1 < s.size) : unhL (s.data.toList.drop (2 * j)) = if hv (atB s (2 * j)) < 0 ∨ hv (atB s (2 * j + 1)) < 0 then ([], false) else (UInt8.ofNat (16 * hv (atB s (2 * j)) + hv (atB s (2 * j + 1))).toNat :: (unhL (s.data.toList.drop (2 * (j + 1)))).1, (unhL (s.data.toList.drop (2 * (j + 1)))).2) := by
  have h1 : 2 * j < s.data.toList.length := by rw [len_bytes]; omega
  have h2 : 2 * j + 1 < s.data.toList.length := by rw [len_bytes]; exact h
  have e1 : (s.data.toList[2 * j]).toNat = atB s (2 * j) := by unfold atB; rw [List.getD_eq_getElem?_getD, List.getElem?_eq_getElem h1]; rfl
  have e2 : (s.data.toList[2 * j + 1]).toNat = atB s (2 * j + 1) := by unfold atB; rw [List.getD_eq_getElem?_getD, List.getElem?_eq_getElem h2]; rfl
  rw [List.drop_eq_getElem_cons h1, List.drop_eq_getElem_cons h2]
  simp only [unhL, e1, e2]
  rfl
theorem unh_byte {a b : Int} (ha : ¬ a < 0) (hb : ¬ b < 0) (ha2 : a ≤ 15) (hb2 : b ≤ 15) : ((UInt8.ofNat (16 * a + b).toNat).toNat : Int) = (((16 * a + b).toNat : Nat) : Int) := by
  rw [UInt8.toNat_ofNat']; omega
theorem qpart_cut (s : ByteArray) (k : Nat) : qAt s k = qAt s k := rfl
theorem dec_width {s : ByteArray} {k : Nat} : Utf8.decode s k = ((decL (s.data.toList.drop k)).1, qlen (s.data.toList.drop k)) := by
  rw [decode_dec]
  refine Prod.ext rfl ?_
  have hz := dec_sz (s.data.toList.drop k)
  unfold qlen
  show (decL (s.data.toList.drop k)).2 = _
  rcases hz with ⟨h1, h2, _⟩ | ⟨h1, h2, _⟩
  · rw [if_pos h1, h2]
  · rw [if_neg h1, h2]
set_option maxRecDepth 100000 in
set_option maxHeartbeats 4000000 in
theorem quote_any (s : ByteArray) (w : World) (hs : s.size ≤ 35184372088800) : Calls Tryz.prog 27 #[.string s] w fun e w' => e = .returned (.string (quoteS s)) ∧ Below w.heap.size w w' := by
  refine sx_enter Tryz.func27 rfl Tryz.ntmps27 rfl rfl ?_
  repeat' (first | refine sc_seq ?_ | refine sc_region ?_ | refine sq_then ?_ | refine sc_ret ?_ | refine sc_skip ?_ | refine sc_block ?_ | refine sc_exit ?_ | refine sq_pass_ret ?_ | refine sq_pass_exit ?_ | refine sq_blk_normal ?_ | refine sq_blk_ret ?_ | refine sq_blk_hit ?_ | refine sq_blk_miss rfl ?_ | refine sc_regionD follows_any rfl (by kernel_rfl) ?_ | refine sx_nil ?_ | refine sx_v rfl (vo_un tok rfl rfl rfl rfl) rfl rfl ?_ | refine sx_v rfl (vo_bin tok rfl rfl rfl rfl rfl rfl) rfl rfl ?_ | refine sx_v rfl (vo_or rfl rfl rfl rfl rfl) rfl rfl ?_ | refine sx_v rfl (vo_and rfl rfl rfl rfl rfl) rfl rfl ?_ | (refine sx_alloc tok rfl rfl rfl rfl rfl rfl ?_; intro b))
  refine sl_nil 5 1 ?_
  refine sl_conv (fun w hM => hM.pull 1 rfl) ?_
  refine sx_callE (σ := Option Addr × Nat) (fun _ => True) (fun _ => .tuple #[.int .i64 ((⟨#[34]⟩ : ByteArray)).size, .nilIface]) (fun q => .cl b 51 [.pointer (some ⟨b, 0, none⟩), .slice q.1 (0 + ((⟨#[34]⟩ : ByteArray)).size) q.2] :: .own q.1 q.2 5 1 (0 + ((⟨#[34]⟩ : ByteArray)).size) ([] ++ cellsB ((⟨#[34]⟩ : ByteArray)).data.toList) :: []) rfl (callOp rfl rfl rfl rfl ⟨rfl, rfl, trivial⟩ rfl (by kernel_rfl)) (fun w hm => ws_Y b (.pointer none) none 0 0 [] _ w hm (.inl rfl) (by decide)) rfl rfl (fun q _ => ?_)
  repeat' (first | refine sc_seq ?_ | refine sc_region ?_ | refine sq_then ?_ | refine sc_ret ?_ | refine sc_skip ?_ | refine sc_block ?_ | refine sc_exit ?_ | refine sq_pass_ret ?_ | refine sq_pass_exit ?_ | refine sq_blk_normal ?_ | refine sq_blk_ret ?_ | refine sq_blk_hit ?_ | refine sq_blk_miss rfl ?_ | refine sc_regionD follows_any rfl (by kernel_rfl) ?_ | refine sx_nil ?_ | refine sr_nil0 ?_ | (refine sr_nil1 ?_; intro g) | (refine sx_range tok rfl rfl rfl rfl rfl rfl ?_; intro g) | ((first | refine' sx_v rfl ?_ rfl rfl ?_ | refine' sr_v rfl ?_ rfl rfl rfl ?_); rotate_left; first | exact vo_un tok rfl rfl rfl rfl | exact vo_bin tok rfl rfl rfl rfl rfl rfl | exact vo_or rfl rfl rfl rfl rfl | exact vo_and rfl rfl rfl rfl rfl | exact vo_load tok 0 rfl rfl rfl rfl rfl | exact vo_load tok 1 rfl rfl rfl rfl rfl | exact vo_load tok 2 rfl rfl rfl rfl rfl | exact vo_load tok 3 rfl rfl rfl rfl rfl | exact vo_eqs tok eqOK rfl rfl rfl rfl rfl rfl (by kernel_rfl) | exact vo_nes tok eqOK rfl rfl rfl rfl rfl rfl (by kernel_rfl) | exact vo_len tok rfl rfl rfl rfl rfl rfl rfl | exact vo_max rfl rfl rfl rfl rfl | exact vo_min rfl rfl rfl rfl rfl | exact vo_sh rfl rfl rfl rfl rfl rfl rfl | exact vo_build tok rfl rfl trivial rfl rfl rfl | exact vo_build tok rfl rfl ⟨rfl, trivial⟩ rfl rfl rfl | exact vo_build tok rfl rfl ⟨rfl, rfl, trivial⟩ rfl rfl rfl | exact vo_build tok rfl rfl ⟨rfl, rfl, rfl, trivial⟩ rfl rfl rfl | exact vo_build tok rfl rfl ⟨rfl, rfl, rfl, rfl, trivial⟩ rfl rfl rfl | exact vo_build tok rfl rfl ⟨rfl, rfl, rfl, rfl, rfl, trivial⟩ rfl rfl rfl | exact vo_build tok rfl rfl ⟨rfl, rfl, rfl, rfl, rfl, rfl, trivial⟩ rfl rfl rfl | exact vo_build tok rfl rfl ⟨rfl, rfl, rfl, rfl, rfl, rfl, rfl, trivial⟩ rfl rfl rfl | exact vo_build tok rfl rfl ⟨rfl, rfl, rfl, rfl, rfl, rfl, rfl, rfl, trivial⟩ rfl rfl rfl) | (refine sx_box rfl rfl rfl rfl rfl rfl ?_; intro g) | (refine sx_alloc tok rfl rfl rfl rfl rfl rfl ?_; intro g) | refine sr_alloc tok rfl rfl rfl rfl rfl rfl ?_ | refine sr_box rfl rfl rfl rfl rfl rfl ?_ | refine sx_store tok 0 rfl rfl rfl rfl rfl rfl rfl rfl rfl rfl rfl rfl ?_ | refine sx_store tok 1 rfl rfl rfl rfl rfl rfl rfl rfl rfl rfl rfl rfl ?_ | refine sx_store tok 2 rfl rfl rfl rfl rfl rfl rfl rfl rfl rfl rfl rfl ?_ | refine sx_store tok 3 rfl rfl rfl rfl rfl rfl rfl rfl rfl rfl rfl rfl ?_)
  refine sc_conv (fun w hM => ((hM.pull 2 rfl).pull 2 rfl)) ?_
  refine sc_loop (σ := Nat × List UInt8 × Option Addr × Nat) (fun p => p.1 ≤ s.size ∧ quoteL s = p.2.1 ++ qAt s p.1 ++ [34]) (fun p => [(8, [], .pointer (some ⟨g, 0, none⟩)), (3, [], .pointer (some ⟨b, 0, none⟩)), (0, [], .string s)]) (fun p => [.cl b 51 [.pointer (some ⟨b, 0, none⟩), .slice p.2.2.1 p.2.1.length p.2.2.2], .own p.2.2.1 p.2.2.2 5 1 p.2.1.length (cellsB p.2.1), .obj g (.stringIter s p.1)]) (fun p => s.size - p.1) (0, [34], q.1, q.2) [] ⟨Nat.zero_le _, rfl⟩ ⟨rfl, rfl, rfl, trivial⟩ rfl ?_
  rintro ⟨j, acc, a, c⟩ ⟨hj0, hq⟩
  dsimp only at hj0 hq ⊢
  have hlen := quoteL_len s
  have hal : acc.length ≤ 4 * s.size + 1 := by rw [hq] at hlen; simp only [List.length_append, List.length_cons, List.length_nil] at hlen; omega
  by_cases hj : j < s.size
  · have hstep := qAt_step s j hj
    have hqp : (qpart (s.data.toList.drop j)).length ≤ 16 := by
      have hl : 0 < (s.data.toList.drop j).length := by rw [List.length_drop, len_bytes]; omega
      have h1 := qpart_len _ hl
      have h2 := (qlen_le _ hl).2
      omega
    have hqz : (⟨(qpart (s.data.toList.drop j)).toArray⟩ : ByteArray).size = (qpart (s.data.toList.drop j)).length := by show (qpart _).toArray.size = _; simp
    repeat' (first | refine sc_seq ?_ | refine sc_region ?_ | refine sq_then ?_ | refine sc_ret ?_ | refine sc_skip ?_ | refine sc_block ?_ | refine sc_exit ?_ | refine sq_pass_ret ?_ | refine sq_pass_exit ?_ | refine sq_blk_normal ?_ | refine sq_blk_ret ?_ | refine sq_blk_hit ?_ | refine sq_blk_miss rfl ?_ | refine sc_regionD follows_any rfl (by kernel_rfl) ?_ | refine sx_nil ?_ | refine sr_nil0 ?_ | (refine sr_nil1 ?_; intro g) | refine sx_next 2 rfl rfl rfl rfl hj dec_width rfl rfl rfl ?_ | ((first | refine' sx_v rfl ?_ rfl rfl ?_ | refine' sr_v rfl ?_ rfl rfl rfl ?_); rotate_left; first | exact vo_un tok rfl rfl rfl rfl | exact vo_bin tok rfl rfl rfl rfl rfl rfl | exact vo_or rfl rfl rfl rfl rfl | exact vo_and rfl rfl rfl rfl rfl | exact vo_load tok 0 rfl rfl rfl rfl rfl | exact vo_load tok 1 rfl rfl rfl rfl rfl | exact vo_load tok 2 rfl rfl rfl rfl rfl | exact vo_load tok 3 rfl rfl rfl rfl rfl | exact vo_eqs tok eqOK rfl rfl rfl rfl rfl rfl (by kernel_rfl) | exact vo_nes tok eqOK rfl rfl rfl rfl rfl rfl (by kernel_rfl) | exact vo_len tok rfl rfl rfl rfl rfl rfl rfl | exact vo_max rfl rfl rfl rfl rfl | exact vo_min rfl rfl rfl rfl rfl | exact vo_sh rfl rfl rfl rfl rfl rfl rfl | exact vo_build tok rfl rfl trivial rfl rfl rfl | exact vo_build tok rfl rfl ⟨rfl, trivial⟩ rfl rfl rfl | exact vo_build tok rfl rfl ⟨rfl, rfl, trivial⟩ rfl rfl rfl | exact vo_build tok rfl rfl ⟨rfl, rfl, rfl, trivial⟩ rfl rfl rfl | exact vo_build tok rfl rfl ⟨rfl, rfl, rfl, rfl, trivial⟩ rfl rfl rfl | exact vo_build tok rfl rfl ⟨rfl, rfl, rfl, rfl, rfl, trivial⟩ rfl rfl rfl | exact vo_build tok rfl rfl ⟨rfl, rfl, rfl, rfl, rfl, rfl, trivial⟩ rfl rfl rfl | exact vo_build tok rfl rfl ⟨rfl, rfl, rfl, rfl, rfl, rfl, rfl, trivial⟩ rfl rfl rfl | exact vo_build tok rfl rfl ⟨rfl, rfl, rfl, rfl, rfl, rfl, rfl, rfl, trivial⟩ rfl rfl rfl) | (refine sx_box rfl rfl rfl rfl rfl rfl ?_; intro g) | (refine sx_alloc tok rfl rfl rfl rfl rfl rfl ?_; intro g) | refine sr_alloc tok rfl rfl rfl rfl rfl rfl ?_ | refine sr_box rfl rfl rfl rfl rfl rfl ?_ | refine sx_store tok 0 rfl rfl rfl rfl rfl rfl rfl rfl rfl rfl rfl rfl ?_ | refine sx_store tok 1 rfl rfl rfl rfl rfl rfl rfl rfl rfl rfl rfl rfl ?_ | refine sx_store tok 2 rfl rfl rfl rfl rfl rfl rfl rfl rfl rfl rfl rfl ?_ | refine sx_store tok 3 rfl rfl rfl rfl rfl rfl rfl rfl rfl rfl rfl rfl ?_)
    refine sc_true rfl rfl ?_
    repeat' (first | refine sc_seq ?_ | refine sc_region ?_ | refine sq_then ?_ | refine sc_ret ?_ | refine sc_skip ?_ | refine sc_block ?_ | refine sc_exit ?_ | refine sq_pass_ret ?_ | refine sq_pass_exit ?_ | refine sq_blk_normal ?_ | refine sq_blk_ret ?_ | refine sq_blk_hit ?_ | refine sq_blk_miss rfl ?_ | refine sc_regionD follows_any rfl (by kernel_rfl) ?_ | refine sx_nil ?_ | refine sr_nil0 ?_ | (refine sr_nil1 ?_; intro g) | ((first | refine' sx_v rfl ?_ rfl rfl ?_ | refine' sr_v rfl ?_ rfl rfl rfl ?_); rotate_left; first | exact vo_un tok rfl rfl rfl rfl | exact vo_bin tok rfl rfl rfl rfl rfl rfl | exact vo_or rfl rfl rfl rfl rfl | exact vo_and rfl rfl rfl rfl rfl | exact vo_load tok 0 rfl rfl rfl rfl rfl | exact vo_load tok 1 rfl rfl rfl rfl rfl | exact vo_load tok 2 rfl rfl rfl rfl rfl | exact vo_load tok 3 rfl rfl rfl rfl rfl | exact vo_eqs tok eqOK rfl rfl rfl rfl rfl rfl (by kernel_rfl) | exact vo_nes tok eqOK rfl rfl rfl rfl rfl rfl (by kernel_rfl) | exact vo_len tok rfl rfl rfl rfl rfl rfl rfl | exact vo_max rfl rfl rfl rfl rfl | exact vo_min rfl rfl rfl rfl rfl | exact vo_sh rfl rfl rfl rfl rfl rfl rfl | exact vo_build tok rfl rfl trivial rfl rfl rfl | exact vo_build tok rfl rfl ⟨rfl, trivial⟩ rfl rfl rfl | exact vo_build tok rfl rfl ⟨rfl, rfl, trivial⟩ rfl rfl rfl | exact vo_build tok rfl rfl ⟨rfl, rfl, rfl, trivial⟩ rfl rfl rfl | exact vo_build tok rfl rfl ⟨rfl, rfl, rfl, rfl, trivial⟩ rfl rfl rfl | exact vo_build tok rfl rfl ⟨rfl, rfl, rfl, rfl, rfl, trivial⟩ rfl rfl rfl | exact vo_build tok rfl rfl ⟨rfl, rfl, rfl, rfl, rfl, rfl, trivial⟩ rfl rfl rfl | exact vo_build tok rfl rfl ⟨rfl, rfl, rfl, rfl, rfl, rfl, rfl, trivial⟩ rfl rfl rfl | exact vo_build tok rfl rfl ⟨rfl, rfl, rfl, rfl, rfl, rfl, rfl, rfl, trivial⟩ rfl rfl rfl) | refine sx_call rfl (callOp rfl rfl rfl rfl ⟨rfl, rfl, rfl, trivial⟩ rfl (by kernel_rfl)) (fun w hm => form_any s j w hj (by omega)) rfl rfl ?_ | refine sr_call rfl (callOp rfl rfl rfl rfl ⟨rfl, rfl, rfl, trivial⟩ rfl (by kernel_rfl)) rfl (fun w hm => form_any s j w hj (by omega)) rfl rfl ?_ | (refine sx_box rfl rfl rfl rfl rfl rfl ?_; intro g) | (refine sx_alloc tok rfl rfl rfl rfl rfl rfl ?_; intro g) | refine sr_alloc tok rfl rfl rfl rfl rfl rfl ?_ | refine sr_box rfl rfl rfl rfl rfl rfl ?_ | refine sx_store tok 0 rfl rfl rfl rfl rfl rfl rfl rfl rfl rfl rfl rfl ?_ | refine sx_store tok 1 rfl rfl rfl rfl rfl rfl rfl rfl rfl rfl rfl rfl ?_ | refine sx_store tok 2 rfl rfl rfl rfl rfl rfl rfl rfl rfl rfl rfl rfl ?_ | refine sx_store tok 3 rfl rfl rfl rfl rfl rfl rfl rfl rfl rfl rfl rfl ?_)
    refine sx_callE (σ := Option Addr × Nat) (fun _ => True) (fun _ => .tuple #[.int .i64 ((⟨(qpart (s.data.toList.drop j)).toArray⟩ : ByteArray)).size, .nilIface]) (fun q => .cl b 51 [.pointer (some ⟨b, 0, none⟩), .slice q.1 (acc.length + ((⟨(qpart (s.data.toList.drop j)).toArray⟩ : ByteArray)).size) q.2] :: .own q.1 q.2 5 1 (acc.length + ((⟨(qpart (s.data.toList.drop j)).toArray⟩ : ByteArray)).size) ((cellsB acc) ++ cellsB ((⟨(qpart (s.data.toList.drop j)).toArray⟩ : ByteArray)).data.toList) :: [.obj g (.stringIter s (j + qlen (s.data.toList.drop j)))]) rfl (callOp rfl rfl rfl rfl ⟨rfl, rfl, trivial⟩ rfl (by kernel_rfl)) (fun w hm => ws_Y b (.pointer (some ⟨b, 0, none⟩)) a acc.length c (cellsB acc) _ w hm (.inr rfl) (by rw [hqz]; omega)) rfl rfl (fun q _ => ?_)
    repeat' (first | refine sc_seq ?_ | refine sc_region ?_ | refine sq_then ?_ | refine sc_ret ?_ | refine sc_skip ?_ | refine sc_block ?_ | refine sc_exit ?_ | refine sq_pass_ret ?_ | refine sq_pass_exit ?_ | refine sq_blk_normal ?_ | refine sq_blk_ret ?_ | refine sq_blk_hit ?_ | refine sq_blk_miss rfl ?_ | refine sc_regionD follows_any rfl (by kernel_rfl) ?_ | refine sx_nil ?_ | refine sr_nil0 ?_ | (refine sr_nil1 ?_; intro g) | ((first | refine' sx_v rfl ?_ rfl rfl ?_ | refine' sr_v rfl ?_ rfl rfl rfl ?_); rotate_left; first | exact vo_un tok rfl rfl rfl rfl | exact vo_bin tok rfl rfl rfl rfl rfl rfl | exact vo_or rfl rfl rfl rfl rfl | exact vo_and rfl rfl rfl rfl rfl | exact vo_load tok 0 rfl rfl rfl rfl rfl | exact vo_load tok 1 rfl rfl rfl rfl rfl | exact vo_load tok 2 rfl rfl rfl rfl rfl | exact vo_load tok 3 rfl rfl rfl rfl rfl | exact vo_eqs tok eqOK rfl rfl rfl rfl rfl rfl (by kernel_rfl) | exact vo_nes tok eqOK rfl rfl rfl rfl rfl rfl (by kernel_rfl) | exact vo_len tok rfl rfl rfl rfl rfl rfl rfl | exact vo_max rfl rfl rfl rfl rfl | exact vo_min rfl rfl rfl rfl rfl | exact vo_sh rfl rfl rfl rfl rfl rfl rfl | exact vo_build tok rfl rfl trivial rfl rfl rfl | exact vo_build tok rfl rfl ⟨rfl, trivial⟩ rfl rfl rfl | exact vo_build tok rfl rfl ⟨rfl, rfl, trivial⟩ rfl rfl rfl | exact vo_build tok rfl rfl ⟨rfl, rfl, rfl, trivial⟩ rfl rfl rfl | exact vo_build tok rfl rfl ⟨rfl, rfl, rfl, rfl, trivial⟩ rfl rfl rfl | exact vo_build tok rfl rfl ⟨rfl, rfl, rfl, rfl, rfl, trivial⟩ rfl rfl rfl | exact vo_build tok rfl rfl ⟨rfl, rfl, rfl, rfl, rfl, rfl, trivial⟩ rfl rfl rfl | exact vo_build tok rfl rfl ⟨rfl, rfl, rfl, rfl, rfl, rfl, rfl, trivial⟩ rfl rfl rfl | exact vo_build tok rfl rfl ⟨rfl, rfl, rfl, rfl, rfl, rfl, rfl, rfl, trivial⟩ rfl rfl rfl) | (refine sx_box rfl rfl rfl rfl rfl rfl ?_; intro g) | (refine sx_alloc tok rfl rfl rfl rfl rfl rfl ?_; intro g) | refine sr_alloc tok rfl rfl rfl rfl rfl rfl ?_ | refine sr_box rfl rfl rfl rfl rfl rfl ?_ | refine sx_store tok 0 rfl rfl rfl rfl rfl rfl rfl rfl rfl rfl rfl rfl ?_ | refine sx_store tok 1 rfl rfl rfl rfl rfl rfl rfl rfl rfl rfl rfl rfl ?_ | refine sx_store tok 2 rfl rfl rfl rfl rfl rfl rfl rfl rfl rfl rfl rfl ?_ | refine sx_store tok 3 rfl rfl rfl rfl rfl rfl rfl rfl rfl rfl rfl rfl ?_)
    have h1 := qlen_pos (s.data.toList.drop j)
    have h2 := (qlen_le (s.data.toList.drop j) (by rw [List.length_drop, len_bytes]; omega)).1
    rw [List.length_drop, len_bytes] at h2
    refine sq_again (j + qlen (s.data.toList.drop j), acc ++ qpart (s.data.toList.drop j), q.1, q.2) [] ⟨by dsimp only; omega, by rw [hq, hstep]; simp⟩ (show s.size - (j + qlen (s.data.toList.drop j)) < s.size - j by omega) ⟨rfl, rfl, rfl, trivial⟩ ?_
    have e1 : (acc ++ qpart (s.data.toList.drop j)).length = acc.length + (⟨(qpart (s.data.toList.drop j)).toArray⟩ : ByteArray).size := by rw [hqz]; simp
    have e2 : cellsB (acc ++ qpart (s.data.toList.drop j)) = cellsB acc ++ cellsB (⟨(qpart (s.data.toList.drop j)).toArray⟩ : ByteArray).data.toList := by simp [cellsB]
    dsimp only
    rw [e1, e2]; rfl
  · have hje : j = s.size := by omega
    repeat' (first | refine sc_seq ?_ | refine sc_region ?_ | refine sq_then ?_ | refine sc_ret ?_ | refine sc_skip ?_ | refine sc_block ?_ | refine sc_exit ?_ | refine sq_pass_ret ?_ | refine sq_pass_exit ?_ | refine sq_blk_normal ?_ | refine sq_blk_ret ?_ | refine sq_blk_hit ?_ | refine sq_blk_miss rfl ?_ | refine sc_regionD follows_any rfl (by kernel_rfl) ?_ | refine sx_nil ?_ | refine sr_nil0 ?_ | (refine sr_nil1 ?_; intro g) | refine sx_over 2 rfl rfl rfl rfl (by omega) rfl rfl ?_ | ((first | refine' sx_v rfl ?_ rfl rfl ?_ | refine' sr_v rfl ?_ rfl rfl rfl ?_); rotate_left; first | exact vo_un tok rfl rfl rfl rfl | exact vo_bin tok rfl rfl rfl rfl rfl rfl | exact vo_or rfl rfl rfl rfl rfl | exact vo_and rfl rfl rfl rfl rfl | exact vo_load tok 0 rfl rfl rfl rfl rfl | exact vo_load tok 1 rfl rfl rfl rfl rfl | exact vo_load tok 2 rfl rfl rfl rfl rfl | exact vo_load tok 3 rfl rfl rfl rfl rfl | exact vo_eqs tok eqOK rfl rfl rfl rfl rfl rfl (by kernel_rfl) | exact vo_nes tok eqOK rfl rfl rfl rfl rfl rfl (by kernel_rfl) | exact vo_len tok rfl rfl rfl rfl rfl rfl rfl | exact vo_max rfl rfl rfl rfl rfl | exact vo_min rfl rfl rfl rfl rfl | exact vo_sh rfl rfl rfl rfl rfl rfl rfl | exact vo_build tok rfl rfl trivial rfl rfl rfl | exact vo_build tok rfl rfl ⟨rfl, trivial⟩ rfl rfl rfl | exact vo_build tok rfl rfl ⟨rfl, rfl, trivial⟩ rfl rfl rfl | exact vo_build tok rfl rfl ⟨rfl, rfl, rfl, trivial⟩ rfl rfl rfl | exact vo_build tok rfl rfl ⟨rfl, rfl, rfl, rfl, trivial⟩ rfl rfl rfl | exact vo_build tok rfl rfl ⟨rfl, rfl, rfl, rfl, rfl, trivial⟩ rfl rfl rfl | exact vo_build tok rfl rfl ⟨rfl, rfl, rfl, rfl, rfl, rfl, trivial⟩ rfl rfl rfl | exact vo_build tok rfl rfl ⟨rfl, rfl, rfl, rfl, rfl, rfl, rfl, trivial⟩ rfl rfl rfl | exact vo_build tok rfl rfl ⟨rfl, rfl, rfl, rfl, rfl, rfl, rfl, rfl, trivial⟩ rfl rfl rfl) | (refine sx_box rfl rfl rfl rfl rfl rfl ?_; intro g) | (refine sx_alloc tok rfl rfl rfl rfl rfl rfl ?_; intro g) | refine sr_alloc tok rfl rfl rfl rfl rfl rfl ?_ | refine sr_box rfl rfl rfl rfl rfl rfl ?_ | refine sx_store tok 0 rfl rfl rfl rfl rfl rfl rfl rfl rfl rfl rfl rfl ?_ | refine sx_store tok 1 rfl rfl rfl rfl rfl rfl rfl rfl rfl rfl rfl rfl ?_ | refine sx_store tok 2 rfl rfl rfl rfl rfl rfl rfl rfl rfl rfl rfl rfl ?_ | refine sx_store tok 3 rfl rfl rfl rfl rfl rfl rfl rfl rfl rfl rfl rfl ?_)
    refine sc_false rfl rfl ?_
    repeat' (first | refine sc_seq ?_ | refine sc_region ?_ | refine sq_then ?_ | refine sc_ret ?_ | refine sc_skip ?_ | refine sc_block ?_ | refine sc_exit ?_ | refine sq_pass_ret ?_ | refine sq_pass_exit ?_ | refine sq_blk_normal ?_ | refine sq_blk_ret ?_ | refine sq_blk_hit ?_ | refine sq_blk_miss rfl ?_ | refine sc_regionD follows_any rfl (by kernel_rfl) ?_ | refine sx_nil ?_ | refine sr_nil0 ?_ | (refine sr_nil1 ?_; intro g) | ((first | refine' sx_v rfl ?_ rfl rfl ?_ | refine' sr_v rfl ?_ rfl rfl rfl ?_); rotate_left; first | exact vo_un tok rfl rfl rfl rfl | exact vo_bin tok rfl rfl rfl rfl rfl rfl | exact vo_or rfl rfl rfl rfl rfl | exact vo_and rfl rfl rfl rfl rfl | exact vo_load tok 0 rfl rfl rfl rfl rfl | exact vo_load tok 1 rfl rfl rfl rfl rfl | exact vo_load tok 2 rfl rfl rfl rfl rfl | exact vo_load tok 3 rfl rfl rfl rfl rfl | exact vo_eqs tok eqOK rfl rfl rfl rfl rfl rfl (by kernel_rfl) | exact vo_nes tok eqOK rfl rfl rfl rfl rfl rfl (by kernel_rfl) | exact vo_len tok rfl rfl rfl rfl rfl rfl rfl | exact vo_max rfl rfl rfl rfl rfl | exact vo_min rfl rfl rfl rfl rfl | exact vo_sh rfl rfl rfl rfl rfl rfl rfl | exact vo_build tok rfl rfl trivial rfl rfl rfl | exact vo_build tok rfl rfl ⟨rfl, trivial⟩ rfl rfl rfl | exact vo_build tok rfl rfl ⟨rfl, rfl, trivial⟩ rfl rfl rfl | exact vo_build tok rfl rfl ⟨rfl, rfl, rfl, trivial⟩ rfl rfl rfl | exact vo_build tok rfl rfl ⟨rfl, rfl, rfl, rfl, trivial⟩ rfl rfl rfl | exact vo_build tok rfl rfl ⟨rfl, rfl, rfl, rfl, rfl, trivial⟩ rfl rfl rfl | exact vo_build tok rfl rfl ⟨rfl, rfl, rfl, rfl, rfl, rfl, trivial⟩ rfl rfl rfl | exact vo_build tok rfl rfl ⟨rfl, rfl, rfl, rfl, rfl, rfl, rfl, trivial⟩ rfl rfl rfl | exact vo_build tok rfl rfl ⟨rfl, rfl, rfl, rfl, rfl, rfl, rfl, rfl, trivial⟩ rfl rfl rfl) | (refine sx_box rfl rfl rfl rfl rfl rfl ?_; intro g) | (refine sx_alloc tok rfl rfl rfl rfl rfl rfl ?_; intro g) | refine sr_alloc tok rfl rfl rfl rfl rfl rfl ?_ | refine sr_box rfl rfl rfl rfl rfl rfl ?_ | refine sx_store tok 0 rfl rfl rfl rfl rfl rfl rfl rfl rfl rfl rfl rfl ?_ | refine sx_store tok 1 rfl rfl rfl rfl rfl rfl rfl rfl rfl rfl rfl rfl ?_ | refine sx_store tok 2 rfl rfl rfl rfl rfl rfl rfl rfl rfl rfl rfl rfl ?_ | refine sx_store tok 3 rfl rfl rfl rfl rfl rfl rfl rfl rfl rfl rfl rfl ?_)
    refine sx_callE (σ := Option Addr × Nat) (fun _ => True) (fun _ => .tuple #[.int .i64 ((⟨#[34]⟩ : ByteArray)).size, .nilIface]) (fun q => .cl b 51 [.pointer (some ⟨b, 0, none⟩), .slice q.1 (acc.length + ((⟨#[34]⟩ : ByteArray)).size) q.2] :: .own q.1 q.2 5 1 (acc.length + ((⟨#[34]⟩ : ByteArray)).size) ((cellsB acc) ++ cellsB ((⟨#[34]⟩ : ByteArray)).data.toList) :: [.obj g (.stringIter s j)]) rfl (callOp rfl rfl rfl rfl ⟨rfl, rfl, trivial⟩ rfl (by kernel_rfl)) (fun w hm => ws_Y b (.pointer (some ⟨b, 0, none⟩)) a acc.length c (cellsB acc) _ w hm (.inr rfl) (by show acc.length + 1 ≤ _; omega)) rfl rfl (fun q _ => ?_)
    repeat' (first | refine sc_seq ?_ | refine sc_region ?_ | refine sq_then ?_ | refine sc_ret ?_ | refine sc_skip ?_ | refine sc_block ?_ | refine sc_exit ?_ | refine sq_pass_ret ?_ | refine sq_pass_exit ?_ | refine sq_blk_normal ?_ | refine sq_blk_ret ?_ | refine sq_blk_hit ?_ | refine sq_blk_miss rfl ?_ | refine sc_regionD follows_any rfl (by kernel_rfl) ?_ | refine sx_nil ?_ | refine sr_nil0 ?_ | (refine sr_nil1 ?_; intro g) | ((first | refine' sx_v rfl ?_ rfl rfl ?_ | refine' sr_v rfl ?_ rfl rfl rfl ?_); rotate_left; first | exact vo_un tok rfl rfl rfl rfl | exact vo_bin tok rfl rfl rfl rfl rfl rfl | exact vo_or rfl rfl rfl rfl rfl | exact vo_and rfl rfl rfl rfl rfl | exact vo_load tok 0 rfl rfl rfl rfl rfl | exact vo_load tok 1 rfl rfl rfl rfl rfl | exact vo_load tok 2 rfl rfl rfl rfl rfl | exact vo_load tok 3 rfl rfl rfl rfl rfl | exact vo_eqs tok eqOK rfl rfl rfl rfl rfl rfl (by kernel_rfl) | exact vo_nes tok eqOK rfl rfl rfl rfl rfl rfl (by kernel_rfl) | exact vo_len tok rfl rfl rfl rfl rfl rfl rfl | exact vo_max rfl rfl rfl rfl rfl | exact vo_min rfl rfl rfl rfl rfl | exact vo_sh rfl rfl rfl rfl rfl rfl rfl | exact vo_build tok rfl rfl trivial rfl rfl rfl | exact vo_build tok rfl rfl ⟨rfl, trivial⟩ rfl rfl rfl | exact vo_build tok rfl rfl ⟨rfl, rfl, trivial⟩ rfl rfl rfl | exact vo_build tok rfl rfl ⟨rfl, rfl, rfl, trivial⟩ rfl rfl rfl | exact vo_build tok rfl rfl ⟨rfl, rfl, rfl, rfl, trivial⟩ rfl rfl rfl | exact vo_build tok rfl rfl ⟨rfl, rfl, rfl, rfl, rfl, trivial⟩ rfl rfl rfl | exact vo_build tok rfl rfl ⟨rfl, rfl, rfl, rfl, rfl, rfl, trivial⟩ rfl rfl rfl | exact vo_build tok rfl rfl ⟨rfl, rfl, rfl, rfl, rfl, rfl, rfl, trivial⟩ rfl rfl rfl | exact vo_build tok rfl rfl ⟨rfl, rfl, rfl, rfl, rfl, rfl, rfl, rfl, trivial⟩ rfl rfl rfl) | (refine sx_box rfl rfl rfl rfl rfl rfl ?_; intro g) | (refine sx_alloc tok rfl rfl rfl rfl rfl rfl ?_; intro g) | refine sr_alloc tok rfl rfl rfl rfl rfl rfl ?_ | refine sr_box rfl rfl rfl rfl rfl rfl ?_ | refine sx_store tok 0 rfl rfl rfl rfl rfl rfl rfl rfl rfl rfl rfl rfl ?_ | refine sx_store tok 1 rfl rfl rfl rfl rfl rfl rfl rfl rfl rfl rfl rfl ?_ | refine sx_store tok 2 rfl rfl rfl rfl rfl rfl rfl rfl rfl rfl rfl rfl ?_ | refine sx_store tok 3 rfl rfl rfl rfl rfl rfl rfl rfl rfl rfl rfl rfl ?_)
    have e2 : cellsB acc ++ cellsB (⟨#[34]⟩ : ByteArray).data.toList = cellsB (acc ++ [34]) := by simp [cellsB]
    rw [e2]
    refine sx_callE (σ := Unit) (fun _ => True) (fun _ => .string ⟨(acc ++ [34]).toArray⟩) (fun _ => []) rfl (callOp rfl rfl rfl rfl ⟨rfl, trivial⟩ rfl (by kernel_rfl)) (fun w hm => str_Y b (.pointer (some ⟨b, 0, none⟩)) q.1 _ q.2 _ w hm (.inr rfl)) rfl rfl (fun _ _ => ?_)
    repeat' (first | refine sc_seq ?_ | refine sc_region ?_ | refine sq_then ?_ | refine sc_ret ?_ | refine sc_skip ?_ | refine sc_block ?_ | refine sc_exit ?_ | refine sq_pass_ret ?_ | refine sq_pass_exit ?_ | refine sq_blk_normal ?_ | refine sq_blk_ret ?_ | refine sq_blk_hit ?_ | refine sq_blk_miss rfl ?_ | refine sc_regionD follows_any rfl (by kernel_rfl) ?_ | refine sx_nil ?_ | refine sr_nil0 ?_ | (refine sr_nil1 ?_; intro g) | ((first | refine' sx_v rfl ?_ rfl rfl ?_ | refine' sr_v rfl ?_ rfl rfl rfl ?_); rotate_left; first | exact vo_un tok rfl rfl rfl rfl | exact vo_bin tok rfl rfl rfl rfl rfl rfl | exact vo_or rfl rfl rfl rfl rfl | exact vo_and rfl rfl rfl rfl rfl | exact vo_load tok 0 rfl rfl rfl rfl rfl | exact vo_load tok 1 rfl rfl rfl rfl rfl | exact vo_load tok 2 rfl rfl rfl rfl rfl | exact vo_load tok 3 rfl rfl rfl rfl rfl | exact vo_eqs tok eqOK rfl rfl rfl rfl rfl rfl (by kernel_rfl) | exact vo_nes tok eqOK rfl rfl rfl rfl rfl rfl (by kernel_rfl) | exact vo_len tok rfl rfl rfl rfl rfl rfl rfl | exact vo_max rfl rfl rfl rfl rfl | exact vo_min rfl rfl rfl rfl rfl | exact vo_sh rfl rfl rfl rfl rfl rfl rfl | exact vo_build tok rfl rfl trivial rfl rfl rfl | exact vo_build tok rfl rfl ⟨rfl, trivial⟩ rfl rfl rfl | exact vo_build tok rfl rfl ⟨rfl, rfl, trivial⟩ rfl rfl rfl | exact vo_build tok rfl rfl ⟨rfl, rfl, rfl, trivial⟩ rfl rfl rfl | exact vo_build tok rfl rfl ⟨rfl, rfl, rfl, rfl, trivial⟩ rfl rfl rfl | exact vo_build tok rfl rfl ⟨rfl, rfl, rfl, rfl, rfl, trivial⟩ rfl rfl rfl | exact vo_build tok rfl rfl ⟨rfl, rfl, rfl, rfl, rfl, rfl, trivial⟩ rfl rfl rfl | exact vo_build tok rfl rfl ⟨rfl, rfl, rfl, rfl, rfl, rfl, rfl, trivial⟩ rfl rfl rfl | exact vo_build tok rfl rfl ⟨rfl, rfl, rfl, rfl, rfl, rfl, rfl, rfl, trivial⟩ rfl rfl rfl) | (refine sx_box rfl rfl rfl rfl rfl rfl ?_; intro g) | (refine sx_alloc tok rfl rfl rfl rfl rfl rfl ?_; intro g) | refine sr_alloc tok rfl rfl rfl rfl rfl rfl ?_ | refine sr_box rfl rfl rfl rfl rfl rfl ?_ | refine sx_store tok 0 rfl rfl rfl rfl rfl rfl rfl rfl rfl rfl rfl rfl ?_ | refine sx_store tok 1 rfl rfl rfl rfl rfl rfl rfl rfl rfl rfl rfl rfl ?_ | refine sx_store tok 2 rfl rfl rfl rfl rfl rfl rfl rfl rfl rfl rfl rfl ?_ | refine sx_store tok 3 rfl rfl rfl rfl rfl rfl rfl rfl rfl rfl rfl rfl ?_)
    refine sq_ret tok (fun _ => 0) rfl rfl trivial rfl fun w hm => ⟨?_, hm.below⟩
    unfold quoteS
    rw [hq, hje, qAt_end s _ (Nat.le_refl _), List.append_nil]
theorem q_empty (s : ByteArray) : (s.toList == (⟨#[]⟩ : ByteArray).toList) = (s.size == 0) := by
  rw [ByteArray.toList_eq, ByteArray.toList_eq, Bool.eq_iff_iff, beq_iff_eq, beq_iff_eq]
  obtain ⟨⟨l⟩⟩ := s
  show l = [] ↔ l.length = 0
  cases l <;> simp
theorem q_idx0 {s : ByteArray} (h : holdsC [((s.toList == (⟨#[]⟩ : ByteArray).toList), false)] = true) : (0 : Int) = ((0 : Nat) : Int) ∧ 0 < s.size := by
  rw [q_empty] at h
  have : ¬ s.size = 0 := by simpa [holdsC] using h
  exact ⟨rfl, by omega⟩
theorem vac_lt {j n : Nat} (h : ¬ j < n) : holdsC [(decide ((j : Int) < (n : Int)), true)] = false := by simp [holdsC]; omega
theorem vac_ge {j n : Nat} (h : ¬ j < n) : holdsC [(decide ((j : Int) ≥ (n : Int)), false)] = false := by simp [holdsC]; omega
theorem one_esc {l : List UInt8} (h : atL l 0 = 92) : oneS l = escS l := by unfold oneS; rw [if_pos h]
theorem one_oth {l : List UInt8} (h : atL l 0 ≠ 92) : oneS l = (atL l 0, 1) := by unfold oneS; rw [if_neg h]
theorem unq_none {s : ByteArray} (h : uqAt s 1 [] = none) : unqS s = ⟨⟨#[]⟩, 0, 2⟩ := by
  unfold unqS; split
  · rfl
  · rw [h]
theorem ret_unq {r : UnqV} {t : ByteArray} {n e : Int} (h1 : t = r.text) (h2 : n = (r.len : Int)) (h3 : e = r.err) : Ending.returned (.tuple ⟨[.string t, .int .i64 n, .int .i64 e]⟩) = Ending.returned (.tuple #[.string r.text, .int .i64 (r.len : Int), .int .i64 r.err]) := by rw [h1, h2, h3]
theorem cut_list (s : ByteArray) (k : Nat) : (s.extract 0 k).data.toList = s.data.toList.take k := by
  rw [ByteArray.data_extract, Array.toList_extract, List.extract_eq_take_drop]; simp
end Go.Proofs.YtpfkddbhpoeknaaGreatDoor.Y

/- The reference's quoted texts and hexadecimal digits. -/
namespace Go.Proofs.YtpfkddbhpoeknaaGreatDoor.Y
open Go.RowKit
theorem tdiv16 (c : Nat) (hc : c < 256) : IntKind.u8.wrap ((c : Int).tdiv 16) = ((c / 16 : Nat) : Int) := by rw [Int.tdiv_eq_ediv_of_nonneg (by omega), IntKind.wrap_u8']; omega
theorem tmod16 (c : Nat) : (c : Int).tmod 16 = ((c % 16 : Nat) : Int) := by rw [Int.tmod_eq_emod_of_nonneg (by omega)]; omega
set_option maxRecDepth 100000 in
set_option maxHeartbeats 4000000 in
theorem pair_any (c : Nat) (w : World) (hc : c < 256) : Calls Tryz.prog 55 #[.int .u8 (c : Int)] w fun e w' => e = .returned (.string ⟨(hx2 c).toArray⟩) ∧ Below w.heap.size w w' := by
  refine sx_enter Tryz.func55 rfl Tryz.ntmps55 rfl rfl ?_
  repeat' (first | refine sc_seq ?_ | refine sc_region ?_ | refine sq_then ?_ | refine sc_ret ?_ | refine sc_skip ?_ | refine sc_block ?_ | refine sc_exit ?_ | refine sq_pass_ret ?_ | refine sq_pass_exit ?_ | refine sq_blk_normal ?_ | refine sq_blk_ret ?_ | refine sq_blk_hit ?_ | refine sq_blk_miss rfl ?_ | refine sc_regionD follows_any rfl (by kernel_rfl) ?_ | refine sx_nil ?_ | refine sr_nil0 ?_ | (refine sr_nil1 ?_; intro g) | ((first | refine' sx_v rfl ?_ rfl rfl ?_ | refine' sr_v rfl ?_ rfl rfl rfl ?_); rotate_left; first | exact vo_part tok (c / 16) (c / 16 + 1) rfl rfl rfl rfl rfl rfl rfl rfl (fun _ => ⟨tdiv16 c hc, (by show IntKind.u8.wrap (IntKind.u8.wrap ((c : Int).tdiv 16) + 1) = _; rw [tdiv16 c hc, wrap_u8s _ (by omega)]), Nat.le_succ _, by show _ ≤ 16; omega⟩) | exact vo_part tok (c % 16) (c % 16 + 1) rfl rfl rfl rfl rfl rfl rfl rfl (fun _ => ⟨tmod16 c, (by show IntKind.u8.wrap ((c : Int).tmod 16 + 1) = _; rw [tmod16, wrap_u8s _ (by omega)]), Nat.le_succ _, by show _ ≤ 16; omega⟩) | exact vo_join rfl rfl rfl rfl rfl (fun _ => by simp only [ByteArray.size_extract]; omega) | exact vo_un tok rfl rfl rfl rfl | exact vo_bin tok rfl rfl rfl rfl rfl rfl | exact vo_or rfl rfl rfl rfl rfl | exact vo_and rfl rfl rfl rfl rfl | exact vo_load tok 0 rfl rfl rfl rfl rfl | exact vo_load tok 1 rfl rfl rfl rfl rfl | exact vo_load tok 2 rfl rfl rfl rfl rfl | exact vo_load tok 3 rfl rfl rfl rfl rfl | exact vo_eqs tok eqOK rfl rfl rfl rfl rfl rfl (by kernel_rfl) | exact vo_nes tok eqOK rfl rfl rfl rfl rfl rfl (by kernel_rfl) | exact vo_len tok rfl rfl rfl rfl rfl rfl rfl | exact vo_max rfl rfl rfl rfl rfl | exact vo_min rfl rfl rfl rfl rfl | exact vo_sh rfl rfl rfl rfl rfl rfl rfl | exact vo_build tok rfl rfl trivial rfl rfl rfl | exact vo_build tok rfl rfl ⟨rfl, trivial⟩ rfl rfl rfl | exact vo_build tok rfl rfl ⟨rfl, rfl, trivial⟩ rfl rfl rfl | exact vo_build tok rfl rfl ⟨rfl, rfl, rfl, trivial⟩ rfl rfl rfl | exact vo_build tok rfl rfl ⟨rfl, rfl, rfl, rfl, trivial⟩ rfl rfl rfl | exact vo_build tok rfl rfl ⟨rfl, rfl, rfl, rfl, rfl, trivial⟩ rfl rfl rfl | exact vo_build tok rfl rfl ⟨rfl, rfl, rfl, rfl, rfl, rfl, trivial⟩ rfl rfl rfl | exact vo_build tok rfl rfl ⟨rfl, rfl, rfl, rfl, rfl, rfl, rfl, trivial⟩ rfl rfl rfl | exact vo_build tok rfl rfl ⟨rfl, rfl, rfl, rfl, rfl, rfl, rfl, rfl, trivial⟩ rfl rfl rfl) | (refine sx_box rfl rfl rfl rfl rfl rfl ?_; intro g) | (refine sx_alloc tok rfl rfl rfl rfl rfl rfl ?_; intro g) | refine sr_alloc tok rfl rfl rfl rfl rfl rfl ?_ | refine sr_box rfl rfl rfl rfl rfl rfl ?_ | refine sx_store tok 0 rfl rfl rfl rfl rfl rfl rfl rfl rfl rfl rfl rfl ?_ | refine sx_store tok 1 rfl rfl rfl rfl rfl rfl rfl rfl rfl rfl rfl rfl ?_ | refine sx_store tok 2 rfl rfl rfl rfl rfl rfl rfl rfl rfl rfl rfl rfl ?_ | refine sx_store tok 3 rfl rfl rfl rfl rfl rfl rfl rfl rfl rfl rfl rfl ?_ | refine sc_cond rfl (fun h => ?_) (fun h => ?_))
  all_goals
    refine sq_ret tok (fun _ => 0) rfl rfl trivial rfl fun w hm => ⟨?_, hm.below⟩
    refine ret_str ?_
    have h1 := digs_cut (c / 16) (by omega)
    have h2 := digs_cut (c % 16) (by omega)
    unfold digs at h1 h2
    rw [h1, h2]
    rfl
theorem q_ret_int {k : IntKind} {a b : Int} (h : a = b) : Ending.returned (.int k a) = Ending.returned (.int k b) := by rw [h]
set_option maxRecDepth 100000 in
set_option maxHeartbeats 4000000 in
theorem rhex_any (s : ByteArray) (w : World) (hs : s.size ≤ 35184372088832) : Calls Tryz.prog 76 #[.string s] w fun e w' => e = .returned (.string ⟨(hexL s.data.toList).toArray⟩) ∧ Below w.heap.size w w' := by
  refine sx_enter Tryz.func76 rfl Tryz.ntmps76 rfl rfl ?_
  repeat' (first | refine sc_seq ?_ | refine sc_region ?_ | refine sq_then ?_ | refine sc_ret ?_ | refine sc_skip ?_ | refine sc_block ?_ | refine sc_exit ?_ | refine sq_pass_ret ?_ | refine sq_pass_exit ?_ | refine sq_blk_normal ?_ | refine sq_blk_ret ?_ | refine sq_blk_hit ?_ | refine sq_blk_miss rfl ?_ | refine sc_regionD follows_any rfl (by kernel_rfl) ?_ | refine sx_nil ?_ | refine sr_nil0 ?_ | (refine sr_nil1 ?_; intro g) | ((first | refine' sx_v rfl ?_ rfl rfl ?_ | refine' sr_v rfl ?_ rfl rfl rfl ?_); rotate_left; first | exact vo_un tok rfl rfl rfl rfl | exact vo_bin tok rfl rfl rfl rfl rfl rfl | exact vo_or rfl rfl rfl rfl rfl | exact vo_and rfl rfl rfl rfl rfl | exact vo_load tok 0 rfl rfl rfl rfl rfl | exact vo_load tok 1 rfl rfl rfl rfl rfl | exact vo_load tok 2 rfl rfl rfl rfl rfl | exact vo_load tok 3 rfl rfl rfl rfl rfl | exact vo_eqs tok eqOK rfl rfl rfl rfl rfl rfl (by kernel_rfl) | exact vo_nes tok eqOK rfl rfl rfl rfl rfl rfl (by kernel_rfl) | exact vo_len tok rfl rfl rfl rfl rfl rfl rfl | exact vo_max rfl rfl rfl rfl rfl | exact vo_min rfl rfl rfl rfl rfl | exact vo_sh rfl rfl rfl rfl rfl rfl rfl | exact vo_build tok rfl rfl trivial rfl rfl rfl | exact vo_build tok rfl rfl ⟨rfl, trivial⟩ rfl rfl rfl | exact vo_build tok rfl rfl ⟨rfl, rfl, trivial⟩ rfl rfl rfl | exact vo_build tok rfl rfl ⟨rfl, rfl, rfl, trivial⟩ rfl rfl rfl | exact vo_build tok rfl rfl ⟨rfl, rfl, rfl, rfl, trivial⟩ rfl rfl rfl | exact vo_build tok rfl rfl ⟨rfl, rfl, rfl, rfl, rfl, trivial⟩ rfl rfl rfl | exact vo_build tok rfl rfl ⟨rfl, rfl, rfl, rfl, rfl, rfl, trivial⟩ rfl rfl rfl | exact vo_build tok rfl rfl ⟨rfl, rfl, rfl, rfl, rfl, rfl, rfl, trivial⟩ rfl rfl rfl | exact vo_build tok rfl rfl ⟨rfl, rfl, rfl, rfl, rfl, rfl, rfl, rfl, trivial⟩ rfl rfl rfl) | (refine sx_box rfl rfl rfl rfl rfl rfl ?_; intro g) | (refine sx_alloc tok rfl rfl rfl rfl rfl rfl ?_; intro g) | refine sr_alloc tok rfl rfl rfl rfl rfl rfl ?_ | refine sr_box rfl rfl rfl rfl rfl rfl ?_ | refine sx_store tok 0 rfl rfl rfl rfl rfl rfl rfl rfl rfl rfl rfl rfl ?_ | refine sx_store tok 1 rfl rfl rfl rfl rfl rfl rfl rfl rfl rfl rfl rfl ?_ | refine sx_store tok 2 rfl rfl rfl rfl rfl rfl rfl rfl rfl rfl rfl rfl ?_ | refine sx_store tok 3 rfl rfl rfl rfl rfl rfl rfl rfl rfl rfl rfl rfl ?_)
  refine sc_loop (σ := Nat) (fun j => j ≤ s.size) (fun j => [(4, [], .int .i64 (j : Int)), (3, [], .string ⟨(hexL (s.data.toList.take j)).toArray⟩), (0, [], .string s)]) (fun _ => []) (fun j => s.size - j) 0 [] (Nat.zero_le _) ⟨rfl, rfl, rfl, trivial⟩ rfl ?_
  intro j hj0
  by_cases hj : j < s.size
  · have hz : (⟨(hexL (s.data.toList.take j)).toArray⟩ : ByteArray).size = 2 * j := by
      show (hexL _).toArray.size = _
      rw [List.size_toArray, hexL_len, List.length_take, len_bytes]; omega
    repeat' (first | refine sc_seq ?_ | refine sc_region ?_ | refine sq_then ?_ | refine sc_ret ?_ | refine sc_skip ?_ | refine sc_block ?_ | refine sc_exit ?_ | refine sq_pass_ret ?_ | refine sq_pass_exit ?_ | refine sq_blk_normal ?_ | refine sq_blk_ret ?_ | refine sq_blk_hit ?_ | refine sq_blk_miss rfl ?_ | refine sc_regionD follows_any rfl (by kernel_rfl) ?_ | refine sx_nil ?_ | refine sr_nil0 ?_ | (refine sr_nil1 ?_; intro g) | ((first | refine' sx_v rfl ?_ rfl rfl ?_ | refine' sr_v rfl ?_ rfl rfl rfl ?_); rotate_left; first | exact vo_un tok rfl rfl rfl rfl | exact vo_bin tok rfl rfl rfl rfl rfl rfl | exact vo_or rfl rfl rfl rfl rfl | exact vo_and rfl rfl rfl rfl rfl | exact vo_load tok 0 rfl rfl rfl rfl rfl | exact vo_load tok 1 rfl rfl rfl rfl rfl | exact vo_load tok 2 rfl rfl rfl rfl rfl | exact vo_load tok 3 rfl rfl rfl rfl rfl | exact vo_eqs tok eqOK rfl rfl rfl rfl rfl rfl (by kernel_rfl) | exact vo_nes tok eqOK rfl rfl rfl rfl rfl rfl (by kernel_rfl) | exact vo_len tok rfl rfl rfl rfl rfl rfl rfl | exact vo_max rfl rfl rfl rfl rfl | exact vo_min rfl rfl rfl rfl rfl | exact vo_sh rfl rfl rfl rfl rfl rfl rfl | exact vo_build tok rfl rfl trivial rfl rfl rfl | exact vo_build tok rfl rfl ⟨rfl, trivial⟩ rfl rfl rfl | exact vo_build tok rfl rfl ⟨rfl, rfl, trivial⟩ rfl rfl rfl | exact vo_build tok rfl rfl ⟨rfl, rfl, rfl, trivial⟩ rfl rfl rfl | exact vo_build tok rfl rfl ⟨rfl, rfl, rfl, rfl, trivial⟩ rfl rfl rfl | exact vo_build tok rfl rfl ⟨rfl, rfl, rfl, rfl, rfl, trivial⟩ rfl rfl rfl | exact vo_build tok rfl rfl ⟨rfl, rfl, rfl, rfl, rfl, rfl, trivial⟩ rfl rfl rfl | exact vo_build tok rfl rfl ⟨rfl, rfl, rfl, rfl, rfl, rfl, rfl, trivial⟩ rfl rfl rfl | exact vo_build tok rfl rfl ⟨rfl, rfl, rfl, rfl, rfl, rfl, rfl, rfl, trivial⟩ rfl rfl rfl) | (refine sx_box rfl rfl rfl rfl rfl rfl ?_; intro g) | (refine sx_alloc tok rfl rfl rfl rfl rfl rfl ?_; intro g) | refine sr_alloc tok rfl rfl rfl rfl rfl rfl ?_ | refine sr_box rfl rfl rfl rfl rfl rfl ?_ | refine sx_store tok 0 rfl rfl rfl rfl rfl rfl rfl rfl rfl rfl rfl rfl ?_ | refine sx_store tok 1 rfl rfl rfl rfl rfl rfl rfl rfl rfl rfl rfl rfl ?_ | refine sx_store tok 2 rfl rfl rfl rfl rfl rfl rfl rfl rfl rfl rfl rfl ?_ | refine sx_store tok 3 rfl rfl rfl rfl rfl rfl rfl rfl rfl rfl rfl rfl ?_)
    refine sc_true rfl (by simpa using hj) ?_
    repeat' (first | refine sc_seq ?_ | refine sc_region ?_ | refine sq_then ?_ | refine sc_ret ?_ | refine sc_skip ?_ | refine sc_block ?_ | refine sc_exit ?_ | refine sq_pass_ret ?_ | refine sq_pass_exit ?_ | refine sq_blk_normal ?_ | refine sq_blk_ret ?_ | refine sq_blk_hit ?_ | refine sq_blk_miss rfl ?_ | refine sc_regionD follows_any rfl (by kernel_rfl) ?_ | refine sx_nil ?_ | refine sr_nil0 ?_ | (refine sr_nil1 ?_; intro g) | ((first | refine' sx_v rfl ?_ rfl rfl ?_ | refine' sr_v rfl ?_ rfl rfl rfl ?_); rotate_left; first | exact vo_add rfl rfl rfl rfl rfl (by omega) | exact vo_byte tok j rfl rfl rfl rfl rfl rfl (fun _ => ⟨rfl, hj⟩) | exact vo_join rfl rfl rfl rfl rfl (fun _ => by rw [hz]; show 2 * j + 2 ≤ _; omega) | exact vo_un tok rfl rfl rfl rfl | exact vo_bin tok rfl rfl rfl rfl rfl rfl | exact vo_or rfl rfl rfl rfl rfl | exact vo_and rfl rfl rfl rfl rfl | exact vo_load tok 0 rfl rfl rfl rfl rfl | exact vo_load tok 1 rfl rfl rfl rfl rfl | exact vo_load tok 2 rfl rfl rfl rfl rfl | exact vo_load tok 3 rfl rfl rfl rfl rfl | exact vo_eqs tok eqOK rfl rfl rfl rfl rfl rfl (by kernel_rfl) | exact vo_nes tok eqOK rfl rfl rfl rfl rfl rfl (by kernel_rfl) | exact vo_len tok rfl rfl rfl rfl rfl rfl rfl | exact vo_max rfl rfl rfl rfl rfl | exact vo_min rfl rfl rfl rfl rfl | exact vo_sh rfl rfl rfl rfl rfl rfl rfl | exact vo_build tok rfl rfl trivial rfl rfl rfl | exact vo_build tok rfl rfl ⟨rfl, trivial⟩ rfl rfl rfl | exact vo_build tok rfl rfl ⟨rfl, rfl, trivial⟩ rfl rfl rfl | exact vo_build tok rfl rfl ⟨rfl, rfl, rfl, trivial⟩ rfl rfl rfl | exact vo_build tok rfl rfl ⟨rfl, rfl, rfl, rfl, trivial⟩ rfl rfl rfl | exact vo_build tok rfl rfl ⟨rfl, rfl, rfl, rfl, rfl, trivial⟩ rfl rfl rfl | exact vo_build tok rfl rfl ⟨rfl, rfl, rfl, rfl, rfl, rfl, trivial⟩ rfl rfl rfl | exact vo_build tok rfl rfl ⟨rfl, rfl, rfl, rfl, rfl, rfl, rfl, trivial⟩ rfl rfl rfl | exact vo_build tok rfl rfl ⟨rfl, rfl, rfl, rfl, rfl, rfl, rfl, rfl, trivial⟩ rfl rfl rfl) | refine sx_call rfl (callOp rfl rfl rfl rfl ⟨rfl, trivial⟩ rfl (by kernel_rfl)) (fun w hm => pair_any _ w (atB_lt _ _)) rfl rfl ?_ | refine sr_call rfl (callOp rfl rfl rfl rfl ⟨rfl, trivial⟩ rfl (by kernel_rfl)) rfl (fun w hm => pair_any _ w (atB_lt _ _)) rfl rfl ?_ | (refine sx_box rfl rfl rfl rfl rfl rfl ?_; intro g) | (refine sx_alloc tok rfl rfl rfl rfl rfl rfl ?_; intro g) | refine sr_alloc tok rfl rfl rfl rfl rfl rfl ?_ | refine sr_box rfl rfl rfl rfl rfl rfl ?_ | refine sx_store tok 0 rfl rfl rfl rfl rfl rfl rfl rfl rfl rfl rfl rfl ?_ | refine sx_store tok 1 rfl rfl rfl rfl rfl rfl rfl rfl rfl rfl rfl rfl ?_ | refine sx_store tok 2 rfl rfl rfl rfl rfl rfl rfl rfl rfl rfl rfl rfl ?_ | refine sx_store tok 3 rfl rfl rfl rfl rfl rfl rfl rfl rfl rfl rfl rfl ?_)
    refine sq_again (j + 1) [] hj (show s.size - (j + 1) < s.size - j by omega) ⟨rfl, ?_, rfl, trivial⟩ rfl
    rw [(take_snoc hj).1, hexL_snoc, (take_snoc hj).2, ← mkba]; rfl
  · have hje : j = s.size := by omega
    subst hje
    repeat' (first | refine sc_seq ?_ | refine sc_region ?_ | refine sq_then ?_ | refine sc_ret ?_ | refine sc_skip ?_ | refine sc_block ?_ | refine sc_exit ?_ | refine sq_pass_ret ?_ | refine sq_pass_exit ?_ | refine sq_blk_normal ?_ | refine sq_blk_ret ?_ | refine sq_blk_hit ?_ | refine sq_blk_miss rfl ?_ | refine sc_regionD follows_any rfl (by kernel_rfl) ?_ | refine sx_nil ?_ | refine sr_nil0 ?_ | (refine sr_nil1 ?_; intro g) | ((first | refine' sx_v rfl ?_ rfl rfl ?_ | refine' sr_v rfl ?_ rfl rfl rfl ?_); rotate_left; first | exact vo_un tok rfl rfl rfl rfl | exact vo_bin tok rfl rfl rfl rfl rfl rfl | exact vo_or rfl rfl rfl rfl rfl | exact vo_and rfl rfl rfl rfl rfl | exact vo_load tok 0 rfl rfl rfl rfl rfl | exact vo_load tok 1 rfl rfl rfl rfl rfl | exact vo_load tok 2 rfl rfl rfl rfl rfl | exact vo_load tok 3 rfl rfl rfl rfl rfl | exact vo_eqs tok eqOK rfl rfl rfl rfl rfl rfl (by kernel_rfl) | exact vo_nes tok eqOK rfl rfl rfl rfl rfl rfl (by kernel_rfl) | exact vo_len tok rfl rfl rfl rfl rfl rfl rfl | exact vo_max rfl rfl rfl rfl rfl | exact vo_min rfl rfl rfl rfl rfl | exact vo_sh rfl rfl rfl rfl rfl rfl rfl | exact vo_build tok rfl rfl trivial rfl rfl rfl | exact vo_build tok rfl rfl ⟨rfl, trivial⟩ rfl rfl rfl | exact vo_build tok rfl rfl ⟨rfl, rfl, trivial⟩ rfl rfl rfl | exact vo_build tok rfl rfl ⟨rfl, rfl, rfl, trivial⟩ rfl rfl rfl | exact vo_build tok rfl rfl ⟨rfl, rfl, rfl, rfl, trivial⟩ rfl rfl rfl | exact vo_build tok rfl rfl ⟨rfl, rfl, rfl, rfl, rfl, trivial⟩ rfl rfl rfl | exact vo_build tok rfl rfl ⟨rfl, rfl, rfl, rfl, rfl, rfl, trivial⟩ rfl rfl rfl | exact vo_build tok rfl rfl ⟨rfl, rfl, rfl, rfl, rfl, rfl, rfl, trivial⟩ rfl rfl rfl | exact vo_build tok rfl rfl ⟨rfl, rfl, rfl, rfl, rfl, rfl, rfl, rfl, trivial⟩ rfl rfl rfl) | (refine sx_box rfl rfl rfl rfl rfl rfl ?_; intro g) | (refine sx_alloc tok rfl rfl rfl rfl rfl rfl ?_; intro g) | refine sr_alloc tok rfl rfl rfl rfl rfl rfl ?_ | refine sr_box rfl rfl rfl rfl rfl rfl ?_ | refine sx_store tok 0 rfl rfl rfl rfl rfl rfl rfl rfl rfl rfl rfl rfl ?_ | refine sx_store tok 1 rfl rfl rfl rfl rfl rfl rfl rfl rfl rfl rfl rfl ?_ | refine sx_store tok 2 rfl rfl rfl rfl rfl rfl rfl rfl rfl rfl rfl rfl ?_ | refine sx_store tok 3 rfl rfl rfl rfl rfl rfl rfl rfl rfl rfl rfl rfl ?_)
    refine sc_false rfl (by simp) ?_
    repeat' (first | refine sc_seq ?_ | refine sc_region ?_ | refine sq_then ?_ | refine sc_ret ?_ | refine sc_skip ?_ | refine sc_block ?_ | refine sc_exit ?_ | refine sq_pass_ret ?_ | refine sq_pass_exit ?_ | refine sq_blk_normal ?_ | refine sq_blk_ret ?_ | refine sq_blk_hit ?_ | refine sq_blk_miss rfl ?_ | refine sc_regionD follows_any rfl (by kernel_rfl) ?_ | refine sx_nil ?_ | refine sr_nil0 ?_ | (refine sr_nil1 ?_; intro g) | ((first | refine' sx_v rfl ?_ rfl rfl ?_ | refine' sr_v rfl ?_ rfl rfl rfl ?_); rotate_left; first | exact vo_un tok rfl rfl rfl rfl | exact vo_bin tok rfl rfl rfl rfl rfl rfl | exact vo_or rfl rfl rfl rfl rfl | exact vo_and rfl rfl rfl rfl rfl | exact vo_load tok 0 rfl rfl rfl rfl rfl | exact vo_load tok 1 rfl rfl rfl rfl rfl | exact vo_load tok 2 rfl rfl rfl rfl rfl | exact vo_load tok 3 rfl rfl rfl rfl rfl | exact vo_eqs tok eqOK rfl rfl rfl rfl rfl rfl (by kernel_rfl) | exact vo_nes tok eqOK rfl rfl rfl rfl rfl rfl (by kernel_rfl) | exact vo_len tok rfl rfl rfl rfl rfl rfl rfl | exact vo_max rfl rfl rfl rfl rfl | exact vo_min rfl rfl rfl rfl rfl | exact vo_sh rfl rfl rfl rfl rfl rfl rfl | exact vo_build tok rfl rfl trivial rfl rfl rfl | exact vo_build tok rfl rfl ⟨rfl, trivial⟩ rfl rfl rfl | exact vo_build tok rfl rfl ⟨rfl, rfl, trivial⟩ rfl rfl rfl | exact vo_build tok rfl rfl ⟨rfl, rfl, rfl, trivial⟩ rfl rfl rfl | exact vo_build tok rfl rfl ⟨rfl, rfl, rfl, rfl, trivial⟩ rfl rfl rfl | exact vo_build tok rfl rfl ⟨rfl, rfl, rfl, rfl, rfl, trivial⟩ rfl rfl rfl | exact vo_build tok rfl rfl ⟨rfl, rfl, rfl, rfl, rfl, rfl, trivial⟩ rfl rfl rfl | exact vo_build tok rfl rfl ⟨rfl, rfl, rfl, rfl, rfl, rfl, rfl, trivial⟩ rfl rfl rfl | exact vo_build tok rfl rfl ⟨rfl, rfl, rfl, rfl, rfl, rfl, rfl, rfl, trivial⟩ rfl rfl rfl) | (refine sx_box rfl rfl rfl rfl rfl rfl ?_; intro g) | (refine sx_alloc tok rfl rfl rfl rfl rfl rfl ?_; intro g) | refine sr_alloc tok rfl rfl rfl rfl rfl rfl ?_ | refine sr_box rfl rfl rfl rfl rfl rfl ?_ | refine sx_store tok 0 rfl rfl rfl rfl rfl rfl rfl rfl rfl rfl rfl rfl ?_ | refine sx_store tok 1 rfl rfl rfl rfl rfl rfl rfl rfl rfl rfl rfl rfl ?_ | refine sx_store tok 2 rfl rfl rfl rfl rfl rfl rfl rfl rfl rfl rfl rfl ?_ | refine sx_store tok 3 rfl rfl rfl rfl rfl rfl rfl rfl rfl rfl rfl rfl ?_)
    refine sq_ret tok (fun _ => 0) rfl rfl trivial rfl fun w hm => ⟨?_, hm.below⟩
    rw [List.take_of_length_le (by rw [len_bytes]; exact Nat.le_refl _)]
theorem b_app (a b : ByteArray) : (a ++ b).data.toList = a.data.toList ++ b.data.toList := by simp
theorem cut_part (s : ByteArray) (k n : Nat) : (s.extract k (k + n)).data.toList = (s.data.toList.drop k).take n := by
  rw [ByteArray.data_extract, Array.toList_extract, List.extract_eq_take_drop]; simp
theorem sz_lit1 : (⟨#[92, 34]⟩ : ByteArray).size = 2 := rfl
theorem sz_lit2 : (⟨#[92, 92]⟩ : ByteArray).size = 2 := rfl
theorem sz_lit3 : (⟨#[92, 110]⟩ : ByteArray).size = 2 := rfl
theorem sz_lit4 : (⟨#[92, 116]⟩ : ByteArray).size = 2 := rfl
theorem sz_lit5 : (⟨#[92, 114]⟩ : ByteArray).size = 2 := rfl
theorem sz_lit6 : (⟨#[92, 120]⟩ : ByteArray).size = 2 := rfl
theorem sz_lit7 : (⟨#[34]⟩ : ByteArray).size = 1 := rfl
theorem sz_hx (c : Nat) : (⟨(hx2 c).toArray⟩ : ByteArray).size = 2 := rfl
theorem size_of_sz (s : ByteArray) (j : Nat) (w : World) (hj : j < s.size) (hs : s.size ≤ 4611686018427387900) : Calls Tryz.prog 54 #[.string s, .int .i64 (j : Int)] w fun e w' => e = .returned (.int .i64 ((szL (s.data.toList.drop j) : Nat) : Int)) ∧ Below w.heap.size w w' := of_same (size_any s j w hj hs)
set_option maxRecDepth 100000 in
set_option maxHeartbeats 4000000 in
theorem rquote_any (s : ByteArray) (w : World) (hs : s.size ≤ 35184372088800) : Calls Tryz.prog 29 #[.string s] w fun e w' => e = .returned (.string (quoteS s)) ∧ Below w.heap.size w w' := by
  refine sx_enter Tryz.func29 rfl Tryz.ntmps29 rfl rfl ?_
  repeat' (first | refine sc_seq ?_ | refine sc_region ?_ | refine sq_then ?_ | refine sc_ret ?_ | refine sc_skip ?_ | refine sc_block ?_ | refine sc_exit ?_ | refine sq_pass_ret ?_ | refine sq_pass_exit ?_ | refine sq_blk_normal ?_ | refine sq_blk_ret ?_ | refine sq_blk_hit ?_ | refine sq_blk_miss rfl ?_ | refine sc_regionD follows_any rfl (by kernel_rfl) ?_ | refine sx_nil ?_ | refine sr_nil0 ?_ | (refine sr_nil1 ?_; intro g) | ((first | refine' sx_v rfl ?_ rfl rfl ?_ | refine' sr_v rfl ?_ rfl rfl rfl ?_); rotate_left; first | exact vo_un tok rfl rfl rfl rfl | exact vo_bin tok rfl rfl rfl rfl rfl rfl | exact vo_or rfl rfl rfl rfl rfl | exact vo_and rfl rfl rfl rfl rfl | exact vo_load tok 0 rfl rfl rfl rfl rfl | exact vo_load tok 1 rfl rfl rfl rfl rfl | exact vo_load tok 2 rfl rfl rfl rfl rfl | exact vo_load tok 3 rfl rfl rfl rfl rfl | exact vo_eqs tok eqOK rfl rfl rfl rfl rfl rfl (by kernel_rfl) | exact vo_nes tok eqOK rfl rfl rfl rfl rfl rfl (by kernel_rfl) | exact vo_len tok rfl rfl rfl rfl rfl rfl rfl | exact vo_max rfl rfl rfl rfl rfl | exact vo_min rfl rfl rfl rfl rfl | exact vo_sh rfl rfl rfl rfl rfl rfl rfl | exact vo_build tok rfl rfl trivial rfl rfl rfl | exact vo_build tok rfl rfl ⟨rfl, trivial⟩ rfl rfl rfl | exact vo_build tok rfl rfl ⟨rfl, rfl, trivial⟩ rfl rfl rfl | exact vo_build tok rfl rfl ⟨rfl, rfl, rfl, trivial⟩ rfl rfl rfl | exact vo_build tok rfl rfl ⟨rfl, rfl, rfl, rfl, trivial⟩ rfl rfl rfl | exact vo_build tok rfl rfl ⟨rfl, rfl, rfl, rfl, rfl, trivial⟩ rfl rfl rfl | exact vo_build tok rfl rfl ⟨rfl, rfl, rfl, rfl, rfl, rfl, trivial⟩ rfl rfl rfl | exact vo_build tok rfl rfl ⟨rfl, rfl, rfl, rfl, rfl, rfl, rfl, trivial⟩ rfl rfl rfl | exact vo_build tok rfl rfl ⟨rfl, rfl, rfl, rfl, rfl, rfl, rfl, rfl, trivial⟩ rfl rfl rfl) | (refine sx_box rfl rfl rfl rfl rfl rfl ?_; intro g) | (refine sx_alloc tok rfl rfl rfl rfl rfl rfl ?_; intro g) | refine sr_alloc tok rfl rfl rfl rfl rfl rfl ?_ | refine sr_box rfl rfl rfl rfl rfl rfl ?_ | refine sx_store tok 0 rfl rfl rfl rfl rfl rfl rfl rfl rfl rfl rfl rfl ?_ | refine sx_store tok 1 rfl rfl rfl rfl rfl rfl rfl rfl rfl rfl rfl rfl ?_ | refine sx_store tok 2 rfl rfl rfl rfl rfl rfl rfl rfl rfl rfl rfl rfl ?_ | refine sx_store tok 3 rfl rfl rfl rfl rfl rfl rfl rfl rfl rfl rfl rfl ?_)
  refine sc_loop (σ := Nat × ByteArray) (fun p => p.1 ≤ s.size ∧ quoteL s = p.2.data.toList ++ qAt s p.1 ++ [34]) (fun p => [(4, [], .int .i64 (p.1 : Int)), (3, [], .string p.2), (0, [], .string s)]) (fun _ => []) (fun p => s.size - p.1) (0, ⟨#[34]⟩) [] ⟨Nat.zero_le _, rfl⟩ ⟨rfl, rfl, rfl, trivial⟩ rfl ?_
  rintro ⟨j, acc⟩ ⟨hj0, hq⟩
  dsimp only at hj0 hq ⊢
  have hlen := quoteL_len s
  have hal : acc.size ≤ 4 * s.size + 1 := by rw [hq] at hlen; simp only [List.length_append, List.length_cons, List.length_nil, len_bytes] at hlen; omega
  by_cases hj : j < s.size
  · have hstep := qAt_step s j hj
    have h1 := qlen_pos (s.data.toList.drop j)
    have hl : 0 < (s.data.toList.drop j).length := by rw [List.length_drop, len_bytes]; omega
    have h2 := (qlen_le (s.data.toList.drop j) hl).1
    have h3 := szL_le (s.data.toList.drop j) hl
    have hab := atB_drop s j
    rw [List.length_drop, len_bytes] at h2 h3
    have hql : qlen (s.data.toList.drop j) = if szL (s.data.toList.drop j) = 0 then 1 else szL (s.data.toList.drop j) := rfl
    have hqp : qpart (s.data.toList.drop j) = if atB s j = 34 then [92, 34] else if atB s j = 92 then [92, 92] else if atB s j = 10 then [92, 110] else if atB s j = 9 then [92, 116] else if atB s j = 13 then [92, 114]
      else if atB s j < 32 ∨ atB s j = 127 ∨ szL (s.data.toList.drop j) = 0 then [92, 120] ++ hx2 (atB s j) else (s.data.toList.drop j).take (szL (s.data.toList.drop j)) := by rw [hab]; rfl
    have z1 := sz_lit1; have z2 := sz_lit2; have z3 := sz_lit3; have z4 := sz_lit4; have z5 := sz_lit5; have z6 := sz_lit6; have z9 := sz_hx (atB s j)
    have z8 : (s.extract j (j + szL (s.data.toList.drop j))).size = szL (s.data.toList.drop j) := by rw [ByteArray.size_extract]; omega
    repeat' (first | refine sc_seq ?_ | refine sc_region ?_ | refine sq_then ?_ | refine sc_ret ?_ | refine sc_skip ?_ | refine sc_block ?_ | refine sc_exit ?_ | refine sq_pass_ret ?_ | refine sq_pass_exit ?_ | refine sq_blk_normal ?_ | refine sq_blk_ret ?_ | refine sq_blk_hit ?_ | refine sq_blk_miss rfl ?_ | refine sc_regionD follows_any rfl (by kernel_rfl) ?_ | refine sx_nil ?_ | refine sr_nil0 ?_ | (refine sr_nil1 ?_; intro g) | ((first | refine' sx_v rfl ?_ rfl rfl ?_ | refine' sr_v rfl ?_ rfl rfl rfl ?_); rotate_left; first | exact vo_un tok rfl rfl rfl rfl | exact vo_bin tok rfl rfl rfl rfl rfl rfl | exact vo_or rfl rfl rfl rfl rfl | exact vo_and rfl rfl rfl rfl rfl | exact vo_load tok 0 rfl rfl rfl rfl rfl | exact vo_load tok 1 rfl rfl rfl rfl rfl | exact vo_load tok 2 rfl rfl rfl rfl rfl | exact vo_load tok 3 rfl rfl rfl rfl rfl | exact vo_eqs tok eqOK rfl rfl rfl rfl rfl rfl (by kernel_rfl) | exact vo_nes tok eqOK rfl rfl rfl rfl rfl rfl (by kernel_rfl) | exact vo_len tok rfl rfl rfl rfl rfl rfl rfl | exact vo_max rfl rfl rfl rfl rfl | exact vo_min rfl rfl rfl rfl rfl | exact vo_sh rfl rfl rfl rfl rfl rfl rfl | exact vo_build tok rfl rfl trivial rfl rfl rfl | exact vo_build tok rfl rfl ⟨rfl, trivial⟩ rfl rfl rfl | exact vo_build tok rfl rfl ⟨rfl, rfl, trivial⟩ rfl rfl rfl | exact vo_build tok rfl rfl ⟨rfl, rfl, rfl, trivial⟩ rfl rfl rfl | exact vo_build tok rfl rfl ⟨rfl, rfl, rfl, rfl, trivial⟩ rfl rfl rfl | exact vo_build tok rfl rfl ⟨rfl, rfl, rfl, rfl, rfl, trivial⟩ rfl rfl rfl | exact vo_build tok rfl rfl ⟨rfl, rfl, rfl, rfl, rfl, rfl, trivial⟩ rfl rfl rfl | exact vo_build tok rfl rfl ⟨rfl, rfl, rfl, rfl, rfl, rfl, rfl, trivial⟩ rfl rfl rfl | exact vo_build tok rfl rfl ⟨rfl, rfl, rfl, rfl, rfl, rfl, rfl, rfl, trivial⟩ rfl rfl rfl) | (refine sx_box rfl rfl rfl rfl rfl rfl ?_; intro g) | (refine sx_alloc tok rfl rfl rfl rfl rfl rfl ?_; intro g) | refine sr_alloc tok rfl rfl rfl rfl rfl rfl ?_ | refine sr_box rfl rfl rfl rfl rfl rfl ?_ | refine sx_store tok 0 rfl rfl rfl rfl rfl rfl rfl rfl rfl rfl rfl rfl ?_ | refine sx_store tok 1 rfl rfl rfl rfl rfl rfl rfl rfl rfl rfl rfl rfl ?_ | refine sx_store tok 2 rfl rfl rfl rfl rfl rfl rfl rfl rfl rfl rfl rfl ?_ | refine sx_store tok 3 rfl rfl rfl rfl rfl rfl rfl rfl rfl rfl rfl rfl ?_)
    refine sc_true rfl (by simpa using hj) ?_
    repeat' (first | refine sc_seq ?_ | refine sc_region ?_ | refine sq_then ?_ | refine sc_ret ?_ | refine sc_skip ?_ | refine sc_block ?_ | refine sc_exit ?_ | refine sq_pass_ret ?_ | refine sq_pass_exit ?_ | refine sq_blk_normal ?_ | refine sq_blk_ret ?_ | refine sq_blk_hit ?_ | refine sq_blk_miss rfl ?_ | refine sc_regionD follows_any rfl (by kernel_rfl) ?_ | refine sx_nil ?_ | refine sr_nil0 ?_ | (refine sr_nil1 ?_; intro g) | ((first | refine' sx_v rfl ?_ rfl rfl ?_ | refine' sr_v rfl ?_ rfl rfl rfl ?_); rotate_left; first | exact vo_byte tok j rfl rfl rfl rfl rfl rfl (fun _ => ⟨rfl, hj⟩) | exact vo_add rfl rfl rfl rfl rfl (by omega) | exact vo_part tok j (j + szL (s.data.toList.drop j)) rfl rfl rfl rfl rfl rfl rfl rfl (fun _ => ⟨rfl, by omega, by omega, by omega⟩) | exact vo_join rfl rfl rfl rfl rfl (fun _ => by omega) | exact vo_join rfl rfl rfl rfl rfl (fun _ => by rw [ByteArray.size_append]; omega) | exact vo_un tok rfl rfl rfl rfl | exact vo_bin tok rfl rfl rfl rfl rfl rfl | exact vo_or rfl rfl rfl rfl rfl | exact vo_and rfl rfl rfl rfl rfl | exact vo_load tok 0 rfl rfl rfl rfl rfl | exact vo_load tok 1 rfl rfl rfl rfl rfl | exact vo_load tok 2 rfl rfl rfl rfl rfl | exact vo_load tok 3 rfl rfl rfl rfl rfl | exact vo_eqs tok eqOK rfl rfl rfl rfl rfl rfl (by kernel_rfl) | exact vo_nes tok eqOK rfl rfl rfl rfl rfl rfl (by kernel_rfl) | exact vo_len tok rfl rfl rfl rfl rfl rfl rfl | exact vo_max rfl rfl rfl rfl rfl | exact vo_min rfl rfl rfl rfl rfl | exact vo_sh rfl rfl rfl rfl rfl rfl rfl | exact vo_build tok rfl rfl trivial rfl rfl rfl | exact vo_build tok rfl rfl ⟨rfl, trivial⟩ rfl rfl rfl | exact vo_build tok rfl rfl ⟨rfl, rfl, trivial⟩ rfl rfl rfl | exact vo_build tok rfl rfl ⟨rfl, rfl, rfl, trivial⟩ rfl rfl rfl | exact vo_build tok rfl rfl ⟨rfl, rfl, rfl, rfl, trivial⟩ rfl rfl rfl | exact vo_build tok rfl rfl ⟨rfl, rfl, rfl, rfl, rfl, trivial⟩ rfl rfl rfl | exact vo_build tok rfl rfl ⟨rfl, rfl, rfl, rfl, rfl, rfl, trivial⟩ rfl rfl rfl | exact vo_build tok rfl rfl ⟨rfl, rfl, rfl, rfl, rfl, rfl, rfl, trivial⟩ rfl rfl rfl | exact vo_build tok rfl rfl ⟨rfl, rfl, rfl, rfl, rfl, rfl, rfl, rfl, trivial⟩ rfl rfl rfl) | refine sx_call rfl (callOp rfl rfl rfl rfl ⟨rfl, rfl, trivial⟩ rfl (by kernel_rfl)) (fun w hm => size_of_sz s j w hj (by omega)) rfl rfl ?_ | refine sr_call rfl (callOp rfl rfl rfl rfl ⟨rfl, rfl, trivial⟩ rfl (by kernel_rfl)) rfl (fun w hm => size_of_sz s j w hj (by omega)) rfl rfl ?_ | refine sx_call rfl (callOp rfl rfl rfl rfl ⟨rfl, trivial⟩ rfl (by kernel_rfl)) (fun w hm => pair_any _ w (atB_lt _ _)) rfl rfl ?_ | refine sr_call rfl (callOp rfl rfl rfl rfl ⟨rfl, trivial⟩ rfl (by kernel_rfl)) rfl (fun w hm => pair_any _ w (atB_lt _ _)) rfl rfl ?_ | (refine sx_box rfl rfl rfl rfl rfl rfl ?_; intro g) | (refine sx_alloc tok rfl rfl rfl rfl rfl rfl ?_; intro g) | refine sr_alloc tok rfl rfl rfl rfl rfl rfl ?_ | refine sr_box rfl rfl rfl rfl rfl rfl ?_ | refine sx_store tok 0 rfl rfl rfl rfl rfl rfl rfl rfl rfl rfl rfl rfl ?_ | refine sx_store tok 1 rfl rfl rfl rfl rfl rfl rfl rfl rfl rfl rfl rfl ?_ | refine sx_store tok 2 rfl rfl rfl rfl rfl rfl rfl rfl rfl rfl rfl rfl ?_ | refine sx_store tok 3 rfl rfl rfl rfl rfl rfl rfl rfl rfl rfl rfl rfl ?_ | (refine sc_cond rfl (fun h => ?_) (fun h => ?_) <;> (try simp at h)))
    all_goals
      refine sq_again (j + qlen (s.data.toList.drop j), _) [] ⟨by dsimp only; omega, ?_⟩ (by dsimp only; omega) ⟨?_, rfl, rfl, trivial⟩ rfl
    all_goals first
      | (rw [lk_cons, if_pos rfl]; exact congrArg (fun z => some (([] : Cd), Value.int .i64 z)) (by dsimp only; grind))
      | (dsimp only; rw [hq, hstep, hqp]; simp only [b_app, cut_part, List.append_assoc]; congr 1; grind)
  · have hje : j = s.size := by omega
    repeat' (first | refine sc_seq ?_ | refine sc_region ?_ | refine sq_then ?_ | refine sc_ret ?_ | refine sc_skip ?_ | refine sc_block ?_ | refine sc_exit ?_ | refine sq_pass_ret ?_ | refine sq_pass_exit ?_ | refine sq_blk_normal ?_ | refine sq_blk_ret ?_ | refine sq_blk_hit ?_ | refine sq_blk_miss rfl ?_ | refine sc_regionD follows_any rfl (by kernel_rfl) ?_ | refine sx_nil ?_ | refine sr_nil0 ?_ | (refine sr_nil1 ?_; intro g) | ((first | refine' sx_v rfl ?_ rfl rfl ?_ | refine' sr_v rfl ?_ rfl rfl rfl ?_); rotate_left; first | exact vo_un tok rfl rfl rfl rfl | exact vo_bin tok rfl rfl rfl rfl rfl rfl | exact vo_or rfl rfl rfl rfl rfl | exact vo_and rfl rfl rfl rfl rfl | exact vo_load tok 0 rfl rfl rfl rfl rfl | exact vo_load tok 1 rfl rfl rfl rfl rfl | exact vo_load tok 2 rfl rfl rfl rfl rfl | exact vo_load tok 3 rfl rfl rfl rfl rfl | exact vo_eqs tok eqOK rfl rfl rfl rfl rfl rfl (by kernel_rfl) | exact vo_nes tok eqOK rfl rfl rfl rfl rfl rfl (by kernel_rfl) | exact vo_len tok rfl rfl rfl rfl rfl rfl rfl | exact vo_max rfl rfl rfl rfl rfl | exact vo_min rfl rfl rfl rfl rfl | exact vo_sh rfl rfl rfl rfl rfl rfl rfl | exact vo_build tok rfl rfl trivial rfl rfl rfl | exact vo_build tok rfl rfl ⟨rfl, trivial⟩ rfl rfl rfl | exact vo_build tok rfl rfl ⟨rfl, rfl, trivial⟩ rfl rfl rfl | exact vo_build tok rfl rfl ⟨rfl, rfl, rfl, trivial⟩ rfl rfl rfl | exact vo_build tok rfl rfl ⟨rfl, rfl, rfl, rfl, trivial⟩ rfl rfl rfl | exact vo_build tok rfl rfl ⟨rfl, rfl, rfl, rfl, rfl, trivial⟩ rfl rfl rfl | exact vo_build tok rfl rfl ⟨rfl, rfl, rfl, rfl, rfl, rfl, trivial⟩ rfl rfl rfl | exact vo_build tok rfl rfl ⟨rfl, rfl, rfl, rfl, rfl, rfl, rfl, trivial⟩ rfl rfl rfl | exact vo_build tok rfl rfl ⟨rfl, rfl, rfl, rfl, rfl, rfl, rfl, rfl, trivial⟩ rfl rfl rfl) | (refine sx_box rfl rfl rfl rfl rfl rfl ?_; intro g) | (refine sx_alloc tok rfl rfl rfl rfl rfl rfl ?_; intro g) | refine sr_alloc tok rfl rfl rfl rfl rfl rfl ?_ | refine sr_box rfl rfl rfl rfl rfl rfl ?_ | refine sx_store tok 0 rfl rfl rfl rfl rfl rfl rfl rfl rfl rfl rfl rfl ?_ | refine sx_store tok 1 rfl rfl rfl rfl rfl rfl rfl rfl rfl rfl rfl rfl ?_ | refine sx_store tok 2 rfl rfl rfl rfl rfl rfl rfl rfl rfl rfl rfl rfl ?_ | refine sx_store tok 3 rfl rfl rfl rfl rfl rfl rfl rfl rfl rfl rfl rfl ?_)
    refine sc_false rfl (by simp [hje]) ?_
    have z7 := sz_lit7
    repeat' (first | refine sc_seq ?_ | refine sc_region ?_ | refine sq_then ?_ | refine sc_ret ?_ | refine sc_skip ?_ | refine sc_block ?_ | refine sc_exit ?_ | refine sq_pass_ret ?_ | refine sq_pass_exit ?_ | refine sq_blk_normal ?_ | refine sq_blk_ret ?_ | refine sq_blk_hit ?_ | refine sq_blk_miss rfl ?_ | refine sc_regionD follows_any rfl (by kernel_rfl) ?_ | refine sx_nil ?_ | refine sr_nil0 ?_ | (refine sr_nil1 ?_; intro g) | ((first | refine' sx_v rfl ?_ rfl rfl ?_ | refine' sr_v rfl ?_ rfl rfl rfl ?_); rotate_left; first | exact vo_join rfl rfl rfl rfl rfl (fun _ => by omega) | exact vo_un tok rfl rfl rfl rfl | exact vo_bin tok rfl rfl rfl rfl rfl rfl | exact vo_or rfl rfl rfl rfl rfl | exact vo_and rfl rfl rfl rfl rfl | exact vo_load tok 0 rfl rfl rfl rfl rfl | exact vo_load tok 1 rfl rfl rfl rfl rfl | exact vo_load tok 2 rfl rfl rfl rfl rfl | exact vo_load tok 3 rfl rfl rfl rfl rfl | exact vo_eqs tok eqOK rfl rfl rfl rfl rfl rfl (by kernel_rfl) | exact vo_nes tok eqOK rfl rfl rfl rfl rfl rfl (by kernel_rfl) | exact vo_len tok rfl rfl rfl rfl rfl rfl rfl | exact vo_max rfl rfl rfl rfl rfl | exact vo_min rfl rfl rfl rfl rfl | exact vo_sh rfl rfl rfl rfl rfl rfl rfl | exact vo_build tok rfl rfl trivial rfl rfl rfl | exact vo_build tok rfl rfl ⟨rfl, trivial⟩ rfl rfl rfl | exact vo_build tok rfl rfl ⟨rfl, rfl, trivial⟩ rfl rfl rfl | exact vo_build tok rfl rfl ⟨rfl, rfl, rfl, trivial⟩ rfl rfl rfl | exact vo_build tok rfl rfl ⟨rfl, rfl, rfl, rfl, trivial⟩ rfl rfl rfl | exact vo_build tok rfl rfl ⟨rfl, rfl, rfl, rfl, rfl, trivial⟩ rfl rfl rfl | exact vo_build tok rfl rfl ⟨rfl, rfl, rfl, rfl, rfl, rfl, trivial⟩ rfl rfl rfl | exact vo_build tok rfl rfl ⟨rfl, rfl, rfl, rfl, rfl, rfl, rfl, trivial⟩ rfl rfl rfl | exact vo_build tok rfl rfl ⟨rfl, rfl, rfl, rfl, rfl, rfl, rfl, rfl, trivial⟩ rfl rfl rfl) | (refine sx_box rfl rfl rfl rfl rfl rfl ?_; intro g) | (refine sx_alloc tok rfl rfl rfl rfl rfl rfl ?_; intro g) | refine sr_alloc tok rfl rfl rfl rfl rfl rfl ?_ | refine sr_box rfl rfl rfl rfl rfl rfl ?_ | refine sx_store tok 0 rfl rfl rfl rfl rfl rfl rfl rfl rfl rfl rfl rfl ?_ | refine sx_store tok 1 rfl rfl rfl rfl rfl rfl rfl rfl rfl rfl rfl rfl ?_ | refine sx_store tok 2 rfl rfl rfl rfl rfl rfl rfl rfl rfl rfl rfl rfl ?_ | refine sx_store tok 3 rfl rfl rfl rfl rfl rfl rfl rfl rfl rfl rfl rfl ?_)
    refine sq_ret tok (fun _ => 0) rfl rfl trivial rfl fun w hm => ⟨?_, hm.below⟩
    refine ret_str ?_
    refine ByteArray.ext (Array.ext' ?_)
    show (acc ++ (⟨#[34]⟩ : ByteArray)).data.toList = quoteL s
    rw [hq, hje, qAt_end s _ (Nat.le_refl _), List.append_nil, b_app]
theorem hexsum {a b : Int} (ha : ¬ a < 0) (hb : ¬ b < 0) (ha2 : a ≤ 15) (hb2 : b ≤ 15) : IntKind.u8.wrap (IntKind.i64.wrap (IntKind.i64.wrap (16 * a) + b)) = (((16 * a + b).toNat : Nat) : Int) := by
  rw [IntWalk.i64_in (16 * a) (by omega), IntWalk.i64_in _ (by omega), IntKind.wrap_u8']; omega
theorem lit_byte {x : Int} (n : Nat) (hn : n < 256) (h : x = (n : Int)) : [Value.int .u8 x] = cellsB [UInt8.ofNat n] := by
  subst h
  have e : (UInt8.ofNat n).toNat = n := by rw [UInt8.toNat_ofNat']; omega
  simp [cellsB, e]
theorem ne_of_bne {a b : Int} (h : (a != b) = true) : a ≠ b := by simpa using h
theorem eq_of_bne {a b : Int} (h : (a != b) = false) : a = b := by simpa using h
theorem q_idx1 {s : ByteArray} (h : holdsC [((s.size : Int) == 0, false)] = true) : (0 : Int) = ((0 : Nat) : Int) ∧ 0 < s.size := by
  have : ¬ s.size = 0 := by simpa [holdsC] using h
  exact ⟨rfl, by omega⟩
end Go.Proofs.YtpfkddbhpoeknaaGreatDoor.Y
