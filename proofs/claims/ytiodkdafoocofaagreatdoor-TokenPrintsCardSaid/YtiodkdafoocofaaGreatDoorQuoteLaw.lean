/- Quoted texts and hexadecimal digits, in plain lists of bytes. No program. -/
import Derived.Test.YtiodkdafoocofaaGreatDoorUtfLaw
import Derived.Lib.MapLaws
namespace Go.Proofs.YtiodkdafoocofaaGreatDoor.Y
open Go.RowKit
theorem encode_list (r : Int) : (Utf8.encode r).data.toList = Lib.encodeRune r := by
  unfold Utf8.encode
  by_cases hv : Utf8.valid r = true
  · have hv' := hv
    simp only [Utf8.valid, Bool.or_eq_true, Bool.and_eq_true, decide_eq_true_eq] at hv'
    rw [if_pos hv]
    obtain ⟨n, rfl⟩ : ∃ n : Nat, r = n := ⟨r.toNat, by omega⟩
    have hn : ((n : Int)).toNat = n := by omega
    rw [hn]
    have hb : ∀ k : Nat, (k : Int).toNat.toUInt8 = UInt8.ofNat k := fun k => by simp [Nat.toUInt8]
    unfold Lib.encodeRune
    by_cases h1 : n < 128
    · rw [if_pos h1, Lib.encodeRuneZ_one (by omega) (by omega)]
      simp
    · rw [if_neg h1]
      by_cases h2 : n < 2048
      · rw [if_pos h2, Lib.encodeRuneZ_two (by omega) (by omega)]
        have e1 : (192 + (n : Int) / 64) = ((192 + n / 64 : Nat) : Int) := by omega
        have e2 : (128 + (n : Int) % 64) = ((128 + n % 64 : Nat) : Int) := by omega
        simp only [List.map_cons, List.map_nil, e1, e2, hb]
      · rw [if_neg h2]
        by_cases h3 : n < 65536
        · rw [if_pos h3, Lib.encodeRuneZ_three (by omega)]
          have e1 : (224 + (n : Int) / 4096) = ((224 + n / 4096 : Nat) : Int) := by omega
          have e2 : (128 + (n : Int) / 64 % 64) = ((128 + n / 64 % 64 : Nat) : Int) := by omega
          have e3 : (128 + (n : Int) % 64) = ((128 + n % 64 : Nat) : Int) := by omega
          simp only [List.map_cons, List.map_nil, e1, e2, e3, hb]
        · rw [if_neg h3, Lib.encodeRuneZ_four (by omega) (by omega)]
          have e1 : (240 + (n : Int) / 262144) = ((240 + n / 262144 : Nat) : Int) := by omega
          have e2 : (128 + (n : Int) / 4096 % 64) = ((128 + n / 4096 % 64 : Nat) : Int) := by omega
          have e3 : (128 + (n : Int) / 64 % 64) = ((128 + n / 64 % 64 : Nat) : Int) := by omega
          have e4 : (128 + (n : Int) % 64) = ((128 + n % 64 : Nat) : Int) := by omega
          simp only [List.map_cons, List.map_nil, e1, e2, e3, e4, hb]
  · have hv' : ¬ ((0 ≤ r ∧ r < 55296) ∨ (57344 ≤ r ∧ r ≤ 1114111)) := by simpa [Utf8.valid] using hv
    rw [if_neg hv]
    unfold Lib.encodeRune
    rw [Lib.encodeRuneZ_bad (by omega)]
    rfl
theorem decL_decodeL (l : List UInt8) : decL l = Lib.decodeL l := by
  have := decode_dec ⟨l.toArray⟩ 0
  simpa [Lib.decodeL] using this.symm
theorem fffd_sz {l : List UInt8} (h : fffd l = true) : szL l = 3 := by
  obtain ⟨h1, h2, h3, h4⟩ := (fffd_iff l).1 h
  unfold szL
  rw [if_neg (by omega), if_neg (fun e => by have := e.2.1; omega), if_neg (fun e => by have := e.1; omega), if_neg (fun e => by have := e.1; omega), if_pos ⟨by omega, by omega, by omega, (tail2_iff l 1).2 ⟨⟨by omega, by omega, by omega⟩, by omega, by show 128 ≤ atL l 2; omega, by show atL l 2 ≤ 191; omega⟩⟩]
/-- a rune that stands for whole bytes is written as those. -/
theorem encode_dec (l : List UInt8) (hne : l ≠ []) (h : szL l ≠ 0) : Utf8.encode ((decL l).1 : Int) = ⟨(l.take (szL l)).toArray⟩ := by
  have hz := dec_sz l
  have h2 : (decL l).2 = szL l ∧ ((decL l).1 ≠ 65533 ∨ fffd l = true) := by
    rcases hz with hz | hz
    · exact absurd hz.1 h
    · exact hz.2
  have hv : ¬ ((Lib.decodeL l).1 = 65533 ∧ (Lib.decodeL l).2 = 1) := by
    rw [← decL_decodeL]
    rintro ⟨h3, h4⟩
    rcases h2.2 with h5 | h5
    · exact h5 h3
    · have h6 := fffd_sz h5
      omega
  have he := Lib.encode_decode l hne hv
  rw [← decL_decodeL, h2.1] at he
  refine ByteArray.ext (Array.ext' ?_)
  rw [encode_list, he]
/-- a hexadecimal digit. -/
def hxC (d : Nat) : UInt8 := if d < 10 then UInt8.ofNat (48 + d) else UInt8.ofNat (87 + d)
def hx2 (b : Nat) : List UInt8 := [hxC (b / 16), hxC (b % 16)]
/-- one part of a text, quoted; how long it is. -/
def qpart (l : List UInt8) : List UInt8 :=
  if atL l 0 = 34 then [92, 34] else if atL l 0 = 92 then [92, 92] else if atL l 0 = 10 then [92, 110] else if atL l 0 = 9 then [92, 116] else if atL l 0 = 13 then [92, 114]
  else if atL l 0 < 32 ∨ atL l 0 = 127 ∨ szL l = 0 then [92, 120] ++ hx2 (atL l 0) else l.take (szL l)
def qlen (l : List UInt8) : Nat := if szL l = 0 then 1 else szL l
def qrest : Nat → List UInt8 → List UInt8
  | 0, _ => []
  | n + 1, l => if l = [] then [] else qpart l ++ qrest n (l.drop (qlen l))
theorem qlen_pos (l : List UInt8) : 1 ≤ qlen l := by unfold qlen; split <;> omega
theorem qlen_le (l : List UInt8) (h : 0 < l.length) : qlen l ≤ l.length ∧ qlen l ≤ 4 := by
  have := szL_le l h
  unfold qlen; split <;> omega
theorem qpart_len (l : List UInt8) (h : 0 < l.length) : (qpart l).length ≤ 4 * qlen l := by
  have h1 := qlen_pos l
  have h2 := szL_le l h
  unfold qpart
  (repeat' split) <;> first | (simp [hx2]; omega) | (rw [List.length_take]; unfold qlen at h1 ⊢; split <;> omega)
theorem qrest_fuel : ∀ (n m : Nat) (l : List UInt8), l.length ≤ n → l.length ≤ m → qrest n l = qrest m l
  | 0, 0, _, _, _ => rfl
  | 0, m + 1, l, h, _ => by
    have : l = [] := List.length_eq_zero_iff.1 (by omega)
    subst this; simp [qrest]
  | n + 1, 0, l, _, h => by
    have : l = [] := List.length_eq_zero_iff.1 (by omega)
    subst this; simp [qrest]
  | n + 1, m + 1, l, h1, h2 => by
    unfold qrest
    by_cases h : l = []
    · rw [if_pos h, if_pos h]
    · rw [if_neg h, if_neg h]
      have hl : 0 < l.length := List.length_pos_iff.2 h
      have hp := qlen_pos l
      rw [qrest_fuel n m _ (by rw [List.length_drop]; omega) (by rw [List.length_drop]; omega)]
theorem qrest_len : ∀ (n : Nat) (l : List UInt8), (qrest n l).length ≤ 4 * l.length
  | 0, l => by simp [qrest]
  | n + 1, l => by
    unfold qrest
    by_cases h : l = []
    · rw [if_pos h]; simp
    · rw [if_neg h]
      have hl : 0 < l.length := List.length_pos_iff.2 h
      have h1 := qpart_len l hl
      have h2 := qrest_len n (l.drop (qlen l))
      have h3 := (qlen_le l hl).1
      rw [List.length_drop] at h2
      rw [List.length_append]; omega
/-- the parts from a place on. -/
def qAt (s : ByteArray) (k : Nat) : List UInt8 := qrest (s.data.toList.drop k).length (s.data.toList.drop k)
theorem len_bytes (s : ByteArray) : s.data.toList.length = s.size := by rw [Array.length_toList]; rfl
theorem qAt_end (s : ByteArray) (k : Nat) (h : s.size ≤ k) : qAt s k = [] := by
  have : s.data.toList.drop k = [] := List.drop_eq_nil_of_le (by rw [len_bytes]; exact h)
  unfold qAt; rw [this]; rfl
theorem qAt_step (s : ByteArray) (k : Nat) (h : k < s.size) : qAt s k = qpart (s.data.toList.drop k) ++ qAt s (k + qlen (s.data.toList.drop k)) := by
  have hl : (s.data.toList.drop k).length = s.size - k := by rw [List.length_drop, len_bytes]
  have hne : s.data.toList.drop k ≠ [] := List.length_pos_iff.1 (by omega)
  unfold qAt
  obtain ⟨n, hn⟩ : ∃ n, (s.data.toList.drop k).length = n + 1 := ⟨(s.data.toList.drop k).length - 1, by omega⟩
  have hp := qlen_pos (s.data.toList.drop k)
  generalize hq : qlen (s.data.toList.drop k) = q at *
  rw [hn, qrest, if_neg hne, hq, List.drop_drop]
  congr 1
  refine qrest_fuel _ _ _ ?_ (Nat.le_refl _)
  rw [List.length_drop, len_bytes]; omega
def quoteL (s : ByteArray) : List UInt8 := [34] ++ qAt s 0 ++ [34]
def quoteS (s : ByteArray) : ByteArray := ⟨(quoteL s).toArray⟩
theorem qAt_len (s : ByteArray) (k : Nat) : (qAt s k).length ≤ 4 * (s.size - k) := by
  have := qrest_len (s.data.toList.drop k).length (s.data.toList.drop k)
  have e : (s.data.toList.drop k).length = s.size - k := by rw [List.length_drop, len_bytes]
  unfold qAt
  omega
theorem quoteL_len (s : ByteArray) : (quoteL s).length ≤ 4 * s.size + 2 := by
  have := qAt_len s 0
  unfold quoteL
  simp only [List.length_append, List.length_cons, List.length_nil]; omega
theorem atL_drop (s : ByteArray) (k : Nat) (h : k < s.size) : s.data.toList[k]? = some (s.data.toList[k]'(by rw [len_bytes]; exact h)) ∧ (s.data.toList[k]'(by rw [len_bytes]; exact h)).toNat = atL (s.data.toList.drop k) 0 := by
  refine ⟨List.getElem?_eq_getElem _, ?_⟩
  unfold atL
  rw [List.getD_eq_getElem?_getD, List.getElem?_drop, Nat.add_zero, List.getElem?_eq_getElem (by rw [len_bytes]; exact h)]
  rfl
/-! reading a quoted text -/
def hv (c : Nat) : Int := if 48 ≤ c ∧ c ≤ 57 then (c : Int) - 48 else if 97 ≤ c ∧ c ≤ 102 then (c : Int) - 87 else -1
theorem hv_rng (c : Nat) : -1 ≤ hv c ∧ hv c ≤ 15 := by unfold hv; (repeat' split) <;> omega
/-- what an escape stands for, and its length; 0: it is none. -/
def escS (l : List UInt8) : Nat × Nat :=
  if l.length < 2 then (0, 0) else if atL l 1 = 34 ∨ atL l 1 = 92 then (atL l 1, 2) else if atL l 1 = 110 then (10, 2) else if atL l 1 = 116 then (9, 2) else if atL l 1 = 114 then (13, 2)
  else if atL l 1 ≠ 120 ∨ l.length < 4 ∨ hv (atL l 2) < 0 ∨ hv (atL l 3) < 0 then (0, 0) else ((16 * hv (atL l 2) + hv (atL l 3)).toNat, 4)
theorem escS_ok (l : List UInt8) : (escS l).2 ≤ l.length ∧ (escS l).2 ≤ 4 ∧ (escS l).1 < 256 := by
  have h1 := atL_lt l 1
  have h2 := hv_rng (atL l 2)
  have h3 := hv_rng (atL l 3)
  unfold escS
  (repeat' split) <;> simp only [] <;> omega
def oneS (l : List UInt8) : Nat × Nat := if atL l 0 = 92 then escS l else (atL l 0, 1)
theorem oneS_ok (l : List UInt8) (h : 0 < l.length) : (oneS l).2 ≤ l.length ∧ (oneS l).2 ≤ 4 ∧ (oneS l).1 < 256 := by
  have h1 := escS_ok l
  have h2 := atL_lt l 0
  unfold oneS
  split
  · exact h1
  · exact ⟨h, by simp only []; omega, h2⟩
/-- the text up to the closing quote, and where that stands. -/
def uqF : Nat → List UInt8 → List UInt8 → Nat → Option (List UInt8 × Nat)
  | 0, _, _, _ => none
  | n + 1, l, acc, k => if l = [] then none else if atL l 0 = 34 then some (acc, k) else if (oneS l).2 = 0 then none else uqF n (l.drop (oneS l).2) (acc ++ [UInt8.ofNat (oneS l).1]) (k + (oneS l).2)
theorem uqF_fuel : ∀ (n m : Nat) (l acc : List UInt8) (k : Nat), l.length < n → l.length < m → uqF n l acc k = uqF m l acc k
  | 0, _, _, _, _, h, _ => by omega
  | _ + 1, 0, _, _, _, _, h => by omega
  | n + 1, m + 1, l, acc, k, h1, h2 => by
    unfold uqF
    by_cases hl : l = []
    · rw [if_pos hl, if_pos hl]
    · rw [if_neg hl, if_neg hl]
      by_cases h3 : atL l 0 = 34
      · rw [if_pos h3, if_pos h3]
      · rw [if_neg h3, if_neg h3]
        by_cases h4 : (oneS l).2 = 0
        · rw [if_pos h4, if_pos h4]
        · rw [if_neg h4, if_neg h4]
          have := List.length_pos_iff.2 hl
          exact uqF_fuel n m _ _ _ (by rw [List.length_drop]; omega) (by rw [List.length_drop]; omega)
def uqAt (s : ByteArray) (k : Nat) (acc : List UInt8) : Option (List UInt8 × Nat) := uqF (s.size + 1) (s.data.toList.drop k) acc k
theorem uqAt_end (s : ByteArray) (k : Nat) (acc : List UInt8) (h : s.size ≤ k) : uqAt s k acc = none := by
  have : s.data.toList.drop k = [] := List.drop_eq_nil_of_le (by rw [len_bytes]; exact h)
  unfold uqAt uqF; rw [if_pos this]
theorem uqAt_step (s : ByteArray) (k : Nat) (acc : List UInt8) (h : k < s.size) : uqAt s k acc = if atL (s.data.toList.drop k) 0 = 34 then some (acc, k) else if (oneS (s.data.toList.drop k)).2 = 0 then none else uqAt s (k + (oneS (s.data.toList.drop k)).2) (acc ++ [UInt8.ofNat (oneS (s.data.toList.drop k)).1]) := by
  have hl : (s.data.toList.drop k).length = s.size - k := by rw [List.length_drop, len_bytes]
  have hne : s.data.toList.drop k ≠ [] := List.length_pos_iff.1 (by omega)
  unfold uqAt
  rw [uqF, if_neg hne, List.drop_drop]
  by_cases h3 : atL (s.data.toList.drop k) 0 = 34
  · rw [if_pos h3, if_pos h3]
  · rw [if_neg h3, if_neg h3]
    by_cases h4 : (oneS (s.data.toList.drop k)).2 = 0
    · rw [if_pos h4, if_pos h4]
    · rw [if_neg h4, if_neg h4]
      refine uqF_fuel _ _ _ _ _ ?_ ?_ <;> (rw [List.length_drop, len_bytes]; omega)
/-- a text whose quoted form s begins with, how long that is, and the error. -/
structure UnqV where
  text : ByteArray
  len : Nat
  err : Int
def unqS (s : ByteArray) : UnqV := if s.size = 0 ∨ atL s.data.toList 0 ≠ 34 then ⟨⟨#[]⟩, 0, 2⟩ else match uqAt s 1 [] with
  | none => ⟨⟨#[]⟩, 0, 2⟩
  | some (acc, k) => if quoteL ⟨acc.toArray⟩ = s.data.toList.take (k + 1) then ⟨⟨acc.toArray⟩, k + 1, 0⟩ else ⟨⟨#[]⟩, 0, 2⟩
/-! hexadecimal digits -/
def hexL : List UInt8 → List UInt8
  | [] => []
  | b :: r => hx2 b.toNat ++ hexL r
theorem hexL_len (l : List UInt8) : (hexL l).length = 2 * l.length := by
  induction l with
  | nil => rfl
  | cons b r ih => simp only [hexL, List.length_append, ih, hx2, List.length_cons, List.length_nil]; omega
theorem hexL_snoc (l : List UInt8) (b : UInt8) : hexL (l ++ [b]) = hexL l ++ hx2 b.toNat := by
  induction l with
  | nil => simp [hexL]
  | cons x r ih => simp only [List.cons_append, hexL, ih, List.append_assoc]
/-- bytes of digits; false: there is something else. -/
def unhL : List UInt8 → List UInt8 × Bool
  | [] => ([], true)
  | [_] => ([], false)
  | a :: b :: r => if hv a.toNat < 0 ∨ hv b.toNat < 0 then ([], false) else (UInt8.ofNat (16 * hv a.toNat + hv b.toNat).toNat :: (unhL r).1, (unhL r).2)
def unhS (s : ByteArray) : ByteArray × Int := if s.size % 2 ≠ 0 then (⟨#[]⟩, 2) else if (unhL s.data.toList).2 = true then (⟨(unhL s.data.toList).1.toArray⟩, 0) else (⟨#[]⟩, 2)
end Go.Proofs.YtiodkdafoocofaaGreatDoor.Y
