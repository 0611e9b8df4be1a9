/- Scalar values read from texts, in plain terms. -/
import Derived.Test.YtihpeophmijaaaaDoorScTxt
import Derived.Lib.ParseIntBCases
import Derived.Lib.ParseIntBTie
import Derived.Lib.ParseIntBMem
import Derived.Lib.AtoiAllCases
namespace Go.Proofs.YtihpeophmijaaaaDoor.Y
open Go.RowKit
structure PV where
  k : Int
  b : Nat
  t : ByteArray
  e : Int
def PV.err (e : Int) : PV := ⟨0, 0, ⟨#[]⟩, e⟩
/-! numbers -/
def negL (l : List UInt8) : Bool := l.head? == some 45
def magL (l : List UInt8) : Nat := valN (Lib.trimPrefix l [45])
def intO (l : List UInt8) : Option Int :=
  if negL l = true then (if magL l ≤ 9223372036854775808 then some (-(magL l : Int)) else none) else (if magL l < 9223372036854775808 then some (magL l : Int) else none)
def uintO (l : List UInt8) : Option Nat := if negL l = true then none else if magL l < 18446744073709551616 then some (magL l) else none
def sgK (k : Int) : Bool := k == 2 || k == 3
def numB (k : Int) (l : List UInt8) : Option Nat := if sgK k = true then (intO l).map fun v => (IntKind.u64.wrap v).toNat else uintO l
def numP (k : Int) (l : List UInt8) : PV := if decS l = false then .err 2 else match numB k l with
  | none => .err 6
  | some b => if withinS k b = true then ⟨k, b, ⟨#[]⟩, 0⟩ else .err 6
theorem trim_neg (r : List UInt8) : Lib.trimPrefix (45 :: r) [45] = r := by
  unfold Lib.trimPrefix Lib.hasPrefix
  simp
theorem trim_pos {l : List UInt8} (h : negL l = false) : Lib.trimPrefix l [45] = l := by
  unfold Lib.trimPrefix Lib.hasPrefix
  cases l with
  | nil => simp
  | cons c r =>
    have : ¬ (45 : UInt8) = c := by
      intro e; subst e; simp [negL] at h
    simp [this]
theorem neg_cons {l : List UInt8} (h : negL l = true) : ∃ r, l = 45 :: r := by
  cases l with
  | nil => simp [negL] at h
  | cons c r =>
    obtain rfl : c = 45 := by simpa [negL] using h
    exact ⟨r, rfl⟩
theorem decS_parts {l : List UInt8} (h : decS l = true) : Lib.trimPrefix l [45] ≠ [] ∧ (Lib.trimPrefix l [45]).all isDig = true ∧ ((Lib.trimPrefix l [45]).head? = some 48 → l = [48]) := by
  unfold decS at h
  simp only [Bool.and_eq_true, Bool.not_eq_true', Bool.and_eq_false_iff, List.isEmpty_eq_false_iff] at h
  refine ⟨h.1.1, h.2, fun h0 => ?_⟩
  rcases h.1.2 with h1 | h1
  · rw [h0] at h1; simp at h1
  · simpa using h1
theorem mag_pos {l : List UInt8} (h : decS l = true) (hn : negL l = true) : 0 < magL l := by
  obtain ⟨h1, h2, h3⟩ := decS_parts h
  obtain ⟨r, rfl⟩ := neg_cons hn
  unfold magL
  rw [trim_neg] at *
  cases r with
  | nil => exact absurd rfl h1
  | cons c r =>
    unfold valN
    rw [valF_cons]
    have hm := valF_le r (0 * 10 + (c.toNat - 48))
    simp only [List.all_cons, Bool.and_eq_true, isDig_iff] at h2
    have : c.toNat ≠ 48 := by
      intro e
      have hc : c = 48 := UInt8.toNat_inj.1 e
      subst hc
      have := h3 rfl
      simp at this
    omega
theorem uintB_val {l : List UInt8} (h0 : l ≠ []) (h : l.all isDig = true) : Lib.parseUintB 64 l = if valN l < 18446744073709551616 then .ok (valN l) else .range := by
  unfold Lib.parseUintB
  rw [if_neg h0, show (2 : Nat) ^ 64 - 1 = 18446744073709551615 by decide, Lib.parseUintM_64, parseUint10_val l 0 (by omega) h]
  rfl
theorem intB_dec {l : List UInt8} (h : decS l = true) : Lib.parseIntB 64 l = match intO l with
    | some v => .ok v
    | none => .range := by
  obtain ⟨h1, h2, h3⟩ := decS_parts h
  unfold intO
  cases hn : negL l with
  | true =>
    obtain ⟨r, rfl⟩ := neg_cons hn
    unfold magL
    rw [trim_neg] at *
    rw [Lib.parseIntB_minus, uintB_val h1 h2, if_pos rfl, show (2 : Nat) ^ (64 - 1) = 9223372036854775808 by decide]
    by_cases ha : valN r < 18446744073709551616
    · rw [if_pos ha]
      simp only [Lib.signedC]
      by_cases hb : valN r ≤ 9223372036854775808
      · rw [if_neg (by omega), if_pos hb]
      · rw [if_pos (by omega), if_neg hb]
    · rw [if_neg ha, if_neg (by omega)]; rfl
  | false =>
    unfold magL
    rw [trim_pos hn] at *
    cases l with
    | nil => exact absurd rfl h1
    | cons c r =>
      have hc : 48 ≤ c.toNat ∧ c.toNat ≤ 57 := by
        simp only [List.all_cons, Bool.and_eq_true, isDig_iff] at h2; exact h2.1
      rw [Lib.parseIntB_plain 64 c r (by omega) (by omega), uintB_val h1 h2, if_neg (show ¬ (false = true) by decide), show (2 : Nat) ^ (64 - 1) = 9223372036854775808 by decide]
      by_cases ha : valN (c :: r) < 18446744073709551616
      · rw [if_pos ha]
        simp only [Lib.signlessC]
        by_cases hb : valN (c :: r) < 9223372036854775808
        · rw [if_neg (by omega), if_pos hb]
        · rw [if_pos (by omega), if_neg hb]
      · rw [if_neg ha, if_neg (by omega)]; rfl
/-- what ParseUint at base 10 hands on: its number, and 0 (no error), 1 or 2. -/
def u10 (l : List UInt8) : Nat × Int := match Lib.parseUintB 64 l with
  | .ok n => (n, 0)
  | .range => (18446744073709551615, 1)
  | _ => (0, 2)
theorem u10_tuple (T : TypeId) (l : List UInt8) : Lib.uintTupleM T 18446744073709551615 (Lib.parseUintB 64 l) = .tuple #[.int .u64 (u10 l).1, if (u10 l).2 = 0 then .nilIface else .iface T (.int .i64 (u10 l).2)] := by
  unfold u10
  cases Lib.parseUintB 64 l <;> rfl
theorem u10_code (l : List UInt8) : (u10 l).2 = 0 ∨ (u10 l).2 = 1 ∨ (u10 l).2 = 2 := by
  unfold u10; cases Lib.parseUintB 64 l <;> simp
theorem u10_dec {l : List UInt8} (h : decS l = true) : ((u10 l).2 = 0 ∧ uintO l = some (u10 l).1) ∨ ((u10 l).2 ≠ 0 ∧ uintO l = none) := by
  obtain ⟨h1, h2, h3⟩ := decS_parts h
  unfold uintO
  cases hn : negL l with
  | true =>
    right
    obtain ⟨r, rfl⟩ := neg_cons hn
    refine ⟨?_, by rw [if_pos rfl]⟩
    unfold u10 Lib.parseUintB
    rw [if_neg (by simp), Lib.parseUintM, if_neg (by decide)]
    decide
  | false =>
    rw [if_neg (by decide)]
    unfold magL u10
    rw [trim_pos hn] at *
    rw [uintB_val h1 h2]
    by_cases ha : valN l < 18446744073709551616
    · left; rw [if_pos ha, if_pos ha]; exact ⟨rfl, rfl⟩
    · right; rw [if_neg ha, if_neg ha]; exact ⟨by decide, rfl⟩
/-! doubles -/
def foldB : List UInt8 → Nat → Nat
  | [], n => n
  | b :: r, n => foldB r (256 * n + b.toNat)
theorem foldB_snoc : ∀ (l : List UInt8) (b : UInt8) (n : Nat), foldB (l ++ [b]) n = 256 * foldB l n + b.toNat
  | [], _, _ => rfl
  | _ :: l, b, _ => foldB_snoc l b _
theorem foldB_lt : ∀ (l : List UInt8) (n k : Nat), n < 256 ^ k → foldB l n < 256 ^ (k + l.length)
  | [], n, k, h => h
  | b :: l, n, k, h => by
    have hb := b.toNat_lt
    have := foldB_lt l (256 * n + b.toNat) (k + 1) (by rw [Nat.pow_succ]; omega)
    rw [List.length_cons, show k + (l.length + 1) = k + 1 + l.length by omega]
    exact this
theorem lowV_hv (c : UInt8) : H.lowV c = if hv c.toNat < 0 then none else some (hv c.toNat).toNat := by
  unfold H.lowV hv
  (repeat' split) <;> first | rfl | (exfalso; omega) | (simp; omega) | (simp only [Option.some.injEq]; omega)
theorem rp_unh : ∀ (l : List UInt8) (n : Nat), l.length % 2 = 0 → H.rp l n = if (unhL l).2 = true then some (foldB (unhL l).1 n) else none
  | [], n, _ => rfl
  | [_], n, h => by simp at h
  | a :: b :: r, n, h => by
    have ih := fun m => rp_unh r m (by simp only [List.length_cons] at h; omega)
    have ra := hv_rng a.toNat
    have rb := hv_rng b.toNat
    rw [H.rp, lowV_hv]
    unfold unhL
    by_cases ha : hv a.toNat < 0
    · rw [if_pos ha, if_pos (show hv a.toNat < 0 ∨ hv b.toNat < 0 from .inl ha)]; rfl
    · rw [if_neg ha]
      simp only [H.rp, lowV_hv]
      by_cases hb : hv b.toNat < 0
      · rw [if_pos hb, if_pos (show hv a.toNat < 0 ∨ hv b.toNat < 0 from .inr hb)]; rfl
      · rw [if_neg hb, if_neg (show ¬ (hv a.toNat < 0 ∨ hv b.toNat < 0) by omega)]
        simp only [ih, foldB]
        have e : (UInt8.ofNat (16 * hv a.toNat + hv b.toNat).toNat).toNat = 16 * (hv a.toNat).toNat + (hv b.toNat).toNat := by rw [UInt8.toNat_ofNat']; omega
        rw [e]
        have e2 : (n * 16 + (hv a.toNat).toNat) * 16 + (hv b.toNat).toNat = 256 * n + (16 * (hv a.toNat).toNat + (hv b.toNat).toNat) := by omega
        rw [e2]
def hexO (l : List UInt8) : Option Nat := if l.length = 18 ∧ l.take 2 = [48, 120] then (if (unhL (l.drop 2)).2 = true then some (foldB (unhL (l.drop 2)).1 0) else none) else none
def dblP (l : List UInt8) : PV := if l = nanB then ⟨6, 9221120237041090560, ⟨#[]⟩, 0⟩ else if l = infB then ⟨6, 9218868437227405312, ⟨#[]⟩, 0⟩ else if l = minfB then ⟨6, 18442240474082181120, ⟨#[]⟩, 0⟩ else match hexO l with
  | some n => if 1 < classS n then ⟨6, n, ⟨#[]⟩, 0⟩ else .err 2
  | none => .err 2
theorem classS_0 (b : Int) : 0 ≤ classS b := by unfold classS; (repeat' split) <;> omega
theorem trim_0x (l : List UInt8) : Lib.trimPrefix l [48, 120] = if l.take 2 = [48, 120] then l.drop 2 else l := by
  unfold Lib.trimPrefix Lib.hasPrefix
  match l with
  | [] => rfl
  | [a] => simp
  | a :: b :: r =>
    by_cases h : a = 48 ∧ b = 120
    · obtain ⟨rfl, rfl⟩ := h; simp
    · have h1 : ¬ ((48 : UInt8) = a ∧ (120 : UInt8) = b) := fun ⟨h1, h2⟩ => h ⟨h1.symm, h2.symm⟩
      simp [h]
      intro e1 e2; exact absurd ⟨e1.symm, e2.symm⟩ h
/-- the double that a text other than the three words stands for. -/
theorem dbl_hex {l : List UInt8} {n : Nat} (h1 : l ≠ nanB) (h2 : l ≠ infB) (h3 : l ≠ minfB) : (doubleL n = l ↔ (l = [48, 120] ++ H.textL n ∧ 1 < classS n)) := by
  have h0 := classS_0 n
  unfold doubleL
  constructor
  · intro h
    split at h
    · exact absurd h.symm h1
    · split at h
      · split at h
        · exact absurd h.symm h3
        · exact absurd h.symm h2
      · exact ⟨h.symm, by omega⟩
  · rintro ⟨h, h4⟩
    rw [if_neg (by omega), if_neg (by omega), h]
theorem textL_len (n : Nat) (h : n < 18446744073709551616) : (H.textL n).length = 16 := by rw [H.textL_hx n h, H.hx_len]; rfl
theorem hexO_Pu (r : List UInt8) : hexO ([48, 120] ++ r) = if (H.Pu r).2 = 0 then some (H.Pu r).1 else none := by
  rw [H.Pu_eq]
  unfold hexO H.rPu
  by_cases hl : r.length = 16
  · rw [if_pos ⟨by simp; omega, rfl⟩, if_pos hl, rp_unh r 0 (by omega)]
    show (if (unhL r).2 = true then some (foldB (unhL r).1 0) else none) = _
    by_cases hu : (unhL r).2 = true
    · rw [if_pos hu]; rfl
    · rw [if_neg hu]; rfl
  · rw [if_neg (by simp; omega), if_neg hl]; rfl
theorem Pu_parts (r : List UInt8) : ((H.Pu r).2 = 0 ∧ (H.pu16 r).2 = 0 ∧ H.textL (H.pu16 r).1 = r ∧ (H.Pu r).1 = (H.pu16 r).1) ∨ ((H.Pu r).2 = 2 ∧ ¬ ((H.pu16 r).2 = 0 ∧ H.textL (H.pu16 r).1 = r)) := by
  unfold H.Pu
  by_cases h : (H.pu16 r).2 = 0 ∧ H.textL (H.pu16 r).1 = r
  · left; rw [if_pos h]; exact ⟨rfl, h.1, h.2, rfl⟩
  · right; rw [if_neg h]; exact ⟨rfl, h⟩
/-- what the program finds. -/
theorem dbl_prog {l : List UInt8} (h1 : l ≠ nanB) (h2 : l ≠ infB) (h3 : l ≠ minfB) :
    dblP l = if (H.pu16 (Lib.trimPrefix l [48, 120])).2 = 0 ∧ doubleL (H.pu16 (Lib.trimPrefix l [48, 120])).1 = l then ⟨6, (H.pu16 (Lib.trimPrefix l [48, 120])).1, ⟨#[]⟩, 0⟩ else .err 2 := by
  unfold dblP
  rw [if_neg h1, if_neg h2, if_neg h3, trim_0x]
  have hx := fun n => dbl_hex (n := n) h1 h2 h3
  by_cases hp : l.take 2 = [48, 120]
  · rw [if_pos hp]
    obtain ⟨r, rfl⟩ : ∃ r, l = [48, 120] ++ r := ⟨l.drop 2, by rw [← hp, List.take_append_drop]⟩
    have hd : ([48, 120] ++ r : List UInt8).drop 2 = r := rfl
    rw [hexO_Pu, hd]
    rcases Pu_parts r with ⟨e1, e2, e3, e4⟩ | ⟨e1, e2⟩
    · rw [e1, if_pos rfl, e4]
      show (if 1 < classS ((H.pu16 r).1 : Int) then _ else _) = _
      by_cases hc : 1 < classS ((H.pu16 r).1 : Int)
      · rw [if_pos hc, if_pos ⟨e2, (hx _).2 ⟨by rw [e3], hc⟩⟩]
      · rw [if_neg hc, if_neg (fun h => hc ((hx _).1 h.2).2)]
    · rw [e1, if_neg (by decide), if_neg]
      rintro ⟨e3, e4⟩
      exact e2 ⟨e3, (List.append_cancel_left ((hx _).1 e4).1).symm⟩
  · rw [if_neg hp]
    have : hexO l = none := by unfold hexO; rw [if_neg (fun h => hp h.2)]
    rw [this, if_neg]
    rintro ⟨_, e⟩
    have e := ((hx _).1 e).1
    rw [e] at hp
    exact hp rfl
/-! texts -/
theorem uqF_len : ∀ (n : Nat) (l acc : List UInt8) (k : Nat) (r : List UInt8 × Nat), uqF n l acc k = some r → r.1.length + k ≤ acc.length + r.2 ∧ r.2 ≤ k + l.length
  | 0, _, _, _, _, h => by cases h
  | n + 1, l, acc, k, r, h => by
    unfold uqF at h
    split at h
    · cases h
    · rename_i h1
      have hl := List.length_pos_iff.2 h1
      have ho := oneS_ok l hl
      split at h
      · obtain rfl := Option.some.inj h
        exact ⟨by dsimp only; omega, by dsimp only; omega⟩
      · split at h
        · cases h
        · have := uqF_len n _ _ _ _ h
          rw [List.length_drop] at this
          simp only [List.length_append, List.length_cons, List.length_nil] at this
          omega
theorem unq_size (s : ByteArray) : (unqS s).text.size ≤ s.size := by
  unfold unqS
  split
  · exact Nat.zero_le _
  · split
    · exact Nat.zero_le _
    · rename_i acc k h
      split
      · have := uqF_len _ _ _ _ _ h
        simp only [List.length_nil, List.length_drop, len_bytes] at this
        show (⟨acc.toArray⟩ : ByteArray).size ≤ _
        rw [lsize]; omega
      · exact Nat.zero_le _
theorem unh_err (s : ByteArray) : (unhS s).2 = 0 ∨ (unhS s).2 = 2 := by
  unfold unhS; (repeat' split) <;> simp
theorem unhL_len : ∀ l : List UInt8, 2 * (unhL l).1.length ≤ l.length
  | [] => by simp [unhL]
  | [_] => by simp [unhL]
  | a :: b :: r => by
    have := unhL_len r
    unfold unhL
    split <;> simp only [List.length_cons, List.length_nil] <;> omega
theorem unh_size (s : ByteArray) : (unhS s).1.size ≤ s.size := by
  unfold unhS
  have h := unhL_len s.data.toList
  rw [len_bytes] at h
  (repeat' split)
  · exact Nat.zero_le _
  · rw [lsize]; omega
  · exact Nat.zero_le _
def txtP (k : Int) (s : ByteArray) : PV := if (unqS s).err ≠ 0 ∨ (unqS s).len ≠ s.size then .err 2
  else if k = 8 then (if (unhS (unqS s).text).2 ≠ 0 then .err 2 else if 4096 < (unhS (unqS s).text).1.size then .err 3 else ⟨k, 0, (unhS (unqS s).text).1, 0⟩)
  else (if validS (unqS s).text = false then .err 7 else if 4096 < (unqS s).text.size then .err 3 else ⟨k, 0, (unqS s).text, 0⟩)
def parP (k : Int) (s : ByteArray) : PV := if isS k = false then .err 1
  else if k = 1 then (if s.data.toList = trueB then ⟨1, 1, ⟨#[]⟩, 0⟩ else if s.data.toList = falseB then ⟨1, 0, ⟨#[]⟩, 0⟩ else .err 2)
  else if k = 6 then dblP s.data.toList
  else if k = 7 then txtP 7 s
  else if k = 8 then (if s.data.toList.head? = some 120 then txtP 8 (s.extract 1 s.size) else .err 2)
  else numP k s.data.toList
end Go.Proofs.YtihpeophmijaaaaDoor.Y
