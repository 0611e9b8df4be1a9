/- Frames and heads, plain. No program in sight (but for the shapes of strings that the walks leave). -/
import Derived.Test.YtmdkfbmpenohiaaDoorBunV
import Derived.Test.YtmdkfbmpenohiaaDoorBunOw
import Derived.Test.YtmdkfbmpenohiaaDoorStat
import GoSem.Op.String
namespace Go.Proofs.YtmdkfbmpenohiaaDoor
open Go

def emptyB : ByteArray := ⟨#[]⟩
/-- a taker takes a number: the number, what is left, the error. -/
structure TkN where
  num : Nat
  rest : ByteArray
  err : Int
def takeN (s : ByteArray) (e : Int) : TkN := if e = 0 then ⟨(TakeS s).1, s.extract (TakeS s).2.1 s.size, (TakeS s).2.2⟩ else ⟨0, s, e⟩
structure TkT where
  text : ByteArray
  rest : ByteArray
  err : Int
def textOf (t : TkN) : TkT := if t.err = 0 then (if t.rest.size < t.num then ⟨⟨#[]⟩, t.rest, 4⟩ else ⟨t.rest.extract 0 t.num, t.rest.extract t.num t.rest.size, 0⟩) else ⟨⟨#[]⟩, t.rest, t.err⟩
def takeX (s : ByteArray) (e : Int) : TkT := textOf (takeN s e)
/-- pairs of a key and a value. -/
structure MtL where
  metas : List (ByteArray × ByteArray)
  rest : ByteArray
  err : Int
def metasF : Nat → ByteArray → Int → List (ByteArray × ByteArray) → MtL
  | 0, s, e, acc => ⟨acc, s, e⟩
  | k + 1, s, e, acc => if e = 0 then metasF k (takeX (takeX s e).rest (takeX s e).err).rest (takeX (takeX s e).rest (takeX s e).err).err (acc ++ [((takeX s e).text, (takeX (takeX s e).rest (takeX s e).err).text)]) else ⟨acc, s, e⟩
structure HdV where
  svc : ByteArray
  mth : ByteArray
  late : Int
  metas : List (ByteArray × ByteArray)
def hdZero : HdV := ⟨⟨#[]⟩, ⟨#[]⟩, 0, []⟩
def keyC (c : UInt8) : Bool := decide ((97 ≤ c.toNat ∧ c.toNat ≤ 122) ∨ (48 ≤ c.toNat ∧ c.toNat ≤ 57) ∨ c.toNat = 45)
def keyOk (l : List UInt8) : Bool := decide (1 ≤ l.length ∧ l.length ≤ 40) && l.all keyC
/-- the first error of the metadata from place i on; p: the key before. -/
def metaE : Nat → ByteArray → List (ByteArray × ByteArray) → Int
  | _, _, [] => 0
  | i, p, (k, v) :: r => if keyOk k.data.toList = false then 8 else if 200 < v.size then 3 else if validS v = false then 7 else if 0 < i ∧ Op.bytesLess p.toList k.toList = false then 11 else metaE (i + 1) k r
def headE (h : HdV) : Int :=
  if fullOk h.svc.data.toList = false ∨ partOk h.mth.data.toList = false then 8 else if h.late < 0 ∨ 1099511627776 < h.late then 6 else if 16 < h.metas.length then 3 else metaE 0 ⟨#[]⟩ h.metas
def sized (s : ByteArray) : List UInt8 := putL s.size ++ s.data.toList
def metaB (m : ByteArray × ByteArray) : List UInt8 := sized m.1 ++ sized m.2
def headL (h : HdV) : List UInt8 := sized h.svc ++ sized h.mth ++ putL h.late.toNat ++ putL h.metas.length ++ h.metas.flatMap metaB
structure HdW where
  bytes : List UInt8
  err : Int
def headW (h : HdV) : HdW := if headE h = 0 then ⟨headL h, 0⟩ else ⟨[], headE h⟩
structure HdR where
  head : HdV
  err : Int
def hdEnd (data : ByteArray) (h : HdV) (late : Nat) (m : MtL) : HdR :=
  if m.err ≠ 0 then ⟨hdZero, m.err⟩ else if m.rest.size ≠ 0 then ⟨hdZero, 18⟩ else if 1099511627776 < late then ⟨hdZero, 6⟩
  else if headE { h with late := late, metas := m.metas } ≠ 0 then ⟨hdZero, headE { h with late := late, metas := m.metas }⟩
  else if headL { h with late := late, metas := m.metas } ≠ data.data.toList then ⟨hdZero, 5⟩ else ⟨{ h with late := late, metas := m.metas }, 0⟩
def hdMetas (n : Nat) (s : ByteArray) (e : Int) : MtL := if e = 0 then (if 16 < n then ⟨[], s, 3⟩ else metasF n s 0 []) else ⟨[], s, e⟩
def hdRead (data : ByteArray) : HdR :=
  let a := takeX data 0
  let b := takeX a.rest a.err
  let c := takeN b.rest b.err
  let d := takeN c.rest c.err
  hdEnd data ⟨a.text, b.text, 0, []⟩ c.num (hdMetas d.num d.rest d.err)
/-! frames -/
structure FrV where
  kind : Int
  strm : Int
  num : Int
  data : ByteArray
def strmB (k s : Int) : Bool := if k = 7 ∨ k = 8 ∨ k = 9 then decide (s = 0) else if k = 6 then decide (0 ≤ s) else decide (1 ≤ s)
def numB (k n : Int) : Bool := if k = 1 then decide (1 ≤ n ∧ n ≤ 4) else if k = 5 then decide (1 ≤ n ∧ n ≤ 13) else if k = 6 then decide (1 ≤ n ∧ n ≤ 1048576) else if k = 7 ∨ k = 8 then decide (0 ≤ n ∧ n ≤ 4294967295) else if k = 9 then decide (0 ≤ n ∧ n ≤ 2147483647) else decide (n = 0)
def fillB (k : Int) (d : ByteArray) : Bool := decide (k = 1 ∨ k = 2 ∨ k = 4) || decide (d.size = 0)
def frameE (f : FrV) : Int :=
  if f.kind < 1 ∨ 9 < f.kind ∨ strmB f.kind f.strm = false ∨ numB f.kind f.num = false ∨ fillB f.kind f.data = false then 1
  else if 16384 < f.data.size ∨ 2147483647 < f.strm then 3
  else if f.kind = 1 then (hdRead f.data).err else if f.kind = 4 then (unpackS f.data).err else 0
theorem less_not : ∀ a b : List UInt8, (Op.bytesLess b a || b == a) = !(Op.bytesLess a b)
  | [], [] => rfl
  | [], _ :: _ => rfl
  | _ :: _, [] => rfl
  | x :: a, y :: b => by
    have ih := less_not a b
    simp only [Op.bytesLess]
    have hc : ((y :: b) == (x :: a)) = ((y == x) && (b == a)) := rfl
    rw [hc]
    rcases Nat.lt_trichotomy x.toNat y.toNat with h | h | h
    · have h1 : x < y := UInt8.lt_iff_toNat_lt.2 h
      have h2 : ¬ y < x := fun e => by have := UInt8.lt_iff_toNat_lt.1 e; omega
      have h3 : ¬ y = x := fun e => by rw [e] at h; omega
      simp [h1, h2, h3]
    · have h3 : x = y := UInt8.toNat_inj.1 h
      subst h3
      have h2 : ¬ x < x := fun e => by have := UInt8.lt_iff_toNat_lt.1 e; omega
      simp [h2, ih]
    · have h1 : y < x := UInt8.lt_iff_toNat_lt.2 h
      have h2 : ¬ x < y := fun e => by have := UInt8.lt_iff_toNat_lt.1 e; omega
      have h3 : ¬ x = y := fun e => by rw [e] at h; omega
      simp [h1, h2, h3]
def prevK (ms : List (ByteArray × ByteArray)) (k : Nat) : ByteArray := (ms.getD (k - 1) (⟨#[]⟩, ⟨#[]⟩)).1
theorem prevK_succ {ms : List (ByteArray × ByteArray)} {k : Nat} (h : k < ms.length) : prevK ms (k + 1) = ms[k].1 := by
  unfold prevK; rw [show k + 1 - 1 = k by omega, List.getD_eq_getElem?_getD, List.getElem?_eq_getElem h]; rfl
theorem metaE_step {ms : List (ByteArray × ByteArray)} {k : Nat} (h : k < ms.length) (p : ByteArray) : metaE k p (ms.drop k) =
    if keyOk ms[k].1.data.toList = false then 8 else if 200 < ms[k].2.size then 3 else if validS ms[k].2 = false then 7 else if 0 < k ∧ Op.bytesLess p.toList ms[k].1.toList = false then 11 else metaE (k + 1) (prevK ms (k + 1)) (ms.drop (k + 1)) := by
  rw [prevK_succ h, List.drop_eq_getElem_cons h]
  rfl
theorem keyOk_at {l : List UInt8} {k : Nat} (h : k < l.length) (hg : keyC l[k] = false) : keyOk l = false := by
  unfold keyOk
  have : l.all keyC = false := by rw [List.all_eq_false]; exact ⟨l[k], List.getElem_mem h, by simp [hg]⟩
  rw [this, Bool.and_false]
theorem keyOk_ok {l : List UInt8} (h1 : 1 ≤ l.length ∧ l.length ≤ 40) (hg : ∀ k (h : k < l.length), keyC l[k] = true) : keyOk l = true := by
  unfold keyOk
  rw [decide_eq_true h1, Bool.true_and, List.all_eq_true]
  intro x hx
  obtain ⟨k, hk, rfl⟩ := List.mem_iff_getElem.1 hx
  exact hg k hk
theorem keyOk_len {l : List UInt8} (h : ¬ (1 ≤ l.length ∧ l.length ≤ 40)) : keyOk l = false := by unfold keyOk; rw [decide_eq_false h]; rfl
theorem keyC_facts (c : UInt8) : (keyC c = true ∧ (97 ≤ c.toNat ∧ c.toNat ≤ 122)) ∨ (keyC c = true ∧ 48 ≤ c.toNat ∧ c.toNat ≤ 57) ∨ (keyC c = true ∧ c.toNat = 45) ∨ (keyC c = false ∧ (c.toNat < 97 ∨ 122 < c.toNat) ∧ (c.toNat < 48 ∨ 57 < c.toNat) ∧ c.toNat ≠ 45) := by
  unfold keyC; simp only [decide_eq_true_eq, decide_eq_false_iff_not]; omega
end Go.Proofs.YtmdkfbmpenohiaaDoor
