/- Texts of this claim merged into one: KLaid, KLyA, KBlk. -/
import Derived.Test.YtklcfjlmlbnkaaaGreatDoorChecked
import Derived.LaidMore
import Derived.OpenShut
import Derived.LaidHandle
import Derived.ChangeBears2
import Derived.MakeChecks
import Derived.WalkKit
import Derived.Below
import Derived.Lib.Hide
import Derived.Laws.Rows
namespace Go.Proofs.YtklcfjlmlbnkaaaGreatDoor
open Go.RowKit Go.ChangeShapes
end Go.Proofs.YtklcfjlmlbnkaaaGreatDoor
namespace Go.Proofs.YtklcfjlmlbnkaaaGreatDoor.Y
structure PkV where
  seq : Int
  ack : Int
  data : ByteArray
structure jQ where
  next : Int
  wait : List PkV
  exp : Int
  early : List PkV
  again : Int
  due : Bool
def yA : jQ := ⟨1, [], 1, [], 0, false⟩
def jH (d : ByteArray) : Bool := decide (d.size ≠ 0) && decide (d.size ≤ 16384)
def gH (l : jQ) (d : ByteArray) : Int := if jH d = false then 1 else if 64 ≤ l.wait.length ∨ 1099511627776 ≤ l.next then 22 else 0
def gI (l : jQ) (d : ByteArray) : PkV := ⟨l.next, l.exp - 1, d⟩
def lU (l : jQ) (d : ByteArray) : jQ := { l with wait := l.wait ++ [gI l d], next := l.next + 1 }
def dY (l : List PkV) (n : Int) : List PkV := l.dropWhile fun p => decide (p.seq ≤ n)
def bT : List PkV → Int → List ByteArray → List PkV × Int × List ByteArray
  | [], e, o => ([], e, o)
  | p :: r, e, o => if p.seq = e then bT r (e + 1) (o ++ [p.data]) else (p :: r, e, o)
def xn (l : jQ) (d : ByteArray) : jQ × List ByteArray := ({ l with exp := (bT l.early (l.exp + 1) [d]).2.1, early := (bT l.early (l.exp + 1) [d]).1 }, (bT l.early (l.exp + 1) [d]).2.2)
def bU : List PkV → PkV → List PkV
  | [], p => [⟨p.seq, 0, p.data⟩]
  | q :: r, p => if q.seq < p.seq then q :: bU r p else if q.seq = p.seq then q :: r else ⟨p.seq, 0, p.data⟩ :: q :: r
def lV (l : jQ) (p : PkV) : Prop := jH p.data = false ∨ p.seq < 1 ∨ 1099511627776 ≤ p.seq ∨ l.exp < p.seq - 64
instance (l : jQ) (p : PkV) : Decidable (lV l p) := by unfold lV; infer_instance
def cK (l : jQ) (p : PkV) : jQ × List ByteArray :=
  if lV l p then ({ l with wait := dY l.wait p.ack }, [])
  else if p.seq = l.exp then xn { l with wait := dY l.wait p.ack, due := true } p.data
  else if l.exp < p.seq then ({ l with wait := dY l.wait p.ack, due := true, early := bU l.early p }, [])
  else ({ l with wait := dY l.wait p.ack, due := true }, [])
def fV (l : jQ) : jQ × PkV := ({ l with due := false }, ⟨0, l.exp - 1, ⟨#[]⟩⟩)
def dy (l : jQ) : jQ × List PkV := ({ l with again := min (l.again + 1) 1099511627776 }, l.wait.map fun p => { p with ack := l.exp - 1 })
def sW (l : jQ) : Bool := decide (l.wait.length = 0) && !l.due
def gJ (cs : List ByteArray) (i : Nat) : PkV := ⟨(i : Int) + 1, 0, (cs[i]?).getD ⟨#[]⟩⟩
def eR (cs : List ByteArray) (a n : Nat) : List PkV := (List.range' a n).map (gJ cs)
theorem im (cs : List ByteArray) (i : Nat) : (gJ cs i).seq = (i : Int) + 1 := rfl
theorem nU {cs : List ByteArray} {i : Nat} (x : List ByteArray) (h : i < cs.length) : gJ (cs ++ x) i = gJ cs i := by
  unfold gJ
  rw [List.getElem?_append_left h]
theorem Ap {cs : List ByteArray} {a n : Nat} (x : List ByteArray) (h : a + n ≤ cs.length) : eR (cs ++ x) a n = eR cs a n := by
  unfold eR
  refine List.map_congr_left fun i hi => nU x ?_
  have := List.mem_range'.1 hi
  omega
structure qg (cs : List ByteArray) (a : Nat) (l : jQ) : Prop where
  next : l.next = (cs.length : Int) + 1
  exp : l.exp = 1
  early : l.early = []
  due : l.due = false
  al : a ≤ cs.length
  most : cs.length ≤ a + 64
  wait : l.wait = eR cs a (cs.length - a)
structure RcvI (cs : List ByteArray) (k : Nat) (l : jQ) : Prop where
  next : l.next = 1
  wait : l.wait = []
  exp : l.exp = (k : Int) + 1
  kl : k ≤ cs.length
  early : ∀ p ∈ l.early, ∃ i, k < i ∧ i < cs.length ∧ i ≤ k + 64 ∧ p = gJ cs i
  asc : l.early.Pairwise fun p q => p.seq < q.seq
def Ae (k : Nat) (l : jQ) (i : Nat) : Prop := i < k ∨ ∃ p ∈ l.early, p.seq = (i : Int) + 1
theorem RcvI.more {cs x : List ByteArray} {k : Nat} {l : jQ} (h : RcvI cs k l) : RcvI (cs ++ x) k l :=
  ⟨h.next, h.wait, h.exp, by rw [List.length_append]; exact Nat.le_trans h.kl (Nat.le_add_right _ _), fun p hp => by
    obtain ⟨i, h1, h2, h3, h4⟩ := h.early p hp
    exact ⟨i, h1, by rw [List.length_append]; omega, h3, by rw [h4, nU x h2]⟩, h.asc⟩
theorem Dc : qg [] 0 yA := ⟨rfl, rfl, rfl, rfl, Nat.le_refl _, by decide, rfl⟩
theorem Dd : RcvI [] 0 yA := ⟨rfl, rfl, rfl, Nat.le_refl _, (fun _ h => nomatch h), List.Pairwise.nil⟩
theorem Aq {cs : List ByteArray} {a : Nat} {l : jQ} (h : qg cs a l) (d : ByteArray) (hl : l.wait.length < 64) : qg (cs ++ [d]) a (lU l d) ∧ gI l d = gJ (cs ++ [d]) cs.length := by
  have hp : gI l d = gJ (cs ++ [d]) cs.length := by
    unfold gI gJ
    rw [h.next, h.exp, List.getElem?_append_right (Nat.le_refl _)]
    simp
  have ha := h.al
  refine ⟨⟨?_, h.exp, h.early, h.due, by rw [List.length_append]; omega, ?_, ?_⟩, hp⟩
  · show l.next + 1 = _
    rw [h.next, List.length_append]
    simp
  · rw [h.wait] at hl
    unfold eR at hl
    rw [List.length_map, List.length_range'] at hl
    rw [List.length_append, List.length_singleton]
    omega
  · show l.wait ++ [gI l d] = _
    rw [hp, h.wait, List.length_append, List.length_singleton, ← Ap [d] (show a + (cs.length - a) ≤ cs.length by omega)]
    unfold eR
    have e : cs.length + 1 - a = (cs.length - a) + 1 := by omega
    rw [e, List.range'_concat, List.map_append]
    have e2 : a + 1 * (cs.length - a) = cs.length := by omega
    rw [e2]
    rfl
theorem sX (cs : List ByteArray) : ∀ (n a b : Nat), a ≤ b → b ≤ a + n → dY (eR cs a n) (b : Int) = eR cs b (a + n - b)
  | 0, a, b, h1, h2 => by
    have : a + 0 - b = 0 := by omega
    rw [this]
    rfl
  | n + 1, a, b, h1, h2 => by
    unfold eR
    rw [List.range'_succ, List.map_cons]
    unfold dY
    by_cases h : a = b
    · subst h
      have e : a + (n + 1) - a = n + 1 := by omega
      rw [List.dropWhile_cons_of_neg (by rw [decide_eq_true_eq, im]; omega), e, List.range'_succ, List.map_cons]
    · rw [List.dropWhile_cons_of_pos (by rw [decide_eq_true_eq, im]; omega)]
      have := sX cs n (a + 1) b (by omega) (by omega)
      unfold eR dY at this
      rw [this]
      have e : a + 1 + n - b = a + (n + 1) - b := by omega
      rw [e]
theorem De {cs : List ByteArray} {a k : Nat} {l r : jQ} (h : qg cs a l) (hr : RcvI cs k r) (hak : a ≤ k) : qg cs k (cK l (fV r).2).1 := by
  have e : cK l (fV r).2 = ({ l with wait := dY l.wait (r.exp - 1) }, []) := by
    unfold cK
    rw [if_pos (.inl rfl)]
    rfl
  have hk := hr.kl
  have hm := h.most
  rw [e]
  refine ⟨h.next, h.exp, h.early, h.due, hk, by omega, ?_⟩
  show dY l.wait (r.exp - 1) = _
  have e2 : r.exp - 1 = (k : Int) := by rw [hr.exp]; omega
  rw [e2, h.wait, sX cs _ a k hak (by omega)]
  have e3 : a + (cs.length - a) - k = cs.length - k := by omega
  rw [e3]
theorem yB (cs : List ByteArray) (a n : Nat) : ((eR cs a n).map fun p => { p with ack := 0 }) = eR cs a n := by
  unfold eR
  rw [List.map_map]
  exact List.map_congr_left fun _ _ => rfl
theorem Df {cs : List ByteArray} {a : Nat} {l : jQ} (h : qg cs a l) : qg cs a (dy l).1 ∧ (dy l).2 = eR cs a (cs.length - a) := by
  refine ⟨⟨h.next, h.exp, h.early, h.due, h.al, h.most, h.wait⟩, ?_⟩
  show (l.wait.map fun p => { p with ack := l.exp - 1 }) = _
  rw [h.exp, h.wait]
  exact yB cs a _
theorem Dg {cs : List ByteArray} {k : Nat} {r : jQ} (h : RcvI cs k r) : RcvI cs k (fV r).1 := ⟨h.next, h.wait, h.exp, h.kl, h.early, h.asc⟩
theorem qw {cs : List ByteArray} {k1 k' : Nat} (h1 : k1 + 1 ≤ k') (h2 : k' ≤ cs.length) : (gJ cs k1).data :: (cs.drop (k1 + 1)).take (k' - (k1 + 1)) = (cs.drop k1).take (k' - k1) := by
  have e : k' - k1 = (k' - (k1 + 1)) + 1 := by omega
  have hk : k1 < cs.length := by omega
  rw [e, List.drop_eq_getElem_cons hk, List.take_succ_cons]
  unfold gJ
  rw [List.getElem?_eq_getElem hk]
  rfl
theorem Ar (cs : List ByteArray) : ∀ (l : List PkV) (k1 : Nat) (o : List ByteArray), k1 ≤ cs.length → (∀ p ∈ l, ∃ i, k1 ≤ i ∧ i < cs.length ∧ p = gJ cs i) → (l.Pairwise fun p q => p.seq < q.seq) →
    ∃ k', k1 ≤ k' ∧ k' ≤ cs.length ∧ (bT l ((k1 : Int) + 1) o).2.1 = (k' : Int) + 1 ∧ (bT l ((k1 : Int) + 1) o).2.2 = o ++ (cs.drop k1).take (k' - k1) ∧ (bT l ((k1 : Int) + 1) o).1.Sublist l ∧
      (∀ p ∈ (bT l ((k1 : Int) + 1) o).1, (k' : Int) + 1 < p.seq) ∧ (∀ p ∈ l, p.seq < (k' : Int) + 1 ∨ p ∈ (bT l ((k1 : Int) + 1) o).1)
  | [], k1, o, hk, _, _ => ⟨k1, Nat.le_refl _, hk, rfl, by simp [bT], List.Sublist.refl _, fun _ h => by simp [bT] at h, fun _ h => by cases h⟩
  | p :: r, k1, o, hk, hl, ha => by
    obtain ⟨i, h1, h2, h3⟩ := hl p (List.mem_cons_self ..)
    obtain ⟨ha1, ha2⟩ := List.pairwise_cons.1 ha
    have hps : p.seq = (i : Int) + 1 := by rw [h3]; rfl
    by_cases h : p.seq = (k1 : Int) + 1
    · have hi : i = k1 := by omega
      subst hi
      have e : bT (p :: r) ((i : Int) + 1) o = bT r (((i + 1 : Nat) : Int) + 1) (o ++ [p.data]) := by
        rw [bT, if_pos h]
        push_cast
        rfl
      obtain ⟨k', g1, g2, g3, g4, g5, g6, g7⟩ := Ar cs r (i + 1) (o ++ [p.data]) (by omega) (fun q hq => by
        obtain ⟨j, j1, j2, j3⟩ := hl q (List.mem_cons_of_mem _ hq)
        have := ha1 q hq
        rw [j3, im] at this
        exact ⟨j, by omega, j2, j3⟩) ha2
      rw [e]
      refine ⟨k', by omega, g2, g3, ?_, g5.cons _, g6, fun q hq => ?_⟩
      · rw [g4, List.append_assoc, h3, List.singleton_append, qw g1 g2]
      · rcases List.mem_cons.1 hq with rfl | hq
        · exact .inl (by omega)
        · exact g7 q hq
    · have e : bT (p :: r) ((k1 : Int) + 1) o = (p :: r, (k1 : Int) + 1, o) := by rw [bT, if_neg h]
      rw [e]
      refine ⟨k1, Nat.le_refl _, hk, rfl, by simp, List.Sublist.refl _, fun q hq => ?_, fun q hq => .inr hq⟩
      rcases List.mem_cons.1 hq with rfl | hq
      · omega
      · have := ha1 q hq
        omega
theorem ow {x p : PkV} : ∀ {l : List PkV}, x ∈ bU l p → x ∈ l ∨ x = ⟨p.seq, 0, p.data⟩
  | [], h => by simp only [bU, List.mem_singleton] at h; exact .inr h
  | q :: r, h => by
    unfold bU at h
    split at h
    · rcases List.mem_cons.1 h with rfl | h
      · exact .inl (List.mem_cons_self ..)
      · exact (ow h).imp (List.mem_cons_of_mem _) id
    · split at h
      · exact .inl h
      · rcases List.mem_cons.1 h with h | h
        · exact .inr h
        · exact .inl h
theorem sY {x p : PkV} : ∀ {l : List PkV}, x ∈ l → x ∈ bU l p
  | q :: r, h => by
    unfold bU
    split
    · rcases List.mem_cons.1 h with rfl | h
      · exact List.mem_cons_self ..
      · exact List.mem_cons_of_mem _ (sY h)
    · split
      · exact h
      · exact List.mem_cons_of_mem _ h
theorem sZ {p : PkV} : ∀ {l : List PkV}, ∃ x ∈ bU l p, x.seq = p.seq
  | [] => ⟨_, List.mem_singleton.2 rfl, rfl⟩
  | q :: r => by
    unfold bU
    split
    · obtain ⟨x, h1, h2⟩ := sZ (p := p) (l := r)
      exact ⟨x, List.mem_cons_of_mem _ h1, h2⟩
    · split
      · rename_i h; exact ⟨q, List.mem_cons_self .., h⟩
      · exact ⟨_, List.mem_cons_self .., rfl⟩
theorem te {p : PkV} : ∀ {l : List PkV}, (l.Pairwise fun p q => p.seq < q.seq) → (bU l p).Pairwise fun p q => p.seq < q.seq
  | [], _ => List.pairwise_singleton _ _
  | q :: r, h => by
    obtain ⟨h1, h2⟩ := List.pairwise_cons.1 h
    unfold bU
    split
    · rename_i hq
      refine List.pairwise_cons.2 ⟨fun x hx => ?_, te h2⟩
      rcases ow hx with hx | hx
      · exact h1 x hx
      · rw [hx]; exact hq
    · rename_i hq
      split
      · exact h
      · rename_i hq2
        refine List.pairwise_cons.2 ⟨fun x hx => ?_, h⟩
        show p.seq < x.seq
        rcases List.mem_cons.1 hx with rfl | hx
        · omega
        · have := h1 x hx
          omega
theorem tf {cs : List ByteArray} {k : Nat} {l : jQ} (h : RcvI cs k l) {i : Nat} (hi : i < cs.length) (hn : cs.length < 1000000000) (hp : jH (gJ cs i).data = true) :
    ∃ k', k ≤ k' ∧ RcvI cs k' (cK l (gJ cs i)).1 ∧ (cK l (gJ cs i)).2 = (cs.drop k).take (k' - k) ∧ (∀ j, Ae k l j → Ae k' (cK l (gJ cs i)).1 j) ∧ (i ≤ k + 64 → Ae k' (cK l (gJ cs i)).1 i) := by
  have hx := h.exp
  have hw : dY l.wait (gJ cs i).ack = [] := by rw [h.wait]; rfl
  have hs : (gJ cs i).seq = (i : Int) + 1 := rfl
  unfold cK
  rw [hw]
  by_cases hno : lV l (gJ cs i)
  · rw [if_pos hno]
    refine ⟨k, Nat.le_refl _, ⟨h.next, rfl, h.exp, h.kl, h.early, h.asc⟩, by simp, fun _ hj => hj, fun hi2 => ?_⟩
    exfalso
    unfold lV at hno
    rw [hs, hx] at hno
    rcases hno with hno | hno
    · rw [hp] at hno; cases hno
    · omega
  rw [if_neg hno]
  have hfar : i ≤ k + 64 := by
    unfold lV at hno
    rw [hs, hx] at hno
    omega
  by_cases he : (gJ cs i).seq = l.exp
  · rw [if_pos he]
    have hik : i = k := by omega
    subst hik
    unfold xn
    dsimp only
    have ee : l.exp + 1 = ((i + 1 : Nat) : Int) + 1 := by rw [hx]; push_cast; omega
    rw [ee]
    obtain ⟨k', g1, g2, g3, g4, g5, g6, g7⟩ := Ar cs l.early (i + 1) [(gJ cs i).data] (by omega) (fun p hp => by
      obtain ⟨j, j1, j2, _, j3⟩ := h.early p hp
      exact ⟨j, by omega, j2, j3⟩) h.asc
    refine ⟨k', by omega, ⟨h.next, rfl, g3, g2, fun p hp => ?_, h.asc.sublist g5⟩, ?_, fun j hj => ?_, fun _ => .inl (by omega)⟩
    · obtain ⟨j, j1, j2, j3, j4⟩ := h.early p (g5.subset hp)
      have := g6 p hp
      rw [j4, im] at this
      exact ⟨j, by omega, j2, by omega, j4⟩
    · rw [g4, List.singleton_append, qw g1 g2]
    · rcases hj with hj | ⟨p, hp, hj⟩
      · exact .inl (by omega)
      · rcases g7 p hp with g | g
        · exact .inl (by omega)
        · exact .inr ⟨p, g, hj⟩
  · rw [if_neg he]
    by_cases hl : l.exp < (gJ cs i).seq
    · rw [if_pos hl]
      refine ⟨k, Nat.le_refl _, ⟨h.next, rfl, h.exp, h.kl, fun p hp => ?_, te h.asc⟩, by simp, fun j hj => ?_, fun _ => .inr sZ⟩
      · rcases ow hp with hp | hp
        · exact h.early p hp
        · exact ⟨i, by omega, hi, hfar, by rw [hp]; rfl⟩
      · rcases hj with hj | ⟨p, hp, hj⟩
        · exact .inl hj
        · exact .inr ⟨p, sY hp, hj⟩
    · rw [if_neg hl]
      exact ⟨k, Nat.le_refl _, ⟨h.next, rfl, h.exp, h.kl, h.early, h.asc⟩, by simp, fun _ hj => hj, fun _ => .inl (by omega)⟩
theorem Dh {cs : List ByteArray} {a k : Nat} {l : jQ} (h : RcvI cs k l) (hak : a ≤ k) (ha : ∀ i, a ≤ i → i < cs.length → Ae k l i) : k = cs.length := by
  have hk := h.kl
  by_cases hc : k < cs.length
  · exfalso
    rcases ha k hak hc with hh | ⟨p, hp, hh⟩
    · omega
    · obtain ⟨i, h1, _, _, h4⟩ := h.early p hp
      rw [h4, im] at hh
      omega
  · omega
end Go.Proofs.YtklcfjlmlbnkaaaGreatDoor.Y
namespace Go.Proofs.YtklcfjlmlbnkaaaGreatDoor
open Go.RowKit
def Bk (w : World) (g : Nat) (t : TypeId) (cs : Array Value) : Prop := w.heap[g]? = some (.cells cs t (0, 0))
theorem Bk.here {w : World} {g : Nat} {t : TypeId} {cs : Array Value} (h : Bk w g t cs) : g < w.heap.size := (Array.getElem?_eq_some_iff.1 h).1
theorem Bk.at_ {w : World} {g : Nat} {t : TypeId} {cs : Array Value} (h : Bk w g t cs) (i : Nat) {v : Value} (hv : cs[i]? = some v) : w.cell? ⟨g, i, none⟩ = some v := by
  rw [cell_of_row w g i cs t (0, 0) h, hv]
theorem Bk.free {w : World} {g : Nat} {t : TypeId} {cs : Array Value} (h : Bk w g t cs) : ∀ i, w.frozen? ⟨g, i, none⟩ = false := fun i => frozen_of_row w g i cs t h
theorem Bk.new (w : World) (t : TypeId) (cs : Array Value) : Bk (w.alloc (.cells cs t)) w.heap.size t cs := heap_alloc_new w _
theorem Bk.keep {w w' : World} {g : Nat} {t : TypeId} {cs : Array Value} (h : Bk w g t cs) (hb : Below w.heap.size w w') : Bk w' g t cs := (hb.block g h.here).trans h
theorem Bk.more {w : World} {g : Nat} {t : TypeId} {cs : Array Value} (h : Bk w g t cs) (o : Obj) : Bk (w.alloc o) g t cs := h.keep ((Below.refl _ _).alloc (Nat.le_refl _) o)
theorem Bk.draw {w : World} {g : Nat} {t : TypeId} {cs : Array Value} (h : Bk w g t cs) : Bk w.drew g t cs := h
theorem Bk.put {w : World} {g : Nat} {t : TypeId} {cs : Array Value} (h : Bk w g t cs) (i : Nat) (v : Value) : Bk (w.setCell ⟨g, i, none⟩ v) g t (cs.setIfInBounds i v) := heap_setCell_same w g i cs t v h
structure AggT (P : Program) (ty : TypeId) (n : Nat) : Prop where
  agg : (match P.underlying ty with | some (.struct _) => true | some (.array _ _) => true | _ => false) = true
  size : (P.info? ty).map (·.size) = some n
theorem AggT.load {P : Program} {w : World} {g : Nat} {t ty : TypeId} {cs : Array Value} (h : AggT P ty cs.size) (hb : Bk w g t cs) : (loadVar ty ⟨g, 0, none⟩).run P w = .ok (.agg cs) w := by
  have h1 := h.agg
  cases hu : P.underlying ty with
  | none => rw [hu] at h1; cases h1
  | some d =>
    rw [hu] at h1
    exact run_loadVar_row w g t ty cs (0, 0) d hb hu (by cases d <;> simp_all) h.size
theorem dJ {P : Program} {fn : Func} {p q : Tmp} {ty : TypeId} (h : fn.results = #[.cell p ty, .tmp q]) (tmps : Array Value) {w : World} {g : Nat} {t : TypeId} {cs : Array Value} {v : Value}
    (hp : tmps.getD p undef = .pointer (some ⟨g, 0, none⟩)) (hq : tmps.getD q undef = v) (hb : Bk w g t cs) (ha : AggT P ty cs.size) : (results fn tmps).run P w = .ok (.tuple #[.agg cs, v]) w := by
  have hp' : tmps[p]?.getD undef = .pointer (some ⟨g, 0, none⟩) := by simpa using hp
  have hq' : tmps[q]?.getD undef = v := by simpa using hq
  simp [results, h, hp', hq', asAddr, ha.load hb]
theorem dS {P : Program} {fn : Func} {p q r : Tmp} {ty : TypeId} (h : fn.results = #[.cell p ty, .tmp q, .tmp r]) (tmps : Array Value) {w : World} {g : Nat} {t : TypeId} {cs : Array Value} {v u : Value}
    (hp : tmps.getD p undef = .pointer (some ⟨g, 0, none⟩)) (hq : tmps.getD q undef = v) (hr : tmps.getD r undef = u) (hb : Bk w g t cs) (ha : AggT P ty cs.size) : (results fn tmps).run P w = .ok (.tuple #[.agg cs, v, u]) w := by
  have hp' : tmps[p]?.getD undef = .pointer (some ⟨g, 0, none⟩) := by simpa using hp
  have hq' : tmps[q]?.getD undef = v := by simpa using hq
  have hr' : tmps[r]?.getD undef = u := by simpa using hr
  simp [results, h, hp', hq', hr', asAddr, ha.load hb]
end Go.Proofs.YtklcfjlmlbnkaaaGreatDoor
