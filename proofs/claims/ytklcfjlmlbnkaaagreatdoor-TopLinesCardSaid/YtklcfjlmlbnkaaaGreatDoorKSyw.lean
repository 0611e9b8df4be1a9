/- The walker, second form: slots and memory as lists, the world itself never written out. -/
import Derived.Test.YtklcfjlmlbnkaaaGreatDoorKBunA
import Derived.Test.YtklcfjlmlbnkaaaGreatDoorKBunG
import Derived.Deep.MidRow
import Derived.Laws.CopyRow
import Derived.Laws.AppendOwn
import Derived.Maps.AppendAt
import Derived.Laws.StructEq
import Derived.WalkSpells
import Derived.Lib.AppendStr
import Derived.WideLaws
namespace Go.Proofs.YtklcfjlmlbnkaaaGreatDoor.Y
open Go.RowKit
abbrev Cd := List (Bool × Bool)
abbrev bq := List (Nat × Cd × Value)
def lk {α : Type} (t : Nat) : List (Nat × α) → Option α
  | [] => none
  | (k, v) :: r => match Nat.beq k t with
    | true => some v
    | false => lk t r
theorem dU {α : Type} (t k : Nat) (v : α) (r : List (Nat × α)) : lk t ((k, v) :: r) = if k = t then some v else lk t r := by
  rw [lk]
  by_cases h : k = t
  · subst h; simp
  · have : Nat.beq k t = false := by rw [Bool.eq_false_iff]; intro e; exact h (Nat.eq_of_beq_eq_true e)
    rw [this, if_neg h]
def az : Cd → Bool
  | [] => true
  | (b, w) :: r => (b == w) && az r
def Sl (n : Nat) (a : Act) (S : bq) : Prop := a.defers = [] ∧ a.tmps.size = n ∧ ∀ t L v, lk t S = some (L, v) → a.tmps[t]? = some (if az L then v else undef)
theorem Sl.put {n : Nat} {a : Act} {S : bq} (h : Sl n a S) {d : Nat} (hd : d < n) {L : Cd} {v x : Value} (hx : x = if az L then v else undef) : Sl n (a.put (some d) x) ((d, L, v) :: S) := by
  obtain ⟨h1, h2, h3⟩ := h
  refine ⟨h1, by simp [Act.put, h2], fun t L' v' ht => ?_⟩
  rw [dU] at ht
  by_cases e : d = t
  · subst e
    rw [if_pos rfl] at ht
    obtain ⟨rfl, rfl⟩ := by simpa using ht
    simp [Act.put, h2, hd, hx]
  · rw [if_neg e] at ht
    have := h3 t L' v' ht
    simp only [Act.put]
    rw [Array.getElem?_setIfInBounds_ne e]
    exact this
def ev (S : bq) : Operand → Option (Cd × Value)
  | .tmp t => match lk t S with
    | some (L, v) => some (L, v)
    | none => none
  | .const v => some ([], v)
  | .global g => some ([], .pointer (some ⟨g, 0, none⟩))
  | .func f => some ([], .func (.func f) #[] #[])
def Suf (L' L : Cd) : Prop := L.drop (L.length - L'.length) = L'
theorem vK (L : Cd) : ∀ k, az L = true → az (L.drop k) = true := by
  induction L with
  | nil => intro k h; simp [az]
  | cons x r ih =>
    intro k h
    cases k with
    | zero => exact h
    | succ k => obtain ⟨b, w⟩ := x; simp only [az, Bool.and_eq_true] at h; exact ih k h.2
theorem Suf.holds {L' L : Cd} (h : Suf L' L) (hL : az L = true) : az L' = true := by
  unfold Suf at h; rw [← h]; exact vK _ _ hL
theorem av {n : Nat} {a : Act} {S : bq} (h : Sl n a S) {x : Operand} {L : Cd} {v : Value} (he : ev S x = some (L, v)) (hL : az L = true) : a.eval x = v := by
  cases x with
  | tmp t =>
    simp only [ev] at he
    cases ht : lk t S with
    | none => rw [ht] at he; cases he
    | some p =>
      obtain ⟨L', v'⟩ := p
      rw [ht] at he
      obtain ⟨rfl, rfl⟩ := by simpa using he
      have := h.2.2 t _ _ ht
      rw [hL] at this
      simp [Act.eval, this]
  | const u => obtain ⟨rfl, rfl⟩ := (by simpa [ev] using he); rfl
  | global g => obtain ⟨rfl, rfl⟩ := (by simpa [ev] using he); rfl
  | func f => obtain ⟨rfl, rfl⟩ := (by simpa [ev] using he); rfl
def vL (S : bq) : List Operand → Option (List Cd × List Value)
  | [] => some ([], [])
  | x :: r => match ev S x with
    | some (L, v) => match vL S r with
      | some (Ls, vs) => some (L :: Ls, v :: vs)
      | none => none
    | none => none
def nR (L : Cd) : List Cd → Prop
  | [] => True
  | l :: r => Suf l L ∧ nR L r
theorem jW {n : Nat} {a : Act} {S : bq} (h : Sl n a S) {L : Cd} (hL : az L = true) : ∀ (xs : List Operand) {Ls : List Cd} {vs : List Value}, vL S xs = some (Ls, vs) → nR L Ls → xs.map a.eval = vs := by
  intro xs
  induction xs with
  | nil => intro Ls vs he _; obtain ⟨rfl, rfl⟩ := (by simpa [vL] using he); rfl
  | cons x r ih =>
    intro Ls vs he hs
    simp only [vL] at he
    cases hx : ev S x with
    | none => rw [hx] at he; cases he
    | some p =>
      obtain ⟨L1, v1⟩ := p
      rw [hx] at he
      cases hr : vL S r with
      | none => rw [hr] at he; cases he
      | some q =>
        obtain ⟨Lr, vr⟩ := q
        rw [hr] at he
        obtain ⟨rfl, rfl⟩ := by simpa using he
        obtain ⟨h1, h2⟩ := hs
        simp only [List.map_cons, av h hx (h1.holds hL), ih hr h2]
def dI {α : Type} : List α → Nat → Option α
  | [], _ => none
  | x :: _, 0 => some x
  | _ :: r, k + 1 => dI r k
theorem gM {α : Type} : ∀ (l : List α) (k : Nat), dI l k = l[k]?
  | [], _ => rfl
  | _ :: _, 0 => rfl
  | _ :: r, k + 1 => by simpa [dI] using gM r k
def gd (l : List Oper) (S : bq) : Option (Nat × Bool) → Option Cd
  | none => some []
  | some (j, want) => match dI l j with
    | some o => match o.dst with
      | some d => match lk d S with
        | some (L, .bool b) => some ((b, want) :: L)
        | _ => none
      | none => none
    | none => none
theorem gh {l : List Oper} {S : bq} {n : Nat} {a : Act} (h : Sl n a S) {o : Oper} {L : Cd} (hg : gd l S o.guard = some L) : Region.wanted o (yielded l.toArray a.tmps) = az L := by
  unfold Region.wanted
  cases hgu : o.guard with
  | none => rw [hgu] at hg; obtain rfl := (by simpa [gd] using hg); rfl
  | some p =>
    obtain ⟨j, want⟩ := p
    rw [hgu] at hg
    simp only [gd] at hg
    cases hj : dI l j with
    | none => rw [hj] at hg; cases hg
    | some oj =>
      rw [hj] at hg
      simp only at hg
      cases hd : oj.dst with
      | none => rw [hd] at hg; cases hg
      | some d =>
        rw [hd] at hg
        simp only at hg
        split at hg
        · rename_i L' b hl
          obtain rfl := by simpa using hg
          have h3 := h.2.2 d _ _ hl
          rw [gM] at hj
          simp only [yielded, List.getElem?_toArray, hj, Option.bind_some, hd, h3, az]
          cases az L' <;> simp [undef]
        · cases hg
inductive Ent where
  | obj (g : Nat) (o : Obj)
  | own (a : Option Addr) (cap : Nat) (e : TypeId) (size n : Nat) (xs : List Value)
  | rep (F : Nat → Prop) (p : World → Prop)
abbrev Ent.cl (g : Nat) (T : TypeId) (cs : List Value) : Ent := .obj g (.cells ⟨cs⟩ T (0, 0))
def Ent.mut : Ent → Nat → Prop
  | .obj g _, k => k = g
  | .own a _ _ _ _ _, k => match a with
    | some a => k = a.block
    | none => False
  | .rep _ _, _ => False
def Ent.foot : Ent → Nat → Prop
  | .rep F _, k => F k
  | e, k => e.mut k
def Ent.ok (B : Nat) (w : World) : Ent → Prop
  | .obj g o => B ≤ g ∧ w.heap[g]? = some o
  | .own a cap e size n xs => w.ownsRow B e size (.slice a n cap) n xs
  | .rep F p => (∀ k, F k → k < w.heap.size) ∧ p w ∧ ∀ w1 w2, (∀ k, F k → w2.heap[k]? = w1.heap[k]?) → p w1 → p w2
theorem gN {w : World} {g : Nat} {o : Obj} (h : w.heap[g]? = some o) : g < w.heap.size := (Array.getElem?_eq_some_iff.1 h).1
theorem Ent.ok.mut_lt {B : Nat} {w : World} {e : Ent} (h : e.ok B w) {k : Nat} (hk : e.mut k) : B ≤ k ∧ k < w.heap.size := by
  cases e with
  | obj g o => subst hk; exact ⟨h.1, gN h.2⟩
  | own a cap e size n xs =>
    cases a with
    | none => exact hk.elim
    | some a => exact World.ownsRow.lt h k (by simp only [Ent.mut] at hk; simp [Value.ownBlock, hk])
  | rep F p => exact hk.elim
theorem Ent.ok.foot_lt {B : Nat} {w : World} {e : Ent} (h : e.ok B w) {k : Nat} (hk : e.foot k) : k < w.heap.size := by
  cases e with
  | obj g o => exact (Ent.ok.mut_lt (e := .obj g o) h hk).2
  | own a cap e size n xs => exact (Ent.ok.mut_lt (e := .own a cap e size n xs) h hk).2
  | rep F p => exact h.1 k hk
theorem Ent.mut_foot {e : Ent} {k : Nat} (h : e.mut k) : e.foot k := by
  cases e with
  | obj g o => exact h
  | own a cap e size n xs => exact h
  | rep F p => exact h.elim
theorem rM {w w' : World} {B : Nat} {e : TypeId} {size n cap : Nat} {a : Option Addr} {xs : List Value} (h : w.ownsRow B e size (.slice a n cap) n xs) (hk : ∀ k, (match a with | some a => k = a.block | none => False) → w'.heap[k]? = w.heap[k]?) : w'.ownsRow B e size (.slice a n cap) n xs := by
  refine ⟨h.1, ?_⟩
  rcases h.2 with hn | ⟨g, cap', cur, hv, hb, hg, rest⟩
  · exact .inl hn
  · refine .inr ⟨g, cap', cur, hv, hb, ?_, rest⟩
    simp only [Value.slice.injEq] at hv
    rw [hk g (by rw [hv.1])]
    exact hg
theorem Ent.ok.agree {B : Nat} {w w' : World} {e : Ent} (h : e.ok B w) (hs : w.heap.size ≤ w'.heap.size) (hk : ∀ k, e.foot k → w'.heap[k]? = w.heap[k]?) : e.ok B w' := by
  cases e with
  | obj g o => exact ⟨h.1, (hk g rfl).trans h.2⟩
  | own a cap e size n xs => exact rM h hk
  | rep F p => exact ⟨fun k hF => Nat.lt_of_lt_of_le (h.1 k hF) hs, h.2.2 w w' hk h.2.1, h.2.2⟩
def Apart (e f : Ent) : Prop := ∀ k, (e.mut k → f.foot k → False) ∧ (f.mut k → e.foot k → False)
def MemL (B : Nat) (w : World) : List Ent → Prop
  | [] => True
  | e :: M => e.ok B w ∧ (∀ f ∈ M, Apart e f) ∧ MemL B w M
def Mem (w0 w : World) (M : List Ent) : Prop := Below w0.heap.size w0 w ∧ MemL w0.heap.size w M
theorem Mem.below {w0 w : World} {M : List Ent} (h : Mem w0 w M) : Below w0.heap.size w0 w := h.1
theorem MemL.get {B : Nat} {w : World} : ∀ {M : List Ent} {i : Nat} {e : Ent}, MemL B w M → dI M i = some e → e.ok B w
  | [], _, _, _, hi => by cases hi
  | _ :: _, 0, e, h, hi => by obtain rfl := (by simpa [dI] using hi); exact h.1
  | _ :: _, i + 1, _, h, hi => MemL.get (i := i) h.2.2 hi
theorem MemL.mem {B : Nat} {w : World} : ∀ {M : List Ent}, MemL B w M → ∀ e ∈ M, e.ok B w
  | [], _, e, he => by cases he
  | _ :: _, h, e, he => by
    rcases List.mem_cons.1 he with rfl | he
    · exact h.1
    · exact MemL.mem h.2.2 e he
theorem MemL.agree {B : Nat} {w w' : World} (hs : w.heap.size ≤ w'.heap.size) : ∀ {M : List Ent}, (∀ e ∈ M, ∀ k, e.foot k → w'.heap[k]? = w.heap[k]?) → MemL B w M → MemL B w' M
  | [], _, _ => trivial
  | e :: _, hk, h => ⟨h.1.agree hs (hk e (List.mem_cons_self ..)), h.2.1, MemL.agree hs (fun f hf => hk f (List.mem_cons_of_mem _ hf)) h.2.2⟩
theorem MemL.keep {B : Nat} {w w' : World} (hb : Below w.heap.size w w') {M : List Ent} (h : MemL B w M) : MemL B w' M :=
  MemL.agree hb.size (fun e he k hk => hb.block k ((MemL.mem h e he).foot_lt hk)) h
theorem Mem.keep {w0 w w' : World} {M : List Ent} (h : Mem w0 w M) (hb : Below w.heap.size w w') : Mem w0 w' M := ⟨h.1.trans (hb.mono h.1.size), h.2.keep hb⟩
theorem Mem.drew {w0 w : World} {M : List Ent} (h : Mem w0 w M) : Mem w0 w.drew M := h.keep (Below.refl _ _).drew
theorem Mem.add {w0 w w' : World} {M : List Ent} {e : Ent} (h : Mem w0 w M) (hb : Below w.heap.size w w') (he : e.ok w0.heap.size w') (hm : ∀ k, e.mut k → w.heap.size ≤ k) (hf : ∀ k, e.foot k → ∀ f ∈ M, f.mut k → False) : Mem w0 w' (e :: M) := by
  have hk := h.keep hb
  refine ⟨hk.1, he, fun f hfM k => ⟨fun h1 h2 => ?_, fun h1 h2 => hf k h2 f hfM h1⟩, hk.2⟩
  have := (MemL.mem h.2 f hfM).foot_lt h2
  have := hm k h1
  omega
theorem Mem.newObj {w0 w : World} {M : List Ent} (h : Mem w0 w M) (o : Obj) : Mem w0 (w.alloc o) (.obj w.heap.size o :: M) := by
  refine h.add ((Below.refl _ _).alloc (Nat.le_refl _) o) ⟨h.1.size, heap_alloc_new w o⟩ (fun k hk => by rw [show k = w.heap.size from hk]; exact Nat.le_refl _) (fun k hk f hf hm => ?_)
  have := ((MemL.mem h.2 f hf).mut_lt hm).2
  rw [show k = w.heap.size from hk] at this
  omega
theorem Mem.new {w0 w : World} {M : List Ent} (h : Mem w0 w M) (T : TypeId) (cs : List Value) : Mem w0 (w.alloc (.cells ⟨cs⟩ T)) (.cl w.heap.size T cs :: M) := h.newObj _
def ek : List Ent → Nat → Ent → Option (List Ent)
  | [], _, _ => none
  | _ :: r, 0, e => some (e :: r)
  | x :: r, i + 1, e => match ek r i e with
    | some r' => some (x :: r')
    | none => none
theorem tq : ∀ {M M' : List Ent} {i : Nat} {e : Ent}, ek M i e = some M' → ∀ f ∈ M', f = e ∨ f ∈ M
  | [], _, _, _, h, _, _ => by cases h
  | x :: r, M', 0, e, h, f, hf => by
    obtain rfl := (by simpa [ek] using h)
    rcases List.mem_cons.1 hf with rfl | hf
    · exact .inl rfl
    · exact .inr (List.mem_cons_of_mem _ hf)
  | x :: r, M', i + 1, e, h, f, hf => by
    simp only [ek] at h
    cases hr : ek r i e with
    | none => rw [hr] at h; cases h
    | some r' =>
      rw [hr] at h
      obtain rfl := (by simpa using h)
      rcases List.mem_cons.1 hf with rfl | hf
      · exact .inr (List.mem_cons_self ..)
      · rcases tq hr f hf with h | h
        · exact .inl h
        · exact .inr (List.mem_cons_of_mem _ h)
theorem MemL.set {B : Nat} {w w' : World} {e e' : Ent} (hs : w.heap.size ≤ w'.heap.size) (ho : ∀ k, k < w.heap.size → ¬ e.mut k → w'.heap[k]? = w.heap[k]?) (he' : e'.ok B w') (hm : ∀ k, e'.mut k → e.mut k ∨ w.heap.size ≤ k) (hf : ∀ k, e'.foot k → e.foot k ∨ w.heap.size ≤ k) : ∀ {M M' : List Ent} {i : Nat}, MemL B w M → dI M i = some e → ek M i e' = some M' → MemL B w' M'
  | [], _, _, _, hi, _ => by cases hi
  | x :: r, M', 0, h, hi, h9 => by
    obtain rfl := (by simpa [dI] using hi)
    obtain rfl := (by simpa [ek] using h9)
    refine ⟨he', fun f hfr k => ⟨fun h1 h2 => ?_, fun h1 h2 => ?_⟩, MemL.agree hs (fun f hfr k hk => ?_) h.2.2⟩
    · rcases hm k h1 with h3 | h3
      · exact (h.2.1 f hfr k).1 h3 h2
      · have := (MemL.mem h.2.2 f hfr).foot_lt h2; omega
    · rcases hf k h2 with h3 | h3
      · exact (h.2.1 f hfr k).2 h1 h3
      · have := ((MemL.mem h.2.2 f hfr).mut_lt h1).2; omega
    · exact ho k ((MemL.mem h.2.2 f hfr).foot_lt hk) (fun hmx => (h.2.1 f hfr k).1 hmx hk)
  | x :: r, M', i + 1, h, hi, h9 => by
    simp only [ek] at h9
    cases hr : ek r i e' with
    | none => rw [hr] at h9; cases h9
    | some r' =>
      rw [hr] at h9
      obtain rfl := (by simpa using h9)
      have hi' : dI r i = some e := hi
      have her : e ∈ r := by rw [gM] at hi'; exact List.mem_of_getElem? hi'
      have hxe := h.2.1 e her
      refine ⟨h.1.agree hs (fun k hk => ho k (h.1.foot_lt hk) (fun hme => (hxe k).2 hme hk)), fun f hfr => ?_, MemL.set hs ho he' hm hf h.2.2 hi' hr⟩
      rcases tq hr f hfr with rfl | hfr
      · refine fun k => ⟨fun h1 h2 => ?_, fun h1 h2 => ?_⟩
        · rcases hf k h2 with h3 | h3
          · exact (hxe k).1 h1 h3
          · have := (h.1.mut_lt h1).2; omega
        · rcases hm k h1 with h3 | h3
          · exact (hxe k).2 h3 h2
          · have := h.1.foot_lt h2; omega
      · exact h.2.1 f hfr
theorem Mem.set {w0 w w' : World} {M M' : List Ent} {i : Nat} {e e' : Ent} (h : Mem w0 w M) (hi : dI M i = some e) (h9 : ek M i e' = some M') (hos : w'.os = w.os) (htp : w'.tape = w.tape) (hou : w'.output = w.output) (hs : w.heap.size ≤ w'.heap.size) (ho : ∀ k, k < w.heap.size → ¬ e.mut k → w'.heap[k]? = w.heap[k]?) (he' : e'.ok w0.heap.size w') (hm : ∀ k, e'.mut k → e.mut k ∨ w.heap.size ≤ k) (hf : ∀ k, e'.foot k → e.foot k ∨ w.heap.size ≤ k) : Mem w0 w' M' := by
  refine ⟨⟨hos.trans h.1.os, htp.trans h.1.tape, hou.trans h.1.output, Nat.le_trans h.1.size hs, fun k hk => ?_⟩, MemL.set hs ho he' hm hf h.2 hi h9⟩
  have hk2 : ¬ e.mut k := fun hmk => by have := ((h.2.get hi).mut_lt hmk).1; omega
  exact (ho k (Nat.lt_of_lt_of_le hk h.1.size) hk2).trans (h.1.block k hk)
theorem Mem.setObj {w0 w w' : World} {M M' : List Ent} {i g : Nat} {o o' : Obj} (h : Mem w0 w M) (hi : dI M i = some (.obj g o)) (h9 : ek M i (.obj g o') = some M') (hos : w'.os = w.os) (htp : w'.tape = w.tape) (hou : w'.output = w.output) (hs : w'.heap.size = w.heap.size) (ho : ∀ k, k ≠ g → w'.heap[k]? = w.heap[k]?) (hg : w'.heap[g]? = some o') : Mem w0 w' M' :=
  h.set hi h9 hos htp hou (by omega) (fun k _ hk => ho k hk) ⟨(h.2.get hi).1, hg⟩ (fun _ hk => .inl hk) (fun _ hk => .inl hk)
theorem Mem.setRow {w0 w : World} {M M' : List Ent} {i g : Nat} {T : TypeId} {cs cs' : List Value} (h : Mem w0 w M) (hi : dI M i = some (.cl g T cs)) (h9 : ek M i (.cl g T cs') = some M') : Mem w0 (w.setRow g ⟨cs'⟩) M' :=
  h.setObj hi h9 J J J (by simp [World.setRow]) (fun k hk => setRow_other w g k ⟨cs'⟩ hk) (setRow_heap w g ⟨cs⟩ ⟨cs'⟩ T (0, 0) (h.2.get hi).2)
inductive TD where
  | bool (z : Value)
  | int (k : IntKind) (z : Value)
  | str (z : Value)
  | ptr (e : TypeId) (z : Value)
  | slc (e : TypeId) (z : Value)
  | row (n : Nat) (z : List Value) (fs : List (Nat × TypeId))
  | arr (n : Nat) (z : List Value) (len : Nat) (e : TypeId)
  | one (z : Value)
def TD.size : TD → Nat
  | .row n _ _ => n
  | .arr n _ _ _ => n
  | _ => 1
def TD.zero : TD → List Value
  | .row _ z _ => z
  | .arr _ z _ _ => z
  | .bool z => [z]
  | .int _ z => [z]
  | .str z => [z]
  | .ptr _ z => [z]
  | .slc _ z => [z]
  | .one z => [z]
def dL : Value → List Value
  | .agg cs => cs.toList
  | v => [v]
def jR (P : Program) (t : TypeId) : Option TD :=
  match P.underlying t, P.info? t with
  | some d, some i => match d, i.zero, i.size with
    | .struct fs, some (.agg ⟨z⟩), n => some (.row n z (fs.toList.map fun f => (f.offset, f.type)))
    | .array k e, some (.agg ⟨z⟩), n => some (.arr n z k e)
    | .struct _, _, _ => none
    | .array _ _, _, _ => none
    | .bool, some z, 1 => some (.bool z)
    | .int k, some z, 1 => some (.int k z)
    | .string, some z, 1 => some (.str z)
    | .pointer e, some z, 1 => some (.ptr e z)
    | .slice e, some z, 1 => some (.slc e z)
    | _, some z, 1 => some (.one z)
    | _, _, _ => none
  | _, _ => none
abbrev eo := List (TypeId × TD)
def TOK (P : Program) (T : eo) : Prop := T.map (fun e => jR P e.1) = T.map (fun e => some e.2)
theorem TOK.get {P : Program} : ∀ {T : eo} {t : TypeId} {d : TD}, TOK P T → lk t T = some d → jR P t = some d
  | [], _, _, _, h => by cases h
  | (k, e) :: r, t, d, hT, h => by
    rw [dU] at h
    unfold TOK at hT
    simp only [List.map_cons, List.cons.injEq] at hT
    split at h
    · rename_i e'
      obtain rfl := by simpa using h
      rw [← e']; exact hT.1
    · exact TOK.get (T := r) hT.2 h
theorem ep {P : Program} {t : TypeId} {n : Nat} {z : List Value} {fs : List (Nat × TypeId)} (h : jR P t = some (.row n z fs)) :
    ∃ (F : Array Field) (i : TypeInfo), P.underlying t = some (.struct F) ∧ P.info? t = some i ∧ i.zero = some (.agg ⟨z⟩) ∧ i.size = n ∧ fs = F.toList.map fun f => (f.offset, f.type) := by
  unfold jR at h
  split at h
  · rename_i d i hu hi
    split at h <;> (try cases h)
    rename_i F z' n' hz
    exact ⟨_, i, hu, hi, hz, rfl, rfl⟩
  · cases h
theorem lX {P : Program} {t : TypeId} {n len : Nat} {z : List Value} {e : TypeId} (h : jR P t = some (.arr n z len e)) :
    ∃ (i : TypeInfo), P.underlying t = some (.array len e) ∧ P.info? t = some i ∧ i.zero = some (.agg ⟨z⟩) ∧ i.size = n := by
  unfold jR at h
  split at h
  · rename_i d i hu hi
    split at h <;> (try cases h)
    rename_i z' hz
    exact ⟨i, hu, hi, hz, rfl⟩
  · cases h
def TD.isOne : TD → Bool
  | .row .. => false
  | .arr .. => false
  | _ => true
def TD.zeroV : TD → Value
  | .bool z => z
  | .int _ z => z
  | .str z => z
  | .ptr _ z => z
  | .slc _ z => z
  | .one z => z
  | .row _ z _ => .agg ⟨z⟩
  | .arr _ z _ _ => .agg ⟨z⟩
theorem iP {P : Program} {t : TypeId} {d : TD} (h : jR P t = some d) (h1 : d.isOne = true) :
    ∃ (u : TypeDesc) (i : TypeInfo), P.underlying t = some u ∧ P.info? t = some i ∧ i.zero = some d.zeroV ∧ i.size = 1 ∧ u.isRow = false := by
  unfold jR at h
  split at h
  · rename_i u i hu hi
    split at h <;> (try cases h) <;> (try cases h1) <;> refine ⟨_, i, hu, hi, ‹_›, ‹_›, ?_⟩ <;> first | rfl | (rename_i d' _ _ _ _ _ _ _ _ _ _ _ _ _ _; cases d' <;> simp_all [TypeDesc.isRow])
  · cases h
theorem iQ {P : Program} {t : TypeId} {k : IntKind} {z : Value} (h : jR P t = some (.int k z)) : P.underlying t = some (.int k) := by
  unfold jR at h
  split at h
  · rename_i u i hu hi
    split at h <;> cases h
    exact hu
  · cases h
theorem mO {P : Program} {t : TypeId} {z : Value} (h : jR P t = some (.bool z)) : P.underlying t = some .bool := by
  unfold jR at h
  split at h
  · rename_i u i hu hi
    split at h <;> cases h
    exact hu
  · cases h
theorem eu {P : Program} {t : TypeId} {z : Value} (h : jR P t = some (.str z)) : P.underlying t = some .string := by
  unfold jR at h
  split at h
  · rename_i u i hu hi
    split at h <;> cases h
    exact hu
  · cases h
theorem cw {P : Program} {t e : TypeId} {z : Value} (h : jR P t = some (.slc e z)) : P.underlying t = some (.slice e) := by
  unfold jR at h
  split at h
  · rename_i u i hu hi
    split at h <;> cases h
    exact hu
  · cases h
theorem bu {P : Program} {t : TypeId} {d : TD} (h : jR P t = some d) : ∃ i, P.info? t = some i ∧ i.size = d.size ∧ i.zero = some d.zeroV := by
  cases d with
  | row n z fs => obtain ⟨F, i, _, hi, hz, hs, _⟩ := ep h; exact ⟨i, hi, hs, hz⟩
  | arr n z len e => obtain ⟨i, _, hi, hz, hs⟩ := lX h; exact ⟨i, hi, hs, hz⟩
  | _ => obtain ⟨u, i, _, hi, hz, hs, _⟩ := iP h rfl; exact ⟨i, hi, hs, hz⟩
def tk : List Value → Nat → Option (List Value)
  | _, 0 => some []
  | [], _ + 1 => none
  | x :: r, n + 1 => match tk r n with
    | some r' => some (x :: r')
    | none => none
def sub : List Value → Nat → Nat → Option (List Value)
  | l, 0, n => tk l n
  | [], _ + 1, _ => none
  | _ :: r, k + 1, n => sub r k n
theorem EE : ∀ {l : List Value} {n : Nat} {r : List Value}, tk l n = some r → r = l.take n ∧ n ≤ l.length
  | l, 0, r, h => by cases l <;> (obtain rfl := (by simpa [tk] using h); simp)
  | [], n + 1, r, h => by cases h
  | x :: l, n + 1, r, h => by
    simp only [tk] at h
    cases hr : tk l n with
    | none => rw [hr] at h; cases h
    | some r' =>
      rw [hr] at h
      obtain rfl := by simpa using h
      obtain ⟨e, hl⟩ := EE hr
      exact ⟨by simp [e], by simpa using hl⟩
theorem vM : ∀ {l : List Value} {k n : Nat} {r : List Value}, sub l k n = some r → r = (l.drop k).take n ∧ k + n ≤ l.length
  | l, 0, n, r, h => by
    have h' : tk l n = some r := by cases l <;> simpa [sub] using h
    obtain ⟨e, hl⟩ := EE h'
    exact ⟨by simpa using e, by omega⟩
  | [], k + 1, n, r, h => by cases h
  | x :: l, k + 1, n, r, h => by
    simp only [sub] at h
    obtain ⟨e, hl⟩ := vM h
    exact ⟨by simpa using e, by simp; omega⟩
def lY (T : eo) (t : TypeId) (cs : List Value) (o : Nat) : Option Value :=
  match lk t T with
  | some (.row n _ _) => match sub cs o n with
    | some r => some (.agg ⟨r⟩)
    | none => none
  | some (.arr n _ _ _) => match sub cs o n with
    | some r => some (.agg ⟨r⟩)
    | none => none
  | some (.bool _) => dI cs o
  | some (.int _ _) => dI cs o
  | some (.str _) => dI cs o
  | some (.ptr _ _) => dI cs o
  | some (.slc _ _) => dI cs o
  | some (.one _) => dI cs o
  | none => none
theorem gA {P : Program} {t : TypeId} {u : TypeDesc} (h : P.underlying t = some u) (w : World) : (isAgg t).run P w = .ok u.isRow w := by
  unfold isAgg
  rw [Sem.run_bind, run_underlying h w]
  cases u <;> simp [TypeDesc.isRow]
theorem ct {P : Program} {t : TypeId} {i : TypeInfo} (h : P.info? t = some i) (w : World) : (sizeOf t).run P w = .ok i.size w := by
  simp [sizeOf, typeInfo, h]
theorem iR {P : Program} {t : TypeId} {i : TypeInfo} {z : Value} (h : P.info? t = some i) (hz : i.zero = some z) (w : World) : (zeroValue t).run P w = .ok z w := by
  simp [zeroValue, typeInfo, h, hz]
theorem nG {T : eo} {t : TypeId} {cs : List Value} {o : Nat} {v : Value} (h : lY T t cs o = some v) :
    ∃ d, lk t T = some d ∧ ((d.isOne = true ∧ dI cs o = some v) ∨ (d.isOne = false ∧ ∃ r, sub cs o d.size = some r ∧ v = .agg ⟨r⟩)) := by
  unfold lY at h
  cases hl : lk t T with
  | none => rw [hl] at h; cases h
  | some d =>
    rw [hl] at h
    refine ⟨d, rfl, ?_⟩
    cases d <;> simp only at h <;> first
      | exact .inl ⟨rfl, h⟩
      | (right; refine ⟨rfl, ?_⟩; split at h
         · rename_i r hr; obtain rfl := (by simpa using h); exact ⟨r, hr, rfl⟩
         · cases h)
theorem lD {P : Program} {T : eo} (hT : TOK P T) {t : TypeId} {cs : List Value} {o : Nat} {v : Value} (h : lY T t cs o = some v) (w : World) : (part t ⟨cs⟩ o).run P w = .ok v w := by
  obtain ⟨d, hl, h⟩ := nG h
  have htd := hT.get hl
  rcases h with ⟨h1, h2⟩ | ⟨h1, r, h2, rfl⟩
  · obtain ⟨u, i, hu, _, _, _, hr⟩ := iP htd h1
    rw [gM] at h2
    have h2' : (⟨cs⟩ : Array Value)[o]? = some v := by simpa using h2
    simp [part, Sem.run_bind, gA hu, hr, h2']
  · obtain ⟨e, hle⟩ := vM h2
    obtain ⟨i, hi, hs, _⟩ := bu htd
    have hu : ∃ u, P.underlying t = some u ∧ u.isRow = true := by
      cases d with
      | row n z fs => obtain ⟨F, _, hu, _⟩ := ep htd; exact ⟨_, hu, rfl⟩
      | arr n z len e => obtain ⟨_, hu, _⟩ := lX htd; exact ⟨_, hu, rfl⟩
      | _ => cases h1
    obtain ⟨u, hu, hr⟩ := hu
    simp [part, Sem.run_bind, gA hu, hr, ct hi, hs, e]
theorem oC {P : Program} {T : eo} (hT : TOK P T) {t : TypeId} {cs : List Value} {o g : Nat} {v : Value} {B : TypeId} {w : World} (hb : Bk w g B ⟨cs⟩) (h : lY T t cs o = some v) : (loadVar t ⟨g, o, none⟩).run P w = .ok v w := by
  obtain ⟨d, hl, h⟩ := nG h
  have htd := hT.get hl
  rcases h with ⟨h1, h2⟩ | ⟨h1, r, h2, rfl⟩
  · obtain ⟨u, i, hu, _, _, _, hr⟩ := iP htd h1
    rw [gM] at h2
    have hc : w.cell? ⟨g, o, none⟩ = some v := hb.at_ o (by simpa using h2)
    simp [loadVar, Sem.run_bind, gA hu, hr, hc]
  · obtain ⟨e, hle⟩ := vM h2
    obtain ⟨i, hi, hs, _⟩ := bu htd
    have hu : ∃ u, P.underlying t = some u ∧ u.isRow = true := by
      cases d with
      | row n z fs => obtain ⟨F, _, hu, _⟩ := ep htd; exact ⟨_, hu, rfl⟩
      | arr n z len e => obtain ⟨_, hu, _⟩ := lX htd; exact ⟨_, hu, rfl⟩
      | _ => cases h1
    obtain ⟨u, hu, hr⟩ := hu
    have hlen : r.length = d.size := by rw [e]; simp; omega
    have := run_loadVar_mid (P := P) w g o t r u (fun j v hv => hb.at_ (o + j) (by
      rw [e] at hv
      simp only [List.getElem?_take, List.getElem?_drop] at hv
      split at hv
      · simpa using hv
      · cases hv)) hu hr (by rw [hi]; simp [hs, hlen])
    simpa using this
def VO (P : Program) (w0 : World) (S : bq) (M : List Ent) (L : Cd) (o : Oper) (v : Value) : Prop :=
  ∀ n a w, Sl n a S → Mem w0 w M → az L = true → (execOp a.eval o).run P w = .ok (.value v) w
def rN (T : eo) : Op → Value → Option Value
  | .move _, v => some v
  | .assign _, v => some v
  | .extract _ i, .tuple ⟨vs⟩ => dI vs i
  | .unOp .not _ _, .bool b => some (.bool (!b))
  | .unOp .neg _ _, .int k n => some (.int k (k.wrap (0 - n)))
  | .unOp .xor _ _, .int k n => some (.int k (bits .xor k (if k.signed then -1 else k.max) n))
  | .field t _ f, .agg ⟨cs⟩ => match lk t T with
    | some (.row _ _ fs) => match dI fs f with
      | some (off, ty) => lY T ty cs off
      | none => none
    | _ => none
  | .fieldAddr s _ f, .pointer (some ⟨g, o, none⟩) => match lk s T with
    | some (.row _ _ fs) => match dI fs f with
      | some (off, ty) => match lk ty T with
        | some d => match d.size with
          | 0 => none
          | _ + 1 => some (.pointer (some ⟨g, o + off, none⟩))
        | none => none
      | none => none
    | _ => none
  | .nilCheck _, .pointer (some a) => some (.pointer (some a))
  | .convert src dst _, .int _ n => match lk src T with
    | some (.int _ _) => match lk dst T with
      | some (.int k _) => some (.int k (k.wrap n))
      | some (.str _) => some (.string (Utf8.encode n))
      | _ => none
    | _ => none
  | .convert src dst _, .string s => match lk src T with
    | some (.str _) => match lk dst T with
      | some (.str _) => some (.string s)
      | _ => none
    | _ => none
  | _, _ => none
def un : Op → Option Operand
  | .move x => some x
  | .assign x => some x
  | .extract x _ => some x
  | .unOp _ _ x => some x
  | .field _ x _ => some x
  | .fieldAddr _ x _ => some x
  | .nilCheck x => some x
  | .convert _ _ x => some x
  | _ => none
theorem aI {P : Program} {T : eo} (hT : TOK P T) {w0 : World} {S : bq} {M : List Ent} {L L1 : Cd} {o : Oper} {x : Operand} {v1 v : Value} (h1 : un o.op = some x) (h2 : ev S x = some (L1, v1)) (h3 : Suf L1 L) (h4 : rN T o.op v1 = some v) : VO P w0 S M L o v := by
  intro n a w hS hM hL
  have hx := av hS h2 (h3.holds hL)
  unfold execOp
  cases hop : o.op <;> rw [hop] at h1 h4 <;> simp only [un] at h1 <;> cases h1 <;> simp only [hx]
  case move => obtain rfl := (by simpa [rN] using h4); rfl
  case assign => obtain rfl := (by simpa [rN] using h4); rfl
  case nilCheck =>
    cases v1 <;> first | (simp [rN] at h4; done) | skip
    rename_i p
    cases p <;> first | (simp [rN] at h4; done) | skip
    obtain rfl := (by simpa [rN] using h4); rfl
  case unOp op t =>
    cases op <;> cases v1 <;> first | (simp [rN] at h4; done) | (obtain rfl := (by simpa [rN] using h4); simp [Op.unary, Op.intArith, intBits_xor])
  case convert src dst =>
    cases v1 <;> first | (simp [rN] at h4; done) | skip
    · rename_i k m
      simp only [rN] at h4
      split at h4 <;> first | (cases h4; done) | skip
      rename_i hs
      split at h4 <;> first | (cases h4; done) | skip
      · rename_i hd
        obtain rfl := (by simpa using h4)
        simp [Go.convert, Sem.run_bind, run_underlying (iQ (hT.get hs)), run_underlying (iQ (hT.get hd)), Conv.intToInt]
      · rename_i hd
        obtain rfl := (by simpa using h4)
        simp [Go.convert, Sem.run_bind, run_underlying (iQ (hT.get hs)), run_underlying (eu (hT.get hd)), Conv.intToString]
    · rename_i s
      simp only [rN] at h4
      split at h4 <;> first | (cases h4; done) | skip
      rename_i hs
      split at h4 <;> first | (cases h4; done) | skip
      rename_i hd
      obtain rfl := (by simpa using h4)
      simp [Go.convert, Sem.run_bind, run_underlying (eu (hT.get hs)), run_underlying (eu (hT.get hd))]
  case extract i =>
    cases v1 <;> first | (simp [rN] at h4; done) | skip
    rename_i vs
    obtain ⟨vs⟩ := vs
    simp only [rN] at h4
    rw [gM] at h4
    simp [Instr.extract, h4]
  case field t f =>
    cases v1 <;> first | (simp [rN] at h4; done) | skip
    rename_i cs
    obtain ⟨cs⟩ := cs
    simp only [rN] at h4
    split at h4 <;> first | (cases h4; done) | skip
    rename_i fs hl
    split at h4 <;> first | (cases h4; done) | skip
    rename_i off ty hf
    obtain ⟨F, i, hu, _, _, _, rfl⟩ := ep (hT.get hl)
    rw [gM] at hf
    simp only [List.getElem?_map, Option.map_eq_some_iff] at hf
    obtain ⟨fd, hfd, he⟩ := hf
    obtain ⟨rfl, rfl⟩ := (by simpa using he)
    have hfd' : F[f]? = some fd := by simpa using hfd
    simp [Instr.field, Sem.run_bind, run_underlying hu, hfd', asAgg, lD hT h4]
  case fieldAddr s f =>
    cases v1 <;> first | (simp [rN] at h4; done) | skip
    rename_i p
    cases p <;> first | (simp [rN] at h4; done) | skip
    rename_i p
    obtain ⟨g, o', sp⟩ := p
    cases sp <;> first | (simp [rN] at h4; done) | skip
    simp only [rN] at h4
    split at h4 <;> first | (cases h4; done) | skip
    rename_i fs hl
    split at h4 <;> first | (cases h4; done) | skip
    rename_i off ty hf
    split at h4 <;> first | (cases h4; done) | skip
    rename_i d hd
    split at h4 <;> first | (cases h4; done) | skip
    rename_i k hk
    obtain ⟨F, i, hu, _, _, _, rfl⟩ := ep (hT.get hl)
    obtain ⟨i2, hi2, hs2, _⟩ := bu (hT.get hd)
    rw [gM] at hf
    simp only [List.getElem?_map, Option.map_eq_some_iff] at hf
    obtain ⟨fd, hfd, he⟩ := hf
    obtain ⟨rfl, rfl⟩ := (by simpa using he)
    have hfd' : F[f]? = some fd := by simpa using hfd
    have hne : ¬ i2.size = 0 := by omega
    obtain rfl := (by simpa using h4)
    simp [Instr.fieldAt, Sem.run_bind, run_underlying hu, hfd', Instr.sureAddr, fieldPlace, ct hi2, hne, Addr.add_mid]
def nz : Int → Bool
  | .ofNat 0 => false
  | _ => true
theorem EF {b : Int} (h : nz b = true) : b ≠ 0 := by
  intro e; subst e; cases h
def nn : Int → Option Nat
  | .ofNat n => some n
  | _ => none
theorem GE {b : Int} {n : Nat} (h : nn b = some n) : b = (n : Int) := by
  cases b with
  | ofNat m => obtain rfl := (by simpa [nn] using h); rfl
  | negSucc m => cases h
def GF : BinOp → IntKind → Int → Int → Option Value
  | .add, k, a, b => some (.int k (k.wrap (a + b)))
  | .sub, k, a, b => some (.int k (k.wrap (a - b)))
  | .mul, k, a, b => some (.int k (k.wrap (a * b)))
  | .eql, _, a, b => some (.bool (a == b))
  | .neq, _, a, b => some (.bool (a != b))
  | .lss, _, a, b => some (.bool (decide (a < b)))
  | .leq, _, a, b => some (.bool (decide (a ≤ b)))
  | .gtr, _, a, b => some (.bool (decide (a > b)))
  | .geq, _, a, b => some (.bool (decide (a ≥ b)))
  | .and, k, a, b => some (.int k (bits .and k a b))
  | .or, k, a, b => some (.int k (bits .or k a b))
  | .xor, k, a, b => some (.int k (bits .xor k a b))
  | .andNot, k, a, b => some (.int k (bits .andNot k a b))
  | .quo, k, a, b => match nz b with
    | true => some (.int k (k.wrap (a.tdiv b)))
    | false => none
  | .rem, k, a, b => match nz b with
    | true => some (.int k (a.tmod b))
    | false => none
  | _, _, _, _ => none
def GG : BinOp → ByteArray → ByteArray → Option Value
  | .eql, a, b => some (.bool (a.toList == b.toList))
  | .neq, a, b => some (.bool (!(a.toList == b.toList)))
  | .lss, a, b => some (.bool (Op.bytesLess a.toList b.toList))
  | .leq, a, b => some (.bool (Op.bytesLess a.toList b.toList || a.toList == b.toList))
  | .gtr, a, b => some (.bool (!(Op.bytesLess a.toList b.toList || a.toList == b.toList)))
  | .geq, a, b => some (.bool (!Op.bytesLess a.toList b.toList))
  | _, _, _ => none
def H5 : IntKind → IntKind → Bool
  | .i8, .i8 => true
  | .i16, .i16 => true
  | .i32, .i32 => true
  | .i64, .i64 => true
  | .u8, .u8 => true
  | .u16, .u16 => true
  | .u32, .u32 => true
  | .u64, .u64 => true
  | _, _ => false
theorem Az {a b : IntKind} (h : H5 a b = true) : a = b := by cases a <;> cases b <;> first | rfl | cases h
def EG : BinOp → Bool → Bool → Option Value
  | .eql, a, b => some (.bool (a == b))
  | .neq, a, b => some (.bool (!(a == b)))
  | _, _, _ => none
def p2 (T : eo) (op : BinOp) (t : TypeId) : Value → Value → Option Value
  | .int k a, .int k' b => match H5 k k' with
    | true => GF op k a b
    | false => none
  | .string a, .string b => GG op a b
  | .bool a, .bool b => match lk t T with
    | some (.bool _) => EG op a b
    | _ => none
  | .slice a _ _, .slice none _ _ => match lk t T with
    | some (.slc _ _) => match op with
      | .eql => some (.bool a.isNone)
      | .neq => some (.bool !a.isNone)
      | _ => none
    | _ => none
  | _, _ => none
theorem Dl {P : Program} {T : eo} (hT : TOK P T) {op : BinOp} {t : TypeId} {x y : Operand} {v1 v2 v : Value} (h : p2 T op t v1 v2 = some v) (w : World) :
    (do eqGuard op t x y v1 v2; binOp op t v1 v2).run P w = .ok v w := by
  cases v1 <;> cases v2 <;> first | (simp [p2] at h; done) | skip
  · rename_i a b
    simp only [p2] at h
    split at h <;> first | (cases h; done) | skip
    rename_i hl
    have hu := mO (hT.get hl)
    cases op <;> simp only [EG] at h <;> first | (cases h; done) | skip
    all_goals (obtain rfl := (by simpa using h))
    · simp [eqGuard, run_eql_bool w t a b hu]
    · simp [eqGuard, run_neq_bool w t a b hu]
  · rename_i k a k' b
    simp only [p2] at h
    split at h <;> first | (cases h; done) | skip
    rename_i hk
    obtain rfl := Az hk
    cases op <;> simp only [GF] at h <;> first | (cases h; done) | skip
    case quo =>
      split at h <;> first | (cases h; done) | skip
      rename_i hz
      obtain rfl := (by simpa using h)
      simp [eqGuard, binOp, Op.intDiv, EF hz]
    case rem =>
      split at h <;> first | (cases h; done) | skip
      rename_i hz
      obtain rfl := (by simpa using h)
      simp [eqGuard, binOp, Op.intDiv, EF hz]
    all_goals (obtain rfl := (by simpa using h); simp [eqGuard, binOp, Op.intArith, Op.intCmp, intBits_and, intBits_or, intBits_xor, intBits_andNot])
  · rename_i a b
    simp only [p2] at h
    cases op <;> simp only [GG] at h <;> first | (cases h; done) | skip
    all_goals (obtain rfl := (by simpa using h); simp [eqGuard, binOp, Op.stringOp])
  · rename_i a n c b n' c'
    cases b with
    | some b => cases h
    | none =>
      simp only [p2] at h
      split at h <;> first | (cases h; done) | skip
      rename_i hl
      have hu := cw (hT.get hl)
      split at h <;> first | (cases h; done) | skip
      · obtain rfl := (by simpa using h)
        simp [eqGuard, Lib.run_eql_slice_nil w t _ a n c n' c' hu]
      · obtain rfl := (by simpa using h)
        simp [eqGuard, run_neq_slice_nil_any w t _ a n c n' c' hu]
theorem bw {P : Program} {T : eo} (hT : TOK P T) {w0 : World} {S : bq} {M : List Ent} {L L1 L2 : Cd} {o : Oper} {op : BinOp} {t ty : TypeId} {x y : Operand} {v1 v2 v : Value} (h1 : o.op = .binOp op t x y ty)
    (h2 : ev S x = some (L1, v1)) (h3 : Suf L1 L) (h4 : ev S y = some (L2, v2)) (h5 : Suf L2 L) (h6 : p2 T op t v1 v2 = some v) : VO P w0 S M L o v := by
  intro n a w hS hM hL
  unfold execOp
  simp only [h1, av hS h2 (h3.holds hL), av hS h4 (h5.holds hL)]
  rw [Sem.run_bind, Dl hT h6 w]; rfl
theorem bd {P : Program} {w0 : World} {S : bq} {M : List Ent} {L L1 L2 : Cd} {o : Oper} {t ty : TypeId} {x y : Operand} {a b : Int} (h1 : o.op = .binOp .add t x y ty)
    (h2 : ev S x = some (L1, .int .i64 a)) (h3 : Suf L1 L) (h4 : ev S y = some (L2, .int .i64 b)) (h5 : Suf L2 L) (hr : -9223372036854775808 ≤ a + b ∧ a + b ≤ 9223372036854775807) : VO P w0 S M L o (.int .i64 (a + b)) := by
  intro n ac w hS hM hL
  unfold execOp
  simp only [h1, av hS h2 (h3.holds hL), av hS h4 (h5.holds hL)]
  simp [eqGuard, binOp, Op.intArith, IntWalk.i64_in _ hr]
theorem gO {P : Program} {w0 : World} {S : bq} {M : List Ent} {L L1 L2 : Cd} {o : Oper} {t ty : TypeId} {x y : Operand} {a b : Int} (h1 : o.op = .binOp .sub t x y ty)
    (h2 : ev S x = some (L1, .int .i64 a)) (h3 : Suf L1 L) (h4 : ev S y = some (L2, .int .i64 b)) (h5 : Suf L2 L) (hr : -9223372036854775808 ≤ a - b ∧ a - b ≤ 9223372036854775807) : VO P w0 S M L o (.int .i64 (a - b)) := by
  intro n ac w hS hM hL
  unfold execOp
  simp only [h1, av hS h2 (h3.holds hL), av hS h4 (h5.holds hL)]
  simp [eqGuard, binOp, Op.intArith, IntWalk.i64_in _ hr]
theorem ew {P : Program} {w0 : World} {S : bq} {M : List Ent} {L L1 L2 : Cd} {o : Oper} {c y : Operand} {b1 b2 : Bool} (h1 : o.op = .pick c (.const (.bool true)) y)
    (h2 : ev S c = some (L1, .bool b1)) (h3 : Suf L1 L) (h4 : ev S y = some (L2, .bool b2)) (h5 : Suf L2 ((b1, false) :: L)) : VO P w0 S M L o (.bool (b1 || b2)) := by
  intro n a w hS hM hL
  unfold execOp
  simp only [h1, av hS h2 (h3.holds hL)]
  cases b1 with
  | true => simp [asBool, Act.eval]
  | false => simp [asBool, av hS h4 (h5.holds (by simp [az, hL]))]
theorem eF {P : Program} {w0 : World} {S : bq} {M : List Ent} {L L1 L2 : Cd} {o : Oper} {c y : Operand} {b1 b2 : Bool} (h1 : o.op = .pick c y (.const (.bool false)))
    (h2 : ev S c = some (L1, .bool b1)) (h3 : Suf L1 L) (h4 : ev S y = some (L2, .bool b2)) (h5 : Suf L2 ((b1, true) :: L)) : VO P w0 S M L o (.bool (b1 && b2)) := by
  intro n a w hS hM hL
  unfold execOp
  simp only [h1, av hS h2 (h3.holds hL)]
  cases b1 with
  | false => simp [asBool, Act.eval]
  | true => simp [asBool, av hS h4 (h5.holds (by simp [az, hL]))]
theorem ab {P : Program} {T : eo} (hT : TOK P T) (i : Nat) {w0 : World} {S : bq} {M : List Ent} {L L1 : Cd} {o : Oper} {t : TypeId} {x : Operand} {g off : Nat} {B : TypeId} {cs : List Value} {v : Value} (h1 : o.op = .load t x)
    (h2 : ev S x = some (L1, .pointer (some ⟨g, off, none⟩))) (h3 : Suf L1 L) (h4 : dI M i = some (.cl g B cs)) (h5 : lY T t cs off = some v) : VO P w0 S M L o v := by
  intro n a w hS hM hL
  unfold execOp
  simp only [h1, av hS h2 (h3.holds hL)]
  simp only [Instr.loadAt, Instr.sureAddr, Sem.run_bind, Sem.run_pure, Result.andThen_ok, oC hT (show Bk w g B ⟨cs⟩ from (hM.2.get h4).2) h5]
theorem E5 {P : Program} {T : eo} (hT : TOK P T) {w0 : World} {S : bq} {M : List Ent} {L L1 : Cd} {o : Oper} {t : TypeId} {x : Operand} {a0 : Addr} {d : TD} {v : Value} (h1 : o.op = .load t x)
    (h2 : ev S x = some (L1, .pointer (some a0))) (h3 : Suf L1 L) (h4 : lk t T = some d) (h5 : d.isOne = true) (hc : w0.cell? a0 = some v) : VO P w0 S M L o v := by
  intro n a w hS hM hL
  have hlt := block_lt_of_cell hc
  have hc' : w.cell? a0 = some v := (hM.1.cell hlt).trans hc
  obtain ⟨u, i, hu, _, _, _, hr⟩ := iP (hT.get h4) h5
  unfold execOp
  simp only [h1, av hS h2 (h3.holds hL)]
  simp [Instr.loadAt, Instr.sureAddr, loadVar, Sem.run_bind, gA hu, hr, hc']
theorem yF {P : Program} {T : eo} (hT : TOK P T) {w0 : World} {S : bq} {M : List Ent} {L L1 : Cd} {o : Oper} {t : TypeId} {x : Operand} {b off n' : Nat} {z : List Value} {fs : List (Nat × TypeId)} {cs : List Value} (h1 : o.op = .load t x)
    (h2 : ev S x = some (L1, .pointer (some ⟨b, off, none⟩))) (h3 : Suf L1 L) (h4 : lk t T = some (.row n' z fs)) (h5 : cs.length = n') (hc : w0.rangeAt b off cs) : VO P w0 S M L o (.agg ⟨cs⟩) := by
  intro n a w hS hM hL
  obtain ⟨F, i, hu, hi, _, hs, _⟩ := ep (hT.get h4)
  have hc' : w.rangeAt b off cs := fun j v hv => by
    have h := hc j v hv
    exact (hM.1.cell (block_lt_of_cell h)).trans h
  unfold execOp
  simp only [h1, av hS h2 (h3.holds hL)]
  have := run_loadVar_mid (P := P) w b off t cs _ hc' hu rfl (by rw [hi]; simp [hs, h5])
  simp [Instr.loadAt, Instr.sureAddr, this]
def E6 : Value → Option Value
  | .string s => some (.int .i64 s.size)
  | .slice _ n _ => some (.int .i64 n)
  | _ => none
theorem fi {P : Program} {T : eo} (hT : TOK P T) {w0 : World} {S : bq} {M : List Ent} {L L1 : Cd} {o : Oper} {t : TypeId} {x : Operand} {v1 v : Value} {d : TD} (h1 : o.op = .call ⟨.builtin .len, #[x], #[t]⟩)
    (h2 : ev S x = some (L1, v1)) (h3 : Suf L1 L) (h4 : lk t T = some d) (h5 : (match d with | .str _ => true | .slc _ _ => true | _ => false) = true) (h6 : E6 v1 = some v) (h7 : (match d, v1 with | .str _, .string _ => true | .slc _ _, .slice _ _ _ => true | _, _ => false) = true) : VO P w0 S M L o v := by
  intro n a w hS hM hL
  unfold execOp
  have hx := av hS h2 (h3.holds hL)
  cases d <;> first | (cases h5; done) | skip
  all_goals (cases v1 <;> first | (cases h7; done) | skip)
  · obtain rfl := (by simpa [E6] using h6)
    simp [h1, resolve, invoke, builtin, Builtin.len_, hx, Sem.run_bind, run_underlying (eu (hT.get h4)), goInt]
  · obtain rfl := (by simpa [E6] using h6)
    simp [h1, resolve, invoke, builtin, Builtin.len_, hx, Sem.run_bind, run_underlying (cw (hT.get h4)), goInt]
theorem fO {P : Program} {w0 : World} {S : bq} {M : List Ent} {L L1 L2 : Cd} {o : Oper} {ts : Array TypeId} {x y : Operand} {k k' : IntKind} {a b : Int} (h1 : o.op = .call ⟨.builtin .max, #[x, y], ts⟩)
    (h2 : ev S x = some (L1, .int k a)) (h3 : Suf L1 L) (h4 : ev S y = some (L2, .int k' b)) (h5 : Suf L2 L) : VO P w0 S M L o (.int k (if b > a then b else a)) := by
  intro n ac w hS hM hL
  unfold execOp
  simp [h1, resolve, invoke, builtin, Builtin.max_, Builtin.max2, av hS h2 (h3.holds hL), av hS h4 (h5.holds hL)]
theorem iF {P : Program} {w0 : World} {S : bq} {M : List Ent} {L L1 L2 : Cd} {o : Oper} {ts : Array TypeId} {x y : Operand} {k k' : IntKind} {a b : Int} (h1 : o.op = .call ⟨.builtin .min, #[x, y], ts⟩)
    (h2 : ev S x = some (L1, .int k a)) (h3 : Suf L1 L) (h4 : ev S y = some (L2, .int k' b)) (h5 : Suf L2 L) : VO P w0 S M L o (.int k (if b < a then b else a)) := by
  intro n ac w hS hM hL
  unfold execOp
  simp [h1, resolve, invoke, builtin, Builtin.min_, Builtin.min2, av hS h2 (h3.holds hL), av hS h4 (h5.holds hL)]
def Ag (S : bq) : Option Operand → Option (Cd × Option Value)
  | none => some ([], none)
  | some x => match ev S x with
    | some (L, v) => some (L, some v)
    | none => none
theorem Dm {P : Program} {T : eo} (hT : TOK P T) {w0 : World} {S : bq} {M : List Ent} {L L1 L2 L3 : Cd} {o : Oper} {t : TypeId} {x : Operand} {lo hi : Option Operand} {s : ByteArray} {vl vh : Option Value} (l h : Nat) {z : Value} (h1 : o.op = .slice t x lo hi none)
    (h2 : ev S x = some (L1, .string s)) (h3 : Suf L1 L) (h4 : Ag S lo = some (L2, vl)) (h5 : Suf L2 L) (h4' : Ag S hi = some (L3, vh)) (h5' : Suf L3 L) (h6 : lk t T = some (.str z))
    (hl : match vl with | none => l = 0 | some (.int _ n) => n = (l : Int) | _ => False) (hh : match vh with | none => h = s.size | some (.int _ n) => n = (h : Int) | _ => False) (hle : l ≤ h) (hhs : h ≤ s.size) : VO P w0 S M L o (.string (s.extract l h)) := by
  intro n a w hS hM hL
  have hb : ∀ {b : Option Operand} {Lb : Cd} {vb : Option Value}, Ag S b = some (Lb, vb) → Suf Lb L → b.map a.eval = vb := by
    intro b Lb vb hb hs
    cases b with
    | none => obtain ⟨rfl, rfl⟩ := (by simpa [Ag] using hb); rfl
    | some y =>
      simp only [Ag] at hb
      split at hb
      · rename_i L' v' he
        obtain ⟨rfl, rfl⟩ := (by simpa using hb)
        simp [av hS he (hs.holds hL)]
      · cases hb
  unfold execOp
  simp only [h1, av hS h2 (h3.holds hL), hb h4 h5, hb h4' h5']
  have hlow : ∀ w, (match vl with | some v => Instr.sliceBound v h .sliceB | none => pure 0 : Sem Nat).run P w = .ok l w := by
    intro w
    split at hl
    · subst hl; rfl
    · subst hl; simp [Instr.sliceBound, asIntOf]; intro h'; omega
    · exact hl.elim
  have hhigh : ∀ w, (match vh with | some v => Instr.sliceBound v s.size .sliceAlen | none => pure s.size : Sem Nat).run P w = .ok h w := by
    intro w
    split at hh
    · subst hh; rfl
    · subst hh; simp [Instr.sliceBound, asIntOf]; intro h'; omega
    · exact hh.elim
  cases vl with
  | none =>
    cases vh with
    | none =>
      subst hl; subst hh
      simp [Instr.sliceAt, Instr.slice, Instr.sliceBounds, Sem.run_bind, run_underlying (eu (hT.get h6))]
    | some v =>
      have := hhigh w
      simp only at this
      subst hl
      simp [Instr.sliceAt, Instr.slice, Instr.sliceBounds, Sem.run_bind, run_underlying (eu (hT.get h6)), this]
  | some u =>
    have hlw := hlow w
    simp only at hlw
    cases vh with
    | none =>
      subst hh
      simp [Instr.sliceAt, Instr.slice, Instr.sliceBounds, Sem.run_bind, run_underlying (eu (hT.get h6)), hlw]
    | some v =>
      have := hhigh w
      simp only at this
      simp [Instr.sliceAt, Instr.slice, Instr.sliceBounds, Sem.run_bind, run_underlying (eu (hT.get h6)), this, hlw]
def jv : List Value → Nat → List Value → Option (List Value)
  | l, 0, [] => some l
  | [], 0, _ :: _ => none
  | _ :: r, 0, v :: vs => match jv r 0 vs with
    | some r' => some (v :: r')
    | none => none
  | [], _ + 1, _ => none
  | x :: r, k + 1, vs => match jv r k vs with
    | some r' => some (x :: r')
    | none => none
theorem jX : ∀ {l : List Value} {k : Nat} {vs r : List Value}, jv l k vs = some r → r = l.take k ++ vs ++ l.drop (k + vs.length) ∧ k + vs.length ≤ l.length
  | l, 0, [], r, h => by cases l <;> (obtain rfl := (by simpa [jv] using h); simp)
  | [], 0, v :: vs, r, h => by cases h
  | x :: l, 0, v :: vs, r, h => by
    simp only [jv] at h
    cases hr : jv l 0 vs with
    | none => rw [hr] at h; cases h
    | some r' =>
      rw [hr] at h
      obtain rfl := (by simpa using h)
      obtain ⟨e, hl⟩ := jX hr
      exact ⟨by simp [e], by simp; omega⟩
  | [], k + 1, vs, r, h => by cases vs <;> cases h
  | x :: l, k + 1, vs, r, h => by
    have h' : (match jv l k vs with | some r' => some (x :: r') | none => none) = some r := by cases vs <;> exact h
    cases hr : jv l k vs with
    | none => rw [hr] at h'; cases h'
    | some r' =>
      rw [hr] at h'
      obtain rfl := (by simpa using h')
      obtain ⟨e, hl⟩ := jX hr
      refine ⟨by rw [e]; simp [Nat.add_right_comm], by simp; omega⟩
theorem mP (off : Nat) : ∀ (vs : List Value) (k : Nat) (cs : Array Value), off + k + vs.length ≤ cs.size →
    ((vs.zipIdx k).foldl (fun cs (p : Value × Nat) => cs.setIfInBounds (off + p.2) p.1) cs) = (cs.toList.take (off + k) ++ vs ++ cs.toList.drop (off + k + vs.length)).toArray
  | [], k, cs, h => by simp
  | v :: vs, k, cs, h => by
    simp only [List.zipIdx_cons, List.foldl_cons]
    rw [mP off vs (k + 1) _ (by simp at h ⊢; omega)]
    congr 1
    have hlt : off + k < cs.toList.length := by simp at h ⊢; omega
    have e1 : (cs.setIfInBounds (off + k) v).toList = cs.toList.set (off + k) v := by simp
    rw [e1, show off + (k + 1) = off + k + 1 from rfl]
    have h1 : (cs.toList.set (off + k) v).take (off + k + 1) = cs.toList.take (off + k) ++ [v] := by
      apply List.ext_getElem?
      intro j
      simp only [List.getElem?_take, List.getElem?_set, List.getElem?_append, List.length_take]
      have : min (off + k) cs.toList.length = off + k := by omega
      rw [this]
      by_cases hj : j < off + k
      · simp [hj, Nat.lt_succ_of_lt hj]; intro hh; omega
      · by_cases hj2 : j = off + k
        · subst hj2; simp; simpa using hlt
        · simp [hj, show ¬ j < off + k + 1 by omega]
          cases hx : j - (off + k) with
          | zero => omega
          | succ m => simp
    have h2 : (cs.toList.set (off + k) v).drop (off + k + 1 + vs.length) = cs.toList.drop (off + k + (vs.length + 1)) := by
      apply List.ext_getElem?
      intro j
      simp only [List.getElem?_drop, List.getElem?_set]
      rw [if_neg (by omega)]
      congr 1; omega
    rw [h1, h2]
    simp
def tr (T : eo) (fs : List (Nat × TypeId)) : List Nat → List Value → List Value → Option (List Value)
  | [], [], cs => some cs
  | i :: is, v :: vs, cs => match dI fs i with
    | some (off, ty) => match lk ty T with
      | some d => match Nat.beq (dL v).length d.size with
        | true => match jv cs off (dL v) with
          | some cs' => tr T fs is vs cs'
          | none => none
        | false => none
      | none => none
    | none => none
  | _, _, _ => none
theorem gP (v : Value) : v.cells.toList = dL v := by cases v <;> rfl
theorem tu {P : Program} {T : eo} (hT : TOK P T) {fs : List (Nat × TypeId)} {place : Nat → Option (Nat × Nat)} (hp : ∀ i off ty d, dI fs i = some (off, ty) → lk ty T = some d → place i = some (off, d.size)) :
    ∀ {is : List Nat} {vs cs r : List Value}, tr T fs is vs cs = some r → Instr.fill place ⟨cs⟩ (is.zip vs) = some ⟨r⟩
  | [], [], cs, r, h => by obtain rfl := (by simpa [tr] using h); rfl
  | [], _ :: _, cs, r, h => by cases h
  | _ :: _, [], cs, r, h => by cases h
  | i :: is, v :: vs, cs, r, h => by
    simp only [tr] at h
    split at h <;> first | (cases h; done) | skip
    rename_i off ty hn
    split at h <;> first | (cases h; done) | skip
    rename_i d hd
    split at h <;> first | (cases h; done) | skip
    rename_i hb
    split at h <;> first | (cases h; done) | skip
    rename_i cs' hs
    have hsz : v.cells.size = d.size := by
      have := Nat.eq_of_beq_eq_true hb
      rw [← gP] at this; simpa using this
    obtain ⟨e, hl⟩ := jX hs
    have hfill := mP off v.cells.toList 0 ⟨cs⟩ (by rw [gP]; simpa using hl)
    simp only [Nat.add_zero] at hfill
    rw [List.zip_cons_cons]
    unfold Instr.fill
    simp only [hp i off ty d hn hd]
    rw [if_neg (by
      rw [← gP] at hl
      have h2 : v.cells.toList.length = v.cells.size := by simp
      have h3 : (⟨cs⟩ : Array Value).size = cs.length := rfl
      rw [h2] at hl
      rw [h3]
      simp only [ne_eq, hsz, not_true, decide_false, Bool.false_or, decide_eq_true_eq]
      omega)]
    have : (v.cells.zipIdx.foldl (fun (cs : Array Value) (p : Value × Nat) => cs.setIfInBounds (off + p.2) p.1) (⟨cs⟩ : Array Value)) = (⟨cs'⟩ : Array Value) := by
      rw [← Array.foldl_toList]
      simp only [Array.toList_zipIdx]
      rw [hfill, e, gP]
    have h9 := tu (place := place) hT hp h
    rw [← this] at h9
    exact h9
theorem oD {P : Program} {T : eo} (hT : TOK P T) (w : World) : ∀ (l : List Field), (∀ f ∈ l, ∃ d, lk f.type T = some d) →
    ∃ r : List (Nat × Nat), (l.mapM fun f => do pure (f.offset, ← sizeOf f.type) : Sem (List (Nat × Nat))).run P w = .ok r w ∧ ∀ (i off : Nat) (ty : TypeId) (d : TD), (l.map fun (f : Field) => (f.offset, f.type))[i]? = some (off, ty) → lk ty T = some d → r[i]? = some (off, d.size)
  | [], _ => ⟨[], rfl, fun i off ty d h => by simp at h⟩
  | f :: l, h => by
    obtain ⟨r, hr, hs⟩ := oD hT w l (fun x hx => h x (List.mem_cons_of_mem _ hx))
    obtain ⟨d0, hd0⟩ := h f (List.mem_cons_self ..)
    obtain ⟨i0, hi0, hs0, _⟩ := bu (hT.get hd0)
    refine ⟨(f.offset, d0.size) :: r, ?_, ?_⟩
    · simp only [List.mapM_cons, Sem.run_bind, ct hi0, Result.andThen_ok, Sem.run_pure, hr, hs0]
    · intro i off ty d hi hd
      cases i with
      | zero =>
        simp only [List.map_cons, List.getElem?_cons_zero, Option.some.injEq, Prod.mk.injEq] at hi
        obtain ⟨rfl, rfl⟩ := hi
        rw [hd0] at hd
        obtain rfl := (by simpa using hd)
        simp
      | succ i => simpa using hs i off ty d (by simpa using hi) hd
def xp (T : eo) : List (Nat × TypeId) → Bool
  | [] => true
  | (_, ty) :: r => match lk ty T with
    | some _ => xp T r
    | none => false
theorem oE {T : eo} : ∀ {fs : List (Nat × TypeId)}, xp T fs = true → ∀ p ∈ fs, ∃ d, lk p.2 T = some d
  | [], _, p, hp => by cases hp
  | (o, ty) :: r, h, p, hp => by
    simp only [xp] at h
    split at h <;> first | (cases h; done) | skip
    rename_i d hd
    rcases List.mem_cons.1 hp with rfl | hp
    · exact ⟨d, hd⟩
    · exact oE h p hp
theorem aj {P : Program} {T : eo} (hT : TOK P T) {w0 : World} {S : bq} {M : List Ent} {L : Cd} {o : Oper} {t : TypeId} {parts : List (Nat × Operand)} {n' : Nat} {z : List Value} {fs : List (Nat × TypeId)} {Ls : List Cd} {vs r : List Value} (h1 : o.op = .build t parts.toArray)
    (h2 : vL S (parts.map (·.2)) = some (Ls, vs)) (h3 : nR L Ls) (h4 : lk t T = some (.row n' z fs)) (h5 : xp T fs = true) (h6 : tr T fs (parts.map (·.1)) vs z = some r) : VO P w0 S M L o (.agg ⟨r⟩) := by
  intro n a w hS hM hL
  obtain ⟨F, i, hu, hi, hz, _, rfl⟩ := ep (hT.get h4)
  have hvs := jW hS hL _ h2 h3
  obtain ⟨pl, hpl, hps⟩ := oD hT w F.toList (fun f hf => by
    obtain ⟨d, hd⟩ := oE h5 (f.offset, f.type) (List.mem_map.2 ⟨f, hf, rfl⟩)
    exact ⟨d, hd⟩)
  have hfl := tu (place := fun (i : Nat) => pl[i]?) hT (fun i off ty d hn hd => hps i off ty d (by rw [gM] at hn; exact hn) hd) h6
  have hzip : (parts.map fun p => (p.1, a.eval p.2)) = (parts.map (·.1)).zip vs := by
    rw [← hvs, List.map_map]
    induction parts with
    | nil => rfl
    | cons p ps ih => simp [List.zip_map']
  unfold execOp
  simp only [h1]
  have hmp : (F.mapM fun f => do pure (f.offset, ← sizeOf f.type) : Sem (Array (Nat × Nat))).run P w = .ok pl.toArray w := by
    rw [Array.mapM_eq_mapM_toList]
    simp only [Sem.run_map, hpl, Result.andThen_ok]
  have harr : (parts.toArray.map fun (x : Nat × Operand) => match x with | (i, x) => (i, a.eval x)).toList = (parts.map (·.1)).zip vs := by
    rw [← hzip]; simp
  have hfun : (fun (x : Nat) => pl.toArray[x]?) = (fun (i : Nat) => pl[i]?) := by funext i; simp
  simp only [Instr.build, Sem.run_bind, iR hi hz, Result.andThen_ok, run_underlying hu, hmp, Value.cells, harr, hfun, hfl, Sem.run_pure]
def AA (P : Program) (t : TypeId) : Bool := !P.stoodInHeld t && (P.fieldsOf t).toList.all fun f => f.name != "_"
def E7 (T : eo) (f : TypeId → Value → Value → Option Bool) (xs ys : List Value) : List (Nat × TypeId) → Option Bool
  | [] => some true
  | (off, ty) :: r => match lY T ty xs off with
    | some a => match lY T ty ys off with
      | some b => match f ty a b with
        | some c => match E7 T f xs ys r with
          | some d => some (c && d)
          | none => none
        | none => none
      | none => none
    | none => none
def Dn (T : eo) (E : List TypeId) : Nat → TypeId → Value → Value → Option Bool
  | 0, _, _, _ => none
  | n + 1, t, x, y => match lk t T with
    | some (.int _ _) => match x, y with
      | .int k a, .int k' b => match H5 k k' with
        | true => some (a == b)
        | false => none
      | _, _ => none
    | some (.bool _) => match x, y with
      | .bool a, .bool b => some (a == b)
      | _, _ => none
    | some (.str _) => match x, y with
      | .string a, .string b => some (a.toList == b.toList)
      | _, _ => none
    | some (.row _ _ fs) => match E.contains t with
      | true => match x, y with
        | .agg ⟨xs⟩, .agg ⟨ys⟩ => E7 T (Dn T E n) xs ys fs
        | _, _ => none
      | false => none
    | _ => none
theorem AB {P : Program} {T : eo} (hT : TOK P T) {E : List TypeId} (hE : E.all (AA P) = true) (n : Nat) :
    (∀ (d : Nat) (t : TypeId) (x y : Value) (c : Bool) (w : World), n ≤ d → Dn T E n t x y = some c → (Op.equalIn d t x y).run P w = .ok c w) ∧
    (∀ (d : Nat) (xs ys : List Value) (F : List Field) (c : Bool) (w : World), n ≤ d → (F.all fun f => f.name != "_") = true → E7 T (Dn T E n) xs ys (F.map fun f => (f.offset, f.type)) = some c → (Op.eqFields d ⟨xs⟩ ⟨ys⟩ F).run P w = .ok c w) := by
  induction n with
  | zero =>
    refine ⟨fun d t x y c w _ h => by simp [Dn] at h, ?_⟩
    intro d xs ys F c w hd hF h
    cases F with
    | nil => obtain rfl := (by simpa [E7] using h); rfl
    | cons f F => simp only [List.map_cons, E7, Dn] at h; (repeat' split at h) <;> cases h
  | succ n ih =>
    have hA : ∀ (d : Nat) (t : TypeId) (x y : Value) (c : Bool) (w : World), n + 1 ≤ d → Dn T E (n + 1) t x y = some c → (Op.equalIn d t x y).run P w = .ok c w := by
      intro d t x y c w hd h
      obtain ⟨d, rfl⟩ : ∃ d', d = d' + 1 := ⟨d - 1, by omega⟩
      simp only [Dn] at h
      split at h
      · rename_i hl
        split at h <;> first | (cases h; done) | skip
        split at h <;> first | (cases h; done) | skip
        rename_i hk
        obtain rfl := Az hk
        obtain rfl := (by simpa using h)
        exact run_equalIn_int w d t _ _ _ _ (iQ (hT.get hl))
      · rename_i hl
        split at h <;> first | (cases h; done) | skip
        obtain rfl := (by simpa using h)
        exact run_equalIn_bool w d t _ _ (mO (hT.get hl))
      · rename_i hl
        split at h <;> first | (cases h; done) | skip
        obtain rfl := (by simpa using h)
        exact run_equalIn_string w d t _ _ (eu (hT.get hl))
      · rename_i fs hl
        split at h <;> first | (cases h; done) | skip
        rename_i hc
        split at h <;> first | (cases h; done) | skip
        rename_i xs ys
        obtain ⟨F, i, hu, _, _, _, rfl⟩ := ep (hT.get hl)
        have hok := List.all_eq_true.1 hE t (by simpa using hc)
        simp only [AA, Bool.and_eq_true, Bool.not_eq_true'] at hok
        have hfo : P.fieldsOf t = F := by simp [Program.fieldsOf, hu]
        rw [run_equalIn_struct w d t _ _ (by rw [hfo]; exact hu) hok.1, hfo]
        rw [hfo] at hok
        exact ih.2 d xs ys F.toList c w (by omega) hok.2 h
      · cases h
    refine ⟨hA, ?_⟩
    intro d xs ys F
    induction F with
    | nil => intro c w hd hF h; obtain rfl := (by simpa [E7] using h); rfl
    | cons f F ihF =>
      intro c w hd hF h
      simp only [List.map_cons, E7] at h
      split at h <;> first | (cases h; done) | skip
      rename_i a ha
      split at h <;> first | (cases h; done) | skip
      rename_i b hb
      split at h <;> first | (cases h; done) | skip
      rename_i c1 hc1
      split at h <;> first | (cases h; done) | skip
      rename_i c2 hc2
      obtain rfl := (by simpa using h)
      simp only [List.all_cons, Bool.and_eq_true, bne_iff_ne] at hF
      have h2 := ihF c2 w hd hF.2 hc2
      simp only [Op.eqFields, if_pos hF.1, Sem.run_bind, lD hT ha, lD hT hb, Result.andThen_ok, hA d f.type a b c1 w hd hc1, Sem.run_ite]
      cases c1 <;> simp [h2]
theorem gQ {P : Program} {T : eo} (hT : TOK P T) {E : List TypeId} (hE : E.all (AA P) = true) {w0 : World} {S : bq} {M : List Ent} {L L1 L2 : Cd} {o : Oper} {t ty : TypeId} {x y : Operand} {xs ys : Array Value} {c : Bool} (h1 : o.op = .binOp .eql t x y ty)
    (h2 : ev S x = some (L1, .agg xs)) (h3 : Suf L1 L) (h4 : ev S y = some (L2, .agg ys)) (h5 : Suf L2 L) (h6 : Dn T E 9 t (.agg xs) (.agg ys) = some c) (h7 : P.eqGuardType P.depth t = false) : VO P w0 S M L o (.bool c) := by
  intro n a w hS hM hL
  unfold execOp
  simp only [h1, av hS h2 (h3.holds hL), av hS h4 (h5.holds hL)]
  have := (AB hT hE 9).1 10000 t _ _ c w (by omega) h6
  simp only [Sem.run_bind, run_eqGuard_agg w .eql t x y xs ys h7, Result.andThen_ok, run_eql_struct, this, Sem.run_pure]
theorem iG {P : Program} {T : eo} (hT : TOK P T) {E : List TypeId} (hE : E.all (AA P) = true) {w0 : World} {S : bq} {M : List Ent} {L L1 L2 : Cd} {o : Oper} {t ty : TypeId} {x y : Operand} {xs ys : Array Value} {c : Bool} (h1 : o.op = .binOp .neq t x y ty)
    (h2 : ev S x = some (L1, .agg xs)) (h3 : Suf L1 L) (h4 : ev S y = some (L2, .agg ys)) (h5 : Suf L2 L) (h6 : Dn T E 9 t (.agg xs) (.agg ys) = some c) (h7 : P.eqGuardType P.depth t = false) : VO P w0 S M L o (.bool (!c)) := by
  intro n a w hS hM hL
  unfold execOp
  simp only [h1, av hS h2 (h3.holds hL), av hS h4 (h5.holds hL)]
  have := (AB hT hE 9).1 10000 t _ _ c w (by omega) h6
  simp only [Sem.run_bind, run_eqGuard_agg w .neq t x y xs ys h7, Result.andThen_ok, run_neq_struct, this, Sem.run_pure]
def IH : BinOp → IntKind → Int → Nat → Option Value
  | .shl, k, a, n => some (.int k (k.wrap (a * 2 ^ (min n k.bits))))
  | .shr, k, a, n => some (.int k (a.fdiv (2 ^ (min n k.bits))))
  | _, _, _, _ => none
theorem lp {P : Program} {w0 : World} {S : bq} {M : List Ent} {L L1 L2 : Cd} {o : Oper} {op : BinOp} {t ty : TypeId} {x y : Operand} {k yk : IntKind} {a b : Int} {m : Nat} {v : Value} (h1 : o.op = .binOp op t x y ty)
    (h2 : ev S x = some (L1, .int k a)) (h3 : Suf L1 L) (h4 : ev S y = some (L2, .int yk b)) (h5 : Suf L2 L) (h6 : nn b = some m) (h7 : IH op k a m = some v) : VO P w0 S M L o v := by
  intro n ac w hS hM hL
  obtain rfl := GE h6
  unfold execOp
  simp only [h1, av hS h2 (h3.holds hL), av hS h4 (h5.holds hL)]
  cases op <;> simp only [IH] at h7 <;> first | (cases h7; done) | skip
  all_goals (obtain rfl := (by simpa using h7); simp [eqGuard, binOp, Op.shift]; omega)
theorem AC {P : Program} {w0 : World} {S : bq} {M : List Ent} {L : Cd} {o : Oper} {fn : Fn} {fs cs : List Operand} {L1 L2 : List Cd} {vs us : List Value} (h1 : o.op = .makeFunc fn fs.toArray cs.toArray)
    (h2 : vL S fs = some (L1, vs)) (h3 : nR L L1) (h4 : vL S cs = some (L2, us)) (h5 : nR L L2) : VO P w0 S M L o (.func fn ⟨vs⟩ ⟨us⟩) := by
  intro n a w hS hM hL
  unfold execOp
  simp [h1, Instr.makeFunc, jW hS hL _ h2 h3, jW hS hL _ h4 h5]
def dE : Value → Option (List Value)
  | .agg ⟨l⟩ => some l
  | v => some [v]
theorem kM {v : Value} {l : List Value} (h : dE v = some l) : v.cells = ⟨l⟩ := by
  cases v <;> (simp only [dE] at h; obtain rfl := (by simpa using h); rfl)
def iS : TD → Option (List Value)
  | .row _ z _ => some z
  | .arr _ z _ _ => some z
  | .bool z => dE z
  | .int _ z => dE z
  | .str z => dE z
  | .ptr _ z => dE z
  | .slc _ z => dE z
  | .one z => dE z
theorem jY {d : TD} {l : List Value} (h : iS d = some l) : d.zeroV.cells = ⟨l⟩ := by
  cases d <;> simp only [iS] at h <;> first | exact kM h | (obtain rfl := (by simpa using h); rfl)
def fj : List Value → Bool
  | [] => true
  | .agg _ :: _ => false
  | .tuple _ :: _ => false
  | _ :: r => fj r
theorem eO : ∀ {l : List Value}, fj l = true → ∀ v ∈ l, v.oneCell' = true
  | [], _, v, hv => by cases hv
  | x :: r, h, v, hv => by
    cases x <;> first
      | (cases h; done)
      | (rcases List.mem_cons.1 hv with rfl | hv
         · rfl
         · exact eO (l := r) h v hv)
def E8 (P : Program) (f : FuncId) : Bool := match P.funcs[f]? with
  | some fn => !(fn.name == "runtime.NumGoroutine") && fn.body.isSome
  | none => false
theorem yG {P : Program} {f : FuncId} (h : E8 P f = true) (args : Array Value) (w : World) : (callFunc f args).run P w = .ok (.enter f args) w := by
  unfold E8 at h
  split at h
  · rename_i fn hf
    simp only [Bool.and_eq_true, Bool.not_eq_true', beq_eq_false_iff_ne] at h
    obtain ⟨h1, h2⟩ := h
    cases hb : fn.body with
    | none => rw [hb] at h2; cases h2
    | some c => simp [callFunc, hf, h1, hb]
  · cases h
def qh : List Value → List Value → Option (List Value)
  | [], r => some r
  | x :: l, r => match qh l r with
    | some t => some (x :: t)
    | none => none
theorem kN : ∀ {l r t : List Value}, qh l r = some t → t = l ++ r
  | [], r, t, h => by obtain rfl := (by simpa [qh] using h); rfl
  | x :: l, r, t, h => by
    simp only [qh] at h
    cases hr : qh l r with
    | none => rw [hr] at h; cases h
    | some t' => rw [hr] at h; obtain rfl := (by simpa using h); simp [kN hr]
def Do (fs vs : List Value) : List Value → Option (List Value)
  | [] => qh fs vs
  | c :: cs => match qh vs (c :: cs) with
    | some t => qh fs t
    | none => none
theorem Dp {fs vs cs t : List Value} (h : Do fs vs cs = some t) : t = fs ++ vs ++ cs := by
  cases cs with
  | nil => simpa [Do] using kN h
  | cons c cs =>
    simp only [Do] at h
    cases hr : qh vs (c :: cs) with
    | none => rw [hr] at h; cases h
    | some t' => rw [hr] at h; rw [kN h, kN hr]; simp
structure dd (P : Program) (S : bq) (L : Cd) (o : Oper) (f : FuncId) (args : List Value) : Prop where
  ok : ∀ n a w, Sl n a S → az L = true → (execOp a.eval o).run P w = .ok (.enter f ⟨args⟩) w
theorem ap {P : Program} {S : bq} {L L1 : Cd} {o : Oper} {fx : Operand} {xs : List Operand} {ts : Array TypeId} {f : FuncId} {fs cs vs args : List Value} {Ls : List Cd} (h1 : o.op = .call ⟨.value fx, xs.toArray, ts⟩)
    (h2 : ev S fx = some (L1, .func (.func f) ⟨fs⟩ ⟨cs⟩)) (h3 : Suf L1 L) (h4 : vL S xs = some (Ls, vs)) (h5 : nR L Ls) (h6 : Do fs vs cs = some args) (h7 : E8 P f = true) : dd P S L o f args := by
  refine ⟨fun n a w hS hL => ?_⟩
  unfold execOp
  have hv := jW hS hL _ h4 h5
  simp [h1, resolve, invoke, av hS h2 (h3.holds hL), Deferred.ofValue, hv, yG h7, Dp h6]
structure SL (P : Program) (l0 : List Oper) (Q : Exit → Act → World → Prop) (l : List Oper) (n : Nat) (w0 : World) (S : bq) (M : List Ent) : Prop where
  run : ∀ a w, Sl n a S → Mem w0 w M → oA P l0.toArray (Q .normal) l a w
structure SC (P : Program) (c : Code) (Q : Exit → Act → World → Prop) (n : Nat) (w0 : World) (S : bq) (M : List Ent) : Prop where
  run : ∀ a w, Sl n a S → Mem w0 w M → c.wp P Q a w
structure SQ (Q : Exit → Act → World → Prop) (e : Exit) (n : Nat) (w0 : World) (S : bq) (M : List Ent) : Prop where
  run : ∀ a w, Sl n a S → Mem w0 w M → Q e a w
section
variable {P : Program} {l0 rest : List Oper} {Q : Exit → Act → World → Prop} {n : Nat} {w0 : World} {S : bq} {M M' : List Ent} {L L1 L2 : Cd} {o : Oper} {d : Nat}
theorem co (h : SQ Q .normal n w0 S M) : SL P l0 Q [] n w0 S M := ⟨fun a w hS hM => h.run a w hS hM⟩
theorem ci (hg : gd l0 S o.guard = some L) (hw : az L = true → ∀ a w, Sl n a S → Mem w0 w M → Vals P o a w fun v w' => oA P l0.toArray (Q .normal) rest (a.put o.dst v) w')
    (hn : az L = false → ∀ a w, Sl n a S → Mem w0 w M → oA P l0.toArray (Q .normal) rest (a.put o.dst undef) w) : SL P l0 Q (o :: rest) n w0 S M := by
  refine ⟨fun a w hS hM => ?_⟩
  unfold oA
  rw [gh hS hg]
  cases hL : az L with
  | true => simp only [if_true]; exact hw hL a w hS hM
  | false => simp only [Bool.false_eq_true, if_false]; exact hn hL a w hS hM
theorem dZ {v : Value} (hg : gd l0 S o.guard = some L) (hv : VO P w0 S M L o v) (hd : o.dst = some d) (hn : Nat.blt d n = true) (h : SL P l0 Q rest n w0 ((d, L, v) :: S) M) : SL P l0 Q (o :: rest) n w0 S M := by
  have hdn : d < n := Nat.le_of_ble_eq_true hn
  refine ci hg (fun hL a w hS hM => aX (hv n a w hS hM hL) (h.run _ _ ?_ hM)) (fun hL a w hS hM => h.run _ _ ?_ hM)
  · rw [hd]; exact hS.put hdn (by simp [hL])
  · rw [hd]; exact hS.put hdn (by simp [hL])
theorem bg {f : FuncId} {args : List Value} {v : Value} (hg : gd l0 S o.guard = some L) (ho : dd P S L o f args) (hc : ∀ w, Mem w0 w M → Calls P f ⟨args⟩ w fun e w' => e = .returned v ∧ Below w.heap.size w w')
    (hd : o.dst = some d) (hn : Nat.blt d n = true) (h : SL P l0 Q rest n w0 ((d, L, v) :: S) M) : SL P l0 Q (o :: rest) n w0 S M := by
  have hdn : d < n := Nat.le_of_ble_eq_true hn
  refine ci hg (fun hL a w hS hM => cW (ho.ok n a w hS hL) ((hc w hM).mono ?_)) (fun hL a w hS hM => h.run _ _ ?_ hM)
  · rintro e w' ⟨rfl, hb⟩
    refine ⟨v, rfl, h.run _ _ ?_ (hM.keep hb)⟩
    rw [hd]; exact hS.put hdn (by simp [hL])
  · rw [hd]; exact hS.put hdn (by simp [hL])
theorem bj {σ : Type} {f : FuncId} {args : List Value} (Φ : σ → Prop) (V : σ → Value) (N : σ → List Ent) (hg : o.guard = none) (ho : dd P S [] o f args)
    (hc : ∀ w, Mem w0 w M → Calls P f ⟨args⟩ w fun e w' => ∃ p, Φ p ∧ e = .returned (V p) ∧ Mem w0 w' (N p))
    (hd : o.dst = some d) (hn : Nat.blt d n = true) (h : ∀ p, Φ p → SL P l0 Q rest n w0 ((d, [], V p) :: S) (N p)) : SL P l0 Q (o :: rest) n w0 S M := by
  have hdn : d < n := Nat.le_of_ble_eq_true hn
  refine ci (L := []) (by rw [hg]; rfl) (fun hL a w hS hM => cW (ho.ok n a w hS hL) ((hc w hM).mono ?_)) (fun hL => by cases hL)
  rintro e w' ⟨p, hp, rfl, hM'⟩
  refine ⟨V p, rfl, (h p hp).run _ _ ?_ hM'⟩
  rw [hd]; exact hS.put hdn (by simp [az])
theorem AD {σ : Type} (Φ : σ → Prop) (V : σ → Value) (N : σ → List Ent) (hg : o.guard = none)
    (hc : ∀ a w, Sl n a S → Mem w0 w M → ∃ p w', Φ p ∧ (execOp a.eval o).run P w = .ok (.value (V p)) w' ∧ Mem w0 w' (N p))
    (hd : o.dst = some d) (hn : Nat.blt d n = true) (h : ∀ p, Φ p → SL P l0 Q rest n w0 ((d, [], V p) :: S) (N p)) : SL P l0 Q (o :: rest) n w0 S M := by
  have hdn : d < n := Nat.le_of_ble_eq_true hn
  refine ci (L := []) (by rw [hg]; rfl) (fun hL a w hS hM => ?_) (fun hL => by cases hL)
  obtain ⟨p, w', hp, hr, hM'⟩ := hc a w hS hM
  refine aX hr ((h p hp).run _ _ ?_ hM')
  rw [hd]; exact hS.put hdn (by simp [az])
theorem eG {t : TypeId} {x : Operand} {v : Value} {cs : List Value} (h1 : o.op = .box t x) (hg : o.guard = none) (h2 : ev S x = some ([], v)) (h3 : dE v = some cs) (hd : o.dst = some d) (hn : Nat.blt d n = true)
    (h : ∀ g, SL P l0 Q rest n w0 ((d, [], .pointer (some ⟨g, 0, none⟩)) :: S) (.cl g t cs :: M)) : SL P l0 Q (o :: rest) n w0 S M := by
  have hdn : d < n := Nat.le_of_ble_eq_true hn
  refine ci (L := []) (by rw [hg]; rfl) (fun hL a w hS hM => ?_) (fun hL => by cases hL)
  have hrun : (execOp a.eval o).run P w = .ok (.value (.pointer (some ⟨w.heap.size, 0, none⟩))) (w.alloc (.cells ⟨cs⟩ t)) := by
    unfold execOp
    simp only [h1, av hS h2 rfl, Instr.box, newVar, newRow, kM h3, Sem.run_bind]
    rfl
  refine aX hrun ((h _).run _ _ ?_ (hM.new t cs))
  rw [hd]; exact hS.put hdn (by simp [az])
theorem dM {T : eo} (hT : TOK P T) {t : TypeId} {td : TD} {cs : List Value} (h1 : o.op = .alloc t) (hg : o.guard = none) (h2 : lk t T = some td) (h3 : iS td = some cs) (hd : o.dst = some d) (hn : Nat.blt d n = true)
    (h : ∀ g, SL P l0 Q rest n w0 ((d, [], .pointer (some ⟨g, 0, none⟩)) :: S) (.cl g t cs :: M)) : SL P l0 Q (o :: rest) n w0 S M := by
  have hdn : d < n := Nat.le_of_ble_eq_true hn
  refine ci (L := []) (by rw [hg]; rfl) (fun hL a w hS hM => ?_) (fun hL => by cases hL)
  obtain ⟨i, hi, _, hz⟩ := bu (hT.get h2)
  have hrun : (execOp a.eval o).run P w = .ok (.value (.pointer (some ⟨w.heap.size, 0, none⟩))) (w.alloc (.cells ⟨cs⟩ t)) := by
    unfold execOp
    simp only [h1, Instr.alloc, Sem.run_bind, iR hi hz, Result.andThen_ok, newVar, newRow, jY h3]
    rfl
  refine aX hrun ((h _).run _ _ ?_ (hM.new t cs))
  rw [hd]; exact hS.put hdn (by simp [az])
theorem fA {T : eo} (hT : TOK P T) {t : TypeId} {td : TD} {w : World} {g off : Nat} {B : TypeId} {v : Value} {cs cs' vs : List Value} (hb : Bk w g B ⟨cs⟩) (h4 : dE v = some vs) (h5 : lk t T = some td) (h6 : Nat.beq vs.length td.size = true) (h7 : fj vs = true) (h8 : jv cs off vs = some cs') :
    (Instr.storeAt t (.pointer (some ⟨g, off, none⟩)) v).run P w = .ok () (w.setRow g ⟨cs'⟩) := by
  obtain ⟨i, hi, hs, _⟩ := bu (hT.get h5)
  obtain ⟨e, hl⟩ := jX h8
  have hlen := Nat.eq_of_beq_eq_true h6
  have := run_storeCells_at (P := P) g off B vs 0 ⟨cs⟩ w hb (by simpa using hl) (eO h7)
  simp only [Nat.add_zero] at this
  simp only [Instr.storeAt, Instr.sureAddr, storeVar, kM h4, Sem.run_bind, Sem.run_pure, Result.andThen_ok, ct hi]
  have hsz : (⟨vs⟩ : Array Value).size = i.size := by simp [hs, hlen]
  simp only [hsz, ne_eq, not_true, if_false]
  rw [this, e]
theorem aC {T : eo} (hT : TOK P T) (i : Nat) {t : TypeId} {td : TD} {x y : Operand} {g off : Nat} {B : TypeId} {v : Value} {cs cs' vs : List Value} (h1 : o.op = .store t x y) (hg : o.guard = none) (h2 : ev S x = some ([], .pointer (some ⟨g, off, none⟩))) (h3 : ev S y = some ([], v))
    (hm : dI M i = some (.cl g B cs)) (h4 : dE v = some vs) (h5 : lk t T = some td) (h6 : Nat.beq vs.length td.size = true) (h7 : fj vs = true) (h8 : jv cs off vs = some cs') (h9 : ek M i (.cl g B cs') = some M') (hd : o.dst = none)
    (h : SL P l0 Q rest n w0 S M') : SL P l0 Q (o :: rest) n w0 S M := by
  refine ci (L := []) (by rw [hg]; rfl) (fun hL a w hS hM => ?_) (fun hL => by cases hL)
  have hrun : (execOp a.eval o).run P w = .ok .skip (w.setRow g ⟨cs'⟩) := by
    unfold execOp
    simp only [h1, av hS h2 rfl, av hS h3 rfl, Sem.run_bind, fA hT (show Bk w g B ⟨cs⟩ from (hM.2.get hm).2) h4 h5 h6 h7 h8]
    rfl
  unfold Vals
  rw [hrun]
  refine h.run _ _ ?_ (hM.setRow hm h9)
  rw [hd]; exact hS
def mQ (size : Nat) : List Value → Option (List Value)
  | [] => some []
  | v :: vs => match Nat.beq (dL v).length size with
    | true => match mQ size vs with
      | some r => qh (dL v) r
      | none => none
    | false => none
theorem tw {size : Nat} : ∀ {vs r : List Value}, mQ size vs = some r → r.length = vs.length * size
  | [], r, h => by obtain rfl := (by simpa [mQ] using h); simp
  | v :: vs, r, h => by
    simp only [mQ] at h
    split at h <;> first | (cases h; done) | skip
    rename_i hb
    split at h <;> first | (cases h; done) | skip
    rename_i r' hr
    rw [kN h, List.length_append, tw hr, Nat.eq_of_beq_eq_true hb, List.length_cons, Nat.add_mul]; omega
def rO : List Nat → Nat → Bool
  | [], _ => true
  | i :: r, k => Nat.beq i k && rO r (k + 1)
theorem tz {size : Nat} : ∀ {is : List Nat} {vs r : List Value} {k : Nat} {cs : Array Value}, rO is k = true → is.length = vs.length → mQ size vs = some r → k * size + r.length ≤ cs.size →
    Instr.fill (fun i => some (i * size, size)) cs (is.zip vs) = some (cs.toList.take (k * size) ++ r ++ cs.toList.drop (k * size + r.length)).toArray
  | [], [], r, k, cs, _, _, h, _ => by
    obtain rfl := (by simpa [mQ] using h)
    simp [Instr.fill]
  | [], _ :: _, _, _, _, _, hl, _, _ => by simp at hl
  | _ :: _, [], _, _, _, _, hl, _, _ => by simp at hl
  | i :: is, v :: vs, r, k, cs, hi, hl, h, hsz => by
    simp only [rO, Bool.and_eq_true] at hi
    obtain ⟨hi1, hi2⟩ := hi
    obtain rfl := Nat.eq_of_beq_eq_true hi1
    simp only [mQ] at h
    split at h <;> first | (cases h; done) | skip
    rename_i hb
    split at h <;> first | (cases h; done) | skip
    rename_i r' hr
    obtain rfl := kN h
    have hvs := Nat.eq_of_beq_eq_true hb
    have hvc : v.cells.size = size := by rw [← gP] at hvs; simpa using hvs
    have hl' : (dL v).length + r'.length = (dL v ++ r').length := by simp
    rw [← hl', hvs] at hsz
    rw [List.zip_cons_cons]
    unfold Instr.fill
    simp only
    rw [if_neg (by
      have h3 : ¬ i * size + size > cs.size := by omega
      simp [hvc, h3])]
    have hf := mP (i * size) v.cells.toList 0 cs (by rw [gP, hvs]; omega)
    simp only [Nat.add_zero] at hf
    have e1 : (v.cells.zipIdx.foldl (fun (cs : Array Value) (p : Value × Nat) => cs.setIfInBounds (i * size + p.2) p.1) cs) = (cs.toList.take (i * size) ++ dL v ++ cs.toList.drop (i * size + size)).toArray := by
      rw [← Array.foldl_toList, Array.toList_zipIdx, hf, gP, hvs]
    have e1' : (v.cells.zipIdx.foldl (fun (cs : Array Value) (x : Value × Nat) => match x with | (c, j) => cs.setIfInBounds (i * size + j) c) cs) = (cs.toList.take (i * size) ++ dL v ++ cs.toList.drop (i * size + size)).toArray := e1
    rw [e1']
    have hlt : (cs.toList.take (i * size) ++ dL v).length = (i + 1) * size := by
      rw [List.length_append, List.length_take, Array.length_toList, hvs, Nat.add_mul]; omega
    have hsz2 : i * size + size + r'.length ≤ cs.size := by omega
    have hlen2 : ((cs.toList.take (i * size) ++ dL v ++ cs.toList.drop (i * size + size)).toArray).size = cs.size := by
      rw [List.size_toArray, List.length_append, hlt, List.length_drop, Array.length_toList, Nat.add_mul]; omega
    rw [tz (k := i + 1) hi2 (by simpa using hl) hr (by rw [hlen2, Nat.add_mul]; omega)]
    congr 2
    rw [List.take_left' hlt, List.drop_append, hlt]
    rw [List.drop_eq_nil_of_le (by rw [hlt]; omega), List.nil_append, List.drop_drop]
    rw [← hl', hvs]
    simp only [List.append_assoc]
    congr 3
    rw [Nat.add_mul]; congr 1; omega
theorem jw {T : eo} (hT : TOK P T) {t e : TypeId} {len : Nat} {parts : List (Nat × Operand)} {z : Value} {td : TD} {Ls : List Cd} {vs cs : List Value} {a : Act} {w : World} (h1 : o.op = .buildSlice t len parts.toArray)
    (h2 : vL S (parts.map (·.2)) = some (Ls, vs)) (h3 : nR [] Ls) (h4 : lk t T = some (.slc e z)) (h5 : lk e T = some td) (h6 : mQ td.size vs = some cs) (h7 : rO (parts.map (·.1)) 0 = true) (h8 : Nat.beq parts.length len = true) (h10 : Nat.ble (len * td.size) 16777216 = true)
    (hS : Sl n a S) : (execOp a.eval o).run P w = .ok (.value (.slice (some ⟨w.heap.size, 0, none⟩) len len)) (w.alloc (.cells ⟨cs⟩ e)) := by
  have hu := cw (hT.get h4)
  obtain ⟨i, hi, hs, hz⟩ := bu (hT.get h5)
  have hvs := jW hS rfl _ h2 h3
  have hpl := Nat.eq_of_beq_eq_true h8
  have hvl : vs.length = len := by rw [← hvs]; simpa using hpl
  have hcl := tw h6
  rw [hvl] at hcl
  have hzip : (parts.toArray.map fun (x : Nat × Operand) => match x with | (i, x) => (i, a.eval x)).toList = (parts.map (·.1)).zip vs := by
    rw [← hvs, List.map_map]
    simp only [List.map_toArray]
    clear h1 h2 h7 h8 hpl hvs
    induction parts with
    | nil => rfl
    | cons p ps ih => simp [List.zip_map']
  have hfill : ∀ (zc : Array Value), zc.size = len * td.size → Instr.fill (fun i => some (i * td.size, td.size)) zc ((parts.map (·.1)).zip vs) = some ⟨cs⟩ := by
    intro zc hzc
    rw [tz (k := 0) h7 (by simp [hvl, hpl]) h6 (by rw [hcl, hzc]; omega)]
    have : zc.toList.drop (0 * td.size + cs.length) = [] := List.drop_eq_nil_of_le (by rw [Array.length_toList, hzc, hcl]; omega)
    rw [this]; simp
  unfold execOp
  simp only [h1, Instr.buildSlice, Sem.run_bind, run_underlying hu, Result.andThen_ok, ct hi, hs]
  rw [if_neg (by have := Nat.le_of_ble_eq_true h10; omega)]
  by_cases h0 : len * td.size = 0
  · rw [if_pos h0]
    simp only [Sem.run_pure, Sem.run_bind, Result.andThen_ok, hzip]
    rw [hfill _ (by simp)]
    rfl
  · rw [if_neg h0]
    simp only [Sem.run_bind, Sem.run_pure, iR hi hz, Result.andThen_ok, hzip]
    rw [hfill _ (by simp)]
    rfl
theorem cE {T : eo} (hT : TOK P T) {t e : TypeId} {len : Nat} {parts : List (Nat × Operand)} {z : Value} {td : TD} {Ls : List Cd} {vs cs : List Value} (h1 : o.op = .buildSlice t len parts.toArray) (hg : o.guard = none)
    (h2 : vL S (parts.map (·.2)) = some (Ls, vs)) (h3 : nR [] Ls) (h4 : lk t T = some (.slc e z)) (h5 : lk e T = some td) (h6 : mQ td.size vs = some cs) (h7 : rO (parts.map (·.1)) 0 = true) (h8 : Nat.beq parts.length len = true) (h10 : Nat.ble (len * td.size) 16777216 = true)
    (hd : o.dst = some d) (hn : Nat.blt d n = true) (h : ∀ g, SL P l0 Q rest n w0 ((d, [], .slice (some ⟨g, 0, none⟩) len len) :: S) (.cl g e cs :: M)) : SL P l0 Q (o :: rest) n w0 S M := by
  have hdn : d < n := Nat.le_of_ble_eq_true hn
  refine ci (L := []) (by rw [hg]; rfl) (fun hL a w hS hM => ?_) (fun hL => by cases hL)
  refine aX (jw hT h1 h2 h3 h4 h5 h6 h7 h8 h10 hS) ((h _).run _ _ ?_ (hM.new e cs))
  rw [hd]; exact hS.put hdn (by simp [az])
theorem xq (B0 : World) {w : World} {M : List Ent} (e : TypeId) (size : Nat) (h : Mem B0 w M) : Mem B0 w (.own none 0 e size 0 [] :: M) :=
  ⟨h.1, World.ownsRow_nil w _ e size, fun _ _ _ => ⟨fun h1 => h1.elim, fun _ h2 => h2.elim⟩, h.2⟩
def cX (P : Program) (e : TypeId) (b : Nat) : Prop := (P.info? e).map (·.bytes) = some b
theorem yH {B : Nat} {e : TypeId} {size n' : Nat} {xs : List Value} {v' : Value} {w' : World} (h : w'.ownsRow B e size v' n' xs) : ∃ a' cap', v' = .slice a' n' cap' := by
  rcases h.2 with ⟨hv, hn⟩ | ⟨g, cap', cur, hv, _⟩
  · exact ⟨none, 0, by rw [hv, hn]⟩
  · exact ⟨_, _, hv⟩
theorem jZ {T : eo} (hT : TOK P T) (i : Nat) {s x : Operand} {t e : TypeId} {z : Value} {td : TD} {a : Option Addr} {cap k m c b : Nat} {ad : Addr} {xs news : List Value} {M2 : Option Addr → Nat → List Ent} (h1 : o.op = .call ⟨.builtin .append, #[s, x], #[t, t]⟩) (hg : o.guard = none)
    (h2 : ev S s = some ([], .slice a k cap)) (h3 : ev S x = some ([], .slice (some ad) m c)) (h4 : lk t T = some (.slc e z)) (h5 : lk e T = some td) (h6 : (match iS td with | some l => Nat.beq l.length td.size && Nat.blt 0 td.size | none => false) = true)
    (hi : dI M i = some (.own a cap e td.size k xs)) (h9 : ∀ a' cap', ek M i (.own a' cap' e td.size (k + m) (xs ++ news)) = some (M2 a' cap')) (hb : cX P e b)
    (hnews : ∀ w, Mem w0 w M → ∀ j u, news[j]? = some u → w.cell? (ad.add j) = some u) (h7 : fj news = true ∨ ∀ u ∈ news, u.oneCell' = true) (hlen : news.length = m * td.size) (hmax : k + m ≤ maxLen) (hbytes : (k + m) * b ≤ 140737488355328)
    (hd : o.dst = some d) (hn : Nat.blt d n = true) (h : ∀ a' cap', SL P l0 Q rest n w0 ((d, [], .slice a' (k + m) cap') :: S) (M2 a' cap')) : SL P l0 Q (o :: rest) n w0 S M := by
  have hdn : d < n := Nat.le_of_ble_eq_true hn
  refine ci (L := []) (by rw [hg]; rfl) (fun hL ac w hS hM => ?_) (fun hL => by cases hL)
  have hu := cw (hT.get h4)
  obtain ⟨inf, hinf, hs, hz⟩ := bu (hT.get h5)
  have hby : inf.bytes = b := by unfold cX at hb; rw [hinf] at hb; simpa using hb
  have hzz : td.zeroV.cells.size = td.size ∧ 0 < td.size := by
    cases hzo : iS td with
    | none => rw [hzo] at h6; cases h6
    | some l =>
      rw [hzo] at h6
      simp only [Bool.and_eq_true] at h6
      exact ⟨by rw [jY hzo]; simpa using Nat.eq_of_beq_eq_true h6.1, Nat.le_of_ble_eq_true h6.2⟩
  have hown : w.ownsRow w0.heap.size e td.size (.slice a k cap) k xs := hM.2.get hi
  have h7' : ∀ u ∈ news, u.oneCell' = true := h7.elim (fun h => eO h) id
  obtain ⟨v', w', hr, ho', hgr, _, hat⟩ := run_append_own_at (P := P) w w0.heap.size t o.type e inf td.zeroV td.size b hu hinf hz hs hby hzz.1 hzz.2 (.slice a k cap) k xs hown ad m c news hlen (hnews w hM) h7' hmax hbytes hM.1.size
  obtain ⟨a', cap', rfl⟩ : ∃ a' cap', v' = .slice a' (k + m) cap' := by
    rcases ho'.2 with ⟨hv, hn'⟩ | ⟨g, cap', cur, hv, _⟩
    · exact ⟨none, 0, by rw [hv, hn']⟩
    · exact ⟨_, _, hv⟩
  have hrun : (execOp ac.eval o).run P w = .ok (.value (.slice a' (k + m) cap')) w' := by
    unfold execOp
    simp only [h1, resolve, invoke, builtin, Sem.run_bind, Sem.run_pure, Result.andThen_ok, List.map_toArray, List.map_cons, List.map_nil, av hS h2 rfl, av hS h3 rfl, hr]
  have hblk : ∀ q, (Ent.own a' cap' e td.size (k + m) (xs ++ news)).mut q → (Ent.own a cap e td.size k xs).mut q ∨ w.heap.size ≤ q := by
    intro q hq
    cases a' with
    | none => exact hq.elim
    | some a2 =>
      simp only [Ent.mut] at hq
      subst hq
      rcases hat with h | h
      · cases a with
        | none => simp [Value.ownBlock] at h
        | some a1 => left; simpa [Value.ownBlock, Ent.mut] using h
      · right; have : a2.block = w.heap.size := by simpa [Value.ownBlock] using h
        omega
  refine aX hrun ((h a' cap').run _ _ ?_ (hM.set hi (h9 a' cap') hgr.os hgr.tape hgr.output hgr.size (fun q hq hnm => hgr.block q hq (fun e => hnm ?_)) ho' hblk hblk))
  · rw [hd]; exact hS.put hdn (by simp [az])
  · cases a with
    | none => simp [Value.ownBlock] at e
    | some a1 => simpa [Value.ownBlock, Ent.mut] using e
theorem bA {T : eo} (hT : TOK P T) (i j : Nat) {s x : Operand} {t e e' : TypeId} {z : Value} {td : TD} {a : Option Addr} {cap k m c b g : Nat} {xs news : List Value} {M2 : Option Addr → Nat → List Ent} (h1 : o.op = .call ⟨.builtin .append, #[s, x], #[t, t]⟩) (hg : o.guard = none)
    (h2 : ev S s = some ([], .slice a k cap)) (h3 : ev S x = some ([], .slice (some ⟨g, 0, none⟩) m c)) (h4 : lk t T = some (.slc e z)) (h5 : lk e T = some td) (h6 : (match iS td with | some l => Nat.beq l.length td.size && Nat.blt 0 td.size | none => false) = true)
    (hi : dI M i = some (.own a cap e td.size k xs)) (hj : dI M j = some (.cl g e' news)) (h9 : ∀ a' cap', ek M i (.own a' cap' e td.size (k + m) (xs ++ news)) = some (M2 a' cap')) (hb : cX P e b)
    (h7 : fj news = true) (hlen : news.length = m * td.size) (hmax : k + m ≤ maxLen) (hbytes : (k + m) * b ≤ 140737488355328)
    (hd : o.dst = some d) (hn : Nat.blt d n = true) (h : ∀ a' cap', SL P l0 Q rest n w0 ((d, [], .slice a' (k + m) cap') :: S) (M2 a' cap')) : SL P l0 Q (o :: rest) n w0 S M := by
  refine jZ hT i h1 hg h2 h3 h4 h5 h6 hi h9 hb (fun w hM q u hq => ?_) (.inl h7) hlen hmax hbytes hd hn h
  have hk : Bk w g e' ⟨news⟩ := (hM.2.get hj).2
  have : (⟨g, 0, none⟩ : Addr).add q = ⟨g, q, none⟩ := by unfold Addr.add; split <;> simp_all
  rw [this]
  exact hk.at_ q (by simpa using hq)
theorem AE {t : TypeId} (h1 : o.op = .makeMap t none) (hg : o.guard = none) (hd : o.dst = some d) (hn : Nat.blt d n = true)
    (h : ∀ g, SL P l0 Q rest n w0 ((d, [], .map (some g)) :: S) (.obj g (.map #[] 0) :: M)) : SL P l0 Q (o :: rest) n w0 S M := by
  have hdn : d < n := Nat.le_of_ble_eq_true hn
  refine ci (L := []) (by rw [hg]; rfl) (fun hL a w hS hM => ?_) (fun hL => by cases hL)
  have hrun : (execOp a.eval o).run P w = .ok (.value (.map (some w.heap.size))) (w.alloc (.map #[] 0)) := by
    unfold execOp
    simp only [h1, Instr.makeMap, Option.map_none]
    rfl
  refine aX hrun ((h _).run _ _ ?_ (hM.newObj _))
  rw [hd]; exact hS.put hdn (by simp [az])
theorem yI (i : Nat) {t kt et : TypeId} {x y z : Operand} {g clock : Nat} {es : Array MapEntry} {key v : Value} {u : TypeDesc} (h1 : (∃ p, p = (t, x, y, z) ∧ (o.op = .mapUpdate t x y z ∨ o.op = .insert t x y z))) (hg : o.guard = none)
    (h2 : ev S x = some ([], .map (some g))) (h4 : ev S y = some ([], key)) (h5 : ev S z = some ([], v)) (hi : dI M i = some (.obj g (.map es clock))) (hu : P.underlying t = some (.map kt et)) (hk : P.underlying kt = some u) (hkk : (match u with | .int _ => true | .string => true | .bool => true | _ => false) = true)
    (hf : Instr.findNow u key es.toList 0 = some none) (h9 : ek M i (.obj g (.map (es.push ⟨key, v, clock⟩) (clock + 1))) = some M') (hd : o.dst = none) (h : SL P l0 Q rest n w0 S M') : SL P l0 Q (o :: rest) n w0 S M := by
  refine ci (L := []) (by rw [hg]; rfl) (fun hL a w hS hM => ?_) (fun hL => by cases hL)
  have hgo := (hM.2.get hi).2
  have hlts := gN hgo
  let w' : World := { w with heap := w.heap.setIfInBounds g (.map (es.push ⟨key, v, clock⟩) (clock + 1)) }
  have hck : (Instr.checkKey false 10000 kt key).run P w = .ok () w := by
    unfold Instr.checkKey
    rw [Sem.run_bind, run_underlying hk]
    cases u <;> first | (cases hkk; done) | (cases key <;> rfl)
  have hfk : (Instr.findKey kt key es.toList).run P w = .ok none w := by simp [Instr.findKey, Sem.run_bind, run_underlying hk, hf]
  have hgo' : (getObj g).run P w = .ok (.map es clock) w := by simp [getObj, Sem.run, hgo]
  have hso : (setObj g (.map (es.push ⟨key, v, clock⟩) (clock + 1))).run P w = .ok () w' := by simp [setObj, Sem.run, hgo, w']
  have hmu : (Instr.mapUpdate t (.map (some g)) key v).run P w = .ok () w' := by
    simp [Instr.mapUpdate, Sem.run_bind, run_underlying hu, hgo', hck, hfk, hso]
  have hrun : (execOp a.eval o).run P w = .ok .skip w' := by
    obtain ⟨_, _, h1 | h1⟩ := h1
    · unfold execOp
      simp only [h1, av hS h2 rfl, av hS h4 rfl, av hS h5 rfl, Sem.run_bind, hmu]; rfl
    · unfold execOp
      simp only [h1, av hS h2 rfl, av hS h4 rfl, av hS h5 rfl, Sem.run_bind, hmu]; rfl
  unfold Vals
  rw [hrun]
  refine h.run _ _ ?_ (hM.setObj (w' := w') hi h9 J J J (by simp [w']) (fun k hk => by simp [w', Ne.symm hk]) (by simp [w', hlts]))
  rw [hd]; exact hS
theorem aH {id : Nat} {l : List Oper} (h : SL P l Q l n w0 S M) : SC P (.region id l.toArray false) Q n w0 S M := ⟨fun a w hS hM => wp_region_lit (iE (h.run a w hS hM))⟩
theorem bc {x y : Code} (h : SC P x (Exit.then (y.wp P Q) Q) n w0 S M) : SC P (.seq x y) Q n w0 S M := ⟨fun a w hS hM => wp_seq (h.run a w hS hM)⟩
theorem lZ {id : Nat} {c : Code} (h : SC P c (Exit.inBlock id Q) n w0 S M) : SC P (.block id c) Q n w0 S M := ⟨fun a w hS hM => wp_block (h.run a w hS hM)⟩
theorem cJ (h : SQ Q .normal n w0 S M) : SC P .skip Q n w0 S M := ⟨fun a w hS hM => wp_skip (h.run a w hS hM)⟩
theorem xr {id : Nat} (h : SQ Q (.exit id) n w0 S M) : SC P (.exit id) Q n w0 S M := ⟨fun a w hS hM => wp_exit (h.run a w hS hM)⟩
theorem cL (h : SQ Q .ret n w0 S M) : SC P .ret Q n w0 S M := ⟨fun a w hS hM => wp_ret (h.run a w hS hM)⟩
theorem cz {c : Operand} {x y : Code} {b : Bool} (h1 : ev S c = some ([], .bool b)) (ht : b = true → SC P x Q n w0 S M) (hf : b = false → SC P y Q n w0 S M) : SC P (.cond c x y) Q n w0 S M :=
  ⟨fun a w hS hM => wp_cond_split (av hS h1 rfl) (fun hb => (ht hb).run a w hS hM) (fun hb => (hf hb).run a w hS hM)⟩
theorem aq {c : Operand} {x y : Code} {b : Bool} (h1 : ev S c = some ([], .bool b)) (hb : b = true) (ht : SC P x Q n w0 S M) : SC P (.cond c x y) Q n w0 S M :=
  cz h1 (fun _ => ht) (fun h => by rw [hb] at h; cases h)
theorem ai {c : Operand} {x y : Code} {b : Bool} (h1 : ev S c = some ([], .bool b)) (hb : b = false) (ht : SC P y Q n w0 S M) : SC P (.cond c x y) Q n w0 S M :=
  cz h1 (fun h => by rw [hb] at h; cases h) (fun _ => ht)
theorem bB {y : Code} (h : SC P y Q n w0 S M) : SQ (Exit.then (y.wp P Q) Q) .normal n w0 S M := ⟨fun a w hS hM => h.run a w hS hM⟩
theorem mb {K : Act → World → Prop} {id : Nat} (h : SQ Q (.exit id) n w0 S M) : SQ (Exit.then K Q) (.exit id) n w0 S M := ⟨fun a w hS hM => h.run a w hS hM⟩
theorem bk {K : Act → World → Prop} (h : SQ Q .ret n w0 S M) : SQ (Exit.then K Q) .ret n w0 S M := ⟨fun a w hS hM => h.run a w hS hM⟩
theorem fu {id : Nat} (h : SQ Q .normal n w0 S M) : SQ (Exit.inBlock id Q) .normal n w0 S M := ⟨fun a w hS hM => h.run a w hS hM⟩
theorem jx {id : Nat} (h : SQ Q .ret n w0 S M) : SQ (Exit.inBlock id Q) .ret n w0 S M := ⟨fun a w hS hM => h.run a w hS hM⟩
theorem oF {id : Nat} (h : SQ Q .normal n w0 S M) : SQ (Exit.inBlock id Q) (.exit id) n w0 S M := ⟨fun a w hS hM => by simp only [Exit.inBlock, if_true]; exact h.run a w hS hM⟩
theorem nH {id id' : Nat} (hne : Nat.beq id' id = false) (h : SQ Q (.exit id') n w0 S M) : SQ (Exit.inBlock id Q) (.exit id') n w0 S M := ⟨fun a w hS hM => by
  simp only [Exit.inBlock]
  rw [if_neg (fun e => by subst e; simp at hne)]
  exact h.run a w hS hM⟩
end
def Dq : List Value → Nat → bq
  | [], _ => []
  | v :: vs, k => (k, [], v) :: Dq vs (k + 1)
theorem mR : ∀ (vs : List Value) (k t : Nat) {L : Cd} {v : Value}, lk t (Dq vs k) = some (L, v) → L = [] ∧ k ≤ t ∧ vs[t - k]? = some v
  | [], _, _, _, _, h => by cases h
  | x :: vs, k, t, L, v, h => by
    simp only [Dq] at h
    rw [dU] at h
    split at h
    · rename_i e
      subst e
      obtain ⟨rfl, rfl⟩ := (by simpa using h)
      exact ⟨rfl, Nat.le_refl _, by simp⟩
    · obtain ⟨h1, h2, h3⟩ := mR vs (k + 1) t h
      refine ⟨h1, by omega, ?_⟩
      have : t - k = (t - (k + 1)) + 1 := by omega
      rw [this]; simpa using h3
def qz : List Value → Nat → Option bq
  | [], _ => some []
  | v :: vs, k => match qz vs (k + 1) with
    | some S => some ((k, [], v) :: S)
    | none => none
theorem oG : ∀ {vs : List Value} {k : Nat} {S : bq}, qz vs k = some S → S = Dq vs k
  | [], _, S, h => by obtain rfl := (by simpa [qz] using h); rfl
  | v :: vs, k, S, h => by
    simp only [qz] at h
    split at h <;> first | (cases h; done) | skip
    rename_i S' hs
    obtain rfl := (by simpa using h)
    rw [oG hs]; rfl
theorem aA {P : Program} {f : FuncId} {fn : Func} {c : Code} {args : List Value} {w : World} {R : Ending → World → Prop} {n : Nat} {S : bq} (hf : P.funcs[f]? = some fn) (hb : fn.body = some c) (hn : fn.ntmps = n) (ha : Nat.ble args.length n = true)
    (hs : qz args 0 = some S) (h : SC P c (bodyPost P fn R) n w S []) : Calls P f ⟨args⟩ w R := by
  rw [oG hs] at h
  refine calls_of_wp hf hb (h.run _ _ ⟨rfl, ?_, fun t L v ht => ?_⟩ ⟨Below.refl _ _, trivial⟩)
  · have := Nat.le_of_ble_eq_true ha
    simp [hn]; omega
  · obtain ⟨rfl, _, h3⟩ := mR args 0 t ht
    have hlt := (List.getElem?_eq_some_iff.1 h3).1
    simp only [Nat.sub_zero] at h3 hlt
    rw [Array.getElem?_append_left (by simpa using hlt)]
    simpa [az] using h3
def tA (S : bq) (M : List Ent) (T : eo) (ix : Nat → Nat) : List ResultVar → Option (List Value)
  | [] => some []
  | .tmp t :: r => match lk t S with
    | some ([], v) => match tA S M T ix r with
      | some vs => some (v :: vs)
      | none => none
    | _ => none
  | .cell t ty :: r => match lk t S with
    | some ([], .pointer (some ⟨_, off, none⟩)) => match dI M (ix t) with
      | some (.obj _ (.cells ⟨cs⟩ _ (0, 0))) => match lY T ty cs off with
        | some v => match tA S M T ix r with
          | some vs => some (v :: vs)
          | none => none
        | none => none
      | _ => none
    | _ => none
def AF (S : bq) (M : List Ent) (ix : Nat → Nat) : List ResultVar → Prop
  | [] => True
  | .tmp _ :: r => AF S M ix r
  | .cell t _ :: r => (match lk t S, dI M (ix t) with
    | some ([], .pointer (some ⟨g, _, none⟩)), some (.obj g' _) => g = g'
    | _, _ => False) ∧ AF S M ix r
def AG : List Value → Option Value
  | [v] => some v
  | vs => some (.tuple ⟨vs⟩)
theorem mS {P : Program} {T : eo} (hT : TOK P T) {n : Nat} {w0 w : World} {a : Act} {S : bq} {M : List Ent} (hS : Sl n a S) (hM : Mem w0 w M) {ix : Nat → Nat} : ∀ {rs : List ResultVar} {vs : List Value}, tA S M T ix rs = some vs → AF S M ix rs →
    (rs.mapM fun | .tmp t => pure (a.tmps.getD t undef) | .cell b t => do loadVar t (← asAddr (a.tmps.getD b undef)) : Sem (List Value)).run P w = .ok vs w
  | [], vs, h, _ => by obtain rfl := (by simpa [tA] using h); rfl
  | .tmp t :: r, vs, h, hg => by
    simp only [tA] at h
    split at h <;> first | (cases h; done) | skip
    rename_i v hl
    split at h <;> first | (cases h; done) | skip
    rename_i vs' hr
    obtain rfl := (by simpa using h)
    have hv := hS.2.2 t _ _ hl
    have ih := mS hT hS hM hr hg
    have hv' : a.tmps.getD t undef = v := by rw [Array.getD_eq_getD_getElem?, hv]; simp [az]
    simp only [List.mapM_cons, Sem.run_bind, Sem.run_pure, Result.andThen_ok, ih, hv']
  | .cell t ty :: r, vs, h, hg => by
    simp only [tA] at h
    split at h <;> first | (cases h; done) | skip
    rename_i g off hl
    split at h <;> first | (cases h; done) | skip
    rename_i g' cs B hm
    split at h <;> first | (cases h; done) | skip
    rename_i v hp
    split at h <;> first | (cases h; done) | skip
    rename_i vs' hr
    obtain rfl := (by simpa using h)
    obtain ⟨hg1, hg2⟩ := hg
    simp only [hl, hm] at hg1
    subst hg1
    have hv := hS.2.2 t _ _ hl
    have ih := mS hT hS hM hr hg2
    have hv' : a.tmps.getD t undef = .pointer (some ⟨g, off, none⟩) := by rw [Array.getD_eq_getD_getElem?, hv]; simp [az]
    have hload := oC (w := w) hT (show Bk w g B ⟨cs⟩ from (hM.2.get hm).2) hp
    have hadr : (asAddr (.pointer (some ⟨g, off, none⟩))).run P w = .ok ⟨g, off, none⟩ w := rfl
    simp only [List.mapM_cons, Sem.run_bind, Sem.run_pure, Result.andThen_ok, ih, hv', hadr, hload]
theorem aO {P : Program} {T : eo} (hT : TOK P T) (ix : Nat → Nat) {fn : Func} {R : Ending → World → Prop} {n : Nat} {w0 : World} {S : bq} {M : List Ent} {rs : List ResultVar} {vs : List Value} {v : Value} (hr : fn.results = rs.toArray) (h1 : tA S M T ix rs = some vs) (hg : AF S M ix rs) (h2 : AG vs = some v)
    (h : ∀ w, Mem w0 w M → R (.returned v) w) : SQ (bodyPost P fn R) .ret n w0 S M := by
  refine ⟨fun a w hS hM => ?_⟩
  refine ⟨hS.1, v, ?_, h w hM⟩
  have hm := mS hT hS hM h1 hg
  have hlen : (results fn a.tmps).run P w = (do let vs ← (rs.mapM fun | .tmp t => pure (a.tmps.getD t undef) | .cell b t => do loadVar t (← asAddr (a.tmps.getD b undef)) : Sem (List Value)); pure (if h : vs.toArray.size = 1 then vs.toArray[0] else .tuple vs.toArray) : Sem Value).run P w := by
    unfold results
    rw [hr, Array.mapM_eq_mapM_toList]
    simp only [Sem.run_bind, Sem.run_map]
    generalize (Sem.run P _ w) = r
    cases r <;> rfl
  rw [hlen, Sem.run_bind, hm]
  simp only [Result.andThen_ok, Sem.run_pure]
  match vs, h2 with
  | [], h2 => obtain rfl := (by simpa [AG] using h2); simp
  | [x], h2 => obtain rfl := (by simpa [AG] using h2); simp
  | x :: y :: r, h2 => obtain rfl := (by simpa [AG] using h2); simp
theorem bJ {P : Program} {T : eo} (hT : TOK P T) (ix : Nat → Nat) {fn : Func} {R : Ending → World → Prop} {n : Nat} {w0 : World} {S : bq} {M : List Ent} {rs : List ResultVar} {vs : List Value} {v : Value} (hr : fn.results = rs.toArray) (h1 : tA S M T ix rs = some vs) (hg : AF S M ix rs) (h2 : AG vs = some v)
    (h : ∀ w, Mem w0 w M → R (.returned v) w) : SQ (bodyPost P fn R) .normal n w0 S M := ⟨fun a w hS hM => (aO hT ix hr h1 hg h2 h).run a w hS hM⟩
theorem Dr {P : Program} {f : FuncId} {args : Array Value} {w : World} {v : Value} (h : Calls P f args w fun e w' => e = .returned v ∧ w = w') : Calls P f args w fun e w' => e = .returned v ∧ Below w.heap.size w w' :=
  h.mono fun _ _ ⟨h1, h2⟩ => ⟨h1, h2 ▸ Below.refl _ _⟩
section
variable {P : Program} {T : eo} {Q : Exit → Act → World → Prop} {n : Nat} {w0 : World} {S : bq} {M M' : List Ent} {L L1 L2 : Cd} {o : Oper}
theorem kO {c : Code} (hc : ∀ w, Mem w0 w M → Mem w0 w M') (h : SC P c Q n w0 S M') : SC P c Q n w0 S M := ⟨fun a w h1 h2 => h.run a w h1 (hc w h2)⟩
theorem E9 {c : Code} (e : TypeId) (size : Nat) (h : SC P c Q n w0 S (.own none 0 e size 0 [] :: M)) : SC P c Q n w0 S M := kO (fun _ hM => xq w0 e size hM) h
theorem Fa {l0 l : List Oper} (e : TypeId) (size : Nat) (h : SL P l0 Q l n w0 S (.own none 0 e size 0 [] :: M)) : SL P l0 Q l n w0 S M := ⟨fun a w h1 h2 => h.run a w h1 (xq w0 e size h2)⟩
theorem gi {c : Code} {p : Prop} (hc : ∀ w, Mem w0 w M → p) (h : p → SC P c Q n w0 S M) : SC P c Q n w0 S M := ⟨fun a w h1 h2 => (h (hc w h2)).run a w h1 h2⟩
theorem ka {w : World} {B cap : Nat} {e : TypeId} {size k : Nat} {a : Option Addr} {xs : List Value} (h : w.ownsRow B e size (.slice a k cap) k xs) (hk : 0 < k) : ∃ g, a = some ⟨g, 0, none⟩ := by
  rcases h.2 with ⟨_, h0⟩ | ⟨g, _, _, hv, _⟩
  · omega
  · simp only [Value.slice.injEq] at hv; exact ⟨g, hv.1⟩
theorem oH {c : Code} (i : Nat) {a : Option Addr} {cap : Nat} {e : TypeId} {size k : Nat} {xs : List Value} (hi : dI M i = some (.own a cap e size k xs)) (hk : 0 < k) (h : ∀ g, a = some ⟨g, 0, none⟩ → SC P c Q n w0 S M) : SC P c Q n w0 S M :=
  gi (p := ∃ g, a = some ⟨g, 0, none⟩) (fun _ hM => ka (hM.2.get hi) hk) fun ⟨g, hg⟩ => h g hg
theorem eT {w : World} {B cap g : Nat} {e : TypeId} {size k : Nat} {xs : List Value} (h : w.ownsRow B e size (.slice (some ⟨g, 0, none⟩) k cap) k xs) {off : Nat} {v : Value} (hv : xs[off]? = some v) : w.cell? ⟨g, off, none⟩ = some v := by
  have h1 := h.cells (g := g) rfl off v hv
  have : (⟨g, 0, none⟩ : Addr).add off = ⟨g, off, none⟩ := by unfold Addr.add; split <;> simp_all
  rwa [this] at h1
theorem xt (hT : TOK P T) {t : TypeId} {x : Operand} {a0 : Addr} {d : TD} {v : Value} (h1 : o.op = .load t x)
    (h2 : ev S x = some (L1, .pointer (some a0))) (h3 : Suf L1 L) (h4 : lk t T = some d) (h5 : d.isOne = true) (hc : az L = true → ∀ w, Mem w0 w M → w.cell? a0 = some v) : VO P w0 S M L o v := by
  intro n a w hS hM hL
  have hc' := hc hL w hM
  obtain ⟨u, i, hu, _, _, _, hr⟩ := iP (hT.get h4) h5
  unfold execOp
  simp only [h1, av hS h2 (h3.holds hL)]
  simp [Instr.loadAt, Instr.sureAddr, loadVar, Sem.run_bind, gA hu, hr, hc']
theorem AH (hT : TOK P T) {t : TypeId} {x : Operand} {b off n' : Nat} {z : List Value} {fs : List (Nat × TypeId)} {cs : List Value} (h1 : o.op = .load t x)
    (h2 : ev S x = some (L1, .pointer (some ⟨b, off, none⟩))) (h3 : Suf L1 L) (h4 : lk t T = some (.row n' z fs)) (h5 : cs.length = n') (hc : az L = true → ∀ w, Mem w0 w M → w.rangeAt b off cs) : VO P w0 S M L o (.agg ⟨cs⟩) := by
  intro n a w hS hM hL
  obtain ⟨F, i, hu, hi, _, hs, _⟩ := ep (hT.get h4)
  unfold execOp
  simp only [h1, av hS h2 (h3.holds hL)]
  have := run_loadVar_mid (P := P) w b off t cs _ (hc hL w hM) hu rfl (by rw [hi]; simp [hs, h5])
  simp [Instr.loadAt, Instr.sureAddr, this]
theorem bM (hT : TOK P T) (i : Nat) {t : TypeId} {x : Operand} {g off cap size k : Nat} {e : TypeId} {xs : List Value} {d : TD} {v : Value} (h1 : o.op = .load t x)
    (h2 : ev S x = some (L1, .pointer (some ⟨g, off, none⟩))) (h3 : Suf L1 L) (h4 : lk t T = some d) (h5 : d.isOne = true) (hi : dI M i = some (.own (some ⟨g, 0, none⟩) cap e size k xs)) (hc : az L = true → xs[off]? = some v) : VO P w0 S M L o v :=
  xt hT h1 h2 h3 h4 h5 fun hL _ hM => eT (hM.2.get hi) (hc hL)
theorem fv (hT : TOK P T) (i : Nat) {t : TypeId} {x : Operand} {g off cap size k n' : Nat} {e : TypeId} {xs cs : List Value} {z : List Value} {fs : List (Nat × TypeId)} (h1 : o.op = .load t x)
    (h2 : ev S x = some (L1, .pointer (some ⟨g, off, none⟩))) (h3 : Suf L1 L) (h4 : lk t T = some (.row n' z fs)) (h5 : cs.length = n') (hi : dI M i = some (.own (some ⟨g, 0, none⟩) cap e size k xs)) (hc : az L = true → ∀ j v, cs[j]? = some v → xs[off + j]? = some v) : VO P w0 S M L o (.agg ⟨cs⟩) :=
  AH hT h1 h2 h3 h4 h5 fun hL _ hM j v hv => eT (hM.2.get hi) (hc hL j v hv)
theorem tB (hT : TOK P T) (i : Nat) {t : TypeId} {x : Operand} {a0 : Addr} {F : Nat → Prop} {p : World → Prop} {d : TD} {v : Value} (h1 : o.op = .load t x)
    (h2 : ev S x = some (L1, .pointer (some a0))) (h3 : Suf L1 L) (h4 : lk t T = some d) (h5 : d.isOne = true) (hi : dI M i = some (.rep F p)) (hc : az L = true → ∀ w, p w → w.cell? a0 = some v) : VO P w0 S M L o v :=
  xt hT h1 h2 h3 h4 h5 fun hL w hM => hc hL w (hM.2.get hi).2.1
theorem nV (hT : TOK P T) (i : Nat) {t : TypeId} {x : Operand} {b off n' : Nat} {F : Nat → Prop} {p : World → Prop} {z : List Value} {fs : List (Nat × TypeId)} {cs : List Value} (h1 : o.op = .load t x)
    (h2 : ev S x = some (L1, .pointer (some ⟨b, off, none⟩))) (h3 : Suf L1 L) (h4 : lk t T = some (.row n' z fs)) (h5 : cs.length = n') (hi : dI M i = some (.rep F p)) (hc : az L = true → ∀ w, p w → w.rangeAt b off cs) : VO P w0 S M L o (.agg ⟨cs⟩) :=
  AH hT h1 h2 h3 h4 h5 fun hL w hM => hc hL w (hM.2.get hi).2.1
def fm (l : List UInt8) : List Value := l.map fun b => .int .u8 (b.toNat : Int)
theorem kb (l : List UInt8) (b : UInt8) : fm (l ++ [b]) = fm l ++ [.int .u8 (b.toNat : Int)] := by simp [fm]
theorem cA (hT : TOK P T) {t e : TypeId} {x : Operand} {lo hi : Option Operand} {a : Option Addr} {k cap : Nat} {vl vh : Option Value} {L3 : Cd} (l h : Nat) {z : Value} {td : TD} (h1 : o.op = .slice t x lo hi none)
    (h2 : ev S x = some (L1, .slice a k cap)) (h3 : Suf L1 L) (h4 : Ag S lo = some (L2, vl)) (h5 : Suf L2 L) (h4' : Ag S hi = some (L3, vh)) (h5' : Suf L3 L) (h6 : lk t T = some (.slc e z)) (h7 : lk e T = some td)
    (hl : match vl with | none => l = 0 | some (.int _ n) => n = (l : Int) | _ => False) (hh : match vh with | none => h = k | some (.int _ n) => n = (h : Int) | _ => False) (hle : l ≤ h) (hhs : h ≤ cap) : VO P w0 S M L o (.slice (if cap = l then a else a.map (·.add (l * td.size))) (h - l) (cap - l)) := by
  intro n ac w hS hM hL
  obtain ⟨i, hi', hs, _⟩ := bu (hT.get h7)
  have hu := cw (hT.get h6)
  have hb : ∀ {b : Option Operand} {Lb : Cd} {vb : Option Value}, Ag S b = some (Lb, vb) → Suf Lb L → b.map ac.eval = vb := by
    intro b Lb vb hb hs
    cases b with
    | none => obtain ⟨rfl, rfl⟩ := (by simpa [Ag] using hb); rfl
    | some y =>
      simp only [Ag] at hb
      split at hb
      · rename_i L' v' he
        obtain ⟨rfl, rfl⟩ := (by simpa using hb)
        simp [av hS he (hs.holds hL)]
      · cases hb
  unfold execOp
  simp only [h1, av hS h2 (h3.holds hL), hb h4 h5, hb h4' h5']
  have hlow : ∀ w, (match vl with | some v => Instr.sliceBound v h .sliceB | none => pure 0 : Sem Nat).run P w = .ok l w := by
    intro w
    split at hl
    · subst hl; rfl
    · subst hl; simp [Instr.sliceBound, asIntOf]; intro h'; omega
    · exact hl.elim
  have hhigh : ∀ w, (match vh with | some v => Instr.sliceBound v cap .sliceAcap | none => pure k : Sem Nat).run P w = .ok h w := by
    intro w
    split at hh
    · subst hh; rfl
    · subst hh; simp [Instr.sliceBound, asIntOf]; intro h'; omega
    · exact hh.elim
  cases vl with
  | none =>
    cases vh with
    | none =>
      subst hl; subst hh
      simp [Instr.sliceAt, Instr.slice, Instr.sliceBounds, Sem.run_bind, run_underlying hu, ct hi', hs]
    | some v =>
      have := hhigh w
      simp only at this
      subst hl
      simp [Instr.sliceAt, Instr.slice, Instr.sliceBounds, Sem.run_bind, run_underlying hu, this, ct hi', hs]
  | some u =>
    have hlw := hlow w
    simp only at hlw
    cases vh with
    | none =>
      subst hh
      simp [Instr.sliceAt, Instr.slice, Instr.sliceBounds, Sem.run_bind, run_underlying hu, hlw, ct hi', hs]
    | some v =>
      have := hhigh w
      simp only at this
      simp [Instr.sliceAt, Instr.slice, Instr.sliceBounds, Sem.run_bind, run_underlying hu, this, hlw, ct hi', hs]
theorem Ds (hT : TOK P T) {l0 rest : List Oper} {t e : TypeId} {x y : Operand} {kl kc : IntKind} {A C : Int} {z : Value} {td : TD} {d b : Nat} (k cap : Nat) (h1 : o.op = .makeSlice t x y) (hg : o.guard = none) (h2 : ev S x = some ([], .int kl A)) (h3 : ev S y = some ([], .int kc C))
    (h4 : lk t T = some (.slc e z)) (h5 : lk e T = some td) (hA : A = (k : Int)) (hC : C = (cap : Int)) (hfull : k = 0 ∨ k = cap) (hb : cX P e b) (hsz : b * cap ≤ 281474976710656) (hmax : cap ≤ maxLen) (hd : o.dst = some d) (hn : Nat.blt d n = true)
    (h : ∀ g, SL P l0 Q rest n w0 ((d, [], .slice (some ⟨g, 0, none⟩) k cap) :: S) (.own (some ⟨g, 0, none⟩) cap e td.size k (if k = 0 then [] else (madeCells td.zeroV.cells (cap * td.size)).toList) :: M)) : SL P l0 Q (o :: rest) n w0 S M := by
  obtain ⟨i, hi, hs, hz⟩ := bu (hT.get h5)
  have hu := cw (hT.get h4)
  have hby : i.bytes = b := by unfold cX at hb; rw [hi] at hb; simpa using hb
  refine AD (σ := Nat) (fun _ => True) (fun g => .slice (some ⟨g, 0, none⟩) k cap) (fun g => .own (some ⟨g, 0, none⟩) cap e td.size k (if k = 0 then [] else (madeCells td.zeroV.cells (cap * td.size)).toList) :: M) hg (fun a w hS hM => ?_) hd hn (fun g _ => h g)
  subst hA; subst hC
  have fin : ∀ w' xs, w'.ownsRow w0.heap.size e td.size (.slice (some ⟨w.heap.size, 0, none⟩) k cap) k xs → w.grownBy w' none → Mem w0 w' (.own (some ⟨w.heap.size, 0, none⟩) cap e td.size k xs :: M) := by
    intro w' xs ho hgr
    have hbel : Below w.heap.size w w' := ⟨hgr.os, hgr.tape, hgr.output, hgr.size, fun q hq => hgr.block q hq (by simp)⟩
    refine hM.add hbel ho (fun q hq => by have : q = w.heap.size := hq; omega) (fun q hq f hf hmf => ?_)
    have := ((MemL.mem hM.2 f hf).mut_lt hmf).2
    have : q = w.heap.size := hq
    omega
  by_cases h0 : k = 0
  · subst h0
    obtain ⟨w', hrun, r1, r2⟩ := run_make_own (P := P) w w0.heap.size t e i td.zeroV td.size hu hi hz hs kl kc cap (by rw [hby]; exact hsz) hmax hM.1.size
    refine ⟨w.heap.size, w', trivial, ?_, by simpa using fin w' [] r1 r2⟩
    unfold execOp
    simp only [h1, av hS h2 rfl, av hS h3 rfl]
    have : ((0 : Nat) : Int) = 0 := rfl
    rw [Sem.run_bind, this, hrun]; rfl
  · obtain rfl := hfull.resolve_left h0
    obtain ⟨w', hrun, r1, r2⟩ := run_make_full (P := P) w w0.heap.size t e i td.zeroV td.size hu hi hz hs kl kc k (by rw [hby]; exact hsz) hmax hM.1.size
    refine ⟨w.heap.size, w', trivial, ?_, by simpa [h0] using fin w' _ r1 r2⟩
    unfold execOp
    simp only [h1, av hS h2 rfl, av hS h3 rfl]
    rw [Sem.run_bind, hrun]; rfl
end
inductive RS where
  | con (L : Cd) (c : Value)
  | blk (T : Nat → Value) (z : Obj)
def RS.val : RS → Value
  | .con L c => if az L then c else undef
  | .blk _ _ => undef
def RS.isCon : RS → Bool
  | .con _ _ => true
  | .blk _ _ => false
def iT : Op → Bool
  | .alloc _ => true
  | .box _ _ => true
  | .buildSlice _ _ _ => true
  | .range _ _ => true
  | .makeMap _ _ => true
  | _ => false
def VX (P : Program) (w0 : World) (S : bq) (M : List Ent) (L : Cd) (o : Oper) (c : Value) : Prop :=
  ∀ n a w, Sl n a S → Mem w0 w M → az L = true → Vals P o a w (fun v w' => v = c ∧ Below w.heap.size w w')
def BX (P : Program) (w0 : World) (S : bq) (M : List Ent) (o : Oper) (T : Nat → Value) (z : Obj) : Prop :=
  ∀ n a w, Sl n a S → Mem w0 w M → (execOp a.eval o).run P w = .ok (.value (T w.heap.size)) (w.alloc z)
def H6 (P : Program) (l0 : List Oper) (n : Nat) (w0 : World) (M : List Ent) (o : Oper) (S : bq) : RS → Prop
  | .con L c => gd l0 S o.guard = some L ∧ VX P w0 S M L o c ∧ iT o.op = false ∧ ∃ d, o.dst = some d ∧ d < n
  | .blk T z => o.guard = none ∧ BX P w0 S M o T z ∧ iT o.op = true ∧ ∃ d, o.dst = some d ∧ d < n
def md (o : Oper) (r : RS) (S : bq) : bq := match r, o.dst with
  | .con L c, some d => (d, L, c) :: S
  | _, _ => S
def GH (P : Program) (l0 : List Oper) (n : Nat) (w0 : World) (M : List Ent) : List Oper → bq → List RS → Prop
  | [], _, [] => True
  | o :: l, S, r :: rs => H6 P l0 n w0 M o S r ∧ GH P l0 n w0 M l (md o r S) rs
  | _, _, _ => False
def gR : List Oper → List RS → bq → bq
  | o :: l, r :: rs, S => gR l rs (md o r S)
  | _, _, S => S
def eH : List Oper → List RS → List (Nat × (Nat → Value) × Obj)
  | o :: l, .blk T z :: rs => (o.dst.getD 0, T, z) :: eH l rs
  | _ :: l, .con _ _ :: rs => eH l rs
  | _, _ => []
def GI (P : Program) (l0 : List Oper) (Q : Exit → Act → World → Prop) (tail : List Oper) (n : Nat) (w0 : World) (M : List Ent) (S : bq) : List (Nat × (Nat → Value) × Obj) → Prop
  | [] => SL P l0 Q tail n w0 S M
  | [(d, T, z)] => ∀ g, SL P l0 Q tail n w0 ((d, [], T g) :: S) (.obj g z :: M)
  | _ => False
structure SR (P : Program) (l0 : List Oper) (Q : Exit → Act → World → Prop) (l tail : List Oper) (n : Nat) (w0 : World) (M : List Ent) (S : bq) (bs : List (Nat × (Nat → Value) × Obj)) : Prop where
  run : ∃ rs, GH P l0 n w0 M l S rs ∧ GI P l0 Q tail n w0 M (gR l rs S) (bs ++ eH l rs)
section
variable {P : Program} {l0 rest tail : List Oper} {Q : Exit → Act → World → Prop} {n : Nat} {w0 : World} {S : bq} {M : List Ent} {L : Cd} {o : Oper} {d : Nat} {bs : List (Nat × (Nat → Value) × Obj)}
theorem bW (h : SL P l0 Q tail n w0 S M) : SR P l0 Q [] tail n w0 M S [] := ⟨[], trivial, h⟩
theorem bC {T : Nat → Value} {z : Obj} (h : ∀ g, SL P l0 Q tail n w0 ((d, [], T g) :: S) (.obj g z :: M)) : SR P l0 Q [] tail n w0 M S [(d, T, z)] := ⟨[], trivial, h⟩
theorem AJ {c : Value} (hg : gd l0 S o.guard = some L) (hv : VX P w0 S M L o c) (hi : iT o.op = false) (hd : o.dst = some d) (hn : Nat.blt d n = true) (h : SR P l0 Q rest tail n w0 M ((d, L, c) :: S) bs) : SR P l0 Q (o :: rest) tail n w0 M S bs := by
  obtain ⟨rs, h1, h2⟩ := h.run
  have hs : md o (.con L c) S = (d, L, c) :: S := by simp [md, hd]
  refine ⟨.con L c :: rs, ⟨⟨hg, hv, hi, d, hd, Nat.le_of_ble_eq_true hn⟩, by rw [hs]; exact h1⟩, ?_⟩
  simp only [gR, eH, hs]; exact h2
theorem di {v : Value} (hg : gd l0 S o.guard = some L) (hv : VO P w0 S M L o v) (hi : iT o.op = false) (hd : o.dst = some d) (hn : Nat.blt d n = true) (h : SR P l0 Q rest tail n w0 M ((d, L, v) :: S) bs) : SR P l0 Q (o :: rest) tail n w0 M S bs :=
  AJ hg (fun n a w hS hM hL => aX (hv n a w hS hM hL) ⟨rfl, Below.refl _ _⟩) hi hd hn h
theorem bm {f : FuncId} {args : List Value} {v : Value} (hg : gd l0 S o.guard = some L) (ho : dd P S L o f args) (hi : iT o.op = false) (hc : ∀ w, Mem w0 w M → Calls P f ⟨args⟩ w fun e w' => e = .returned v ∧ Below w.heap.size w w')
    (hd : o.dst = some d) (hn : Nat.blt d n = true) (h : SR P l0 Q rest tail n w0 M ((d, L, v) :: S) bs) : SR P l0 Q (o :: rest) tail n w0 M S bs :=
  AJ hg (fun n a w hS hM hL => cW (ho.ok n a w hS hL) ((hc w hM).mono fun _ _ ⟨h1, h2⟩ => ⟨v, h1, rfl, h2⟩)) hi hd hn h
theorem vN {T : Nat → Value} {z : Obj} (hg : o.guard = none) (hb : BX P w0 S M o T z) (hi : iT o.op = true) (hd : o.dst = some d) (hn : Nat.blt d n = true) (h : SR P l0 Q rest tail n w0 M S (bs ++ [(d, T, z)])) : SR P l0 Q (o :: rest) tail n w0 M S bs := by
  obtain ⟨rs, h1, h2⟩ := h.run
  have hs : md o (.blk T z) S = S := by simp [md]
  refine ⟨.blk T z :: rs, ⟨⟨hg, hb, hi, d, hd, Nat.le_of_ble_eq_true hn⟩, by rw [hs]; exact h1⟩, ?_⟩
  simp only [gR, eH, hs, hd, Option.getD_some]
  simpa using h2
theorem bY {T : eo} (hT : TOK P T) {t : TypeId} {td : TD} {cs : List Value} (h1 : o.op = .alloc t) (hg : o.guard = none) (h2 : lk t T = some td) (h3 : iS td = some cs) (hd : o.dst = some d) (hn : Nat.blt d n = true)
    (h : SR P l0 Q rest tail n w0 M S (bs ++ [(d, fun g => .pointer (some ⟨g, 0, none⟩), .cells ⟨cs⟩ t (0, 0))])) : SR P l0 Q (o :: rest) tail n w0 M S bs := by
  refine vN hg (fun n a w hS hM => ?_) (by rw [h1]; rfl) hd hn h
  obtain ⟨i, hi, _, hz⟩ := bu (hT.get h2)
  unfold execOp
  simp only [h1, Instr.alloc, Sem.run_bind, iR hi hz, Result.andThen_ok, newVar, newRow, jY h3]
  rfl
theorem iH {t : TypeId} {x : Operand} {v : Value} {cs : List Value} (h1 : o.op = .box t x) (hg : o.guard = none) (h2 : ev S x = some ([], v)) (h3 : dE v = some cs) (hd : o.dst = some d) (hn : Nat.blt d n = true)
    (h : SR P l0 Q rest tail n w0 M S (bs ++ [(d, fun g => .pointer (some ⟨g, 0, none⟩), .cells ⟨cs⟩ t (0, 0))])) : SR P l0 Q (o :: rest) tail n w0 M S bs := by
  refine vN hg (fun n a w hS hM => ?_) (by rw [h1]; rfl) hd hn h
  unfold execOp
  simp only [h1, av hS h2 rfl, Instr.box, newVar, newRow, kM h3, Sem.run_bind]
  rfl
theorem dV {T : eo} (hT : TOK P T) {t e : TypeId} {len : Nat} {parts : List (Nat × Operand)} {z : Value} {td : TD} {Ls : List Cd} {vs cs : List Value} (h1 : o.op = .buildSlice t len parts.toArray) (hg : o.guard = none)
    (h2 : vL S (parts.map (·.2)) = some (Ls, vs)) (h3 : nR [] Ls) (h4 : lk t T = some (.slc e z)) (h5 : lk e T = some td) (h6 : mQ td.size vs = some cs) (h7 : rO (parts.map (·.1)) 0 = true) (h8 : Nat.beq parts.length len = true) (h10 : Nat.ble (len * td.size) 16777216 = true)
    (hd : o.dst = some d) (hn : Nat.blt d n = true) (h : SR P l0 Q rest tail n w0 M S (bs ++ [(d, fun g => .slice (some ⟨g, 0, none⟩) len len, .cells ⟨cs⟩ e (0, 0))])) : SR P l0 Q (o :: rest) tail n w0 M S bs :=
  vN hg (fun _ _ _ hS _ => jw hT h1 h2 h3 h4 h5 h6 h7 h8 h10 hS) (by rw [h1]; rfl) hd hn h
end
def C7 (rs : List RS) (j : Nat) : Value := match rs[j]? with
  | some r => r.val
  | none => undef
def vG (rs : List RS) (j : Nat) : Bool := match rs[j]? with
  | some r => r.isCon
  | none => false
def Ah (N : Nat) (rs : List RS) (i : Nat) (v : Value) (w : World) : Prop := match rs[i]? with
  | some (.con L c) => v = if az L then c else undef
  | some (.blk T z) => ∃ g, N ≤ g ∧ v = T g ∧ w.heap[g]? = some z
  | none => True
theorem AK (N : Nat) (rs : List RS) : ∀ i v w w', Below w.heap.size w w' → Ah N rs i v w → Ah N rs i v w' := by
  intro i v w w' hb h
  unfold Ah at h ⊢
  cases hr : rs[i]? with
  | none => trivial
  | some r =>
    rw [hr] at h
    cases r with
    | con L c => exact h
    | blk T z => obtain ⟨g, h1, h2, h3⟩ := h; exact ⟨g, h1, h2, (hb.block g (gN h3)).trans h3⟩
theorem xu {P : Program} {l0 : List Oper} {n : Nat} {w0 : World} {M : List Ent} : ∀ {l : List Oper} {S : bq} {rs : List RS}, GH P l0 n w0 M l S rs → rs.length = l.length
  | [], _, [], _ => rfl
  | [], _, _ :: _, h => h.elim
  | _ :: _, _, [], h => h.elim
  | _ :: l, _, _ :: rs, h => by simp [xu h.2]
theorem AL {P : Program} {l0 : List Oper} {n : Nat} {w0 : World} {M : List Ent} : ∀ {l : List Oper} {S : bq} {rs : List RS}, GH P l0 n w0 M l S rs → ∀ i o, l[i]? = some o → ∃ r, rs[i]? = some r ∧ H6 P l0 n w0 M o (gR (l.take i) (rs.take i) S) r
  | [], _, _, _, i, o, hi => by simp at hi
  | _ :: _, _, [], h, _, _, _ => h.elim
  | x :: l, S, r :: rs, h, i, o, hi => by
    cases i with
    | zero =>
      obtain rfl := (by simpa using hi)
      exact ⟨r, rfl, h.1⟩
    | succ i =>
      obtain ⟨r', hr', ho⟩ := AL h.2 i o (by simpa using hi)
      exact ⟨r', by simpa using hr', by simpa [gR] using ho⟩
theorem tD {ops : Array Oper} {P : Program} {l0 : List Oper} {n : Nat} {w0 : World} {M : List Ent} {rs0 : List RS} : ∀ {l : List Oper} {rs : List RS} {S : bq} {a : Act} (m i : Nat), (∀ j, j < i → l[j]? = ops[m + j]?) → (∀ j, j < i → rs[j]? = rs0[m + j]?) → GH P l0 n w0 M l S rs → i ≤ l.length → Sl n a S →
    Sl n (aB ops (C7 rs0) (vG rs0) (List.range' m i) a) (gR (l.take i) (rs.take i) S)
  | l, rs, S, a, m, 0, _, _, _, _, hS => by simpa [aB, gR] using hS
  | [], _, _, _, _, i + 1, _, _, _, hi, _ => by simp at hi
  | _ :: _, [], _, _, _, _ + 1, _, _, h, _, _ => h.elim
  | o :: l, r :: rs, S, a, m, i + 1, hl, hr, h, hi, hS => by
    have h0 : ops[m]? = some o := by simpa using (hl 0 (by omega)).symm
    have hr0 : rs0[m]? = some r := by simpa using (hr 0 (by omega)).symm
    rw [List.range'_succ]
    unfold aB
    simp only [h0, List.take_succ_cons, gR]
    refine tD (m + 1) i (fun j hj => by have := hl (j + 1) (by omega); simpa [Nat.add_assoc, Nat.add_comm 1 j] using this) (fun j hj => by have := hr (j + 1) (by omega); simpa [Nat.add_assoc, Nat.add_comm 1 j] using this) h.2 (by simpa using hi) ?_
    have h1 := h.1
    cases r with
    | con L c =>
      obtain ⟨_, _, _, d, hd, hdn⟩ := h1
      have : vG rs0 m = true := by simp [vG, hr0, RS.isCon]
      rw [this]
      simp only [if_true]
      have hc : C7 rs0 m = if az L then c else undef := by simp [C7, hr0, RS.val]
      rw [hc]
      have hs : md o (.con L c) S = (d, L, c) :: S := by simp [md, hd]
      rw [hs, hd]
      exact hS.put hdn rfl
    | blk T z =>
      have : vG rs0 m = false := by simp [vG, hr0, RS.isCon]
      rw [this]
      simpa [md] using hS
theorem cd {ops : Array Oper} {vs vs' : Nat → Value} {L L' : Nat → Bool} (t : Nat) : ∀ (r : List Nat) (a a' : Act), a.tmps.size = a'.tmps.size → a.tmps[t]? = a'.tmps[t]? →
    (∀ j ∈ r, ∀ o, ops[j]? = some o → o.dst = some t → L j = L' j ∧ (L j = true → vs j = vs' j)) → (aB ops vs L r a).tmps[t]? = (aB ops vs' L' r a').tmps[t]?
  | [], _, _, _, h, _ => h
  | j :: r, a, a', hs, h, hc => by
    unfold aB
    have hc' := fun k hk => hc k (List.mem_cons_of_mem _ hk)
    cases ho : ops[j]? with
    | none => simp only; exact cd t r a a' hs h hc'
    | some o =>
      simp only
      by_cases hd : o.dst = some t
      · obtain ⟨h1, h2⟩ := hc j (List.mem_cons_self ..) o ho hd
        rw [← h1]
        cases hl : L j with
        | false => simp only [Bool.false_eq_true, if_false]; exact cd t r a a' hs h hc'
        | true =>
          simp only [if_true]
          rw [← h2 hl]
          exact cd t r _ _ (by rw [gL, gL]; exact hs) (xo hs h _ _) hc'
      · refine cd t r _ _ ?_ ?_ hc'
        · cases L j <;> cases L' j <;> simp only [Bool.false_eq_true, if_false, if_true, gL] <;> exact hs
        · cases L j <;> cases L' j <;> simp only [Bool.false_eq_true, if_false, if_true, oy hd] <;> exact h
theorem iU {ops : Array Oper} {vs : Nat → Value} (d j : Nat) {o : Oper} (ho : ops[j]? = some o) (hd : o.dst = some d) : ∀ (r : List Nat) (a : Act), r.Nodup → j ∈ r → d < a.tmps.size → (∀ i ∈ r, i ≠ j → ∀ o', ops[i]? = some o' → o'.dst ≠ some d) →
    (aB ops vs (fun _ => true) r a).tmps[d]? = some (vs j)
  | [], _, _, h, _, _ => by cases h
  | i :: r, a, hn, hj, hs, hc => by
    obtain ⟨hir, hr⟩ := List.nodup_cons.1 hn
    by_cases e : i = j
    · subst e
      unfold aB
      simp only [ho, if_true]
      have h1 : (aB ops vs (fun _ => true) r (a.put o.dst (vs i))).tmps[d]? = (aB ops vs (fun _ => false) r (a.put o.dst (vs i))).tmps[d]? :=
        cd d r _ _ J J (fun k hk o' ho' hd' => absurd hd' (hc k (List.mem_cons_of_mem _ hk) (fun e => hir (e ▸ hk)) o' ho'))
      rw [h1, dp, hd]
      simp [Act.put, hs]
    · have hjr : j ∈ r := by rcases List.mem_cons.1 hj with h | h; exact absurd h.symm e; exact h
      unfold aB
      refine iU d j ho hd r _ hr hjr ?_ (fun k hk => hc k (List.mem_cons_of_mem _ hk))
      split
      · simp only [if_true, gL]; exact hs
      · exact hs
def EH (l : List Oper) (k : Nat) : Bool := (l.take k).all fun oj => !iT oj.op || (l.take k).all fun oi => match oj.dst with
  | some d => !(oi.looksAt l.toArray).contains d
  | none => true
theorem qA : ∀ {l : List Oper} {rs : List RS}, rs.length = l.length → ∀ {d : Nat} {T : Nat → Value} {z : Obj}, eH l rs = [(d, T, z)] → ∃ (j : Nat) (o : Oper), l[j]? = some o ∧ rs[j]? = some (RS.blk T z) ∧ o.dst.getD 0 = d ∧ ∀ (i : Nat) (T' : Nat → Value) (z' : Obj), rs[i]? = some (RS.blk T' z') → i = j
  | [], [], _, _, _, _, h => by cases h
  | [], _ :: _, hl, _, _, _, _ => by simp at hl
  | _ :: _, [], hl, _, _, _, _ => by simp at hl
  | o :: l, .blk T' z' :: rs, hl, d, T, z, h => by
    simp only [eH, List.cons.injEq, Prod.mk.injEq] at h
    obtain ⟨⟨h1, rfl, rfl⟩, h2⟩ := h
    refine ⟨0, o, rfl, rfl, h1, fun i T2 z2 hi => ?_⟩
    cases i with
    | zero => rfl
    | succ i =>
      exfalso
      have hi' : rs[i]? = some (.blk T2 z2) := by simpa using hi
      have : ∀ {l : List Oper} {rs : List RS}, rs.length = l.length → eH l rs = [] → ∀ (i : Nat) (T2 : Nat → Value) (z2 : Obj), rs[i]? ≠ some (.blk T2 z2) := by
        intro l
        induction l with
        | nil => intro rs hl _ i T2 z2 hi; have : rs = [] := List.length_eq_zero_iff.1 (by simpa using hl); subst this; simp at hi
        | cons o l ih =>
          intro rs hl ho i T2 z2 hi
          cases rs with
          | nil => simp at hl
          | cons r rs =>
            cases r with
            | blk T z => simp [eH] at ho
            | con L c =>
              cases i with
              | zero => simp at hi
              | succ i => exact ih (by simpa using hl) (by simpa [eH] using ho) i T2 z2 (by simpa using hi)
      exact this (by simpa using hl) h2 i T2 z2 hi'
  | o :: l, .con L c :: rs, hl, d, T, z, h => by
    obtain ⟨j, o', h1, h2, h3, h4⟩ := qA (l := l) (rs := rs) (by simpa using hl) (by simpa [eH] using h)
    refine ⟨j + 1, o', by simpa using h1, by simpa using h2, h3, fun i T' z' hi => ?_⟩
    cases i with
    | zero => simp at hi
    | succ i => rw [h4 i T' z' (by simpa using hi)]
theorem vO : ∀ {l : List Oper} {rs : List RS}, rs.length = l.length → eH l rs = [] → ∀ (i : Nat) (T2 : Nat → Value) (z2 : Obj), rs[i]? ≠ some (.blk T2 z2) := by
  intro l
  induction l with
  | nil => intro rs hl _ i T2 z2 hi; have : rs = [] := List.length_eq_zero_iff.1 (by simpa using hl); subst this; simp at hi
  | cons o l ih =>
    intro rs hl ho i T2 z2 hi
    cases rs with
    | nil => simp at hl
    | cons r rs =>
      cases r with
      | blk T z => simp [eH] at ho
      | con L c =>
        cases i with
        | zero => simp at hi
        | succ i => exact ih (by simpa using hl) (by simpa [eH] using ho) i T2 z2 (by simpa using hi)
def ke : List Oper → Nat → Option (List Oper × List Oper)
  | l, 0 => some ([], l)
  | [], _ + 1 => none
  | x :: r, k + 1 => match ke r k with
    | some (a, b) => some (x :: a, b)
    | none => none
theorem kP : ∀ {l : List Oper} {k : Nat} {a b : List Oper}, ke l k = some (a, b) → a = l.take k ∧ b = l.drop k ∧ k ≤ l.length
  | l, 0, a, b, h => by cases l <;> (obtain ⟨rfl, rfl⟩ := (by simpa [ke] using h); simp)
  | [], k + 1, a, b, h => by cases h
  | x :: r, k + 1, a, b, h => by
    simp only [ke] at h
    split at h <;> first | (cases h; done) | skip
    rename_i a' b' hr
    obtain ⟨rfl, rfl⟩ := (by simpa using h)
    obtain ⟨h1, h2, h3⟩ := kP hr
    exact ⟨by simp [h1], by simp [h2], by simp; omega⟩
theorem cY {P : Program} {Q : Exit → Act → World → Prop} {n : Nat} {w0 : World} {S : bq} {M : List Ent} {id : Nat} {l l1 l2 : List Oper} (k : Nat) (hm : P.follows .mixedOrders = true) (hs : ke l k = some (l1, l2))
    (hok : (mN l.toArray && qy l.toArray k && Nat.ble k l.length && EH l k) = true) (h : SR P l Q l1 l2 n w0 M S []) : SC P (.region id l.toArray true) Q n w0 S M := by
  obtain ⟨rfl, rfl, hkl⟩ := kP hs
  rw [Bool.and_eq_true] at hok
  obtain ⟨hok, hfree⟩ := hok
  obtain ⟨rs, hro, htl⟩ := h.run
  simp only [List.nil_append] at htl
  have hlen := xu hro
  have hlen' : rs.length = k := by rw [hlen, List.length_take]; omega
  have hokR : mN l.toArray = true := by simp only [Bool.and_eq_true] at hok; exact hok.1.1
  refine ⟨fun a w hS hM => ?_⟩
  have hmemb : ∀ i o, i < k → l[i]? = some o → (l.take k)[i]? = some o := fun i o hi ho => by rw [List.getElem?_take, if_pos hi]; exact ho
  have hlk : ∀ i o, i < k → l[i]? = some o → ∃ r, rs[i]? = some r ∧ H6 P l n w0 M o (gR ((l.take k).take i) (rs.take i) S) r := fun i o hi ho => AL hro i o (hmemb i o hi ho)
  have hnl : ∀ i j oi oj, i < k → j < k → l[i]? = some oi → l[j]? = some oj → iT oj.op = true → ∀ d, oj.dst = some d → d ∉ oi.looksAt l.toArray := by
    intro i j oi oj hi hj hoi hoj hnew d hd hmem
    have h1 := List.all_eq_true.1 hfree oj (List.mem_of_getElem? (hmemb j oj hj hoj))
    simp only [hnew, Bool.not_true, Bool.false_or] at h1
    have h2 := List.all_eq_true.1 h1 oi (List.mem_of_getElem? (hmemb i oi hi hoi))
    simp only [hd, Bool.not_eq_true'] at h2
    have : (oi.looksAt l.toArray).contains d = true := by simpa using hmem
    rw [h2] at this; cases this
  have hrange : ∀ i, List.range i = List.range' 0 i := fun i => List.range_eq_range'
  have hSl : ∀ i, i ≤ k → Sl n (aB l.toArray (C7 rs) (vG rs) (List.range i) a) (gR ((l.take k).take i) (rs.take i) S) := by
    intro i hi
    rw [hrange]
    exact tD (ops := l.toArray) (rs0 := rs) 0 i (fun j hj => by rw [Nat.zero_add, List.getElem?_take, if_pos (by omega)]; simp) (fun j _ => by rw [Nat.zero_add]) hro (by simp; omega) hS
  have hcon : ∀ {N : Nat} {j : Nat} {v : Value} {w1 : World}, vG rs j = true → Ah N rs j v w1 → v = C7 rs j := by
    intro N j v w1 hc hr
    unfold vG at hc
    unfold Ah at hr
    unfold C7
    cases hj : rs[j]? with
    | none => rw [hj] at hc; cases hc
    | some r =>
      rw [hj] at hc hr
      cases r with
      | blk T z => cases hc
      | con L c => exact hr
  have hisC : ∀ j oj, j < k → l[j]? = some oj → iT oj.op = false → vG rs j = true := by
    intro j oj hj hoj hnew
    obtain ⟨r, hr, hO⟩ := hlk j oj hj hoj
    unfold vG
    rw [hr]
    cases r with
    | con L c => rfl
    | blk T z => rw [hO.2.2.1] at hnew; cases hnew
  refine tp k (Ah w.heap.size rs) hm hok (AK _ _) (C7 rs) ?_ ?_ ?_
  · intro f o hf ho hfl v w1
    obtain ⟨r, hr, hO⟩ := hlk f o hf ho
    have hnew : iT o.op = false := by
      unfold bi at hfl
      cases hop : o.op <;> rw [hop] at hfl <;> first | rfl | simp at hfl
    cases r with
    | blk T z => rw [hO.2.2.1] at hnew; cases hnew
    | con L c => unfold Ah C7; rw [hr]; exact Iff.rfl
  · intro vs i o hik hoi w1 hb1 hF
    obtain ⟨r, hr, hO⟩ := hlk i o hik hoi
    have hoi' : l.toArray[i]? = some o := by simpa using hoi
    have hlook : ∀ t ∈ o.looksAt l.toArray, (aB l.toArray vs (fun _ => true) (List.range i) a).tmps[t]? = (aB l.toArray (C7 rs) (vG rs) (List.range i) a).tmps[t]? := by
      intro t ht
      refine cd t _ _ _ J J (fun j hj oj hoj hd => ?_)
      have hji := List.mem_range.1 hj
      have hoj' : l[j]? = some oj := by simpa using hoj
      have hnew : iT oj.op = false := by
        cases hnw : iT oj.op with
        | false => rfl
        | true => exact absurd ht (hnl i j o oj hik (by omega) hoi hoj' hnw t hd)
      have hc := hisC j oj (by omega) hoj' hnew
      refine ⟨hc.symm, fun _ => ?_⟩
      rcases (bX hokR hoi' hoj (by omega) hd).2 with h | h | h
      · exact hcon hc (hF j (by simp; omega) h)
      · exact absurd (bI (fb hokR) (Array.getElem?_eq_some_iff.1 hoi').1 j _ hoj h).1 (by omega)
      · exact absurd ht h
    have hM1 : Mem w0 w1 M := hM.keep ((Below.refl w.heap.size w).drew.trans hb1)
    have hSi := hSl i (by omega)
    have hop := dv (ops := l.toArray) o (fZ hokR hoi') hlook
    have hwt := dK (ops := l.toArray) o hlook
    cases r with
    | con L c =>
      obtain ⟨hg, hv, _, _⟩ := hO
      rw [hwt, gh hSi hg]
      cases hL : az L with
      | true =>
        simp only [if_true]
        have := hv n _ w1 hSi hM1 hL
        unfold Vals at this ⊢
        rw [hop]
        generalize (execOp (aB l.toArray (C7 rs) (vG rs) (List.range i) a).eval o).run P w1 = rr at *
        have hR : ∀ v w', v = c ∧ Below w1.heap.size w1 w' → Below w1.heap.size w1 w' ∧ Ah w.heap.size rs i v w' := fun v w' ⟨h1, h2⟩ => ⟨h2, by unfold Ah; rw [hr]; simp [hL, h1]⟩
        cases rr with
        | halt x w' => exact this.elim
        | ok nx w' =>
          cases nx <;> first
            | exact hR _ _ this
            | exact this.mono fun e w'' ⟨v, he, hv⟩ => ⟨v, he, hR _ _ hv⟩
            | exact this.mono fun v w'' hv => hR _ _ hv
            | exact this.elim
      | false =>
        simp only [Bool.false_eq_true, if_false]
        unfold Ah; rw [hr]; simp [hL]
    | blk T z =>
      obtain ⟨hg, hb, _, _⟩ := hO
      have hw : Region.wanted o (yielded l.toArray (aB l.toArray vs (fun _ => true) (List.range i) a).tmps) = true := by unfold Region.wanted; rw [hg]
      rw [if_pos hw]
      have := hb n _ w1 hSi hM1
      rw [← hop] at this
      refine aX this ⟨(Below.refl _ _).alloc (Nat.le_refl _) _, ?_⟩
      unfold Ah; rw [hr]
      exact ⟨w1.heap.size, hb1.size, rfl, heap_alloc_new w1 z⟩
  · intro vs w1 hb1 hF
    have hM1 : Mem w0 w1 M := hM.keep hb1
    have hSk := hSl k (Nat.le_refl _)
    have e1 : (l.take k).take k = l.take k := List.take_of_length_le (by simp; omega)
    have e2 : rs.take k = rs := List.take_of_length_le (by omega)
    rw [e1, e2] at hSk
    cases hB : eH (l.take k) rs with
    | nil =>
      rw [hB] at htl
      have hnone := vO hlen hB
      refine SL.run htl _ _ ?_ hM1
      obtain ⟨h1, h2, h3⟩ := hSk
      refine ⟨?_, by rw [dt]; rw [dt] at h2; exact h2, fun t L v ht => ?_⟩
      · have : ∀ (vs : Nat → Value) (LL : Nat → Bool) (r : List Nat) (a : Act), (aB l.toArray vs LL r a).defers = a.defers := by
          intro vs LL r
          induction r with
          | nil => intro a; rfl
          | cons j r ih =>
            intro a
            unfold aB
            rw [ih]
            split
            · split
              · rename_i o _ _; cases hd : o.dst <;> rfl
              · rfl
            · rfl
        rw [this]; rw [this] at h1; exact h1
      · rw [← h3 t L v ht]
        refine cd t _ _ _ J J (fun j hj oj hoj hd => ?_)
        have hjk := List.mem_range.1 hj
        have hoj' : l[j]? = some oj := by simpa using hoj
        obtain ⟨r, hr, hO⟩ := hlk j oj hjk hoj'
        cases r with
        | blk T z => exact absurd hr (hnone j T z)
        | con L' c =>
          have hc : vG rs j = true := by simp [vG, hr, RS.isCon]
          exact ⟨hc.symm, fun _ => hcon hc (hF j hjk)⟩
    | cons b bs =>
      rw [hB] at htl
      cases bs with
      | cons b2 bs => exact htl.elim
      | nil =>
        obtain ⟨d, T, z⟩ := b
        obtain ⟨j0, o0, ho0, hr0, hd0, honly⟩ := qA hlen hB
        have hj0 : j0 < k := by have := (List.getElem?_eq_some_iff.1 hr0).1; omega
        have ho0' : l[j0]? = some o0 := by rw [List.getElem?_take, if_pos hj0] at ho0; exact ho0
        have ho0a : l.toArray[j0]? = some o0 := by simpa using ho0'
        obtain ⟨r, hr, hO⟩ := hlk j0 o0 hj0 ho0'
        rw [hr0] at hr
        obtain rfl := (by simpa using hr)
        obtain ⟨_, _, _, d', hd', hdn⟩ := hO
        have hdd : d' = d := by rw [hd'] at hd0; simpa using hd0
        subst hdd
        have hblk := hF j0 hj0
        unfold Ah at hblk
        rw [hr0] at hblk
        obtain ⟨g, hgN, hv, hk⟩ := hblk
        have hMg : Mem w0 w1 (.obj g z :: M) := ⟨hM1.1, ⟨Nat.le_trans hM.1.size hgN, hk⟩, fun f hf q => ⟨fun h1 h2 => by
            have h3 := (MemL.mem hM.2 f hf).foot_lt h2
            have h4 : q = g := h1
            omega, fun h1 h2 => by
            have h3 := ((MemL.mem hM.2 f hf).mut_lt h1).2
            have h4 : q = g := h2
            omega⟩, hM1.2⟩
        refine SL.run (htl g) _ _ ?_ hMg
        obtain ⟨h1, h2, h3⟩ := hSk
        have hdef : ∀ (vs : Nat → Value) (LL : Nat → Bool) (r : List Nat) (a : Act), (aB l.toArray vs LL r a).defers = a.defers := by
          intro vs LL r
          induction r with
          | nil => intro a; rfl
          | cons j r ih =>
            intro a
            unfold aB
            rw [ih]
            split
            · split
              · rename_i o _ _; cases hd : o.dst <;> rfl
              · rfl
            · rfl
        refine ⟨by rw [hdef]; rw [hdef] at h1; exact h1, by rw [dt]; rw [dt] at h2; exact h2, fun t L v ht => ?_⟩
        rw [dU] at ht
        by_cases e : d' = t
        · subst e
          rw [if_pos rfl] at ht
          obtain ⟨rfl, rfl⟩ := (by simpa using ht)
          rw [iU d' j0 ho0a hd' (List.range k) a List.nodup_range (List.mem_range.2 hj0) (by rw [hS.2.1]; exact hdn) (fun i _ hne o' ho' hd2 => (bX hokR ho' ho0a hne hd').1 hd2), hv]
          simp [az]
        · rw [if_neg e] at ht
          rw [← h3 t L v ht]
          refine cd t _ _ _ J J (fun j hj oj hoj hd => ?_)
          have hjk := List.mem_range.1 hj
          have hoj' : l[j]? = some oj := by simpa using hoj
          obtain ⟨r, hr, hO⟩ := hlk j oj hjk hoj'
          cases r with
          | blk T' z' =>
            exfalso
            have := honly j T' z' hr
            subst this
            rw [ho0'] at hoj'
            obtain rfl := (by simpa using hoj')
            rw [hd'] at hd
            exact e (by simpa using hd)
          | con L' c =>
            have hc : vG rs j = true := by simp [vG, hr, RS.isCon]
            exact ⟨hc.symm, fun _ => hcon hc (hF j hjk)⟩
def qB : List Oper → Nat
  | [] => 0
  | o :: r => match o.op with
    | .store _ _ _ => 0
    | .mapUpdate _ _ _ _ => 0
    | .next _ _ => 0
    | .call ⟨.builtin .append, _, _⟩ => 0
    | _ => qB r + 1
theorem aL {P : Program} {Q : Exit → Act → World → Prop} {n : Nat} {w0 : World} {S : bq} {M : List Ent} {id : Nat} {l l1 l2 : List Oper} (hm : P.follows .mixedOrders = true) (hs : ke l (qB l) = some (l1, l2))
    (hok : (mN l.toArray && qy l.toArray (qB l) && Nat.ble (qB l) l.length && EH l (qB l)) = true) (h : SR P l Q l1 l2 n w0 M S []) : SC P (.region id l.toArray true) Q n w0 S M := cY (qB l) hm hs hok h
def yJ : bq → bq → Prop
  | [], _ => True
  | (t, L, v) :: r, S => lk t S = some (L, v) ∧ yJ r S
theorem tE : ∀ {A S : bq}, yJ A S → ∀ t L v, lk t A = some (L, v) → lk t S = some (L, v)
  | [], _, _, _, _, _, h => by cases h
  | (k, L', v') :: r, S, hs, t, L, v, h => by
    rw [dU] at h
    split at h
    · rename_i e
      subst e
      obtain ⟨rfl, rfl⟩ := (by simpa using h)
      exact hs.1
    · exact tE hs.2 t L v h
theorem Sl.sub {n : Nat} {a : Act} {A S : bq} (h : Sl n a S) (hs : yJ A S) : Sl n a A := ⟨h.1, h.2.1, fun t L v ht => h.2.2 t L v (tE hs t L v ht)⟩
def jI : List Bool → List Ent → List Ent
  | [], M => M
  | _, [] => []
  | true :: bs, e :: M => e :: jI bs M
  | false :: bs, _ :: M => jI bs M
theorem mT : ∀ {bs : List Bool} {M : List Ent} {e : Ent}, e ∈ jI bs M → e ∈ M
  | [], M, e, h => h
  | true :: bs, [], e, h => by cases h
  | false :: bs, [], e, h => by cases h
  | true :: bs, x :: M, e, h => by
    rcases List.mem_cons.1 h with rfl | h
    · exact List.mem_cons_self ..
    · exact List.mem_cons_of_mem _ (mT h)
  | false :: bs, x :: M, e, h => List.mem_cons_of_mem _ (mT (bs := bs) h)
theorem oI {B : Nat} {w : World} : ∀ {bs : List Bool} {M : List Ent}, MemL B w M → MemL B w (jI bs M)
  | [], _, h => h
  | true :: _, [], h => h
  | false :: _, [], h => h
  | true :: _, _ :: _, h => ⟨h.1, fun e he => h.2.1 e (mT he), oI h.2.2⟩
  | false :: bs, _ :: _, h => oI (bs := bs) h.2.2
theorem Mem.mask {w0 w : World} {M M' : List Ent} (bs : List Bool) (h : Mem w0 w M) (he : jI bs M = M') : Mem w0 w M' := he ▸ ⟨h.1, oI h.2⟩
section
variable {P : Program} {Q : Exit → Act → World → Prop} {n : Nat} {w0 : World} {S : bq} {M : List Ent}
theorem vP {σ : Type} {c : Code} (I : σ → Act → World → Prop) (μ : σ → Nat)
    (round : ∀ s a w, I s a w → c.wp P (Exit.then (fun a' w' => ∃ s', I s' a' w' ∧ μ s' < μ s) Q) a w) : ∀ s a w, I s a w → (Code.loop c).wp P Q a w := by
  intro s a w hI b k cs
  have key : ∀ m s a w, μ s = m → I s a w →
      ∃ e a' w', Q e a' w' ∧ Arrives P (lone (b.at a (.code c :: .inLoop c :: k)) cs w) b k cs e a' w' := by
    intro m
    induction m using Nat.strongRecOn with
    | _ m ih =>
      intro s a w hm hI
      obtain ⟨e, a₁, w₁, hq, harr⟩ := round s a w hI b (.inLoop c :: k) cs
      cases e with
      | normal =>
        obtain ⟨s', hI₁, hlt⟩ := hq
        obtain ⟨e₂, a₂, w₂, hq₂, harr₂⟩ := ih (μ s') (hm ▸ hlt) s' a₁ w₁ rfl hI₁
        exact ⟨e₂, a₂, w₂, hq₂, .of_steps (Steps.trans harr (.one step_inLoop)) harr₂⟩
      | exit id => exact ⟨_, a₁, w₁, hq, .pass (x := .inLoop c) rfl (fun _ _ => .inl (by simp)) harr⟩
      | goto l => exact ⟨_, a₁, w₁, hq, .pass (x := .inLoop c) rfl (fun _ _ => .inl (by simp)) harr⟩
      | ret => exact ⟨_, a₁, w₁, hq, .pass (x := .inLoop c) rfl (fun _ _ => .inl (by simp)) harr⟩
      | panic ch => exact ⟨_, a₁, w₁, hq, .pass (x := .inLoop c) rfl (fun _ _ => .inl (by simp)) harr⟩
      | outgrown => exact ⟨_, a₁, w₁, hq, .pass (x := .inLoop c) rfl (fun _ _ => .inl (by simp)) harr⟩
  obtain ⟨e, a', w', hq, harr⟩ := key _ s a w rfl hI
  exact ⟨e, a', w', hq, .of_steps (.one step_loop) harr⟩
def EI {σ : Type} (n : Nat) (w0 : World) (I : σ → Prop) (Sf : σ → bq) (Mf : σ → List Ent) (μ : σ → Nat) (m : Nat) : Act → World → Prop := fun a w => ∃ s', (I s' ∧ Sl n a (Sf s') ∧ Mem w0 w (Mf s')) ∧ μ s' < m
theorem bP {σ : Type} {body : Code} (I : σ → Prop) (Sf : σ → bq) (Mf : σ → List Ent) (μ : σ → Nat) (s0 : σ) (bs : List Bool) (h0 : I s0) (hS : yJ (Sf s0) S) (hM : jI bs M = Mf s0)
    (round : ∀ s, I s → SC P body (Exit.then (EI n w0 I Sf Mf μ (μ s)) Q) n w0 (Sf s) (Mf s)) : SC P (.loop body) Q n w0 S M :=
  ⟨fun _ _ h1 h2 => vP (fun s a w => I s ∧ Sl n a (Sf s) ∧ Mem w0 w (Mf s)) μ (fun s a w ⟨hI, hs, hm⟩ => (round s hI).run a w hs hm) s0 _ _ ⟨h0, h1.sub hS, h2.mask bs hM⟩⟩
theorem aU {σ : Type} {I : σ → Prop} {Sf : σ → bq} {Mf : σ → List Ent} {μ : σ → Nat} {m : Nat} (s' : σ) (bs : List Bool) (hI : I s') (hμ : μ s' < m) (hS : yJ (Sf s') S) (hM : jI bs M = Mf s') : SQ (Exit.then (EI n w0 I Sf Mf μ m) Q) .normal n w0 S M :=
  ⟨fun _ _ h1 h2 => ⟨s', ⟨hI, h1.sub hS, h2.mask bs hM⟩, hμ⟩⟩
def Fb {σ : Type} (n : Nat) (w0 : World) (I : σ → Prop) (Sf : σ → bq) (Mf : σ → List Ent) : Act → World → Prop := fun a w => ∃ s', I s' ∧ Sl n a (Sf s') ∧ Mem w0 w (Mf s')
theorem me {σ : Type} {x y : Code} (I : σ → Prop) (Sf : σ → bq) (Mf : σ → List Ent) (h : SC P x (Exit.then (Fb n w0 I Sf Mf) Q) n w0 S M) (rest : ∀ s, I s → SC P y Q n w0 (Sf s) (Mf s)) : SC P (.seq x y) Q n w0 S M :=
  ⟨fun _ _ h1 h2 => wp_seq (wp_mono (h.run _ _ h1 h2) fun e _ _ hq => by
    cases e with
    | normal => obtain ⟨s', hI, hs, hm⟩ := hq; exact (rest s' hI).run _ _ hs hm
    | exit id => exact hq
    | goto l => exact hq
    | ret => exact hq
    | panic ch => exact hq
    | outgrown => exact hq)⟩
theorem cO {σ : Type} {I : σ → Prop} {Sf : σ → bq} {Mf : σ → List Ent} (s' : σ) (bs : List Bool) (hI : I s') (hS : yJ (Sf s') S) (hM : jI bs M = Mf s') : SQ (Exit.then (Fb n w0 I Sf Mf) Q) .normal n w0 S M :=
  ⟨fun _ _ h1 h2 => ⟨s', hI, h1.sub hS, h2.mask bs hM⟩⟩
end
def nI : List Ent → Nat → Option (Ent × List Ent)
  | [], _ => none
  | e :: r, 0 => some (e, r)
  | x :: r, i + 1 => match nI r i with
    | some (e, r') => some (e, x :: r')
    | none => none
theorem Apart.symm {e f : Ent} (h : Apart e f) : Apart f e := fun k => ⟨fun h1 h2 => (h k).2 h1 h2, fun h1 h2 => (h k).1 h1 h2⟩
theorem qC : ∀ {M M' : List Ent} {i : Nat} {e : Ent}, nI M i = some (e, M') → e ∈ M ∧ ∀ f ∈ M', f ∈ M
  | [], _, _, _, h => by cases h
  | x :: r, M', 0, e, h => by
    obtain ⟨rfl, rfl⟩ := (by simpa [nI] using h)
    exact ⟨List.mem_cons_self .., fun f hf => List.mem_cons_of_mem _ hf⟩
  | x :: r, M', i + 1, e, h => by
    simp only [nI] at h
    split at h <;> first | (cases h; done) | skip
    rename_i e' r' hr
    obtain ⟨rfl, rfl⟩ := (by simpa using h)
    obtain ⟨h1, h2⟩ := qC hr
    refine ⟨List.mem_cons_of_mem _ h1, fun f hf => ?_⟩
    rcases List.mem_cons.1 hf with rfl | hf
    · exact List.mem_cons_self ..
    · exact List.mem_cons_of_mem _ (h2 f hf)
theorem MemL.pull {B : Nat} {w : World} : ∀ {M M' : List Ent} {i : Nat} {e : Ent}, nI M i = some (e, M') → MemL B w M → MemL B w (e :: M')
  | [], _, _, _, h, _ => by cases h
  | x :: r, M', 0, e, h, hm => by
    obtain ⟨rfl, rfl⟩ := (by simpa [nI] using h)
    exact hm
  | x :: r, M', i + 1, e, h, hm => by
    simp only [nI] at h
    split at h <;> first | (cases h; done) | skip
    rename_i e' r' hr
    obtain ⟨rfl, rfl⟩ := (by simpa using h)
    have ih := MemL.pull hr hm.2.2
    obtain ⟨h1, h2⟩ := qC hr
    refine ⟨ih.1, fun f hf => ?_, hm.1, fun f hf => hm.2.1 f (h2 f hf), ih.2.2⟩
    rcases List.mem_cons.1 hf with rfl | hf
    · exact (hm.2.1 _ h1).symm
    · exact ih.2.1 f hf
theorem Mem.pull {w0 w : World} {M M' : List Ent} {e : Ent} (h : Mem w0 w M) (i : Nat) (hp : nI M i = some (e, M')) : Mem w0 w (e :: M') := ⟨h.1, MemL.pull hp h.2⟩
theorem bv {P : Program} {f : FuncId} {fn : Func} {c : Code} {args : List Value} {w0 w : World} {M : List Ent} {R : Ending → World → Prop} {n : Nat} {S : bq} (hM : Mem w0 w M) (hf : P.funcs[f]? = some fn) (hb : fn.body = some c) (hn : fn.ntmps = n) (ha : Nat.ble args.length n = true)
    (hs : qz args 0 = some S) (h : SC P c (bodyPost P fn R) n w0 S M) : Calls P f ⟨args⟩ w R := by
  rw [oG hs] at h
  refine calls_of_wp hf hb (h.run _ _ ⟨rfl, ?_, fun t L v ht => ?_⟩ hM)
  · have := Nat.le_of_ble_eq_true ha
    simp [hn]; omega
  · obtain ⟨rfl, _, h3⟩ := mR args 0 t ht
    have hlt := (List.getElem?_eq_some_iff.1 h3).1
    simp only [Nat.sub_zero] at h3 hlt
    rw [Array.getElem?_append_left (by simpa using hlt)]
    simpa [az] using h3
theorem Mem.rep {w0 w w' : World} {M : List Ent} (h : Mem w0 w M) (hb : Below w.heap.size w w') (F : Nat → Prop) (p : World → Prop) (hF : ∀ k, F k → k < w'.heap.size ∧ ∀ f ∈ M, ¬ f.mut k) (hp : p w') (hk : ∀ w1 w2, (∀ k, F k → w2.heap[k]? = w1.heap[k]?) → p w1 → p w2) : Mem w0 w' (.rep F p :: M) :=
  h.add hb ⟨fun k hk => (hF k hk).1, hp, hk⟩ (fun _ hk => hk.elim) (fun k hk f hf hm => (hF k hk).2 f hf hm)
section
variable {P : Program} {T : eo} {w0 : World} {S : bq} {M : List Ent} {L L1 L2 : Cd} {o : Oper}
theorem rP (v : Value) (h : az L = false) : VO P w0 S M L o v := fun _ _ _ _ _ hL => by rw [h] at hL; cases hL
theorem AN (hT : TOK P T) (j : Nat) {t : TypeId} {x y : Operand} {b off len cap : Nat} {ik : IntKind} {i : Int} {e : TypeId} {z : Value} {td : TD} {m : Nat} (h1 : o.op = .indexAddr t x y) (h2 : ev S x = some (L1, .slice (some ⟨b, off, none⟩) len cap)) (h3 : Suf L1 L)
    (h4 : ev S y = some (L2, .int ik i)) (h5 : Suf L2 L) (h6 : lk t T = some (.slc e z)) (h7 : lk e T = some td) (h8 : Nat.beq td.size m = true) (hi : az L = true → i = (j : Int)) (hj : az L = true → j < len) : VO P w0 S M L o (.pointer (some ⟨b, off + j * m, none⟩)) := by
  intro n a w hS hM hL
  have hi := hi hL
  have hj := hj hL
  subst hi
  obtain ⟨i2, hi2, hs2, _⟩ := bu (hT.get h7)
  have hm := Nat.eq_of_beq_eq_true h8
  unfold execOp
  simp only [h1, av hS h2 (h3.holds hL), av hS h4 (h5.holds hL)]
  have hlt : (0 : Int) ≤ (j : Int) ∧ (j : Int) < (len : Int) := ⟨by omega, by omega⟩
  simp [Instr.indexAt, asIntOf, Sem.run_bind, run_underlying (cw (hT.get h6)), ct hi2, hs2, hm, hj, Addr.add_mid]
theorem dG (hT : TOK P T) {t : TypeId} {x : Operand} {a0 : Addr} {d : TD} {v : Value} (h1 : o.op = .load t x)
    (h2 : ev S x = some (L1, .pointer (some a0))) (h3 : Suf L1 L) (h4 : lk t T = some d) (h5 : d.isOne = true) (hc : az L = true → w0.cell? a0 = some v) : VO P w0 S M L o v :=
  fun n a w hS hM hL => E5 hT h1 h2 h3 h4 h5 (hc hL) n a w hS hM hL
theorem vQ (hT : TOK P T) {t : TypeId} {x : Operand} {b off n' : Nat} {z : List Value} {fs : List (Nat × TypeId)} {cs : List Value} (h1 : o.op = .load t x)
    (h2 : ev S x = some (L1, .pointer (some ⟨b, off, none⟩))) (h3 : Suf L1 L) (h4 : lk t T = some (.row n' z fs)) (h5 : cs.length = n') (hc : az L = true → w0.rangeAt b off cs) : VO P w0 S M L o (.agg ⟨cs⟩) :=
  fun n a w hS hM hL => yF hT h1 h2 h3 h4 h5 (hc hL) n a w hS hM hL
theorem eI (hT : TOK P T) (m : Nat) (j : Nat) {t : TypeId} {x y : Operand} {b off : Nat} {ik : IntKind} {i : Int} {n len : Nat} {e : TypeId} {z : List Value} {td : TD} (h1 : o.op = .indexAddr t x y) (h2 : ev S x = some (L1, .pointer (some ⟨b, off, none⟩))) (h3 : Suf L1 L)
    (h4 : ev S y = some (L2, .int ik i)) (h5 : Suf L2 L) (h6 : lk t T = some (.arr n z len e)) (h7 : lk e T = some td) (h8 : Nat.beq td.size m = true) (hi : i = (j : Int)) (hj : Nat.blt j len = true) : VO P w0 S M L o (.pointer (some ⟨b, off + j * m, none⟩)) := by
  intro n a w hS hM hL
  subst hi
  have hj := Nat.le_of_ble_eq_true hj
  have hj' : j < len := hj
  obtain ⟨i1, hu, _⟩ := lX (hT.get h6)
  obtain ⟨i2, hi2, hs2, _⟩ := bu (hT.get h7)
  have hm := Nat.eq_of_beq_eq_true h8
  unfold execOp
  simp only [h1, av hS h2 (h3.holds hL), av hS h4 (h5.holds hL)]
  simp [Instr.indexAt, asIntOf, Sem.run_bind, run_underlying hu, ct hi2, hs2, hm, hj', Addr.add_mid, Instr.sureAddr]
theorem Fc {t ty : TypeId} {x y : Operand} {a b : ByteArray} (h1 : o.op = .binOp .add t x y ty) (h2 : ev S x = some (L1, .string a)) (h3 : Suf L1 L) (h4 : ev S y = some (L2, .string b)) (h5 : Suf L2 L)
    (hsz : a.size + b.size ≤ 9223372036854775807) : VO P w0 S M L o (.string (a ++ b)) := by
  intro n ac w hS hM hL
  unfold execOp
  simp only [h1, av hS h2 (h3.holds hL), av hS h4 (h5.holds hL)]
  have : ¬ ((a.size + b.size : Nat) : Int) > IntKind.i64.max := by
    have e : IntKind.i64.max = 9223372036854775807 := by decide
    rw [e]; omega
  simp only [eqGuard, binOp, Op.stringOp, Sem.run_bind]
  rw [if_neg this]
  rfl
end
section
variable {P : Program} {T : eo} {w0 : World} {S : bq} {M : List Ent} {L L1 L2 : Cd} {o : Oper}
theorem xw (hT : TOK P T) {L3 : Cd} {t : TypeId} {x : Operand} {lo hi : Option Operand} {s : ByteArray} {vl vh : Option Value} (l h : Nat) {z : Value} (h1 : o.op = .slice t x lo hi none)
    (h2 : ev S x = some (L1, .string s)) (h3 : Suf L1 L) (h4 : Ag S lo = some (L2, vl)) (h5 : Suf L2 L) (h4' : Ag S hi = some (L3, vh)) (h5' : Suf L3 L) (h6 : lk t T = some (.str z))
    (hc : az L = true → (match vl with | none => l = 0 | some (.int _ n) => n = (l : Int) | _ => False) ∧ (match vh with | none => h = s.size | some (.int _ n) => n = (h : Int) | _ => False) ∧ l ≤ h ∧ h ≤ s.size) : VO P w0 S M L o (.string (s.extract l h)) := by
  intro n a w hS hM hL
  obtain ⟨c1, c2, c3, c4⟩ := hc hL
  exact Dm (w0 := w0) (M := M) hT l h h1 h2 h3 h4 h5 h4' h5' h6 c1 c2 c3 c4 n a w hS hM hL
theorem xx {t ty : TypeId} {x y : Operand} {a b : ByteArray} (h1 : o.op = .binOp .add t x y ty) (h2 : ev S x = some (L1, .string a)) (h3 : Suf L1 L) (h4 : ev S y = some (L2, .string b)) (h5 : Suf L2 L)
    (hsz : az L = true → a.size + b.size ≤ 9223372036854775807) : VO P w0 S M L o (.string (a ++ b)) := by
  intro n ac w hS hM hL
  exact Fc (w0 := w0) (M := M) (P := P) h1 h2 h3 h4 h5 (hsz hL) n ac w hS hM hL
end
end Go.Proofs.YtklcfjlmlbnkaaaGreatDoor.Y
