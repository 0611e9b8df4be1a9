/- A walker with a small state: slots and own blocks as lists, the world itself never written out. Part 1: slots and memory. -/
import Derived.Test.YtcedpdofjbaciaaDoorBlk
import Derived.Test.YtcedpdofjbaciaaDoorRegion
import Derived.Deep.MidRow
import Derived.Laws.CopyRow
namespace Go.Proofs.YtcedpdofjbaciaaDoor
open Go.RowKit

abbrev Cd := List (Bool × Bool)
abbrev Sts := List (Nat × Cd × Value)
def lk {α : Type} (t : Nat) : List (Nat × α) → Option α
  | [] => none
  | (k, v) :: r => match Nat.beq k t with
    | true => some v
    | false => lk t r
theorem lk_cons {α : Type} (t k : Nat) (v : α) (r : List (Nat × α)) : lk t ((k, v) :: r) = if k = t then some v else lk t r := by
  rw [lk]
  by_cases h : k = t
  · subst h; simp
  · have : Nat.beq k t = false := by rw [Bool.eq_false_iff]; intro e; exact h (Nat.eq_of_beq_eq_true e)
    rw [this, if_neg h]
def holdsC : Cd → Bool
  | [] => true
  | (b, w) :: r => (b == w) && holdsC r
/-- what is known of the slots: a slot that was written under conditions holds its value if they hold, else nothing. -/
def Sl (n : Nat) (a : Act) (S : Sts) : Prop := a.defers = [] ∧ a.tmps.size = n ∧ ∀ t L v, lk t S = some (L, v) → a.tmps[t]? = some (if holdsC L then v else undef)
theorem Sl.put {n : Nat} {a : Act} {S : Sts} (h : Sl n a S) {d : Nat} (hd : d < n) {L : Cd} {v x : Value} (hx : x = if holdsC L then v else undef) : Sl n (a.put (some d) x) ((d, L, v) :: S) := by
  obtain ⟨h1, h2, h3⟩ := h
  refine ⟨h1, by simp [Act.put, h2], fun t L' v' ht => ?_⟩
  rw [lk_cons] at ht
  by_cases e : d = t
  · subst e
    rw [if_pos rfl] at ht
    obtain ⟨rfl, rfl⟩ := by simpa using ht
    simp [Act.put, h2, hd, hx]
  · rw [if_neg e] at ht
    have := h3 t L' v' ht
    simp only [Act.put]
    rw [Array.getElem?_setIfInBounds_ne e]
    exact this
theorem Sl.putNone {n : Nat} {a : Act} {S : Sts} (h : Sl n a S) (x : Value) : Sl n (a.put none x) S := h
/-- the operand under conditions. -/
def ev (S : Sts) : Operand → Option (Cd × Value)
  | .tmp t => match lk t S with
    | some (L, v) => some (L, v)
    | none => none
  | .const v => some ([], v)
  | .global g => some ([], .pointer (some ⟨g, 0, none⟩))
  | .func f => some ([], .func (.func f) #[] #[])
def Suf (L' L : Cd) : Prop := L.drop (L.length - L'.length) = L'
theorem holds_drop (L : Cd) : ∀ k, holdsC L = true → holdsC (L.drop k) = true := by
  induction L with
  | nil => intro k h; simp [holdsC]
  | cons x r ih =>
    intro k h
    cases k with
    | zero => exact h
    | succ k => obtain ⟨b, w⟩ := x; simp only [holdsC, Bool.and_eq_true] at h; exact ih k h.2
theorem Suf.holds {L' L : Cd} (h : Suf L' L) (hL : holdsC L = true) : holdsC L' = true := by
  unfold Suf at h; rw [← h]; exact holds_drop _ _ hL
theorem ev_spec {n : Nat} {a : Act} {S : Sts} (h : Sl n a S) {x : Operand} {L : Cd} {v : Value} (he : ev S x = some (L, v)) (hL : holdsC L = true) : a.eval x = v := by
  cases x with
  | tmp t =>
    simp only [ev] at he
    cases ht : lk t S with
    | none => rw [ht] at he; cases he
    | some p =>
      obtain ⟨L', v'⟩ := p
      rw [ht] at he
      obtain ⟨rfl, rfl⟩ := by simpa using he
      have := h.2.2 t _ _ ht
      rw [hL] at this
      simp [Act.eval, this]
  | const u => obtain ⟨rfl, rfl⟩ := (by simpa [ev] using he); rfl
  | global g => obtain ⟨rfl, rfl⟩ := (by simpa [ev] using he); rfl
  | func f => obtain ⟨rfl, rfl⟩ := (by simpa [ev] using he); rfl
/-- the operands of a list. -/
def evL (S : Sts) : List Operand → Option (List Cd × List Value)
  | [] => some ([], [])
  | x :: r => match ev S x with
    | some (L, v) => match evL S r with
      | some (Ls, vs) => some (L :: Ls, v :: vs)
      | none => none
    | none => none
def SufA (L : Cd) : List Cd → Prop
  | [] => True
  | l :: r => Suf l L ∧ SufA L r
theorem evL_spec {n : Nat} {a : Act} {S : Sts} (h : Sl n a S) {L : Cd} (hL : holdsC L = true) : ∀ (xs : List Operand) {Ls : List Cd} {vs : List Value}, evL S xs = some (Ls, vs) → SufA L Ls → xs.map a.eval = vs := by
  intro xs
  induction xs with
  | nil => intro Ls vs he _; obtain ⟨rfl, rfl⟩ := (by simpa [evL] using he); rfl
  | cons x r ih =>
    intro Ls vs he hs
    simp only [evL] at he
    cases hx : ev S x with
    | none => rw [hx] at he; cases he
    | some p =>
      obtain ⟨L1, v1⟩ := p
      rw [hx] at he
      cases hr : evL S r with
      | none => rw [hr] at he; cases he
      | some q =>
        obtain ⟨Lr, vr⟩ := q
        rw [hr] at he
        obtain ⟨rfl, rfl⟩ := by simpa using he
        obtain ⟨h1, h2⟩ := hs
        simp only [List.map_cons, ev_spec h hx (h1.holds hL), ih hr h2]
/-- the conditions of an operation's guard. -/
def nth {α : Type} : List α → Nat → Option α
  | [], _ => none
  | x :: _, 0 => some x
  | _ :: r, k + 1 => nth r k
theorem nth_eq {α : Type} : ∀ (l : List α) (k : Nat), nth l k = l[k]?
  | [], _ => rfl
  | _ :: _, 0 => rfl
  | _ :: r, k + 1 => by simpa [nth] using nth_eq r k
def gd (l : List Oper) (S : Sts) : Option (Nat × Bool) → Option Cd
  | none => some []
  | some (j, want) => match nth l j with
    | some o => match o.dst with
      | some d => match lk d S with
        | some (L, .bool b) => some ((b, want) :: L)
        | _ => none
      | none => none
    | none => none
theorem gd_spec {l : List Oper} {S : Sts} {n : Nat} {a : Act} (h : Sl n a S) {o : Oper} {L : Cd} (hg : gd l S o.guard = some L) : Region.wanted o (yielded l.toArray a.tmps) = holdsC L := by
  unfold Region.wanted
  cases hgu : o.guard with
  | none => rw [hgu] at hg; obtain rfl := (by simpa [gd] using hg); rfl
  | some p =>
    obtain ⟨j, want⟩ := p
    rw [hgu] at hg
    simp only [gd] at hg
    cases hj : nth l j with
    | none => rw [hj] at hg; cases hg
    | some oj =>
      rw [hj] at hg
      simp only at hg
      cases hd : oj.dst with
      | none => rw [hd] at hg; cases hg
      | some d =>
        rw [hd] at hg
        simp only at hg
        split at hg
        · rename_i L' b hl
          obtain rfl := by simpa using hg
          have h3 := h.2.2 d _ _ hl
          rw [nth_eq] at hj
          simp only [yielded, List.getElem?_toArray, hj, Option.bind_some, hd, h3, holdsC]
          cases holdsC L' <;> simp [undef]
        · cases hg

/-! memory -/
abbrev Ent := Nat × TypeId × List Value
def MemL (B : Nat) (w : World) : List Ent → Prop
  | [] => True
  | (g, T, cs) :: M => B ≤ g ∧ Bk w g T ⟨cs⟩ ∧ (∀ e ∈ M, e.1 ≠ g) ∧ MemL B w M
def Mem (w0 w : World) (M : List Ent) : Prop := Below w0.heap.size w0 w ∧ MemL w0.heap.size w M
theorem Mem.below {w0 w : World} {M : List Ent} (h : Mem w0 w M) : Below w0.heap.size w0 w := h.1
theorem MemL.get {B : Nat} {w : World} : ∀ {M : List Ent} {i : Nat} {g : Nat} {T : TypeId} {cs : List Value}, MemL B w M → nth M i = some (g, T, cs) → B ≤ g ∧ Bk w g T ⟨cs⟩
  | [], _, _, _, _, _, hi => by cases hi
  | (g', T', cs') :: M, 0, g, T, cs, h, hi => by
    obtain ⟨rfl, rfl, rfl⟩ := by simpa [nth] using hi
    exact ⟨h.1, h.2.1⟩
  | (g', T', cs') :: M, i + 1, g, T, cs, h, hi => MemL.get (M := M) (i := i) h.2.2.2 hi
theorem MemL.keep {B : Nat} {w w' : World} (hb : Below w.heap.size w w') : ∀ {M : List Ent}, MemL B w M → MemL B w' M
  | [], _ => trivial
  | (_, _, _) :: _, h => ⟨h.1, h.2.1.keep hb, h.2.2.1, MemL.keep hb h.2.2.2⟩
theorem MemL.blk {B : Nat} {w w' : World} : ∀ {M : List Ent}, (∀ e ∈ M, w'.heap[e.1]? = w.heap[e.1]?) → MemL B w M → MemL B w' M
  | [], _, _ => trivial
  | (g, _, _) :: _, hb, h => ⟨h.1, by unfold Bk; rw [hb _ (List.mem_cons_self ..)]; exact h.2.1, h.2.2.1, MemL.blk (fun e he => hb e (List.mem_cons_of_mem _ he)) h.2.2.2⟩
theorem MemL.here {B : Nat} {w : World} : ∀ {M : List Ent}, MemL B w M → ∀ e ∈ M, e.1 < w.heap.size
  | [], _, e, he => by cases he
  | (g, T, cs) :: M, h, e, he => by
    rcases List.mem_cons.1 he with rfl | he
    · exact h.2.1.here
    · exact MemL.here h.2.2.2 e he
theorem Mem.keep {w0 w w' : World} {M : List Ent} (h : Mem w0 w M) (hb : Below w.heap.size w w') : Mem w0 w' M := ⟨h.1.trans (hb.mono h.1.size), h.2.keep hb⟩
theorem Mem.drew {w0 w : World} {M : List Ent} (h : Mem w0 w M) : Mem w0 w.drew M := h.keep (Below.refl _ _).drew
theorem Mem.new {w0 w : World} {M : List Ent} (h : Mem w0 w M) (T : TypeId) (cs : List Value) : Mem w0 (w.alloc (.cells ⟨cs⟩ T)) ((w.heap.size, T, cs) :: M) := by
  have hk := h.keep ((Below.refl _ _).alloc (Nat.le_refl _) (.cells ⟨cs⟩ T))
  exact ⟨hk.1, h.1.size, Bk.new w T ⟨cs⟩, fun e he => by have := MemL.here h.2 e he; omega, hk.2⟩
/-- block i has other cells. -/
def setM : List Ent → Nat → List Value → Option (List Ent)
  | [], _, _ => none
  | (g, T, _) :: r, 0, cs => some ((g, T, cs) :: r)
  | e :: r, i + 1, cs => match setM r i cs with
    | some r' => some (e :: r')
    | none => none
theorem setM_fst : ∀ {M M' : List Ent} {i : Nat} {cs : List Value}, setM M i cs = some M' → M'.map (·.1) = M.map (·.1)
  | [], _, _, _, h => by cases h
  | (g, T, c) :: r, M', 0, cs, h => by obtain rfl := (by simpa [setM] using h); rfl
  | e :: r, M', i + 1, cs, h => by
    simp only [setM] at h
    cases hr : setM r i cs with
    | none => rw [hr] at h; cases h
    | some r' => rw [hr] at h; obtain rfl := (by simpa using h); simp [setM_fst hr]
theorem MemL.set {B : Nat} {w w' : World} {g : Nat} (ho : ∀ k, k ≠ g → w'.heap[k]? = w.heap[k]?) : ∀ {M M' : List Ent} {i : Nat} {T : TypeId} {cs cs' : List Value}, MemL B w M → nth M i = some (g, T, cs) → Bk w' g T ⟨cs'⟩ → setM M i cs' = some M' → MemL B w' M'
  | [], _, _, _, _, _, _, hi, _, _ => by cases hi
  | (g', T', c) :: r, M', 0, T, cs, cs', h, hi, hk, hs => by
    obtain ⟨rfl, rfl, rfl⟩ := by simpa [nth] using hi
    obtain rfl := by simpa [setM] using hs
    exact ⟨h.1, hk, h.2.2.1, MemL.blk (fun e he => ho _ (h.2.2.1 e he)) h.2.2.2⟩
  | (g', T', c) :: r, M', i + 1, T, cs, cs', h, hi, hk, hs => by
    simp only [setM] at hs
    cases hr : setM r i cs' with
    | none => rw [hr] at hs; cases hs
    | some r' =>
      rw [hr] at hs
      obtain rfl := by simpa using hs
      have hne : g' ≠ g := by
        intro e
        subst e
        have : (g', T, cs) ∈ r := by
          have hi' : nth r i = some (g', T, cs) := hi
          rw [nth_eq] at hi'
          exact List.mem_of_getElem? hi'
        exact h.2.2.1 _ this rfl
      refine ⟨h.1, by unfold Bk; rw [ho _ hne]; exact h.2.1, fun e he => ?_, MemL.set ho h.2.2.2 hi hk hr⟩
      have hm : e.1 ∈ r'.map (·.1) := List.mem_map_of_mem he
      rw [setM_fst hr] at hm
      obtain ⟨e', he', h'⟩ := List.mem_map.1 hm
      rw [← h']
      exact h.2.2.1 e' he'
theorem Mem.set {w0 w : World} {M M' : List Ent} {i g : Nat} {T : TypeId} {cs cs' : List Value} (h : Mem w0 w M) (hi : nth M i = some (g, T, cs)) (hs : setM M i cs' = some M') : Mem w0 (w.setRow g ⟨cs'⟩) M' := by
  obtain ⟨hB, hk⟩ := h.2.get hi
  refine ⟨⟨h.1.os, h.1.tape, h.1.output, by simpa [World.setRow] using h.1.size, fun k hk' => (setRow_other w g k ⟨cs'⟩ (by omega)).trans (h.1.block k hk')⟩, ?_⟩
  exact MemL.set (g := g) (fun k hk' => setRow_other w g k ⟨cs'⟩ hk') h.2 hi (setRow_heap w g ⟨cs⟩ ⟨cs'⟩ T (0, 0) hk) hs
end Go.Proofs.YtcedpdofjbaciaaDoor
