/- Texts of this claim merged into one: KVac, KRep, KGen. -/
import Derived.Test.YtklcfjlmlbnkaaaGreatDoorKBunT
import Derived.Test.YtklcfjlmlbnkaaaGreatDoorKRegH
import Derived.Test.YtklcfjlmlbnkaaaGreatDoorKBunC
import Derived.Test.YtklcfjlmlbnkaaaGreatDoorKBunS
namespace Go.Proofs.YtklcfjlmlbnkaaaGreatDoor.Y
open Go.RowKit
theorem iY {P : Program} {w0 : World} {S : bq} {M : List Ent} {L : Cd} {o : Oper} {v v' : Value} (h : VO P w0 S M L o v') (e : v' = v) : VO P w0 S M L o v := e ▸ h
theorem mr {P : Program} {w0 : World} {S : bq} {M : List Ent} {L : Cd} {o : Oper} {t : TypeId} {x : Operand} (v : Value) (_h1 : o.op = .load t x) (h : az L = false) : VO P w0 S M L o v := rP _ h
theorem mu {P : Program} {w0 : World} {S : bq} {M : List Ent} {L : Cd} {o : Oper} {t : TypeId} {x y : Operand} (_h1 : o.op = .indexAddr t x y) (h : az L = false) : VO P w0 S M L o (.pointer (some ⟨0, 0, none⟩)) := rP _ h
end Go.Proofs.YtklcfjlmlbnkaaaGreatDoor.Y
namespace Go.Proofs.YtklcfjlmlbnkaaaGreatDoor.Y
open Go.RowKit
section
variable {α : Type} {f : α → List Value} {sz : Nat}
theorem bZ (hf : ∀ a, (f a).length = sz) : ∀ l : List α, (l.flatMap f).length = l.length * sz
  | [] => by simp
  | a :: l => by simp [bZ hf l, hf, Nat.succ_mul, Nat.add_comm]
theorem iZ (hf : ∀ a, (f a).length = sz) : ∀ (l : List α) (j : Nat), (l.flatMap f).drop (j * sz) = (l.drop j).flatMap f
  | [], j => by simp
  | a :: l, 0 => by simp
  | a :: l, j + 1 => by
    rw [List.flatMap_cons, Nat.succ_mul, Nat.add_comm, ← List.drop_drop]
    rw [show (f a ++ l.flatMap f).drop sz = l.flatMap f by rw [← hf a]; exact List.drop_left]
    simpa using iZ hf l j
theorem aJ (hf : ∀ a, (f a).length = sz) {l : List α} {j k : Nat} {a : α} {v : Value} (hj : l[j]? = some a) (hk : (f a)[k]? = some v) : (l.flatMap f)[j * sz + k]? = some v := by
  rw [← List.getElem?_drop, iZ hf]
  obtain ⟨hjl, rfl⟩ := List.getElem?_eq_some_iff.1 hj
  rw [List.drop_eq_getElem_cons hjl, List.flatMap_cons]
  have := (List.getElem?_eq_some_iff.1 hk).1
  rw [List.getElem?_append_left this]; exact hk
theorem nc : ∀ (l : List Value) (k : Nat) (vs : List Value), k + vs.length ≤ l.length → jv l k vs = some (l.take k ++ vs ++ l.drop (k + vs.length))
  | l, 0, [], _ => by cases l <;> simp [jv]
  | [], 0, v :: vs, h => by simp at h
  | x :: l, 0, v :: vs, h => by simp [jv, nc l 0 vs (by simp at h; omega)]
  | [], k + 1, vs, h => by simp at h
  | x :: l, k + 1, vs, h => by
    have h2 := nc l k vs (by simp at h; omega)
    have e : k + 1 + vs.length = k + vs.length + 1 := by omega
    cases vs with
    | nil => simp [jv, h2]
    | cons v vs => rw [jv, h2, e]; simp
theorem cy (hf : ∀ a, (f a).length = sz) : ∀ (l : List α) (j off : Nat) (a a' : α) (vs : List Value), l[j]? = some a → jv (f a) off vs = some (f a') → jv (l.flatMap f) (j * sz + off) vs = some ((l.set j a').flatMap f)
  | [], j, off, a, a', vs, h, _ => by simp at h
  | x :: l, 0, off, a, a', vs, h, hs => by
    obtain rfl := (by simpa using h)
    obtain ⟨e, hl⟩ := jX hs
    rw [Nat.zero_mul, Nat.zero_add, List.set_cons_zero, List.flatMap_cons, List.flatMap_cons, nc _ _ _ (by rw [List.length_append]; omega), e]
    rw [List.take_append_of_le_length (by omega), List.drop_append_of_le_length (by omega)]
    simp [List.append_assoc]
  | x :: l, j + 1, off, a, a', vs, h, hs => by
    have ih := cy hf l j off a a' vs (by simpa using h) hs
    obtain ⟨e, hl⟩ := jX ih
    have hx := hf x
    rw [List.set_cons_succ, List.flatMap_cons, List.flatMap_cons, e]
    rw [nc _ _ _ (by rw [List.length_append, hx]; rw [Nat.succ_mul]; omega)]
    have e1 : (j + 1) * sz + off = (f x).length + (j * sz + off) := by rw [hx, Nat.succ_mul]; omega
    have e2 : (j + 1) * sz + off + vs.length = (f x).length + (j * sz + off + vs.length) := by rw [hx, Nat.succ_mul]; omega
    rw [e2, e1, List.take_length_add_append, List.drop_length_add_append]
    simp [List.append_assoc]
end
def Rws {α : Type} (A : Nat → Prop) (w : World) (sz : Nat) (f : α → List Value) (x : Option Addr) (l : List α) : Prop :=
  0 < l.length → ∃ b off, x = some ⟨b, off, none⟩ ∧ A b ∧ b < w.heap.size ∧ ∀ j v, l[j]? = some v → w.rangeAt b (off + j * sz) (f v)
section
variable {α : Type} {A : Nat → Prop} {w w' : World} {sz : Nat} {f : α → List Value} {x : Option Addr} {l : List α}
theorem qO {w w' : World} {b o : Nat} (h : w'.heap[b]? = w.heap[b]?) : w'.cell? ⟨b, o, none⟩ = w.cell? ⟨b, o, none⟩ := by
  unfold World.cell?
  simp only [h]
theorem Rws.keep (h : Rws A w sz f x l) (hs : w.heap.size ≤ w'.heap.size) (hk : ∀ b, A b → b < w.heap.size → w'.heap[b]? = w.heap[b]?) : Rws A w' sz f x l := fun h0 => by
  obtain ⟨b, off, h1, h2, h3, h4⟩ := h h0
  exact ⟨b, off, h1, h2, by omega, fun j v hj k u hu => (qO (hk b h2 h3)).trans (h4 j v hj k u hu)⟩
theorem Rws.below (h : Rws A w sz f x l) (hb : Below w.heap.size w w') : Rws A w' sz f x l := h.keep hb.size fun b _ hb' => hb.block b hb'
theorem Rws.mono {A' : Nat → Prop} (h : Rws A w sz f x l) (hA : ∀ b, A b → A' b) : Rws A' w sz f x l := fun h0 => by
  obtain ⟨b, off, h1, h2, h3⟩ := h h0
  exact ⟨b, off, h1, hA b h2, h3⟩
theorem Rws.lt (h : Rws A w sz f x l) : Rws (fun b => A b ∧ b < w.heap.size) w sz f x l := fun h0 => by
  obtain ⟨b, off, h1, h2, h3, h4⟩ := h h0
  exact ⟨b, off, h1, ⟨h2, h3⟩, h3, h4⟩
theorem Rws.own {B : Nat} {T : TypeId} {c : Nat} (hf : ∀ a, (f a).length = sz) (h : w.ownsRow B T sz (.slice x l.length c) l.length (l.flatMap f)) : Rws (fun b => B ≤ b) w sz f x l := fun h0 => by
  rcases h.2 with ⟨_, h2⟩ | ⟨g, cap, cur, hv, hg, hgw, _⟩
  · omega
  · obtain ⟨rfl, rfl⟩ := (by simpa using hv)
    refine ⟨g, 0, rfl, hg, gN hgw, fun j v hj k u hu => ?_⟩
    rw [Nat.zero_add]
    exact eT h (aJ hf hj hu)
theorem Rws.take (h : Rws A w sz f x l) {l' : List α} (hl : ∀ (j : Nat) (v : α), l'[j]? = some v → l[j]? = some v) : Rws A w sz f x l' := fun h0 => by
  obtain ⟨b, off, h1, h2, h3, h4⟩ := h (by
    have := hl 0 _ (List.getElem?_eq_getElem h0)
    exact (List.getElem?_eq_some_iff.1 this).1)
  exact ⟨b, off, h1, h2, h3, fun j v hj => h4 j v (hl j v hj)⟩
end
structure Made (w w' : World) (E : List Ent) : Prop where
  below : Below w.heap.size w w'
  mem : MemL w.heap.size w' E
  new : ∀ e ∈ E, ∀ b, e.foot b → w.heap.size ≤ b
theorem Mem.made {w0 w w' : World} {M E : List Ent} (h : Mem w0 w M) (hm : Made w w' E) : Mem w0 w' (E ++ M) :=
  ⟨h.1.trans (hm.below.mono h.1.size), MemL.join (hm.mem.mono h.1.size) (h.2.keep hm.below) fun e he f hf k => ⟨fun h1 h2 => by
    have h3 := (MemL.mem h.2 f hf).foot_lt h2
    have h4 := hm.new e he k (Ent.mut_foot h1)
    omega, fun h1 h2 => by
    have h3 := ((MemL.mem h.2 f hf).mut_lt h1).2
    have h4 := hm.new e he k h2
    omega⟩⟩
theorem gU {w : World} {B cap : Nat} {a : Option Addr} {e : TypeId} {size n : Nat} {xs : List Value} (h : w.ownsRow B e size (.slice a n cap) n xs) {b : Nat} (hb : (Ent.own a cap e size n xs).foot b) : B ≤ b ∧ b < w.heap.size :=
  Ent.ok.mut_lt (e := .own a cap e size n xs) h hb
theorem Made.one {w w' : World} {a : Option Addr} {cap : Nat} {e : TypeId} {size n : Nat} {xs : List Value} (h : w'.ownsRow w.heap.size e size (.slice a n cap) n xs) (hb : Below w.heap.size w w') : Made w w' [.own a cap e size n xs] :=
  ⟨hb, ⟨h, fun _ hf => (by cases hf), trivial⟩, fun f hf b hfb => by
    obtain rfl : f = _ := by simpa using hf
    exact (gU h hfb).1⟩
theorem Made.of {w0 w : World} {E : List Ent} (h : Mem w0 w E) (hf : ∀ e ∈ E, ∀ F p, e = .rep F p → ∀ b, F b → w0.heap.size ≤ b) : Made w0 w E :=
  ⟨h.1, h.2, fun e he b hb => by
    have hok := MemL.mem h.2 e he
    cases e with
    | rep F p => exact hf _ he F p rfl b hb
    | obj g o => exact (hok.mut_lt (k := b) hb).1
    | own a cap e size n xs => exact (hok.mut_lt (k := b) hb).1⟩
theorem MemL.split {B : Nat} {w : World} : ∀ {M1 M2 : List Ent}, MemL B w (M1 ++ M2) → MemL B w M1 ∧ MemL B w M2 ∧ ∀ e ∈ M1, ∀ f ∈ M2, Apart e f
  | [], _, h => ⟨trivial, h, fun _ he => by cases he⟩
  | e :: M1, M2, h => by
    obtain ⟨h1, h2, h3⟩ := MemL.split (M1 := M1) h.2.2
    refine ⟨⟨h.1, fun f hf => h.2.1 f (List.mem_append_left _ hf), h1⟩, h2, fun e' he' f hf => ?_⟩
    rcases List.mem_cons.1 he' with rfl | he'
    · exact h.2.1 f (List.mem_append_right _ hf)
    · exact h3 e' he' f hf
theorem Mem.fuse {w0 w : World} {M : List Ent} (M1 : List Ent) {M2 : List Ent} (F : Nat → Prop) (p : World → Prop) (h : Mem w0 w M) (e : M = M1 ++ M2) (hF : ∀ k, F k → ∃ e ∈ M1, e.foot k) (hp : MemL w0.heap.size w M1 → p w) (hk : ∀ w1 w2, (∀ k, F k → w2.heap[k]? = w1.heap[k]?) → p w1 → p w2) : Mem w0 w (.rep F p :: M2) := by
  subst e
  obtain ⟨h1, h2, h3⟩ := h.2.split
  refine ⟨h.1, ⟨fun k hk => ?_, hp h1, hk⟩, fun f hf k => ⟨fun hm => hm.elim, fun hm hfk => ?_⟩, h2⟩
  · obtain ⟨e, he, hek⟩ := hF k hk
    exact (MemL.mem h1 e he).foot_lt hek
  · obtain ⟨e, he, hek⟩ := hF k hfk
    exact (h3 e he f hf k).2 hm hek
section
variable {P : Program} {T : eo} {w0 : World} {S : bq} {M M' : List Ent} {L : Cd} {o : Oper} {l0 rest : List Oper} {Q : Exit → Act → World → Prop} {n d : Nat}
theorem cQ {σ : Type} {f : FuncId} {args : List Value} (Ψ : σ → Prop) (V : σ → Value) (E : σ → List Ent) (hg : o.guard = none) (ho : dd P S [] o f args)
    (hc : ∀ w, Mem w0 w M → Calls P f ⟨args⟩ w fun e w' => ∃ s, Ψ s ∧ e = .returned (V s) ∧ Made w w' (E s))
    (hd : o.dst = some d) (hn : Nat.blt d n = true) (h : ∀ s, Ψ s → SL P l0 Q rest n w0 ((d, [], V s) :: S) (E s ++ M)) : SL P l0 Q (o :: rest) n w0 S M :=
  bj Ψ V (fun s => E s ++ M) hg ho (fun w hM => (hc w hM).mono fun _ _ ⟨s, h1, h2, h3⟩ => ⟨s, h1, h2, hM.made h3⟩) hd hn h
theorem cF (hT : TOK P T) (i : Nat) {t : TypeId} {td : TD} {x y : Operand} {g off cap size k : Nat} {e : TypeId} {v : Value} {xs xs' vs : List Value} (h1 : o.op = .store t x y) (hg : o.guard = none) (h2 : ev S x = some ([], .pointer (some ⟨g, off, none⟩))) (h3 : ev S y = some ([], v))
    (hm : dI M i = some (.own (some ⟨g, 0, none⟩) cap e size k xs)) (h4 : dE v = some vs) (h5 : lk t T = some td) (h6 : Nat.beq vs.length td.size = true) (h7 : fj vs = true) (h8 : jv xs off vs = some xs') (h9 : ek M i (.own (some ⟨g, 0, none⟩) cap e size k xs') = some M') (hd : o.dst = none)
    (h : SL P l0 Q rest n w0 S M') : SL P l0 Q (o :: rest) n w0 S M := by
  refine ci (L := []) (by rw [hg]; rfl) (fun hL a w hS hM => ?_) (fun hL => by cases hL)
  have hok : w.ownsRow w0.heap.size e size (.slice (some ⟨g, 0, none⟩) k cap) k xs := hM.2.get hm
  obtain ⟨hlen, hrest⟩ := hok
  rcases hrest with ⟨hv, _⟩ | ⟨g', cap', cur, hv, hB, hgw, hkc, hcm, hcs, htake⟩
  · simp at hv
  obtain ⟨rfl, rfl⟩ : g = g' ∧ cap = cap' := by simp only [Value.slice.injEq, Option.some.injEq, Addr.mk.injEq] at hv; exact ⟨hv.1.1, hv.2.2⟩
  obtain ⟨e8, hl8⟩ := jX h8
  have hkl : k * size ≤ cur.toList.length := by rw [Array.length_toList, hcs]; exact Nat.mul_le_mul_right _ hkc
  have hle : off + vs.length ≤ k * size := by rw [← hlen]; exact hl8
  have hspl := nc cur.toList off vs (Nat.le_trans hle hkl)
  have hrun : (execOp a.eval o).run P w = .ok .skip (w.setRow g ⟨cur.toList.take off ++ vs ++ cur.toList.drop (off + vs.length)⟩) := by
    unfold execOp
    simp only [h1, av hS h2 rfl, av hS h3 rfl, Sem.run_bind, fA hT (show Bk w g e ⟨cur.toList⟩ from hgw) h4 h5 h6 h7 hspl]
    rfl
  unfold Vals
  rw [hrun]
  have hxs' : xs'.length = k * size := by rw [← hlen, e8]; simp; omega
  refine h.run _ _ ?_ (hM.set (e' := .own (some ⟨g, 0, none⟩) cap e size k xs') hm h9 J J J (by simp [World.setRow]) (fun q _ hq => setRow_other w g q _ hq) ⟨hxs', .inr ⟨g, cap, _, rfl, hB, setRow_heap w g cur _ e (0, 0) hgw, hkc, hcm, ?_, ?_⟩⟩ (fun _ hk => .inl hk) (fun _ hk => .inl hk))
  · rw [hd]; exact hS
  · have hle2 : off + vs.length ≤ cur.toList.length := Nat.le_trans hle hkl
    have : (cur.toList.take off ++ vs ++ cur.toList.drop (off + vs.length)).length = cur.toList.length := by rw [List.length_append, List.length_append, List.length_take, List.length_drop]; omega
    simpa [hcs] using this
  · rw [e8, ← htake]
    show (cur.toList.take off ++ vs ++ cur.toList.drop (off + vs.length)).take (k * size) = _
    generalize k * size = m at *
    have hle2 : off + vs.length ≤ cur.toList.length := Nat.le_trans hle hkl
    have h1 : (cur.toList.take off ++ vs).length = off + vs.length := by rw [List.length_append, List.length_take]; omega
    rw [List.take_append, h1, List.take_of_length_le (by rw [h1]; exact hle), List.take_take, Nat.min_eq_left (by omega), List.drop_take]
end
end Go.Proofs.YtklcfjlmlbnkaaaGreatDoor.Y
namespace Go.Proofs.YtklcfjlmlbnkaaaGreatDoor.Y
open Go.RowKit
def sC (s : ByteArray) : List Value := [.string s]
def mC (m : ByteArray × ByteArray) : List Value := [.string m.1, .string m.2]
theorem eb (a : ByteArray) : (sC a).length = 1 := rfl
theorem iK (a : ByteArray × ByteArray) : (mC a).length = 2 := rfl
theorem kT {α : Type} {l : List α} {j : Nat} {v : α} (h : l[j]? = some v) : l.drop j = v :: l.drop (j + 1) := by
  obtain ⟨h1, h2⟩ := List.getElem?_eq_some_iff.1 h
  rw [List.drop_eq_getElem_cons h1, h2]
theorem MemL.perm {B : Nat} {w : World} {M M' : List Ent} (hp : M.Perm M') : MemL B w M → MemL B w M' := by
  induction hp with
  | nil => exact id
  | cons x p ih => exact fun h => ⟨h.1, fun f hf => h.2.1 f (p.mem_iff.2 hf), ih h.2.2⟩
  | swap x y l => exact fun h => ⟨h.2.2.1, fun f hf => by
      rcases List.mem_cons.1 hf with rfl | hf
      · exact (h.2.1 x (List.mem_cons_self ..)).symm
      · exact h.2.2.2.1 f hf, h.1, fun f hf => h.2.1 f (List.mem_cons_of_mem _ hf), h.2.2.2.2⟩
  | trans _ _ ih1 ih2 => exact fun h => ih2 (ih1 h)
theorem Mem.perm {w0 w : World} {M M' : List Ent} (h : Mem w0 w M) (hp : M.Perm M') : Mem w0 w M' := ⟨h.1, h.2.perm hp⟩
theorem gk {Q : Exit → Act → World → Prop} {n : Nat} {w0 : World} {S : bq} {M M' : List Ent} {e : Exit} (hc : ∀ w, Mem w0 w M → Mem w0 w M') (h : SQ Q e n w0 S M') : SQ Q e n w0 S M := ⟨fun a w h1 h2 => h.run a w h1 (hc w h2)⟩
theorem cR {P : Program} {Q : Exit → Act → World → Prop} {l0 l : List Oper} {n : Nat} {w0 : World} {S : bq} {M M' : List Ent} (hc : ∀ w, Mem w0 w M → Mem w0 w M') (h : SL P l0 Q l n w0 S M') : SL P l0 Q l n w0 S M := ⟨fun a w h1 h2 => h.run a w h1 (hc w h2)⟩
def ue : Ent → Bool
  | .rep _ _ => true
  | _ => false
theorem Made.own {w0 w : World} {E : List Ent} (h : Mem w0 w E) (hf : ∀ e ∈ E, ue e = false) : Made w0 w E := Made.of h fun e he F p hep => by have := hf e he; rw [hep] at this; cases this
theorem wi {w w' : World} {e : Ending} {T : TypeId} {size n : Nat} {xs : List Value} (h : ∃ p : Option Addr × Nat, True ∧ e = .returned (.slice p.1 n p.2) ∧ Made w w' [.own p.1 p.2 T size n xs]) :
    (∃ s : Option Addr × Nat, True ∧ e = .returned (.slice s.1 n s.2) ∧ MemL w.heap.size w' [.own s.1 s.2 T size n xs] ∧ (∀ f ∈ [Ent.own s.1 s.2 T size n xs], ∀ b, f.foot b → vB (.slice s.1 n s.2) b) ∧ ∀ b, vB (.slice s.1 n s.2) b → w.heap.size ≤ b ∧ b < w'.heap.size) ∧ Below w.heap.size w w' := by
  obtain ⟨⟨a, c⟩, _, h2, h3⟩ := h
  have hfo : ∀ b, vB (.slice a n c) b ↔ (Ent.own a c T size n xs).foot b := fun b => by cases a <;> rfl
  refine ⟨⟨(a, c), trivial, h2, h3.mem, fun f hf b hb => ?_, fun b hb => ?_⟩, h3.below⟩
  · obtain rfl := List.mem_singleton.1 hf
    exact (hfo b).2 hb
  · exact gU h3.mem.1 ((hfo b).1 hb)
theorem MemL.sub {B : Nat} {w : World} {M M' : List Ent} (hs : M'.Sublist M) (h : MemL B w M) : MemL B w M' := by
  induction hs with
  | slnil => exact h
  | cons a _ ih => exact ih h.2.2
  | cons_cons a hs ih => exact ⟨h.1, fun f hf => h.2.1 f (hs.subset hf), ih h.2.2⟩
theorem xJ {α : Type} {d : List α} {l : List α} {j : Nat} {v u : α} (hd : d.length = j) (h : l[j]? = some v) : (d ++ l.drop j).set j u = (d ++ [u]) ++ l.drop (j + 1) := by
  subst hd
  rw [kT h]
  simp
theorem Be {α : Type} {d : List α} {l : List α} {j : Nat} {v : α} (hd : d.length = j) (h : l[j]? = some v) : (d ++ l.drop j)[j]? = some v := by
  rw [List.getElem?_append_right (by omega), hd, Nat.sub_self, kT h]; rfl
theorem IL (A C D : List Ent) : (A ++ (C ++ D)).Perm (C ++ (D ++ A)) := by
  rw [← List.append_assoc C D A]
  exact List.perm_append_comm
theorem EM : cX Tryz.prog 3 8 := by unfold cX; kernel_rfl
def iC (n : Int) : List Value := [.int .i64 n]
theorem fR (a : Int) : (iC a).length = 1 := rfl
theorem gD {α : Type} {l : List α} {j : Nat} {v : α} (h : l[j]? = some v) : l.take (j + 1) = l.take j ++ [v] := by
  rw [List.take_add_one, h]; rfl
theorem wj : (⟨#[]⟩ : ByteArray).toList = [] := gB.1 rfl
theorem Bf (s : ByteArray) : (s.toList == (⟨#[]⟩ : ByteArray).toList) = decide (s.size = 0) := by
  rw [wj]
  by_cases h : s.size = 0
  · rw [gB.1 h]; simp [h]
  · have h2 : ¬ s.toList = [] := fun e => h (gB.2 e)
    simp [h, h2]
theorem Bg (A T C : List Ent) : (A ++ (T ++ C)).Perm (A ++ (C ++ T)) := List.Perm.append_left A List.perm_append_comm
theorem oV {P : Program} {l0 l : List Oper} {Q : Exit → Act → World → Prop} {n : Nat} {w0 : World} {S : bq} {M : List Ent} (i : Nat) {a : Option Addr} {cap : Nat} {e : TypeId} {size k : Nat} {xs : List Value} (hi : dI M i = some (.own a cap e size k xs)) (hk : 0 < k) (h : ∀ g, a = some ⟨g, 0, none⟩ → SL P l0 Q l n w0 S M) : SL P l0 Q l n w0 S M :=
  ⟨fun a w h1 h2 => by
    obtain ⟨g, hg⟩ := ka (h2.2.get hi) hk
    exact (h g hg).run a w h1 h2⟩
theorem p3 (a b c : Ent) (R : List Ent) : (a :: b :: c :: R).Perm (b :: c :: a :: R) := (List.Perm.swap b a (c :: R)).trans (List.Perm.cons b (List.Perm.swap c a R))
theorem p4 (n a b c : Ent) (R : List Ent) : (n :: c :: a :: b :: R).Perm (a :: b :: n :: c :: R) := by
  have h1 : (n :: c :: a :: b :: R).Perm ([a, b] ++ ([n, c] ++ R)) := by
    refine (List.Perm.trans (l₂ := ([n, c] ++ [a, b]) ++ R) (List.Perm.refl _) ?_)
    rw [← List.append_assoc]
    exact List.Perm.append_right R List.perm_append_comm
  exact h1
theorem p5 (n c a b : Ent) (R : List Ent) : (n :: c :: a :: b :: R).Perm (a :: b :: c :: n :: R) := (p4 n a b c R).trans (List.Perm.cons a (List.Perm.cons b (List.Perm.swap c n R)))
theorem p6 (n a b c : Ent) (R : List Ent) : (n :: a :: b :: c :: R).Perm (a :: b :: c :: n :: R) := (p3 n a b (c :: R)).trans (List.Perm.cons a (List.Perm.cons b (List.Perm.swap c n R)))
theorem wm {w w' : World} {b : Nat} (h : w'.heap[b]? = w.heap[b]?) (hb : b < w.heap.size) : b < w'.heap.size := by
  rw [Array.getElem?_eq_getElem hb] at h
  exact gN h
theorem Rws.agree {α : Type} {A : Nat → Prop} {w w' : World} {sz : Nat} {f : α → List Value} {x : Option Addr} {l : List α} (h : Rws A w sz f x l) (hk : ∀ b, A b → w'.heap[b]? = w.heap[b]?) : Rws A w' sz f x l := fun h0 => by
  obtain ⟨b, off, h1, h2, h3, h4⟩ := h h0
  exact ⟨b, off, h1, h2, wm (hk b h2) h3, fun j v hj k u hu => (qO (hk b h2)).trans (h4 j v hj k u hu)⟩
theorem kU {B : Nat} {w : World} : ∀ {M : List Ent} {i : Nat} {F : Nat → Prop} {p : World → Prop}, MemL B w M → dI M i = some (.rep F p) → ∀ b, F b → ∀ f ∈ M, ¬ f.mut b
  | [], _, _, _, _, h => by cases h
  | e :: M, 0, F, p, h, hi => fun b hb f hf hm => by
    obtain rfl := (by simpa [dI] using hi)
    rcases List.mem_cons.1 hf with rfl | hf
    · exact hm
    · exact (h.2.1 f hf b).2 hm hb
  | e :: M, i + 1, F, p, h, hi => fun b hb f hf hm => by
    have hi' : dI M i = some (.rep F p) := hi
    rcases List.mem_cons.1 hf with rfl | hf
    · have he : Ent.rep F p ∈ M := by rw [gM] at hi'; exact List.mem_of_getElem? hi'
      exact (h.2.1 _ he b).1 hm hb
    · exact kU h.2.2 hi' b hb f hf hm
theorem Mem.out {w0 w w' : World} {M : List Ent} {A : Nat → Prop} (h : Mem w0 w M) (hA : ∀ b, A b → ∀ f ∈ M, ¬ f.mut b) (hb : Below w.heap.size w w') (p : (Nat → Prop) → World → Prop) (hp : p (fun b => (A b ∨ w.heap.size ≤ b) ∧ b < w'.heap.size) w') (hk : ∀ F w1 w2, (∀ b, F b → w2.heap[b]? = w1.heap[b]?) → p F w1 → p F w2) : Mem w0 w' (.rep (fun b => (A b ∨ w.heap.size ≤ b) ∧ b < w'.heap.size) (p (fun b => (A b ∨ w.heap.size ≤ b) ∧ b < w'.heap.size)) :: M) :=
  h.rep hb _ _ (fun k hk => ⟨hk.2, fun f hf hm => by
    rcases hk.1 with h1 | h1
    · exact hA k h1 f hf hm
    · have := ((MemL.mem h.2 f hf).mut_lt hm).2; omega⟩) hp (fun w1 w2 h1 => hk _ w1 w2 h1)
section
variable {P : Program} {l0 rest : List Oper} {Q : Exit → Act → World → Prop} {n : Nat} {w0 : World} {S : bq} {M : List Ent} {L : Cd} {o : Oper} {d : Nat}
theorem yZ {σ : Type} {f : FuncId} {args : List Value} (Ψ : σ → Prop) (V : σ → Value) (E : σ → List Ent) (hg : gd l0 S o.guard = some L) (hL : az L = true) (ho : dd P S L o f args)
    (hc : ∀ w, Mem w0 w M → Calls P f ⟨args⟩ w fun e w' => ∃ s, Ψ s ∧ e = .returned (V s) ∧ Made w w' (E s))
    (hd : o.dst = some d) (hn : Nat.blt d n = true) (h : ∀ s, Ψ s → SL P l0 Q rest n w0 ((d, [], V s) :: S) (E s ++ M)) : SL P l0 Q (o :: rest) n w0 S M := by
  have hdn : d < n := Nat.le_of_ble_eq_true hn
  refine ci hg (fun _ a w hS hM => cW (ho.ok n a w hS hL) ((hc w hM).mono ?_)) (fun h => by rw [hL] at h; cases h)
  rintro e w' ⟨s, hs, rfl, hm⟩
  refine ⟨V s, rfl, (h s hs).run _ _ ?_ (hM.made hm)⟩
  rw [hd]; exact hS.put hdn (by simp [az])
end
theorem iy {P : Program} {l0 l : List Oper} {Q : Exit → Act → World → Prop} {n : Nat} {w0 : World} {S : bq} {M : List Ent} {p : Prop} (hc : ∀ w, Mem w0 w M → p) (h : p → SL P l0 Q l n w0 S M) : SL P l0 Q l n w0 S M := ⟨fun a w h1 h2 => (h (hc w h2)).run a w h1 h2⟩
theorem dw {α : Type} {A : Nat → Prop} {w : World} {sz : Nat} {f : α → List Value} {x : Option Addr} : Rws A w sz f x [] := fun h => absurd h (Nat.lt_irrefl _)
theorem kV {w0 w : World} {M : List Ent} (h : Mem w0 w M) {b : Nat} (hb : b < w0.heap.size) {f : Ent} (hf : f ∈ M) : ¬ f.mut b := fun hm => by
  have := ((MemL.mem h.2 f hf).mut_lt hm).1
  omega
section
variable {P : Program} {l0 rest : List Oper} {Q : Exit → Act → World → Prop} {n : Nat} {w0 : World} {S : bq} {M : List Ent} {o : Oper} {d : Nat}
theorem kw {σ : Type} {f : FuncId} {args : List Value} (Φ : σ → (Nat → Prop) → Prop) (V : σ → Value) (p : σ → (Nat → Prop) → World → Prop) (hg : o.guard = none) (ho : dd P S [] o f args)
    (hc : ∀ w, Mem w0 w M → Calls P f ⟨args⟩ w fun e w' => ∃ s, ∃ F : Nat → Prop, Φ s F ∧ e = .returned (V s) ∧ Mem w0 w' (.rep F (p s F) :: M))
    (hd : o.dst = some d) (hn : Nat.blt d n = true) (h : ∀ s (F : Nat → Prop), Φ s F → SL P l0 Q rest n w0 ((d, [], V s) :: S) (.rep F (p s F) :: M)) : SL P l0 Q (o :: rest) n w0 S M :=
  bj (σ := σ × (Nat → Prop)) (fun s => Φ s.1 s.2) (fun s => V s.1) (fun s => .rep s.2 (p s.1 s.2) :: M) hg ho (fun w hM => (hc w hM).mono fun _ _ ⟨s, F, h1, h2, h3⟩ => ⟨(s, F), h1, h2, h3⟩) hd hn (fun s hs => h s.1 s.2 hs)
end
theorem qP {w : World} {M : List Ent} {i : Nat} {F : Nat → Prop} {p : World → Prop} (hi : dI M i = some (.rep F p)) : ∀ w1, Mem w w1 M → ∀ b, (F b ∨ b < w.heap.size) → b < w1.heap.size ∧ ∀ f ∈ M, ¬ f.mut b := by
  intro w1 hm b hb
  rcases hb with hb | hb
  · exact ⟨(hm.2.get hi).1 b hb, kU hm.2 hi b hb⟩
  · exact ⟨Nat.lt_of_lt_of_le hb hm.1.size, fun f hf => kV hm hb hf⟩
theorem iz {α : Type} {F : Nat → Prop} {w : World} {sz : Nat} {f : α → List Value} {x : Option Addr} {l : List α} (h : Rws F w sz f x l) (h0 : 0 < l.length) : ∃ b off, x = some ⟨b, off, none⟩ ∧ ∀ w', Rws F w' sz f x l → ∀ (j : Nat) (v : α), l[j]? = some v → w'.rangeAt b (off + j * sz) (f v) := by
  obtain ⟨b, off, hx, _⟩ := h h0
  refine ⟨b, off, hx, fun w' h' j v hj => ?_⟩
  obtain ⟨b', off', hx', _, _, h4⟩ := h' h0
  rw [hx] at hx'
  obtain ⟨rfl, rfl⟩ := (by simpa using hx' : b = b' ∧ off = off')
  exact h4 j v hj
theorem Mem.repTo {w0 w : World} {M : List Ent} {F : Nat → Prop} {p p' : World → Prop} (h : Mem w0 w (.rep F p :: M)) (h1 : ∀ w, p w → p' w) (h2 : ∀ w1 w2, (∀ k, F k → w2.heap[k]? = w1.heap[k]?) → p' w1 → p' w2) : Mem w0 w (.rep F p' :: M) := ⟨h.1, ⟨h.2.1.1, h1 _ h.2.1.2.1, h2⟩, h.2.2.1, h.2.2.2⟩
theorem za {α : Type} {l : List α} {k : Nat} {u : α} (h : k < l.length) : l.set k u = l.take k ++ (u :: l.drop (k + 1)) := by
  rw [List.set_eq_take_append_cons_drop, if_pos h]
theorem gl {w : World} {B : Nat} {T : TypeId} {sz : Nat} {x : Option Addr} {n cap : Nat} {xs : List Value} (h : w.ownsRow B T sz (.slice x n cap) n xs) : n ≤ cap := by
  rcases h.2 with ⟨h1, h2⟩ | ⟨g, c, cur, h1, _, _, h4, _⟩
  · omega
  · obtain ⟨_, rfl⟩ := (by simpa using h1 : _ ∧ cap = c)
    exact h4
theorem uf {α : Type} {f : α → List Value} {sz : Nat} (hf : ∀ a, (f a).length = sz) (hp : 0 < sz) {l : List α} {j : Nat} {u : Value} (hu : (l.flatMap f)[j]? = some u) : ∃ v, l[j / sz]? = some v ∧ (f v)[j % sz]? = some u := by
  have hj := (List.getElem?_eq_some_iff.1 hu).1
  rw [bZ hf l] at hj
  have hq : j / sz < l.length := Nat.div_lt_of_lt_mul (by rw [Nat.mul_comm]; exact hj)
  have hm : j % sz < (f l[j / sz]).length := by rw [hf]; exact Nat.mod_lt _ hp
  refine ⟨l[j / sz], List.getElem?_eq_getElem hq, ?_⟩
  have h6 := aJ hf (List.getElem?_eq_getElem hq) (List.getElem?_eq_getElem hm)
  rw [show j / sz * sz + j % sz = j from Nat.div_add_mod' j sz, hu] at h6
  rw [List.getElem?_eq_getElem hm]
  exact h6.symm
theorem xK {w : World} {B : Nat} {T : TypeId} {sz : Nat} {x : Option Addr} {n cap : Nat} {xs : List Value} (h : w.ownsRow B T sz (.slice x n cap) n xs) : x = none → cap = 0 := fun hx => by
  subst hx
  rcases h.2 with ⟨h1, _⟩ | ⟨g, c, cur, h1, _⟩
  · simpa using (by simpa using h1 : n = 0 ∧ cap = 0).2
  · cases h1
theorem Bh {α : Type} {f : α → List Value} {sz : Nat} {T : TypeId} {w : World} {B cap : Nat} {x : Option Addr} {l : List α} (hf : ∀ a, (f a).length = sz) (h : w.ownsRow B T sz (.slice x l.length cap) l.length (l.flatMap f)) : Rws (fun b => ∃ a, x = some a ∧ b = a.block) w sz f x l := fun h0 => by
  obtain ⟨b, off, h1, h2, h3, h4⟩ := Rws.own hf h h0
  exact ⟨b, off, h1, ⟨_, h1, rfl⟩, h3, h4⟩
theorem EO {w : World} {α : Type} {f : α → List Value} {sz : Nat} {x : Option Addr} {l : List α} (hf : ∀ a, (f a).length = sz) (hp : 0 < sz) (h : 0 < l.length → ∃ b off, x = some ⟨b, off, none⟩ ∧ ∀ j v, l[j]? = some v → w.rangeAt b (off + j * sz) (f v)) : Rws (fun _ => True) w sz f x l := fun h0 => by
  obtain ⟨b, off, h1, h2⟩ := h h0
  refine ⟨b, off, h1, trivial, ?_, h2⟩
  have h3 := h2 0 _ (List.getElem?_eq_getElem h0)
  have h4 : 0 < (f l[0]).length := by rw [hf]; exact hp
  exact block_lt_of_cell (h3 0 _ (List.getElem?_eq_getElem h4))
end Go.Proofs.YtklcfjlmlbnkaaaGreatDoor.Y
