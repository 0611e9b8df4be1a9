/- Texts of this claim merged into one: F2, F3. -/
import Derived.Test.YtmdkfbmpenohiaaDoorF1
/- Facts about clients that are kept; the closed example of the chapter, computed. -/
namespace Go.Proofs.YtmdkfbmpenohiaaDoor.Y
open Go.RowKit
theorem lt_of_same {w w' : World} {b : Nat} (h : w'.heap[b]? = w.heap[b]?) (hb : b < w.heap.size) : b < w'.heap.size := by
  rw [Array.getElem?_eq_getElem hb] at h
  exact get_lt h
theorem Rws.agree {α : Type} {A : Nat → Prop} {w w' : World} {sz : Nat} {f : α → List Value} {x : Option Addr} {l : List α} (h : Rws A w sz f x l) (hk : ∀ b, A b → w'.heap[b]? = w.heap[b]?) : Rws A w' sz f x l := fun h0 => by
  obtain ⟨b, off, h1, h2, h3, h4⟩ := h h0
  exact ⟨b, off, h1, h2, lt_of_same (hk b h2) h3, fun j v hj k u hu => (cell_heap (hk b h2)).trans (h4 j v hj k u hu)⟩
theorem QOk.agree {A : Nat → Prop} {w w' : World} {v : QV} (h : QOk A w v) (hk : ∀ b, A b → w'.heap[b]? = w.heap[b]?) : QOk A w' v := ⟨h.1.agree hk, h.2.1.agree hk, h.2.2.agree hk⟩
theorem COk.agree {A : Nat → Prop} {w w' : World} {v : CV} (h : COk A w v) (hk : ∀ b, A b → w'.heap[b]? = w.heap[b]?) : COk A w' v := ⟨h.bk.agree hk, h.qs.agree hk, h.eq, fun q hq => (h.ok q hq).agree hk⟩
theorem QOk.lt {A : Nat → Prop} {w : World} {v : QV} (h : QOk A w v) : QOk (fun b => A b ∧ b < w.heap.size) w v := ⟨h.1.lt, h.2.1.lt, h.2.2.lt⟩
theorem COk.lt {A : Nat → Prop} {w : World} {v : CV} (h : COk A w v) : COk (fun b => A b ∧ b < w.heap.size) w v := ⟨h.bk.lt, h.qs.lt, h.eq, fun q hq => (h.ok q hq).lt⟩
/-- what is kept does not stand where something may change. -/
theorem rep_apart {B : Nat} {w : World} : ∀ {M : List Ent} {i : Nat} {F : Nat → Prop} {p : World → Prop}, MemL B w M → nth M i = some (.rep F p) → ∀ b, F b → ∀ f ∈ M, ¬ f.mut b
  | [], _, _, _, _, h => by cases h
  | e :: M, 0, F, p, h, hi => fun b hb f hf hm => by
    obtain rfl := (by simpa [nth] using hi)
    rcases List.mem_cons.1 hf with rfl | hf
    · exact hm
    · exact (h.2.1 f hf b).2 hm hb
  | e :: M, i + 1, F, p, h, hi => fun b hb f hf hm => by
    have hi' : nth M i = some (.rep F p) := hi
    rcases List.mem_cons.1 hf with rfl | hf
    · have he : Ent.rep F p ∈ M := by rw [nth_eq] at hi'; exact List.mem_of_getElem? hi'
      exact (h.2.1 _ he b).1 hm hb
    · exact rep_apart h.2.2 hi' b hb f hf hm
/-- a fact that a call hands out, and that rests on what it was given or on what it made. -/
theorem Mem.out {w0 w w' : World} {M : List Ent} {A : Nat → Prop} (h : Mem w0 w M) (hA : ∀ b, A b → ∀ f ∈ M, ¬ f.mut b) (hb : Below w.heap.size w w') (p : (Nat → Prop) → World → Prop) (hp : p (fun b => (A b ∨ w.heap.size ≤ b) ∧ b < w'.heap.size) w') (hk : ∀ F w1 w2, (∀ b, F b → w2.heap[b]? = w1.heap[b]?) → p F w1 → p F w2) : Mem w0 w' (.rep (fun b => (A b ∨ w.heap.size ≤ b) ∧ b < w'.heap.size) (p (fun b => (A b ∨ w.heap.size ≤ b) ∧ b < w'.heap.size)) :: M) :=
  h.rep hb _ _ (fun k hk => ⟨hk.2, fun f hf hm => by
    rcases hk.1 with h1 | h1
    · exact hA k h1 f hf hm
    · have := ((MemL.mem h.2 f hf).mut_lt hm).2; omega⟩) hp (fun w1 w2 h1 => hk _ w1 w2 h1)
section
variable {P : Program} {l0 rest : List Oper} {Q : Exit → Act → World → Prop} {n : Nat} {w0 : World} {S : Sts} {M : List Ent} {L : Cd} {o : Oper} {d : Nat}
theorem sx_callMG {σ : Type} {f : FuncId} {args : List Value} (Ψ : σ → Prop) (V : σ → Value) (E : σ → List Ent) (hg : gd l0 S o.guard = some L) (hL : holdsC L = true) (ho : CallOp P S L o f args)
    (hc : ∀ w, Mem w0 w M → Calls P f ⟨args⟩ w fun e w' => ∃ s, Ψ s ∧ e = .returned (V s) ∧ Made w w' (E s))
    (hd : o.dst = some d) (hn : Nat.blt d n = true) (h : ∀ s, Ψ s → SL P l0 Q rest n w0 ((d, [], V s) :: S) (E s ++ M)) : SL P l0 Q (o :: rest) n w0 S M := by
  have hdn : d < n := Nat.le_of_ble_eq_true hn
  refine sx_step hg (fun _ a w hS hM => vals_enter (ho.ok n a w hS hL) ((hc w hM).mono ?_)) (fun h => by rw [hL] at h; cases h)
  rintro e w' ⟨s, hs, rfl, hm⟩
  refine ⟨V s, rfl, (h s hs).run _ _ ?_ (hM.made hm)⟩
  rw [hd]; exact hS.put hdn (by simp [holdsC])
end
/-! the example -/
def exB : BV := ⟨⟨#[97]⟩, 0, 0, 1, 0, 0⟩
def exQ : QR := ⟨0, ⟨#[97, 46, 83]⟩, ⟨#[71, 101, 116]⟩, 0, [], 1, [⟨#[120]⟩], 0, ⟨#[]⟩, 0, 0, [], false, 0, ⟨#[]⟩⟩
def exC1 : CL := ⟨[exB], 3, 100, 1000, 4096, 5000, 5000, 0, [], 1⟩
theorem ex1 : newL [exB] 3 100 1000 4096 5000 5000 0 = (exC1, 0) := by kernel_rfl
def exC2 : CL := { exC1 with qs := [{ exQ with id := 1 }], nx := 2 }
theorem ex2 : callL exC1 0 exQ = (exC2, 1, 0) := by kernel_rfl
def exQ3 : QR := { exQ with id := 1, bk := ⟨#[97]⟩, att := 1 }
def exC3 : CL := { exC2 with bs := [{ exB with bs := 1 }], qs := [exQ3] }
theorem ex3 : startL exC2 0 = (exC3, [exQ3]) := by kernel_rfl
def exQ4 : QR := { exQ with id := 1, att := 1, nx := 150 }
def exC4 : CL := { exC2 with bs := [{ exB with fl := 1 }], qs := [exQ4], tk := 4000 }
theorem ex4 : endC exC3 50 1 12 ⟨#[]⟩ false = (exC4, 0) := by kernel_rfl
theorem ex5 : findL exC4 1 = (exQ4, true) := by kernel_rfl
theorem ex6 : startL exC4 149 = (exC4, []) := by kernel_rfl
def exQ7 : QR := { exQ4 with bk := ⟨#[97]⟩, att := 2 }
theorem ex7 : (startL exC4 150).2 = [exQ7] := by kernel_rfl
end Go.Proofs.YtmdkfbmpenohiaaDoor.Y

/- awake. -/
namespace Go.Proofs.YtmdkfbmpenohiaaDoor.Y
open Go.RowKit
theorem rws_cl {α : Type} {A : Nat → Prop} {f : α → List Value} {sz : Nat} (i : Nat) {w0 w : World} {M : List Ent} {g : Nat} {T : TypeId} {l : List α} (hf : ∀ a, (f a).length = sz) (hM : Mem w0 w M) (hi : nth M i = some (.cl g T (l.flatMap f))) (hA : A g) : Rws A w sz f (some ⟨g, 0, none⟩) l := by
  have hok : Ent.ok w0.heap.size w (.cl g T (l.flatMap f)) := MemL.get hM.2 hi
  have hb : w.heap[g]? = some (.cells ⟨l.flatMap f⟩ T (0, 0)) := hok.2
  have hlt : g < w.heap.size := get_lt hb
  have hcell : ∀ k u, (l.flatMap f)[k]? = some u → w.cell? ⟨g, k, none⟩ = some u := fun k u hu => Bk.at_ (show Bk w g T ⟨l.flatMap f⟩ from hb) k (by rw [List.getElem?_toArray]; exact hu)
  intro _
  refine ⟨g, 0, rfl, hA, hlt, ?_⟩
  intro j v hj k u hu
  have h9 := hcell _ u (flat_get hf hj hu)
  rw [Nat.zero_add]
  exact h9
theorem sx_callK {P : Program} {Q : Exit → Act → World → Prop} {l0 rest : List Oper} {n d : Nat} {w0 : World} {S : Sts} {M : List Ent} {o : Oper} {σ : Type} {f : FuncId} {args : List Value} (Φ : σ → Prop) (V : σ → Value) (hg : o.guard = none) (ho : CallOp P S [] o f args)
    (hc : ∀ w, Mem w0 w M → Calls P f ⟨args⟩ w fun e w' => ∃ p, Φ p ∧ e = .returned (V p) ∧ Below w.heap.size w w')
    (hd : o.dst = some d) (hn : Nat.blt d n = true) (h : ∀ p, Φ p → SL P l0 Q rest n w0 ((d, [], V p) :: S) M) : SL P l0 Q (o :: rest) n w0 S M :=
  sx_callE Φ V (fun _ => M) hg ho (fun w hM => (hc w hM).mono fun _ _ ⟨p, h1, h2, h3⟩ => ⟨p, h1, h2, hM.keep h3⟩) hd hn h
theorem sx_callO {P : Program} {Q : Exit → Act → World → Prop} {l0 rest : List Oper} {n d : Nat} {w0 : World} {S : Sts} {M : List Ent} {o : Oper} {σ : Type} {f : FuncId} {args : List Value} (Φ : σ → Prop) (V : σ → Value) (p : σ → (Nat → Prop) → World → Prop) (hg : o.guard = none) (ho : CallOp P S [] o f args)
    (hc : ∀ w, Mem w0 w M → Calls P f ⟨args⟩ w fun e w' => ∃ s, ∃ F : Nat → Prop, Φ s ∧ e = .returned (V s) ∧ Mem w0 w' (.rep F (p s F) :: M))
    (hd : o.dst = some d) (hn : Nat.blt d n = true) (h : ∀ s (F : Nat → Prop), Φ s → SL P l0 Q rest n w0 ((d, [], V s) :: S) (.rep F (p s F) :: M)) : SL P l0 Q (o :: rest) n w0 S M :=
  sx_callE (σ := σ × (Nat → Prop)) (fun s => Φ s.1) (fun s => V s.1) (fun s => .rep s.2 (p s.1 s.2) :: M) hg ho (fun w hM => (hc w hM).mono fun _ _ ⟨s, F, h1, h2, h3⟩ => ⟨(s, F), h1, h2, h3⟩) hd hn (fun s hs => h s.1 s.2 hs)
theorem sl_fact {P : Program} {l0 l : List Oper} {Q : Exit → Act → World → Prop} {n : Nat} {w0 : World} {S : Sts} {M : List Ent} {p : Prop} (hc : ∀ w, Mem w0 w M → p) (h : p → SL P l0 Q l n w0 S M) : SL P l0 Q l n w0 S M := ⟨fun a w h1 h2 => (h (hc w h2)).run a w h1 h2⟩
theorem szq_of {A : Nat → Prop} {w : World} {v : CV} (hC : COk A w v) (h : ∀ q ∈ v.c.qs, SzQ q) : ∀ u ∈ v.qv, SzQ u.q := fun u hu => h _ (by rw [hC.eq]; exact List.mem_map_of_mem hu)
theorem one_of {l : List QV} {q : QR} (h : l.map (·.q) = [q]) : ∃ u : QV, l = [u] ∧ u.q = q := by
  cases l with
  | nil => cases h
  | cons a t =>
    cases t with
    | nil => exact ⟨a, rfl, (List.cons.inj h).1⟩
    | cons b t => exact absurd (congrArg List.length h) (by simp)
theorem none_of {l : List QV} (h : l.map (·.q) = []) : l = [] := by cases l with | nil => rfl | cons a l => cases h
theorem sz1 : ∀ q ∈ [{ exQ with id := 1 }], SzQ q := fun q hq => by obtain rfl := List.mem_singleton.1 hq; exact ⟨by decide, by decide, by decide⟩
theorem sz3 : ∀ q ∈ [exQ3], SzQ q := fun q hq => by obtain rfl := List.mem_singleton.1 hq; exact ⟨by decide, by decide, by decide⟩
theorem sz4 : ∀ q ∈ [exQ4], SzQ q := fun q hq => by obtain rfl := List.mem_singleton.1 hq; exact ⟨by decide, by decide, by decide⟩
theorem szX : SzQ exQ := ⟨by decide, by decide, by decide⟩
theorem hdX : HdSz exQ.hd := ⟨by decide, by decide, fun _ h => by cases h⟩
/-- a client and the calls that were begun. -/
def SOk (F : Nat → Prop) (w : World) (s : CV × List QV × (Option Addr × Nat)) : Prop := COk F w s.1 ∧ Rws F w 15 QC s.2.2.1 s.2.1 ∧ ∀ q ∈ s.2.1, QOk F w q
theorem SOk.agree {F : Nat → Prop} {w1 w2 : World} {s : CV × List QV × (Option Addr × Nat)} (h : SOk F w1 s) (hk : ∀ b, F b → w2.heap[b]? = w1.heap[b]?) : SOk F w2 s := ⟨h.1.agree hk, h.2.1.agree hk, fun q hq => (h.2.2 q hq).agree hk⟩
set_option maxRecDepth 100000 in
set_option maxHeartbeats 16000000 in
theorem awake53  (w : World) (hg : MLen w) : Calls Tryd.prog 13 #[] w fun e w' => e = .returned (.bool true) ∧ Below w.heap.size w w' := by
  refine sx_enter Tryd.func13 rfl Tryd.ntmps13 rfl rfl ?_
  repeat' (first | refine sc_seq ?_ | refine sc_region ?_ | refine sq_then ?_ | refine sx_nil ?_ | (refine sx_bslice tok rfl rfl rfl ⟨rfl, trivial⟩ rfl rfl rfl rfl rfl rfl rfl rfl ?_; intro g) | ((refine' sx_v rfl ?_ rfl rfl ?_); rotate_left; first | exact vo_un tok rfl rfl rfl rfl | exact vo_build tok rfl rfl ⟨rfl, rfl, trivial⟩ rfl rfl rfl | exact vo_build tok rfl rfl ⟨rfl, rfl, rfl, rfl, trivial⟩ rfl rfl rfl))
  refine sx_callE (σ := CV × (Nat → Prop)) (fun s => s.1.c = exC1 ∧ s.1.qv = []) (fun s => .tuple ⟨[.agg ⟨CC s.1⟩, .int .i64 0]⟩) (fun s => [.rep s.2 (fun w => COk s.2 w s.1)]) rfl (callOp rfl rfl rfl rfl ⟨rfl, rfl, rfl, trivial⟩ rfl (by kernel_rfl)) (fun w1 hm => (new_any (A := fun _ => True) _ [exB] 1 3 100 1000 4096 5000 5000 0 w1 (rws_cl 0 bC_len hm rfl trivial) (by decide)).mono fun e w2 ⟨v', h1, h2, h3, h4⟩ => ⟨(v', _), ⟨by rw [h1, ex1], h2⟩, by rw [h3, ex1], Mem.out (hm.mask [false] rfl) (A := fun _ => True) (fun _ _ f hf => by cases hf) h4.2 (fun F w => COk F w v') h4.1.lt (fun F w3 w4 hk h => h.agree hk)⟩) rfl rfl ?_
  rintro ⟨⟨c1, b1, bc1, x1, xc1, qv1⟩, F1⟩ ⟨h1, h2⟩
  dsimp only at h1 h2
  subst h1 h2
  repeat' (first | refine sc_seq ?_ | refine sc_region ?_ | refine sq_then ?_ | refine sx_nil ?_ | (refine sx_alloc tok rfl rfl rfl rfl rfl rfl ?_; intro g1) | (refine sx_bslice tok rfl rfl rfl ⟨rfl, trivial⟩ rfl rfl rfl rfl rfl rfl rfl rfl ?_; intro g) | ((refine' sx_v rfl ?_ rfl rfl ?_); rotate_left; first | exact vo_un tok rfl rfl rfl rfl | exact vo_load tok 0 rfl rfl rfl rfl rfl | exact vo_build tok rfl rfl ⟨rfl, rfl, trivial⟩ rfl rfl rfl | exact vo_build tok rfl rfl ⟨rfl, rfl, rfl, trivial⟩ rfl rfl rfl) | refine sx_store tok 0 rfl rfl rfl rfl rfl rfl rfl rfl rfl rfl rfl rfl ?_)
  refine sx_callE (σ := CV × (Nat → Prop)) (fun s => s.1.c = exC2) (fun s => .tuple ⟨[.agg ⟨CC s.1⟩, .int .i64 1, .int .i64 0]⟩) (fun s => [.rep s.2 (fun w => COk s.2 w s.1), .cl g1 29 (CC ⟨exC1, b1, bc1, x1, xc1, []⟩)]) rfl (callOp rfl rfl rfl rfl ⟨rfl, rfl, rfl, trivial⟩ rfl (by kernel_rfl)) (fun w1 hm => ?_) rfl rfl ?_
  · obtain ⟨hF, hC, _⟩ := hm.2.get (i := 2) rfl
    have hq : QOk (fun b => F1 b ∨ b = g) w1 ⟨exQ, none, 0, some ⟨g, 0, none⟩, 1, none, 0⟩ := ⟨fun h => absurd h (Nat.lt_irrefl _), rws_cl 0 sC_len hm rfl (.inr rfl), fun h => absurd h (Nat.lt_irrefl _)⟩
    refine (call_any (A := fun b => F1 b ∨ b = g) ⟨exC1, b1, bc1, x1, xc1, []⟩ 0 ⟨exQ, none, 0, some ⟨g, 0, none⟩, 1, none, 0⟩ w1 (hC.mono fun _ => .inl) (show 0 ≤ 703687441775 by decide) (show 1 ≤ 2513169434916 by decide) (fun _ h => by cases h) hq szX (hg.below hm.below) hdX (show (0 : Int) ≤ 1 by decide)).mono fun e w2 ⟨v', h1, h2, h3⟩ => ⟨(v', _), by rw [h1, ex2], by rw [h2, ex2], Mem.out (M := [.cl g1 _ _]) (hm.mask [false, true, false] rfl) (A := fun b => F1 b ∨ b = g) (fun b hb f hf hfm => ?_) h3.2 (fun F w => COk F w v') h3.1.lt (fun F w3 w4 hk h => h.agree hk)⟩
    obtain rfl := List.mem_singleton.1 hf
    rcases hb with hb | rfl
    · exact rep_apart hm.2 (i := 2) rfl b hb _ (List.mem_cons_of_mem _ (List.mem_cons_self ..)) hfm
    · exact (hm.2.2.1 _ (List.mem_cons_self ..) b).1 rfl (Ent.mut_foot hfm)
  rintro ⟨⟨c2, b2, bc2, x2, xc2, qv2⟩, F2⟩ h1
  dsimp only at h1
  subst h1
  repeat' (first | refine sc_seq ?_ | refine sc_region ?_ | refine sq_then ?_ | refine sx_nil ?_ | ((refine' sx_v rfl ?_ rfl rfl ?_); rotate_left; first | exact vo_un tok rfl rfl rfl rfl | exact vo_load tok 1 rfl rfl rfl rfl rfl) | refine sx_store tok 1 rfl rfl rfl rfl rfl rfl rfl rfl rfl rfl rfl rfl ?_)
  refine sx_callE (σ := (CV × List QV × (Option Addr × Nat)) × (Nat → Prop)) (fun s => s.1.1.c = exC3 ∧ s.1.2.1.map (·.q) = [exQ3]) (fun s => .tuple ⟨[.agg ⟨CC s.1.1⟩, .slice s.1.2.2.1 s.1.2.1.length s.1.2.2.2]⟩) (fun s => [.rep s.2 (fun w => SOk s.2 w s.1), .cl g1 29 (CC ⟨exC2, b2, bc2, x2, xc2, qv2⟩)]) rfl (callOp rfl rfl rfl rfl ⟨rfl, rfl, trivial⟩ rfl (by kernel_rfl)) (fun w1 hm => ?_) rfl rfl ?_
  · obtain ⟨hF, hC, _⟩ := hm.2.get (i := 0) rfl
    refine (start_any (A := F2) ⟨exC2, b2, bc2, x2, xc2, qv2⟩ 0 w1 hC (by have h9 := hC.lenq; dsimp only at h9; rw [← h9]; decide) (show 1 ≤ 2513169434916 by decide) (szq_of hC sz1) (fun b hb => by obtain rfl := List.mem_singleton.1 hb; decide) (fun q hq => by obtain rfl := List.mem_singleton.1 hq; decide)).mono fun e w2 ⟨s, ⟨h1, h2⟩, h3, h4, h5, h6⟩ => ⟨(s, _), ⟨by rw [h1, ex3], by rw [h2, ex3]⟩, h3, Mem.out (M := [.cl g1 _ _]) (hm.mask [false, true] rfl) (A := F2) (fun b hb f hf hfm => ?_) h4.2 (fun F w => SOk F w s) ⟨h4.1.lt, (h5.mono fun _ => .inr).lt, fun q hq => ((h6 q hq).mono fun _ => .inr).lt⟩ (fun F w3 w4 hk h => h.agree hk)⟩
    obtain rfl := List.mem_singleton.1 hf
    exact rep_apart hm.2 (i := 0) rfl b hb _ (List.mem_cons_of_mem _ (List.mem_cons_self ..)) hfm
  rintro ⟨⟨⟨c3, b3, bc3, x3, xc3, qv3⟩, l3, la3, lc3⟩, F3⟩ ⟨h1, h2⟩
  dsimp only at h1 h2
  subst h1
  obtain ⟨u3, rfl, hu3⟩ := one_of h2
  clear h2
  repeat' (first | refine sc_seq ?_ | refine sc_region ?_ | refine sq_then ?_ | refine sx_nil ?_ | ((refine' sx_v rfl ?_ rfl rfl ?_); rotate_left; first | exact vo_un tok rfl rfl rfl rfl | exact vo_load tok 1 rfl rfl rfl rfl rfl | exact vo_build tok rfl rfl ⟨rfl, trivial⟩ rfl rfl rfl) | refine sx_store tok 1 rfl rfl rfl rfl rfl rfl rfl rfl rfl rfl rfl rfl ?_)
  refine sx_callE (σ := CV × (Nat → Prop)) (fun s => s.1.c = exC4) (fun s => .tuple ⟨[.agg ⟨CC s.1⟩, .int .i64 0]⟩) (fun s => [.rep s.2 (fun w => COk s.2 w s.1), .rep F3 (fun w => SOk F3 w (⟨exC3, b3, bc3, x3, xc3, qv3⟩, [u3], (la3, lc3))), .cl g1 29 (CC ⟨exC3, b3, bc3, x3, xc3, qv3⟩)]) rfl (callOp rfl rfl rfl rfl ⟨rfl, rfl, rfl, rfl, rfl, trivial⟩ rfl (by kernel_rfl)) (fun w1 hm => ?_) rfl rfl ?_
  · obtain ⟨hF, hS, _⟩ := hm.2.get (i := 0) rfl
    have hC := hS.1
    refine (endC_any2 (A := F3) ⟨exC3, b3, bc3, x3, xc3, qv3⟩ 50 1 12 ⟨#[]⟩ false w1 hC (by have h9 := hC.lenq; dsimp only at h9; rw [← h9]; decide) (show 1 ≤ 2513169434916 by decide) (szq_of hC sz3) (fun b hb => by obtain rfl := List.mem_singleton.1 hb; decide) (show 0 ≤ 4611686018427387900 by decide) (fun q hq => by obtain rfl := List.mem_singleton.1 hq; decide)).mono fun e w2 ⟨v', h1, h2, h3⟩ => ⟨(v', _), by rw [h1, ex4], by rw [h2, ex4], Mem.out (M := [_, _]) hm (A := F3) (fun b hb f hf hfm => rep_apart hm.2 (i := 0) rfl b hb f hf hfm) h3.2 (fun F w => COk F w v') h3.1.lt (fun F w3 w4 hk h => h.agree hk)⟩
  rintro ⟨⟨c4, b4, bc4, x4, xc4, qv4⟩, F4⟩ h1
  dsimp only at h1
  subst h1
  repeat' (first | refine sc_seq ?_ | refine sc_region ?_ | refine sq_then ?_ | refine sx_nil ?_ | ((refine' sx_v rfl ?_ rfl rfl ?_); rotate_left; first | exact vo_un tok rfl rfl rfl rfl | exact vo_load tok 2 rfl rfl rfl rfl rfl) | refine sx_store tok 2 rfl rfl rfl rfl rfl rfl rfl rfl rfl rfl rfl rfl ?_)
  refine sx_callM (σ := QV) (fun s => s.q = exQ4) (fun s => .tuple ⟨[.agg ⟨QC s⟩, .bool true]⟩) EQ rfl (callOp rfl rfl rfl rfl ⟨rfl, rfl, trivial⟩ rfl (by kernel_rfl)) (fun w1 hm => ?_) rfl rfl ?_
  · obtain ⟨hF, hC, _⟩ := hm.2.get (i := 0) rfl
    exact (findC_any (A := F4) ⟨exC4, b4, bc4, x4, xc4, qv4⟩ 1 w1 hC (by have h9 := hC.lenq; dsimp only at h9; rw [← h9]; decide) (szq_of hC sz4)).mono fun e w2 ⟨v', h1, h2, h3⟩ => ⟨v', by rw [h1, ex5], by rw [h2, ex5], h3⟩
  rintro ⟨q5, m5, mc5, s5, sc5, a5, ac5⟩ h1
  dsimp only at h1
  subst h1
  dsimp only [EQ, List.cons_append, List.nil_append]
  repeat' (first | refine sc_seq ?_ | refine sc_region ?_ | refine sq_then ?_ | refine sx_nil ?_ | (refine sx_alloc tok rfl rfl rfl rfl rfl rfl ?_; intro g7) | ((refine' sx_v rfl ?_ rfl rfl ?_); rotate_left; first | exact vo_un tok rfl rfl rfl rfl | exact vo_load tok 6 rfl rfl rfl rfl rfl) | refine sx_store tok 0 rfl rfl rfl rfl rfl rfl rfl rfl rfl rfl rfl rfl ?_)
  refine sx_callK (σ := CV × List QV × (Option Addr × Nat)) (fun s => s.2.1 = []) (fun s => .tuple ⟨[.agg ⟨CC s.1⟩, .slice s.2.2.1 s.2.1.length s.2.2.2]⟩) rfl (callOp rfl rfl rfl rfl ⟨rfl, rfl, trivial⟩ rfl (by kernel_rfl)) (fun w1 hm => ?_) rfl rfl ?_
  · obtain ⟨hF, hC, _⟩ := hm.2.get (i := 4) rfl
    exact (start_any (A := F4) ⟨exC4, b4, bc4, x4, xc4, qv4⟩ 149 w1 hC (by have h9 := hC.lenq; dsimp only at h9; rw [← h9]; decide) (show 1 ≤ 2513169434916 by decide) (szq_of hC sz4) (fun b hb => by obtain rfl := List.mem_singleton.1 hb; decide) (fun q hq => by obtain rfl := List.mem_singleton.1 hq; decide)).mono fun e w2 ⟨s, ⟨h1, h2⟩, h3, h4, h5, h6⟩ => ⟨s, none_of (by rw [h2, ex6]), h3, h4.2⟩
  rintro ⟨v6, l6, la6, lc6⟩ h1
  dsimp only at h1
  subst h1
  repeat' (first | refine sc_seq ?_ | refine sc_region ?_ | refine sq_then ?_ | refine sx_nil ?_ | (refine sx_alloc tok rfl rfl rfl rfl rfl rfl ?_; intro g9) | ((refine' sx_v rfl ?_ rfl rfl ?_); rotate_left; first | exact vo_un tok rfl rfl rfl rfl | exact vo_load tok 7 rfl rfl rfl rfl rfl) | refine sx_store tok 0 rfl rfl rfl rfl rfl rfl rfl rfl rfl rfl rfl rfl ?_)
  refine sx_callO (σ := CV × List QV × (Option Addr × Nat)) (fun s => s.2.1.map (·.q) = [exQ7]) (fun s => .tuple ⟨[.agg ⟨CC s.1⟩, .slice s.2.2.1 s.2.1.length s.2.2.2]⟩) (fun s F w => SOk F w s) rfl (callOp rfl rfl rfl rfl ⟨rfl, rfl, trivial⟩ rfl (by kernel_rfl)) (fun w1 hm => ?_) rfl rfl ?_
  · obtain ⟨hF, hC, _⟩ := hm.2.get (i := 5) rfl
    exact (start_any (A := F4) ⟨exC4, b4, bc4, x4, xc4, qv4⟩ 150 w1 hC (by have h9 := hC.lenq; dsimp only at h9; rw [← h9]; decide) (show 1 ≤ 2513169434916 by decide) (szq_of hC sz4) (fun b hb => by obtain rfl := List.mem_singleton.1 hb; decide) (fun q hq => by obtain rfl := List.mem_singleton.1 hq; decide)).mono fun e w2 ⟨s, ⟨h1, h2⟩, h3, h4, h5, h6⟩ => ⟨s, _, by rw [h2, ex7], h3, Mem.out hm (A := F4) (fun b hb f hf hfm => rep_apart hm.2 (i := 5) rfl b hb f hf hfm) h4.2 (fun F w => SOk F w s) ⟨h4.1.lt, (h5.mono fun _ => .inr).lt, fun q hq => ((h6 q hq).mono fun _ => .inr).lt⟩ (fun F w3 w4 hk h => h.agree hk)⟩
  rintro ⟨v7, l7, la7, lc7⟩ F7 h1
  dsimp only at h1
  obtain ⟨u7, rfl, hu7⟩ := one_of h1
  clear h1
  refine sl_fact (p := (∃ b off, la3 = some ⟨b, off, none⟩ ∧ ∀ w, SOk F3 w (⟨exC3, b3, bc3, x3, xc3, qv3⟩, [u3], (la3, lc3)) → w.rangeAt b (off + 0 * 15) (QC u3)) ∧ ∃ b off, la7 = some ⟨b, off, none⟩ ∧ ∀ w, SOk F7 w (v7, [u7], (la7, lc7)) → w.rangeAt b (off + 0 * 15) (QC u7)) (fun w hM => ⟨?_, ?_⟩) ?_
  · obtain ⟨_, hS, _⟩ := hM.2.get (i := 7) rfl
    obtain ⟨b, off, hx, _⟩ := hS.2.1 (show 0 < 1 by decide)
    dsimp only at hx
    refine ⟨b, off, hx, fun w2 h2 => ?_⟩
    obtain ⟨b', off', hx', _, _, h4⟩ := h2.2.1 (show 0 < 1 by decide)
    dsimp only at hx'
    rw [hx] at hx'
    obtain ⟨rfl, rfl⟩ := (by simpa using hx')
    exact h4 0 u3 rfl
  · obtain ⟨_, hS, _⟩ := hM.2.get (i := 0) rfl
    obtain ⟨b, off, hx, _⟩ := hS.2.1 (show 0 < 1 by decide)
    dsimp only at hx
    refine ⟨b, off, hx, fun w2 h2 => ?_⟩
    obtain ⟨b', off', hx', _, _, h4⟩ := h2.2.1 (show 0 < 1 by decide)
    dsimp only at hx'
    rw [hx] at hx'
    obtain ⟨rfl, rfl⟩ := (by simpa using hx')
    exact h4 0 u7 rfl
  rintro ⟨⟨y3, o3, rfl, hr3⟩, ⟨y7, o7, rfl, hr7⟩⟩
  repeat' (first | refine sc_seq ?_ | refine sc_region ?_ | refine sq_then ?_ | refine sx_nil ?_ | (refine sx_alloc tok rfl rfl rfl rfl rfl rfl ?_; intro g11) | ((refine' sx_v rfl ?_ rfl rfl ?_); rotate_left; first | exact vo_ixa tok (m := 15) 0 rfl rfl rfl rfl rfl rfl rfl rfl (fun _ => rfl) (fun _ => (show 0 < 1 by decide)) | exact vo_rcell tok 8 (v := .string ⟨#[97]⟩) rfl rfl rfl rfl rfl rfl (fun _ w hp => by have h9 := hr3 w hp 8 _ rfl; rw [hu3] at h9; exact h9) | exact vo_rcell tok 1 (v := .int .i64 2) rfl rfl rfl rfl rfl rfl (fun _ w hp => by have h9 := hr7 w hp 7 _ rfl; rw [hu7] at h9; exact h9) | exact vo_un tok rfl rfl rfl rfl | exact vo_bin tok rfl rfl rfl rfl rfl rfl | exact vo_and rfl rfl rfl rfl rfl | exact vo_load tok 3 rfl rfl rfl rfl rfl | exact vo_load tok 9 rfl rfl rfl rfl rfl | exact vo_len tok rfl rfl rfl rfl rfl rfl rfl) | refine sx_store tok 0 rfl rfl rfl rfl rfl rfl rfl rfl rfl rfl rfl rfl ?_)
  refine sx_callMG (σ := Option Addr × Nat) (fun _ => True) (fun p => .slice p.1 (actL exC4.qs).length p.2) (fun p => [.own p.1 p.2 3 1 (actL exC4.qs).length ((actL exC4.qs).flatMap iC)]) rfl (by kernel_rfl) (callOp rfl rfl rfl rfl ⟨rfl, trivial⟩ rfl (by kernel_rfl)) (fun w1 hm => ?_) rfl rfl ?_
  · obtain ⟨hF, hC, _⟩ := hm.2.get (i := 7) rfl
    exact act_any (A := F4) ⟨exC4, b4, bc4, x4, xc4, qv4⟩ w1 hC (by have h9 := hC.lenq; dsimp only at h9; rw [← h9]; decide)
  rintro ⟨pa, pc⟩ -
  dsimp only [List.cons_append, List.nil_append]
  repeat' (first | refine sq_then ?_ | refine sc_ret ?_ | refine sx_nil ?_ | ((refine' sx_v rfl ?_ rfl rfl ?_); rotate_left; first | exact vo_un tok rfl rfl rfl rfl | exact vo_bin tok rfl rfl rfl rfl rfl rfl | exact vo_and rfl rfl rfl rfl rfl | exact vo_len tok rfl rfl rfl rfl rfl rfl rfl))
  refine sq_ret tok (fun _ => 0) rfl rfl trivial rfl fun w hm => ⟨?_, hm.below⟩
  kernel_rfl
end Go.Proofs.YtmdkfbmpenohiaaDoor.Y
