/- Rows of structs: lists behind slices; stores into a slice of the call's own; memory that a call made and hands out. -/
import Derived.Test.YtmdkfbmpenohiaaDoorRegH
import Derived.Test.YtmdkfbmpenohiaaDoorVac
import Derived.Test.YtmdkfbmpenohiaaDoorAppO
namespace Go.Proofs.YtmdkfbmpenohiaaDoor.Y
open Go.RowKit
/-! lists of rows -/
section
variable {α : Type} {f : α → List Value} {sz : Nat}
theorem flat_len (hf : ∀ a, (f a).length = sz) : ∀ l : List α, (l.flatMap f).length = l.length * sz
  | [] => by simp
  | a :: l => by simp [flat_len hf l, hf, Nat.succ_mul, Nat.add_comm]
theorem flat_drop (hf : ∀ a, (f a).length = sz) : ∀ (l : List α) (j : Nat), (l.flatMap f).drop (j * sz) = (l.drop j).flatMap f
  | [], j => by simp
  | a :: l, 0 => by simp
  | a :: l, j + 1 => by
    rw [List.flatMap_cons, Nat.succ_mul, Nat.add_comm, ← List.drop_drop]
    rw [show (f a ++ l.flatMap f).drop sz = l.flatMap f by rw [← hf a]; exact List.drop_left]
    simpa using flat_drop hf l j
theorem flat_get (hf : ∀ a, (f a).length = sz) {l : List α} {j k : Nat} {a : α} {v : Value} (hj : l[j]? = some a) (hk : (f a)[k]? = some v) : (l.flatMap f)[j * sz + k]? = some v := by
  rw [← List.getElem?_drop, flat_drop hf]
  obtain ⟨hjl, rfl⟩ := List.getElem?_eq_some_iff.1 hj
  rw [List.drop_eq_getElem_cons hjl, List.flatMap_cons]
  have := (List.getElem?_eq_some_iff.1 hk).1
  rw [List.getElem?_append_left this]; exact hk
theorem spl_of : ∀ (l : List Value) (k : Nat) (vs : List Value), k + vs.length ≤ l.length → spl l k vs = some (l.take k ++ vs ++ l.drop (k + vs.length))
  | l, 0, [], _ => by cases l <;> simp [spl]
  | [], 0, v :: vs, h => by simp at h
  | x :: l, 0, v :: vs, h => by simp [spl, spl_of l 0 vs (by simp at h; omega)]
  | [], k + 1, vs, h => by simp at h
  | x :: l, k + 1, vs, h => by
    have h2 := spl_of l k vs (by simp at h; omega)
    have e : k + 1 + vs.length = k + vs.length + 1 := by omega
    cases vs with
    | nil => simp [spl, h2]
    | cons v vs => rw [spl, h2, e]; simp
theorem flat_set (hf : ∀ a, (f a).length = sz) : ∀ (l : List α) (j off : Nat) (a a' : α) (vs : List Value), l[j]? = some a → spl (f a) off vs = some (f a') → spl (l.flatMap f) (j * sz + off) vs = some ((l.set j a').flatMap f)
  | [], j, off, a, a', vs, h, _ => by simp at h
  | x :: l, 0, off, a, a', vs, h, hs => by
    obtain rfl := (by simpa using h)
    obtain ⟨e, hl⟩ := spl_eq hs
    rw [Nat.zero_mul, Nat.zero_add, List.set_cons_zero, List.flatMap_cons, List.flatMap_cons, spl_of _ _ _ (by rw [List.length_append]; omega), e]
    rw [List.take_append_of_le_length (by omega), List.drop_append_of_le_length (by omega)]
    simp [List.append_assoc]
  | x :: l, j + 1, off, a, a', vs, h, hs => by
    have ih := flat_set hf l j off a a' vs (by simpa using h) hs
    obtain ⟨e, hl⟩ := spl_eq ih
    have hx := hf x
    rw [List.set_cons_succ, List.flatMap_cons, List.flatMap_cons, e]
    rw [spl_of _ _ _ (by rw [List.length_append, hx]; rw [Nat.succ_mul]; omega)]
    have e1 : (j + 1) * sz + off = (f x).length + (j * sz + off) := by rw [hx, Nat.succ_mul]; omega
    have e2 : (j + 1) * sz + off + vs.length = (f x).length + (j * sz + off + vs.length) := by rw [hx, Nat.succ_mul]; omega
    rw [e2, e1, List.take_length_add_append, List.drop_length_add_append]
    simp [List.append_assoc]
end
/-- a slice that holds a list of rows; A: where it may lie. -/
def Rws {α : Type} (A : Nat → Prop) (w : World) (sz : Nat) (f : α → List Value) (x : Option Addr) (l : List α) : Prop :=
  0 < l.length → ∃ b off, x = some ⟨b, off, none⟩ ∧ A b ∧ b < w.heap.size ∧ ∀ j v, l[j]? = some v → w.rangeAt b (off + j * sz) (f v)
section
variable {α : Type} {A : Nat → Prop} {w w' : World} {sz : Nat} {f : α → List Value} {x : Option Addr} {l : List α}
theorem cell_heap {w w' : World} {b o : Nat} (h : w'.heap[b]? = w.heap[b]?) : w'.cell? ⟨b, o, none⟩ = w.cell? ⟨b, o, none⟩ := by
  unfold World.cell?
  simp only [h]
theorem Rws.keep (h : Rws A w sz f x l) (hs : w.heap.size ≤ w'.heap.size) (hk : ∀ b, A b → b < w.heap.size → w'.heap[b]? = w.heap[b]?) : Rws A w' sz f x l := fun h0 => by
  obtain ⟨b, off, h1, h2, h3, h4⟩ := h h0
  exact ⟨b, off, h1, h2, by omega, fun j v hj k u hu => (cell_heap (hk b h2 h3)).trans (h4 j v hj k u hu)⟩
theorem Rws.below (h : Rws A w sz f x l) (hb : Below w.heap.size w w') : Rws A w' sz f x l := h.keep hb.size fun b _ hb' => hb.block b hb'
theorem Rws.mono {A' : Nat → Prop} (h : Rws A w sz f x l) (hA : ∀ b, A b → A' b) : Rws A' w sz f x l := fun h0 => by
  obtain ⟨b, off, h1, h2, h3⟩ := h h0
  exact ⟨b, off, h1, hA b h2, h3⟩
theorem Rws.lt (h : Rws A w sz f x l) : Rws (fun b => A b ∧ b < w.heap.size) w sz f x l := fun h0 => by
  obtain ⟨b, off, h1, h2, h3, h4⟩ := h h0
  exact ⟨b, off, h1, ⟨h2, h3⟩, h3, h4⟩
theorem Rws.own {B : Nat} {T : TypeId} {c : Nat} (hf : ∀ a, (f a).length = sz) (h : w.ownsRow B T sz (.slice x l.length c) l.length (l.flatMap f)) : Rws (fun b => B ≤ b) w sz f x l := fun h0 => by
  rcases h.2 with ⟨_, h2⟩ | ⟨g, cap, cur, hv, hg, hgw, _⟩
  · omega
  · obtain ⟨rfl, rfl⟩ := (by simpa using hv)
    refine ⟨g, 0, rfl, hg, get_lt hgw, fun j v hj k u hu => ?_⟩
    rw [Nat.zero_add]
    exact own_cell h (flat_get hf hj hu)
theorem Rws.take (h : Rws A w sz f x l) {l' : List α} (hl : ∀ (j : Nat) (v : α), l'[j]? = some v → l[j]? = some v) : Rws A w sz f x l' := fun h0 => by
  obtain ⟨b, off, h1, h2, h3, h4⟩ := h (by
    have := hl 0 _ (List.getElem?_eq_getElem h0)
    exact (List.getElem?_eq_some_iff.1 this).1)
  exact ⟨b, off, h1, h2, h3, fun j v hj => h4 j v (hl j v hj)⟩
end
/-! memory that a call made -/
structure Made (w w' : World) (E : List Ent) : Prop where
  below : Below w.heap.size w w'
  mem : MemL w.heap.size w' E
  new : ∀ e ∈ E, ∀ b, e.foot b → w.heap.size ≤ b
theorem Mem.made {w0 w w' : World} {M E : List Ent} (h : Mem w0 w M) (hm : Made w w' E) : Mem w0 w' (E ++ M) :=
  ⟨h.1.trans (hm.below.mono h.1.size), MemL.join (hm.mem.mono h.1.size) (h.2.keep hm.below) fun e he f hf k => ⟨fun h1 h2 => by
    have h3 := (MemL.mem h.2 f hf).foot_lt h2
    have h4 := hm.new e he k (Ent.mut_foot h1)
    omega, fun h1 h2 => by
    have h3 := ((MemL.mem h.2 f hf).mut_lt h1).2
    have h4 := hm.new e he k h2
    omega⟩⟩
theorem own_foot {w : World} {B cap : Nat} {a : Option Addr} {e : TypeId} {size n : Nat} {xs : List Value} (h : w.ownsRow B e size (.slice a n cap) n xs) {b : Nat} (hb : (Ent.own a cap e size n xs).foot b) : B ≤ b ∧ b < w.heap.size :=
  Ent.ok.mut_lt (e := .own a cap e size n xs) h hb
theorem Made.one {w w' : World} {a : Option Addr} {cap : Nat} {e : TypeId} {size n : Nat} {xs : List Value} (h : w'.ownsRow w.heap.size e size (.slice a n cap) n xs) (hb : Below w.heap.size w w') : Made w w' [.own a cap e size n xs] :=
  ⟨hb, ⟨h, fun _ hf => (by cases hf), trivial⟩, fun f hf b hfb => by
    obtain rfl : f = _ := by simpa using hf
    exact (own_foot h hfb).1⟩
/-- what is handed out at the end. -/
theorem Made.of {w0 w : World} {E : List Ent} (h : Mem w0 w E) (hf : ∀ e ∈ E, ∀ F p, e = .rep F p → ∀ b, F b → w0.heap.size ≤ b) : Made w0 w E :=
  ⟨h.1, h.2, fun e he b hb => by
    have hok := MemL.mem h.2 e he
    cases e with
    | rep F p => exact hf _ he F p rfl b hb
    | obj g o => exact (hok.mut_lt (k := b) hb).1
    | own a cap e size n xs => exact (hok.mut_lt (k := b) hb).1⟩
/-- entries become a fact. -/
theorem MemL.split {B : Nat} {w : World} : ∀ {M1 M2 : List Ent}, MemL B w (M1 ++ M2) → MemL B w M1 ∧ MemL B w M2 ∧ ∀ e ∈ M1, ∀ f ∈ M2, Apart e f
  | [], _, h => ⟨trivial, h, fun _ he => by cases he⟩
  | e :: M1, M2, h => by
    obtain ⟨h1, h2, h3⟩ := MemL.split (M1 := M1) h.2.2
    refine ⟨⟨h.1, fun f hf => h.2.1 f (List.mem_append_left _ hf), h1⟩, h2, fun e' he' f hf => ?_⟩
    rcases List.mem_cons.1 he' with rfl | he'
    · exact h.2.1 f (List.mem_append_right _ hf)
    · exact h3 e' he' f hf
section
variable {P : Program} {T : Tab} {w0 : World} {S : Sts} {M M' : List Ent} {L : Cd} {o : Oper} {l0 rest : List Oper} {Q : Exit → Act → World → Prop} {n d : Nat}
/-- a call that makes memory. -/
theorem sx_callM {σ : Type} {f : FuncId} {args : List Value} (Ψ : σ → Prop) (V : σ → Value) (E : σ → List Ent) (hg : o.guard = none) (ho : CallOp P S [] o f args)
    (hc : ∀ w, Mem w0 w M → Calls P f ⟨args⟩ w fun e w' => ∃ s, Ψ s ∧ e = .returned (V s) ∧ Made w w' (E s))
    (hd : o.dst = some d) (hn : Nat.blt d n = true) (h : ∀ s, Ψ s → SL P l0 Q rest n w0 ((d, [], V s) :: S) (E s ++ M)) : SL P l0 Q (o :: rest) n w0 S M :=
  sx_callE Ψ V (fun s => E s ++ M) hg ho (fun w hM => (hc w hM).mono fun _ _ ⟨s, h1, h2, h3⟩ => ⟨s, h1, h2, hM.made h3⟩) hd hn h
/-- a store into a slice of the call's own. -/
theorem sx_ostore (hT : TOK P T) (i : Nat) {t : TypeId} {td : TD} {x y : Operand} {g off cap size k : Nat} {e : TypeId} {v : Value} {xs xs' vs : List Value} (h1 : o.op = .store t x y) (hg : o.guard = none) (h2 : ev S x = some ([], .pointer (some ⟨g, off, none⟩))) (h3 : ev S y = some ([], v))
    (hm : nth M i = some (.own (some ⟨g, 0, none⟩) cap e size k xs)) (h4 : cellsO v = some vs) (h5 : lk t T = some td) (h6 : Nat.beq vs.length td.size = true) (h7 : oneAll vs = true) (h8 : spl xs off vs = some xs') (h9 : setM M i (.own (some ⟨g, 0, none⟩) cap e size k xs') = some M') (hd : o.dst = none)
    (h : SL P l0 Q rest n w0 S M') : SL P l0 Q (o :: rest) n w0 S M := by
  refine sx_step (L := []) (by rw [hg]; rfl) (fun hL a w hS hM => ?_) (fun hL => by cases hL)
  have hok : w.ownsRow w0.heap.size e size (.slice (some ⟨g, 0, none⟩) k cap) k xs := hM.2.get hm
  obtain ⟨hlen, hrest⟩ := hok
  rcases hrest with ⟨hv, _⟩ | ⟨g', cap', cur, hv, hB, hgw, hkc, hcm, hcs, htake⟩
  · simp at hv
  obtain ⟨rfl, rfl⟩ : g = g' ∧ cap = cap' := by simp only [Value.slice.injEq, Option.some.injEq, Addr.mk.injEq] at hv; exact ⟨hv.1.1, hv.2.2⟩
  obtain ⟨e8, hl8⟩ := spl_eq h8
  have hkl : k * size ≤ cur.toList.length := by rw [Array.length_toList, hcs]; exact Nat.mul_le_mul_right _ hkc
  have hle : off + vs.length ≤ k * size := by rw [← hlen]; exact hl8
  have hspl := spl_of cur.toList off vs (Nat.le_trans hle hkl)
  have hrun : (execOp a.eval o).run P w = .ok .skip (w.setRow g ⟨cur.toList.take off ++ vs ++ cur.toList.drop (off + vs.length)⟩) := by
    unfold execOp
    simp only [h1, ev_spec hS h2 rfl, ev_spec hS h3 rfl, Sem.run_bind, run_storeAt hT (show Bk w g e ⟨cur.toList⟩ from hgw) h4 h5 h6 h7 hspl]
    rfl
  unfold Vals
  rw [hrun]
  have hxs' : xs'.length = k * size := by rw [← hlen, e8]; simp; omega
  refine h.run _ _ ?_ (hM.set (e' := .own (some ⟨g, 0, none⟩) cap e size k xs') hm h9 rfl rfl rfl (by simp [World.setRow]) (fun q _ hq => setRow_other w g q _ hq) ⟨hxs', .inr ⟨g, cap, _, rfl, hB, setRow_heap w g cur _ e (0, 0) hgw, hkc, hcm, ?_, ?_⟩⟩ (fun _ hk => .inl hk) (fun _ hk => .inl hk))
  · rw [hd]; exact hS
  · have hle2 : off + vs.length ≤ cur.toList.length := Nat.le_trans hle hkl
    have : (cur.toList.take off ++ vs ++ cur.toList.drop (off + vs.length)).length = cur.toList.length := by rw [List.length_append, List.length_append, List.length_take, List.length_drop]; omega
    simpa [hcs] using this
  · rw [e8, ← htake]
    show (cur.toList.take off ++ vs ++ cur.toList.drop (off + vs.length)).take (k * size) = _
    generalize k * size = m at *
    have hle2 : off + vs.length ≤ cur.toList.length := Nat.le_trans hle hkl
    have h1 : (cur.toList.take off ++ vs).length = off + vs.length := by rw [List.length_append, List.length_take]; omega
    rw [List.take_append, h1, List.take_of_length_le (by rw [h1]; exact hle), List.take_take, Nat.min_eq_left (by omega), List.drop_take]
end
end Go.Proofs.YtmdkfbmpenohiaaDoor.Y
