/- Texts of this claim merged into one: Rep, RegT, RegU. -/
import Derived.Test.YtmdkfbmpenohiaaGreatDoorRegH
import Derived.Test.YtmdkfbmpenohiaaGreatDoorBunD
namespace Go.Proofs.YtmdkfbmpenohiaaGreatDoor.Y
open Go.RowKit
section
variable {α : Type} {f : α → List Value} {sz : Nat}
theorem cH (hf : ∀ a, (f a).length = sz) : ∀ l : List α, (l.flatMap f).length = l.length * sz
  | [] => by simp
  | a :: l => by simp [cH hf l, hf, Nat.succ_mul, Nat.add_comm]
theorem mu (hf : ∀ a, (f a).length = sz) : ∀ (l : List α) (j : Nat), (l.flatMap f).drop (j * sz) = (l.drop j).flatMap f
  | [], j => by simp
  | a :: l, 0 => by simp
  | a :: l, j + 1 => by
    rw [List.flatMap_cons, Nat.succ_mul, Nat.add_comm, ← List.drop_drop]
    rw [show (f a ++ l.flatMap f).drop sz = l.flatMap f by rw [← hf a]; exact List.drop_left]
    simpa using mu hf l j
theorem br (hf : ∀ a, (f a).length = sz) {l : List α} {j k : Nat} {a : α} {v : Value} (hj : l[j]? = some a) (hk : (f a)[k]? = some v) : (l.flatMap f)[j * sz + k]? = some v := by
  rw [← List.getElem?_drop, mu hf]
  obtain ⟨hjl, rfl⟩ := List.getElem?_eq_some_iff.1 hj
  rw [List.drop_eq_getElem_cons hjl, List.flatMap_cons]
  have := (List.getElem?_eq_some_iff.1 hk).1
  rw [List.getElem?_append_left this]; exact hk
theorem jU : ∀ (l : List Value) (k : Nat) (vs : List Value), k + vs.length ≤ l.length → gQ l k vs = some (l.take k ++ vs ++ l.drop (k + vs.length))
  | l, 0, [], _ => by cases l <;> simp [gQ]
  | [], 0, v :: vs, h => by simp at h
  | x :: l, 0, v :: vs, h => by simp [gQ, jU l 0 vs (by simp at h; omega)]
  | [], k + 1, vs, h => by simp at h
  | x :: l, k + 1, vs, h => by
    have h2 := jU l k vs (by simp at h; omega)
    have e : k + 1 + vs.length = k + vs.length + 1 := by omega
    cases vs with
    | nil => simp [gQ, h2]
    | cons v vs => rw [gQ, h2, e]; simp
theorem bS (hf : ∀ a, (f a).length = sz) : ∀ (l : List α) (j off : Nat) (a a' : α) (vs : List Value), l[j]? = some a → gQ (f a) off vs = some (f a') → gQ (l.flatMap f) (j * sz + off) vs = some ((l.set j a').flatMap f)
  | [], j, off, a, a', vs, h, _ => by simp at h
  | x :: l, 0, off, a, a', vs, h, hs => by
    obtain rfl := (by simpa using h)
    obtain ⟨e, hl⟩ := gY hs
    rw [Nat.zero_mul, Nat.zero_add, List.set_cons_zero, List.flatMap_cons, List.flatMap_cons, jU _ _ _ (by rw [List.length_append]; omega), e]
    rw [List.take_append_of_le_length (by omega), List.drop_append_of_le_length (by omega)]
    simp [List.append_assoc]
  | x :: l, j + 1, off, a, a', vs, h, hs => by
    have ih := bS hf l j off a a' vs (by simpa using h) hs
    obtain ⟨e, hl⟩ := gY ih
    have hx := hf x
    rw [List.set_cons_succ, List.flatMap_cons, List.flatMap_cons, e]
    rw [jU _ _ _ (by rw [List.length_append, hx]; rw [Nat.succ_mul]; omega)]
    have e1 : (j + 1) * sz + off = (f x).length + (j * sz + off) := by rw [hx, Nat.succ_mul]; omega
    have e2 : (j + 1) * sz + off + vs.length = (f x).length + (j * sz + off + vs.length) := by rw [hx, Nat.succ_mul]; omega
    rw [e2, e1, List.take_length_add_append, List.drop_length_add_append]
    simp [List.append_assoc]
end
def Rws {α : Type} (A : Nat → Prop) (w : World) (sz : Nat) (f : α → List Value) (x : Option Addr) (l : List α) : Prop :=
  0 < l.length → ∃ b off, x = some ⟨b, off, none⟩ ∧ A b ∧ b < w.heap.size ∧ ∀ j v, l[j]? = some v → w.rangeAt b (off + j * sz) (f v)
section
variable {α : Type} {A : Nat → Prop} {w w' : World} {sz : Nat} {f : α → List Value} {x : Option Addr} {l : List α}
theorem mv {w w' : World} {b o : Nat} (h : w'.heap[b]? = w.heap[b]?) : w'.cell? ⟨b, o, none⟩ = w.cell? ⟨b, o, none⟩ := by
  unfold World.cell?
  simp only [h]
theorem Rws.keep (h : Rws A w sz f x l) (hs : w.heap.size ≤ w'.heap.size) (hk : ∀ b, A b → b < w.heap.size → w'.heap[b]? = w.heap[b]?) : Rws A w' sz f x l := fun h0 => by
  obtain ⟨b, off, h1, h2, h3, h4⟩ := h h0
  exact ⟨b, off, h1, h2, by omega, fun j v hj k u hu => (mv (hk b h2 h3)).trans (h4 j v hj k u hu)⟩
theorem Rws.below (h : Rws A w sz f x l) (hb : Below w.heap.size w w') : Rws A w' sz f x l := h.keep hb.size fun b _ hb' => hb.block b hb'
theorem Rws.mono {A' : Nat → Prop} (h : Rws A w sz f x l) (hA : ∀ b, A b → A' b) : Rws A' w sz f x l := fun h0 => by
  obtain ⟨b, off, h1, h2, h3⟩ := h h0
  exact ⟨b, off, h1, hA b h2, h3⟩
theorem Rws.lt (h : Rws A w sz f x l) : Rws (fun b => A b ∧ b < w.heap.size) w sz f x l := fun h0 => by
  obtain ⟨b, off, h1, h2, h3, h4⟩ := h h0
  exact ⟨b, off, h1, ⟨h2, h3⟩, h3, h4⟩
theorem Rws.own {B : Nat} {T : TypeId} {c : Nat} (hf : ∀ a, (f a).length = sz) (h : w.ownsRow B T sz (.slice x l.length c) l.length (l.flatMap f)) : Rws (fun b => B ≤ b) w sz f x l := fun h0 => by
  rcases h.2 with ⟨_, h2⟩ | ⟨g, cap, cur, hv, hg, hgw, _⟩
  · omega
  · obtain ⟨rfl, rfl⟩ := (by simpa using hv)
    refine ⟨g, 0, rfl, hg, gU hgw, fun j v hj k u hu => ?_⟩
    rw [Nat.zero_add]
    exact kV h (br hf hj hu)
theorem Rws.take (h : Rws A w sz f x l) {l' : List α} (hl : ∀ (j : Nat) (v : α), l'[j]? = some v → l[j]? = some v) : Rws A w sz f x l' := fun h0 => by
  obtain ⟨b, off, h1, h2, h3, h4⟩ := h (by
    have := hl 0 _ (List.getElem?_eq_getElem h0)
    exact (List.getElem?_eq_some_iff.1 this).1)
  exact ⟨b, off, h1, h2, h3, fun j v hj => h4 j v (hl j v hj)⟩
end
structure Made (w w' : World) (E : List Ent) : Prop where
  below : Below w.heap.size w w'
  mem : MemL w.heap.size w' E
  new : ∀ e ∈ E, ∀ b, e.foot b → w.heap.size ≤ b
theorem Mem.made {w0 w w' : World} {M E : List Ent} (h : Mem w0 w M) (hm : Made w w' E) : Mem w0 w' (E ++ M) :=
  ⟨h.1.trans (hm.below.mono h.1.size), MemL.join (hm.mem.mono h.1.size) (h.2.keep hm.below) fun e he f hf k => ⟨fun h1 h2 => by
    have h3 := (MemL.mem h.2 f hf).foot_lt h2
    have h4 := hm.new e he k (Ent.mut_foot h1)
    omega, fun h1 h2 => by
    have h3 := ((MemL.mem h.2 f hf).mut_lt h1).2
    have h4 := hm.new e he k h2
    omega⟩⟩
theorem ln {w : World} {B cap : Nat} {a : Option Addr} {e : TypeId} {size n : Nat} {xs : List Value} (h : w.ownsRow B e size (.slice a n cap) n xs) {b : Nat} (hb : (Ent.own a cap e size n xs).foot b) : B ≤ b ∧ b < w.heap.size :=
  Ent.ok.mut_lt (e := .own a cap e size n xs) h hb
theorem Made.one {w w' : World} {a : Option Addr} {cap : Nat} {e : TypeId} {size n : Nat} {xs : List Value} (h : w'.ownsRow w.heap.size e size (.slice a n cap) n xs) (hb : Below w.heap.size w w') : Made w w' [.own a cap e size n xs] :=
  ⟨hb, ⟨h, fun _ hf => (by cases hf), trivial⟩, fun f hf b hfb => by
    obtain rfl : f = _ := by simpa using hf
    exact (ln h hfb).1⟩
theorem Made.of {w0 w : World} {E : List Ent} (h : Mem w0 w E) (hf : ∀ e ∈ E, ∀ F p, e = .rep F p → ∀ b, F b → w0.heap.size ≤ b) : Made w0 w E :=
  ⟨h.1, h.2, fun e he b hb => by
    have hok := MemL.mem h.2 e he
    cases e with
    | rep F p => exact hf _ he F p rfl b hb
    | obj g o => exact (hok.mut_lt (k := b) hb).1
    | own a cap e size n xs => exact (hok.mut_lt (k := b) hb).1⟩
theorem MemL.split {B : Nat} {w : World} : ∀ {M1 M2 : List Ent}, MemL B w (M1 ++ M2) → MemL B w M1 ∧ MemL B w M2 ∧ ∀ e ∈ M1, ∀ f ∈ M2, Apart e f
  | [], _, h => ⟨trivial, h, fun _ he => by cases he⟩
  | e :: M1, M2, h => by
    obtain ⟨h1, h2, h3⟩ := MemL.split (M1 := M1) h.2.2
    refine ⟨⟨h.1, fun f hf => h.2.1 f (List.mem_append_left _ hf), h1⟩, h2, fun e' he' f hf => ?_⟩
    rcases List.mem_cons.1 he' with rfl | he'
    · exact h.2.1 f (List.mem_append_right _ hf)
    · exact h3 e' he' f hf
section
variable {P : Program} {T : d5} {w0 : World} {S : bM} {M M' : List Ent} {L : Cd} {o : Oper} {l0 rest : List Oper} {Q : Exit → Act → World → Prop} {n d : Nat}
theorem bf {σ : Type} {f : FuncId} {args : List Value} (Ψ : σ → Prop) (V : σ → Value) (E : σ → List Ent) (hg : o.guard = none) (ho : dO P S [] o f args)
    (hc : ∀ w, Mem w0 w M → Calls P f ⟨args⟩ w fun e w' => ∃ s, Ψ s ∧ e = .returned (V s) ∧ Made w w' (E s))
    (hd : o.dst = some d) (hn : Nat.blt d n = true) (h : ∀ s, Ψ s → SL P l0 Q rest n w0 ((d, [], V s) :: S) (E s ++ M)) : SL P l0 Q (o :: rest) n w0 S M :=
  bX Ψ V (fun s => E s ++ M) hg ho (fun w hM => (hc w hM).mono fun _ _ ⟨s, h1, h2, h3⟩ => ⟨s, h1, h2, hM.made h3⟩) hd hn h
theorem ce (hT : TOK P T) (i : Nat) {t : TypeId} {td : TD} {x y : Operand} {g off cap size k : Nat} {e : TypeId} {v : Value} {xs xs' vs : List Value} (h1 : o.op = .store t x y) (hg : o.guard = none) (h2 : ev S x = some ([], .pointer (some ⟨g, off, none⟩))) (h3 : ev S y = some ([], v))
    (hm : dY M i = some (.own (some ⟨g, 0, none⟩) cap e size k xs)) (h4 : dF v = some vs) (h5 : lk t T = some td) (h6 : Nat.beq vs.length td.size = true) (h7 : fY vs = true) (h8 : gQ xs off vs = some xs') (h9 : gg M i (.own (some ⟨g, 0, none⟩) cap e size k xs') = some M') (hd : o.dst = none)
    (h : SL P l0 Q rest n w0 S M') : SL P l0 Q (o :: rest) n w0 S M := by
  refine dx (L := []) (by rw [hg]; rfl) (fun hL a w hS hM => ?_) (fun hL => by cases hL)
  have hok : w.ownsRow w0.heap.size e size (.slice (some ⟨g, 0, none⟩) k cap) k xs := hM.2.get hm
  obtain ⟨hlen, hrest⟩ := hok
  rcases hrest with ⟨hv, _⟩ | ⟨g', cap', cur, hv, hB, hgw, hkc, hcm, hcs, htake⟩
  · simp at hv
  obtain ⟨rfl, rfl⟩ : g = g' ∧ cap = cap' := by simp only [Value.slice.injEq, Option.some.injEq, Addr.mk.injEq] at hv; exact ⟨hv.1.1, hv.2.2⟩
  obtain ⟨e8, hl8⟩ := gY h8
  have hkl : k * size ≤ cur.toList.length := by rw [Array.length_toList, hcs]; exact Nat.mul_le_mul_right _ hkc
  have hle : off + vs.length ≤ k * size := by rw [← hlen]; exact hl8
  have hspl := jU cur.toList off vs (Nat.le_trans hle hkl)
  have hrun : (execOp a.eval o).run P w = .ok .skip (w.setRow g ⟨cur.toList.take off ++ vs ++ cur.toList.drop (off + vs.length)⟩) := by
    unfold execOp
    simp only [h1, aS hS h2 rfl, aS hS h3 rfl, Sem.run_bind, fH hT (show Bk w g e ⟨cur.toList⟩ from hgw) h4 h5 h6 h7 hspl]
    rfl
  unfold Vals
  rw [hrun]
  have hxs' : xs'.length = k * size := by rw [← hlen, e8]; simp; omega
  refine h.run _ _ ?_ (hM.set (e' := .own (some ⟨g, 0, none⟩) cap e size k xs') hm h9 J J J (by simp [World.setRow]) (fun q _ hq => setRow_other w g q _ hq) ⟨hxs', .inr ⟨g, cap, _, rfl, hB, setRow_heap w g cur _ e (0, 0) hgw, hkc, hcm, ?_, ?_⟩⟩ (fun _ hk => .inl hk) (fun _ hk => .inl hk))
  · rw [hd]; exact hS
  · have hle2 : off + vs.length ≤ cur.toList.length := Nat.le_trans hle hkl
    have : (cur.toList.take off ++ vs ++ cur.toList.drop (off + vs.length)).length = cur.toList.length := by rw [List.length_append, List.length_append, List.length_take, List.length_drop]; omega
    simpa [hcs] using this
  · rw [e8, ← htake]
    show (cur.toList.take off ++ vs ++ cur.toList.drop (off + vs.length)).take (k * size) = _
    generalize k * size = m at *
    have hle2 : off + vs.length ≤ cur.toList.length := Nat.le_trans hle hkl
    have h1 : (cur.toList.take off ++ vs).length = off + vs.length := by rw [List.length_append, List.length_take]; omega
    rw [List.take_append, h1, List.take_of_length_le (by rw [h1]; exact hle), List.take_take, Nat.min_eq_left (by omega), List.drop_take]
end
end Go.Proofs.YtmdkfbmpenohiaaGreatDoor.Y
namespace Go.Proofs.YtmdkfbmpenohiaaGreatDoor.Y
open Go.RowKit
def yW : Op → RK
  | .load _ _ => ⟨true, true⟩
  | .convert _ _ _ => ⟨true, true⟩
  | .nilCheck _ => ⟨true, true⟩
  | o => x6 o
structure ST (P : Program) (l0 : List Oper) (Q : Exit → Act → World → Prop) (l : List Oper) (n : Nat) (w0 : World) (M' : List Ent) (S : bM) (M : List Ent) : Prop where
  run : ∀ a w, Sl n a S → Mem w0 w M → m9 P l0.toArray (fun w' => Mem w0 w' M') yW (Q .normal) l a w
section
variable {P : Program} {T : d5} {l0 rest : List Oper} {Q : Exit → Act → World → Prop} {n : Nat} {w0 : World} {S : bM} {M M' M2 : List Ent} {L : Cd} {o : Oper} {d : Nat}
theorem lp (h : SQ Q .normal n w0 S M) : ST P l0 Q [] n w0 M' S M := ⟨fun a w hS hM => eS (h.run a w hS hM)⟩
theorem lX {v : Value} (hg : gd l0 S o.guard = some L) (hk : (yW o.op).pure = true) (hv : VO P w0 S M' L o v) (hd : o.dst = some d) (hn : Nat.blt d n = true) (h : ST P l0 Q rest n w0 M' ((d, L, v) :: S) M) : ST P l0 Q (o :: rest) n w0 M' S M := by
  have hdn : d < n := Nat.le_of_ble_eq_true hn
  refine ⟨fun a w hS hM => ?_⟩
  have hw := gy hS hg
  cases hL : aL L with
  | true =>
    refine av (by rw [hw, hL]) hk v (fun _ hM' => hv n a _ hS hM' hL) fun K hK => hK _ _ (h.run _ _ ?_ hM)
    rw [hd]; exact hS.put hdn (by simp [hL])
  | false =>
    refine aI (by rw [hw, hL]) fun K hK => hK _ _ (h.run _ _ ?_ hM)
    rw [hd]; exact hS.put hdn (by simp [hL])
theorem lr (hT : TOK P T) (i : Nat) {t : TypeId} {td : TD} {x y : Operand} {g off : Nat} {B : TypeId} {v : Value} {cs cs' vs : List Value} (h1 : o.op = .store t x y) (hg : o.guard = none) (h2 : ev S x = some ([], .pointer (some ⟨g, off, none⟩))) (h3 : ev S y = some ([], v))
    (hm : dY M i = some (.cl g B cs)) (h4 : dF v = some vs) (h5 : lk t T = some td) (h6 : Nat.beq vs.length td.size = true) (h7 : fY vs = true) (h8 : gQ cs off vs = some cs') (h9 : gg M i (.cl g B cs') = some M2) (hd : o.dst = none)
    (hM' : ∀ w, Mem w0 w M2 → Mem w0 w M') (h : ST P l0 Q rest n w0 M' S M2) : ST P l0 Q (o :: rest) n w0 M' S M := by
  refine ⟨fun a w hS hM => ?_⟩
  have hrun : (execOp a.eval o).run P w = .ok .skip (w.setRow g ⟨cs'⟩) := by
    unfold execOp
    simp only [h1, aS hS h2 rfl, aS hS h3 rfl, Sem.run_bind, fH hT (show Bk w g B ⟨cs⟩ from (hM.2.get hm).2) h4 h5 h6 h7 h8]
    rfl
  have hM2 := hM.setRow hm h9
  refine bJ (by unfold Region.wanted; rw [hg]) (by rw [h1]; rfl) (by rw [h1]; rfl) fun K hK => ?_
  unfold Oper.wp
  rw [hrun]
  simp only [Oper.upon]
  refine hK _ _ ⟨hM' _ hM2, h.run _ _ ?_ hM2⟩
  first | exact hS | (rw [hd]; exact hS)
theorem fw {id : Nat} {l : List Oper} (bs : List Bool) (hm : P.follows .mixedOrders = true) (hok : (uG yW l.toArray && xQ l.toArray) = true) (h : ST P l Q l n w0 (dV bs M) S M) : SC P (.region id l.toArray true) Q n w0 S M :=
  ⟨fun a _ hS hM => cO (fun w' => Mem w0 w' (dV bs M)) yW hm hok (hM.drew.mask bs rfl) (h.run a _ hS hM.drew)⟩
end
end Go.Proofs.YtmdkfbmpenohiaaGreatDoor.Y
namespace Go.Proofs.YtmdkfbmpenohiaaGreatDoor.Y
open Go.RowKit
section
variable {P : Program} {T : d5} {l0 rest : List Oper} {Q : Exit → Act → World → Prop} {n : Nat} {w0 : World} {S : bM} {M M' M2 : List Ent} {o : Oper}
theorem pT (hT : TOK P T) (i : Nat) {t : TypeId} {td : TD} {x y : Operand} {g off cap size k : Nat} {e : TypeId} {v : Value} {xs xs' vs : List Value} (h1 : o.op = .store t x y) (_hg : o.guard = none) (h2 : ev S x = some ([], .pointer (some ⟨g, off, none⟩))) (h3 : ev S y = some ([], v))
    (hm : dY M i = some (.own (some ⟨g, 0, none⟩) cap e size k xs)) (h4 : dF v = some vs) (h5 : lk t T = some td) (h6 : Nat.beq vs.length td.size = true) (h7 : fY vs = true) (h8 : gQ xs off vs = some xs') (h9 : gg M i (.own (some ⟨g, 0, none⟩) cap e size k xs') = some M') (_hd : o.dst = none) {a : Act} {w : World} (hS : Sl n a S) (hM : Mem w0 w M) : ∃ w', (execOp a.eval o).run P w = .ok .skip w' ∧ Mem w0 w' M' := by
  have hok : w.ownsRow w0.heap.size e size (.slice (some ⟨g, 0, none⟩) k cap) k xs := hM.2.get hm
  obtain ⟨hlen, hrest⟩ := hok
  rcases hrest with ⟨hv, _⟩ | ⟨g', cap', cur, hv, hB, hgw, hkc, hcm, hcs, htake⟩
  · simp at hv
  obtain ⟨rfl, rfl⟩ : g = g' ∧ cap = cap' := by simp only [Value.slice.injEq, Option.some.injEq, Addr.mk.injEq] at hv; exact ⟨hv.1.1, hv.2.2⟩
  obtain ⟨e8, hl8⟩ := gY h8
  have hkl : k * size ≤ cur.toList.length := by rw [Array.length_toList, hcs]; exact Nat.mul_le_mul_right _ hkc
  have hle : off + vs.length ≤ k * size := by rw [← hlen]; exact hl8
  have hspl := jU cur.toList off vs (Nat.le_trans hle hkl)
  have hrun : (execOp a.eval o).run P w = .ok .skip (w.setRow g ⟨cur.toList.take off ++ vs ++ cur.toList.drop (off + vs.length)⟩) := by
    unfold execOp
    simp only [h1, aS hS h2 rfl, aS hS h3 rfl, Sem.run_bind, fH hT (show Bk w g e ⟨cur.toList⟩ from hgw) h4 h5 h6 h7 hspl]
    rfl
  have hxs' : xs'.length = k * size := by rw [← hlen, e8]; simp; omega
  refine ⟨_, hrun, hM.set (e' := .own (some ⟨g, 0, none⟩) cap e size k xs') hm h9 J J J (by simp [World.setRow]) (fun q _ hq => setRow_other w g q _ hq) ⟨hxs', .inr ⟨g, cap, _, rfl, hB, setRow_heap w g cur _ e (0, 0) hgw, hkc, hcm, ?_, ?_⟩⟩ (fun _ hk => .inl hk) (fun _ hk => .inl hk)⟩
  · have hle2 : off + vs.length ≤ cur.toList.length := Nat.le_trans hle hkl
    have : (cur.toList.take off ++ vs ++ cur.toList.drop (off + vs.length)).length = cur.toList.length := by rw [List.length_append, List.length_append, List.length_take, List.length_drop]; omega
    simpa [hcs] using this
  · rw [e8, ← htake]
    show (cur.toList.take off ++ vs ++ cur.toList.drop (off + vs.length)).take (k * size) = _
    generalize k * size = m at *
    have hle2 : off + vs.length ≤ cur.toList.length := Nat.le_trans hle hkl
    have h1 : (cur.toList.take off ++ vs).length = off + vs.length := by rw [List.length_append, List.length_take]; omega
    rw [List.take_append, h1, List.take_of_length_le (by rw [h1]; exact hle), List.take_take, Nat.min_eq_left (by omega), List.drop_take]
theorem iD (hT : TOK P T) (i : Nat) {t : TypeId} {td : TD} {x y : Operand} {g off cap size k : Nat} {e : TypeId} {v : Value} {xs xs' vs : List Value} (h1 : o.op = .store t x y) (hg : o.guard = none) (h2 : ev S x = some ([], .pointer (some ⟨g, off, none⟩))) (h3 : ev S y = some ([], v))
    (hm : dY M i = some (.own (some ⟨g, 0, none⟩) cap e size k xs)) (h4 : dF v = some vs) (h5 : lk t T = some td) (h6 : Nat.beq vs.length td.size = true) (h7 : fY vs = true) (h8 : gQ xs off vs = some xs') (h9 : gg M i (.own (some ⟨g, 0, none⟩) cap e size k xs') = some M2) (hd : o.dst = none)
    (hM' : ∀ w, Mem w0 w M2 → Mem w0 w M') (h : ST P l0 Q rest n w0 M' S M2) : ST P l0 Q (o :: rest) n w0 M' S M := by
  refine ⟨fun a w hS hM => ?_⟩
  obtain ⟨w', hrun, hM2⟩ := pT hT i h1 hg h2 h3 hm h4 h5 h6 h7 h8 h9 hd hS hM
  refine bJ (by unfold Region.wanted; rw [hg]) (by rw [h1]; rfl) (by rw [h1]; rfl) fun K hK => ?_
  unfold Oper.wp
  rw [hrun]
  simp only [Oper.upon]
  refine hK _ _ ⟨hM' _ hM2, h.run _ _ ?_ hM2⟩
  first | exact hS | (rw [hd]; exact hS)
end
end Go.Proofs.YtmdkfbmpenohiaaGreatDoor.Y
