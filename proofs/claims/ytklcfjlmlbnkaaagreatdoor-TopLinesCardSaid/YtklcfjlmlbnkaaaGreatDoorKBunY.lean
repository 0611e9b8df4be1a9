/- Texts of this claim merged into one: KRegT, KRegU, KRegY, KYv. -/
import Derived.Test.YtklcfjlmlbnkaaaGreatDoorKBunE
import Derived.Test.YtklcfjlmlbnkaaaGreatDoorKRegionZ
import Derived.Test.YtklcfjlmlbnkaaaGreatDoorKBunT
namespace Go.Proofs.YtklcfjlmlbnkaaaGreatDoor.Y
open Go.RowKit
def rV : Op → RK
  | .load _ _ => ⟨true, true⟩
  | .convert _ _ _ => ⟨true, true⟩
  | .nilCheck _ => ⟨true, true⟩
  | o => tg o
structure ST (P : Program) (l0 : List Oper) (Q : Exit → Act → World → Prop) (l : List Oper) (n : Nat) (w0 : World) (M' : List Ent) (S : bq) (M : List Ent) : Prop where
  run : ∀ a w, Sl n a S → Mem w0 w M → nF P l0.toArray (fun w' => Mem w0 w' M') rV (Q .normal) l a w
section
variable {P : Program} {T : eo} {l0 rest : List Oper} {Q : Exit → Act → World → Prop} {n : Nat} {w0 : World} {S : bq} {M M' M2 : List Ent} {L : Cd} {o : Oper} {d : Nat}
theorem oW (h : SQ Q .normal n w0 S M) : ST P l0 Q [] n w0 M' S M := ⟨fun a w hS hM => eD (h.run a w hS hM)⟩
theorem zb {v : Value} (hg : gd l0 S o.guard = some L) (hk : (rV o.op).pure = true) (hv : VO P w0 S M' L o v) (hd : o.dst = some d) (hn : Nat.blt d n = true) (h : ST P l0 Q rest n w0 M' ((d, L, v) :: S) M) : ST P l0 Q (o :: rest) n w0 M' S M := by
  have hdn : d < n := Nat.le_of_ble_eq_true hn
  refine ⟨fun a w hS hM => ?_⟩
  have hw := gh hS hg
  cases hL : az L with
  | true =>
    refine aD (by rw [hw, hL]) hk v (fun _ hM' => hv n a _ hS hM' hL) fun K hK => hK _ _ (h.run _ _ ?_ hM)
    rw [hd]; exact hS.put hdn (by simp [hL])
  | false =>
    refine fy (by rw [hw, hL]) fun K hK => hK _ _ (h.run _ _ ?_ hM)
    rw [hd]; exact hS.put hdn (by simp [hL])
theorem gV (hT : TOK P T) (i : Nat) {t : TypeId} {td : TD} {x y : Operand} {g off : Nat} {B : TypeId} {v : Value} {cs cs' vs : List Value} (h1 : o.op = .store t x y) (hg : o.guard = none) (h2 : ev S x = some ([], .pointer (some ⟨g, off, none⟩))) (h3 : ev S y = some ([], v))
    (hm : dI M i = some (.cl g B cs)) (h4 : dE v = some vs) (h5 : lk t T = some td) (h6 : Nat.beq vs.length td.size = true) (h7 : fj vs = true) (h8 : jv cs off vs = some cs') (h9 : ek M i (.cl g B cs') = some M2) (hd : o.dst = none)
    (hM' : ∀ w, Mem w0 w M2 → Mem w0 w M') (h : ST P l0 Q rest n w0 M' S M2) : ST P l0 Q (o :: rest) n w0 M' S M := by
  refine ⟨fun a w hS hM => ?_⟩
  have hrun : (execOp a.eval o).run P w = .ok .skip (w.setRow g ⟨cs'⟩) := by
    unfold execOp
    simp only [h1, av hS h2 rfl, av hS h3 rfl, Sem.run_bind, fA hT (show Bk w g B ⟨cs⟩ from (hM.2.get hm).2) h4 h5 h6 h7 h8]
    rfl
  have hM2 := hM.setRow hm h9
  refine bK (by unfold Region.wanted; rw [hg]) (by rw [h1]; rfl) (by rw [h1]; rfl) fun K hK => ?_
  unfold Oper.wp
  rw [hrun]
  simp only [Oper.upon]
  refine hK _ _ ⟨hM' _ hM2, h.run _ _ ?_ hM2⟩
  first | exact hS | (rw [hd]; exact hS)
theorem gW {id : Nat} {l : List Oper} (bs : List Bool) (hm : P.follows .mixedOrders = true) (hok : (Af rV l.toArray && Av l.toArray) = true) (h : ST P l Q l n w0 (jI bs M) S M) : SC P (.region id l.toArray true) Q n w0 S M :=
  ⟨fun a _ hS hM => dm (fun w' => Mem w0 w' (jI bs M)) rV hm hok (hM.drew.mask bs rfl) (h.run a _ hS hM.drew)⟩
end
end Go.Proofs.YtklcfjlmlbnkaaaGreatDoor.Y
namespace Go.Proofs.YtklcfjlmlbnkaaaGreatDoor.Y
open Go.RowKit
section
variable {P : Program} {T : eo} {l0 rest : List Oper} {Q : Exit → Act → World → Prop} {n : Nat} {w0 : World} {S : bq} {M M' M2 : List Ent} {o : Oper}
theorem oX (hT : TOK P T) (i : Nat) {t : TypeId} {td : TD} {x y : Operand} {g off cap size k : Nat} {e : TypeId} {v : Value} {xs xs' vs : List Value} (h1 : o.op = .store t x y) (_hg : o.guard = none) (h2 : ev S x = some ([], .pointer (some ⟨g, off, none⟩))) (h3 : ev S y = some ([], v))
    (hm : dI M i = some (.own (some ⟨g, 0, none⟩) cap e size k xs)) (h4 : dE v = some vs) (h5 : lk t T = some td) (h6 : Nat.beq vs.length td.size = true) (h7 : fj vs = true) (h8 : jv xs off vs = some xs') (h9 : ek M i (.own (some ⟨g, 0, none⟩) cap e size k xs') = some M') (_hd : o.dst = none) {a : Act} {w : World} (hS : Sl n a S) (hM : Mem w0 w M) : ∃ w', (execOp a.eval o).run P w = .ok .skip w' ∧ Mem w0 w' M' := by
  have hok : w.ownsRow w0.heap.size e size (.slice (some ⟨g, 0, none⟩) k cap) k xs := hM.2.get hm
  obtain ⟨hlen, hrest⟩ := hok
  rcases hrest with ⟨hv, _⟩ | ⟨g', cap', cur, hv, hB, hgw, hkc, hcm, hcs, htake⟩
  · simp at hv
  obtain ⟨rfl, rfl⟩ : g = g' ∧ cap = cap' := by simp only [Value.slice.injEq, Option.some.injEq, Addr.mk.injEq] at hv; exact ⟨hv.1.1, hv.2.2⟩
  obtain ⟨e8, hl8⟩ := jX h8
  have hkl : k * size ≤ cur.toList.length := by rw [Array.length_toList, hcs]; exact Nat.mul_le_mul_right _ hkc
  have hle : off + vs.length ≤ k * size := by rw [← hlen]; exact hl8
  have hspl := nc cur.toList off vs (Nat.le_trans hle hkl)
  have hrun : (execOp a.eval o).run P w = .ok .skip (w.setRow g ⟨cur.toList.take off ++ vs ++ cur.toList.drop (off + vs.length)⟩) := by
    unfold execOp
    simp only [h1, av hS h2 rfl, av hS h3 rfl, Sem.run_bind, fA hT (show Bk w g e ⟨cur.toList⟩ from hgw) h4 h5 h6 h7 hspl]
    rfl
  have hxs' : xs'.length = k * size := by rw [← hlen, e8]; simp; omega
  refine ⟨_, hrun, hM.set (e' := .own (some ⟨g, 0, none⟩) cap e size k xs') hm h9 J J J (by simp [World.setRow]) (fun q _ hq => setRow_other w g q _ hq) ⟨hxs', .inr ⟨g, cap, _, rfl, hB, setRow_heap w g cur _ e (0, 0) hgw, hkc, hcm, ?_, ?_⟩⟩ (fun _ hk => .inl hk) (fun _ hk => .inl hk)⟩
  · have hle2 : off + vs.length ≤ cur.toList.length := Nat.le_trans hle hkl
    have : (cur.toList.take off ++ vs ++ cur.toList.drop (off + vs.length)).length = cur.toList.length := by rw [List.length_append, List.length_append, List.length_take, List.length_drop]; omega
    simpa [hcs] using this
  · rw [e8, ← htake]
    show (cur.toList.take off ++ vs ++ cur.toList.drop (off + vs.length)).take (k * size) = _
    generalize k * size = m at *
    have hle2 : off + vs.length ≤ cur.toList.length := Nat.le_trans hle hkl
    have h1 : (cur.toList.take off ++ vs).length = off + vs.length := by rw [List.length_append, List.length_take]; omega
    rw [List.take_append, h1, List.take_of_length_le (by rw [h1]; exact hle), List.take_take, Nat.min_eq_left (by omega), List.drop_take]
end
end Go.Proofs.YtklcfjlmlbnkaaaGreatDoor.Y
namespace Go.Proofs.YtklcfjlmlbnkaaaGreatDoor.Y
open Go.RowKit
structure SY (P : Program) (l0 : List Oper) (Z : Act → World → Prop) (l : List Oper) (n : Nat) (w0 : World) (M' : List Ent) (p : World → Prop) (S : bq) (M : List Ent) : Prop where
  run : ∀ a w, Sl n a S → Mem w0 w M → nF P l0.toArray (fun w' => Mem w0 w' M' ∧ p w') rV Z l a w
section
variable {P : Program} {T : eo} {l0 rest : List Oper} {Z : Act → World → Prop} {Q : Exit → Act → World → Prop} {n : Nat} {w0 : World} {S : bq} {M M' M2 : List Ent} {p : World → Prop} {L : Cd} {o : Oper} {d : Nat}
theorem Bi {v : Value} (hg : gd l0 S o.guard = some L) (hk : (rV o.op).pure = true) (hv : ∀ a w, Sl n a S → Mem w0 w M' → p w → az L = true → (execOp a.eval o).run P w = .ok (.value v) w) (hd : o.dst = some d) (hn : Nat.blt d n = true) (h : SY P l0 Z rest n w0 M' p ((d, L, v) :: S) M) : SY P l0 Z (o :: rest) n w0 M' p S M := by
  have hdn : d < n := Nat.le_of_ble_eq_true hn
  refine ⟨fun a w hS hM => ?_⟩
  have hw := gh hS hg
  cases hL : az L with
  | true =>
    refine aD (by rw [hw, hL]) hk v (fun _ hM' => hv a _ hS hM'.1 hM'.2 hL) fun K hK => hK _ _ (h.run _ _ ?_ hM)
    rw [hd]; exact hS.put hdn (by simp [hL])
  | false =>
    refine fy (by rw [hw, hL]) fun K hK => hK _ _ (h.run _ _ ?_ hM)
    rw [hd]; exact hS.put hdn (by simp [hL])
theorem gp {v : Value} (hg : gd l0 S o.guard = some L) (hk : (rV o.op).pure = true) (hv : VO P w0 S M' L o v) (hd : o.dst = some d) (hn : Nat.blt d n = true) (h : SY P l0 Z rest n w0 M' p ((d, L, v) :: S) M) : SY P l0 Z (o :: rest) n w0 M' p S M :=
  Bi hg hk (fun a w hS hM _ hL => hv n a w hS hM hL) hd hn h
theorem rW (hT : TOK P T) {t : TypeId} {x : Operand} {a0 : Addr} {td : TD} {v : Value} {L1 : Cd} (h1 : o.op = .load t x) (hg : gd l0 S o.guard = some L)
    (h2 : ev S x = some (L1, .pointer (some a0))) (h3 : Suf L1 L) (h4 : lk t T = some td) (h5 : td.isOne = true) (hc : ∀ w, p w → w.cell? a0 = some v) (hd : o.dst = some d) (hn : Nat.blt d n = true) (h : SY P l0 Z rest n w0 M' p ((d, L, v) :: S) M) : SY P l0 Z (o :: rest) n w0 M' p S M := by
  refine Bi hg (by rw [h1]; rfl) (fun a w hS _ hp hL => ?_) hd hn h
  have hc' := hc w hp
  obtain ⟨u, i, hu, _, _, _, hr⟩ := iP (hT.get h4) h5
  unfold execOp
  simp only [h1, av hS h2 (h3.holds hL)]
  simp [Instr.loadAt, Instr.sureAddr, loadVar, Sem.run_bind, gA hu, hr, hc']
theorem oY (hT : TOK P T) (i : Nat) {t : TypeId} {td : TD} {x y : Operand} {g off : Nat} {B : TypeId} {v : Value} {cs cs' vs : List Value} (h1 : o.op = .store t x y) (hg : o.guard = none) (h2 : ev S x = some ([], .pointer (some ⟨g, off, none⟩))) (h3 : ev S y = some ([], v))
    (hm : dI M i = some (.cl g B cs)) (h4 : dE v = some vs) (h5 : lk t T = some td) (h6 : Nat.beq vs.length td.size = true) (h7 : fj vs = true) (h8 : jv cs off vs = some cs') (h9 : ek M i (.cl g B cs') = some M2) (hd : o.dst = none)
    (hM' : ∀ w, Mem w0 w M2 → Mem w0 w M' ∧ p w) (h : SY P l0 Z rest n w0 M' p S M2) : SY P l0 Z (o :: rest) n w0 M' p S M := by
  refine ⟨fun a w hS hM => ?_⟩
  have hrun : (execOp a.eval o).run P w = .ok .skip (w.setRow g ⟨cs'⟩) := by
    unfold execOp
    simp only [h1, av hS h2 rfl, av hS h3 rfl, Sem.run_bind, fA hT (show Bk w g B ⟨cs⟩ from (hM.2.get hm).2) h4 h5 h6 h7 h8]
    rfl
  have hM2 := hM.setRow hm h9
  refine bK (by unfold Region.wanted; rw [hg]) (by rw [h1]; rfl) (by rw [h1]; rfl) fun K hK => ?_
  unfold Oper.wp
  rw [hrun]
  simp only [Oper.upon]
  refine hK _ _ ⟨hM' _ hM2, h.run _ _ ?_ hM2⟩
  first | exact hS | (rw [hd]; exact hS)
theorem zd (hT : TOK P T) (i : Nat) {t : TypeId} {td : TD} {x y : Operand} {g off cap size k : Nat} {e : TypeId} {v : Value} {xs xs' vs : List Value} (h1 : o.op = .store t x y) (hg : o.guard = none) (h2 : ev S x = some ([], .pointer (some ⟨g, off, none⟩))) (h3 : ev S y = some ([], v))
    (hm : dI M i = some (.own (some ⟨g, 0, none⟩) cap e size k xs)) (h4 : dE v = some vs) (h5 : lk t T = some td) (h6 : Nat.beq vs.length td.size = true) (h7 : fj vs = true) (h8 : jv xs off vs = some xs') (h9 : ek M i (.own (some ⟨g, 0, none⟩) cap e size k xs') = some M2) (hd : o.dst = none)
    (hM' : ∀ w, Mem w0 w M2 → Mem w0 w M' ∧ p w) (h : SY P l0 Z rest n w0 M' p S M2) : SY P l0 Z (o :: rest) n w0 M' p S M := by
  refine ⟨fun a w hS hM => ?_⟩
  obtain ⟨w', hrun, hM2⟩ := oX hT i h1 hg h2 h3 hm h4 h5 h6 h7 h8 h9 hd hS hM
  refine bK (by unfold Region.wanted; rw [hg]) (by rw [h1]; rfl) (by rw [h1]; rfl) fun K hK => ?_
  unfold Oper.wp
  rw [hrun]
  simp only [Oper.upon]
  refine hK _ _ ⟨hM' _ hM2, h.run _ _ ?_ hM2⟩
  first | exact hS | (rw [hd]; exact hS)
theorem Bj (hT : TOK P T) (i : Nat) {t : TypeId} {td : TD} {x y : Operand} {g off cap size k : Nat} {e : TypeId} {v : Value} {xs xs' vs : List Value} (h1 : o.op = .store t x y) (hg : o.guard = none) (h2 : ev S x = some ([], .pointer (some ⟨g, off, none⟩))) (h3 : ev S y = some ([], v))
    (hm : dI M i = some (.own (some ⟨g, 0, none⟩) cap e size k xs)) (h4 : dE v = some vs) (h5 : lk t T = some td) (h6 : Nat.beq vs.length td.size = true) (h7 : fj vs = true) (h8 : jv xs off vs = some xs') (h9 : ek M i (.own (some ⟨g, 0, none⟩) cap e size k xs') = some M2) (hd : o.dst = none)
    (h : SQ Q .normal n w0 S M2) : SY P l0 (iW P l0.toArray o (Q .normal)) [] n w0 M' p S M := by
  refine ⟨fun a w hS hM => ?_⟩
  obtain ⟨w', hrun, hM2⟩ := oX hT i h1 hg h2 h3 hm h4 h5 h6 h7 h8 h9 hd hS hM
  refine eD (mZ (by unfold Region.wanted; rw [hg]) fun K hK => ?_)
  unfold Oper.wp
  rw [hrun]
  simp only [Oper.upon]
  refine hK _ _ (h.run _ _ ?_ hM2)
  first | exact hS | (rw [hd]; exact hS)
theorem bR {id : Nat} {l l1 : List Oper} {z : Oper} (bs : List Bool) (p : World → Prop) (hm : P.follows .mixedOrders = true) (hok : (Af rV l.toArray && Av l.toArray && DF l.toArray) = true) (hl : l.dropLast = l1) (hz : l.getLast? = some z) (hp : ∀ w, Mem w0 w M → p w)
    (h : SY P l (iW P l.toArray z (Q .normal)) l1 n w0 (jI bs M) p S M) : SC P (.region id l.toArray true) Q n w0 S M :=
  ⟨fun a _ hS hM => tY (fun w' => Mem w0 w' (jI bs M) ∧ p w') rV hm hok hl hz ⟨hM.drew.mask bs rfl, hp _ hM.drew⟩ (h.run a _ hS hM.drew)⟩
end
end Go.Proofs.YtklcfjlmlbnkaaaGreatDoor.Y
namespace Go.Proofs.YtklcfjlmlbnkaaaGreatDoor.Y
open Go.RowKit
theorem yv {a b : Prop} (h : b) (r : b → a := by exact gp J J vv J J) : a := r h
end Go.Proofs.YtklcfjlmlbnkaaaGreatDoor.Y
