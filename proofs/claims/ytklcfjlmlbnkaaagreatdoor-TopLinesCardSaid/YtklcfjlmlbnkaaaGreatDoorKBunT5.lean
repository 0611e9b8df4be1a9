/- Texts of this claim merged into one: KTp4, KTp5. -/
import Derived.Test.YtklcfjlmlbnkaaaGreatDoorKBunC25
import Derived.Test.YtklcfjlmlbnkaaaGreatDoorKBunT3
import Derived.Test.YtklcfjlmlbnkaaaGreatDoorKBunZ
namespace Go.Proofs.YtklcfjlmlbnkaaaGreatDoor.Y
open Go.RowKit
attribute [local irreducible] Calls
set_option maxRecDepth 100000
set_option maxHeartbeats 32000000
structure SP (P : Program) (l0 : List Oper) (Q : Exit → Act → World → Prop) (l : List Oper) (n : Nat) (w0 : World) (S : bq) (M : List Ent) : Prop where
  run : ∀ a w, Sl n a S → Mem w0 w M → nF P l0.toArray (fun w' => Mem w0 w' []) tg (Q .normal) l a w
theorem Mem.bare {w0 w : World} {M : List Ent} (h : Mem w0 w M) : Mem w0 w [] := ⟨h.1, trivial⟩
section
variable {P : Program} {l0 rest : List Oper} {Q : Exit → Act → World → Prop} {n : Nat} {w0 : World} {S : bq} {M : List Ent} {L : Cd} {o : Oper} {d : Nat}
theorem Gm (h : SQ Q .normal n w0 S M) : SP P l0 Q [] n w0 S M := ⟨fun a w hS hM => eD (h.run a w hS hM)⟩
theorem Gn {v : Value} (hg : gd l0 S o.guard = some L) (hk : (tg o.op).pure = true) (hv : VO P w0 S [] L o v) (hd : o.dst = some d) (hn : Nat.blt d n = true) (h : SP P l0 Q rest n w0 ((d, L, v) :: S) M) : SP P l0 Q (o :: rest) n w0 S M := by
  have hdn : d < n := Nat.le_of_ble_eq_true hn
  refine ⟨fun a w hS hM => ?_⟩
  have hw := gh hS hg
  cases hL : az L with
  | true =>
    refine aD (by rw [hw, hL]) hk v (fun _ hM' => hv n a _ hS hM' hL) fun K hK => hK _ _ (h.run _ _ ?_ hM)
    rw [hd]; exact hS.put hdn (by simp [hL])
  | false =>
    refine fy (by rw [hw, hL]) fun K hK => hK _ _ (h.run _ _ ?_ hM)
    rw [hd]; exact hS.put hdn (by simp [hL])
theorem yw {v : Value} (hg : gd l0 S o.guard = some L) (hk : (tg o.op).pure = false) (hk2 : (tg o.op).read = true) (hv : VO P w0 S M L o v) (hd : o.dst = some d) (hn : Nat.blt d n = true) (h : SP P l0 Q rest n w0 ((d, L, v) :: S) M) : SP P l0 Q (o :: rest) n w0 S M := by
  have hdn : d < n := Nat.le_of_ble_eq_true hn
  refine ⟨fun a w hS hM => ?_⟩
  have hw := gh hS hg
  cases hL : az L with
  | true =>
    refine jV (by rw [hw, hL]) hk hk2 v (hv n a _ hS hM hL) fun K hK => hK _ _ (h.run _ _ ?_ hM)
    rw [hd]; exact hS.put hdn (by simp [hL])
  | false =>
    refine fy (by rw [hw, hL]) fun K hK => hK _ _ (h.run _ _ ?_ hM)
    rw [hd]; exact hS.put hdn (by simp [hL])
theorem C2 {σ : Type} {N : σ → List Ent} {S' : σ → bq} (hs : ∀ Q : Exit → Act → World → Prop, (∀ g, SL P l0 Q [] n w0 (S' g) (N g)) → SL P l0 Q [o] n w0 S M) (hg : gd l0 S o.guard = some L) (hL : az L = true) (hk : (tg o.op).pure = false) (hk2 : (tg o.op).read = false) (h : ∀ g, SP P l0 Q rest n w0 (S' g) (N g)) : SP P l0 Q (o :: rest) n w0 S M := by
  refine ⟨fun a w hS hM => ?_⟩
  have hw : Region.wanted o (yielded l0.toArray a.tmps) = true := by rw [gh hS hg, hL]
  refine bK hw hk hk2 fun K hK => ?_
  have h1 := (hs (fun _ a' w' => ∃ g, Sl n a' (S' g) ∧ Mem w0 w' (N g)) (fun g => ⟨fun a w hS hM => ⟨g, hS, hM⟩⟩)).run a w hS hM
  unfold oA at h1
  rw [hw] at h1
  exact Vals.wp rfl h1 (fun v w' ⟨g, hS', hN⟩ => hK _ _ ⟨hN.bare, (h g).run _ _ hS' hN⟩)
theorem xl {id : Nat} {l : List Oper} (hm : P.follows .mixedOrders = true) (hok : (Af tg l.toArray && Av l.toArray) = true) (h : SP P l Q l n w0 S M) : SC P (.region id l.toArray true) Q n w0 S M :=
  ⟨fun a _ hS hM => dm (fun w' => Mem w0 w' []) tg hm hok hM.drew.bare (h.run a _ hS hM.drew)⟩
end
theorem np {a b : Prop} (h : b) (r : b → a := by first | exact Gm | exact Gn J J vv J J | exact yw J J J vv J J) : a := r h
theorem nP {A B : Nat → Prop} (x : Option Addr) (a : List ByteArray) (xc : Nat) (y : Option Addr) (b r : List ByteArray) (yc : Nat) (w : World) (ha : Rws A w 1 sC x a) (hb : Rws B w 1 sC y b) (hp : b = a ++ r) (hz : b.length ≤ 1000000000) : Calls Tryz.prog 7 #[.slice x a.length xc, .slice y b.length yc] w fun e w' => e = .returned (.bool true) ∧ Below w.heap.size w w' := by
  refine aA Tryz.func7 rfl Tryz.ntmps7 J J ?_
  have hle : a.length ≤ b.length := by rw [hp, List.length_append]; omega
  repeat' refine nx ?_
  refine bP (σ := Nat) (fun p => p ≤ a.length) (fun p => [(5, [], .int .i64 ((p : Nat) : Int)), (0, [], .slice x a.length xc), (1, [], .slice y b.length yc)]) (fun _ => []) (fun p => a.length - p) 0 [] (Nat.zero_le _) ⟨J, J, J, trivial⟩ rfl ?_
  intro j hj0
  by_cases hj : j < a.length
  · have hj2 : j < b.length := by omega
    obtain ⟨s, hs⟩ : ∃ s, a[j]? = some s := ⟨a[j], List.getElem?_eq_getElem hj⟩
    have hs2 : b[j]? = some s := by rw [hp, List.getElem?_append_left hj]; exact hs
    obtain ⟨b1, o1, hx1, _, _, hr1⟩ := ha (by omega)
    obtain ⟨b2, o2, hx2, _, _, hr2⟩ := hb (by omega)
    have hca : w.cell? ⟨b1, o1 + j * 1, none⟩ = some (.string s) := hr1 j s hs 0 _ rfl
    have hcb : w.cell? ⟨b2, o2 + j * 1, none⟩ = some (.string s) := hr2 j s hs2 0 _ rfl
    subst hx1 hx2
    repeat' refine nx ?_
    refine aq rfl (decide_eq_true (by omega)) ?_
    repeat' (first | refine vr rfl (ia (m := 1) j hj) ?_ | refine vr rfl (ia (m := 1) j hj2) ?_ | refine vr rfl (dG af (v := .string s) J J J J J (fun _ => hca)) ?_ | refine vr rfl (dG af (v := .string s) J J J J J (fun _ => hcb)) ?_ | refine ny ?_ | refine nx ?_)
    refine ai rfl (by simp; omega) ?_
    repeat' (first | refine vx rfl (bd J J J J J (by omega)) ?_ | refine nx ?_)
    exact aU (j + 1) [] (show j + 1 ≤ a.length by omega) (show a.length - (j + 1) < a.length - j by omega) ⟨J, J, J, trivial⟩ rfl
  · have hjl : j = a.length := by omega
    repeat' refine nx ?_
    refine ai rfl (decide_eq_false (by omega)) ?_
    repeat' refine nx ?_
    (refine rt ?_; refine fun w1 hm => ⟨rfl, hm.below⟩)
def L0 : LV := ⟨yA, none, 0, none, 0⟩
theorem vn_c00 : VN C0 := by
  have h := VN.new (sd := 1) (sz := 16384) (by rw [pM])
  rw [pM] at h
  exact h
def H4 : ByteArray := ⟨#[]⟩
def I4 (v : NV) : List Value := Ao L0 L0 [] none 0 H4 H4 v (qp S0) 0 [] none 0
theorem Gp : lg hd0 := ⟨by decide, by decide, fun _ h => by cases h⟩
theorem Ac (w : World) (hg : MLen w) : Calls Tryz.prog 4 #[] w fun e w' => ∃ v : NV, v.c = CS 0 0 [qs] ∧ e = .returned (.tuple #[.agg ⟨I4 v⟩, .bool true]) ∧ NOk (fun b => w.heap.size ≤ b) w' v ∧ Below w.heap.size w w' := by
  refine aA Tryz.func4 rfl Tryz.ntmps4 J J ?_
  have hz0 : ∀ w, DP (qp C0) ∧ FJ (qp C0) := fun w => ⟨(vn_c00.toVB.szl (by decide)).n (A := fun _ => False) (w := w) (nZ J J J), (vn_c00.toVB.szl (by decide)).g (A := fun _ => False) (w := w) (nZ J J J)⟩
  repeat' (first | (refine al ?_; intro g0) | refine cl (fun w1 hm => Cx w1) ?_ | refine vx rfl (eI af 6 0 J J J J J J J J J J) ?_ | refine vx rfl (eI af 6 1 J J J J J J J J J J) ?_ | refine cl (v := .tuple #[.agg ⟨NC (qp C0)⟩, .int .i64 0]) (fun w1 hm => by have h := uE 1 16384 w1; rw [pM] at h; exact h) ?_ | refine cl (v := .tuple #[.agg ⟨NC (qp S0)⟩, .int .i64 0]) (fun w1 hm => by have h := uE 2 16384 w1; rw [wW] at h; exact h) ?_ | refine nx ?_)
  refine uL (A := fun _ => False) (F0 := fun _ => False) (C := CS 0 0 [qs]) (V := fun v => .tuple #[.agg ⟨NC v⟩, .int .i64 1, .int .i64 0]) (fun _ h => h.elim) (fun w1 hm => (zx (A := fun _ => False) (qp C0) hd0 none 0 3 w1 (nZ J J J) (hz0 w1).1 (hz0 w1).2 (hg.below hm.below) rfl (by decide) (fun h => absurd h (Nat.lt_irrefl _)) Gp (by decide) (by decide)).mono fun e w2 ⟨v', h1, h2, h3⟩ => ⟨v', by rw [h1]; exact congrArg (·.1) sJ, by rw [h2]; show Ending.returned (.tuple #[.agg ⟨NC v'⟩, .int .i64 (cu C0 hd0 3).2.1, .int .i64 (cu C0 hd0 3).2.2]) = _; rw [sJ], h3⟩) ?_
  rintro v F hc hF
  repeat' (first | refine nx ?_)
  refine gW [true, true, false] am (by kernel_rfl) ?_
  repeat' (first | refine zb J J vv J J ?_ | refine gV af 2 J J J J J J J J J J J J (fun w1 hm => hm.mask [true, true, false] rfl) ?_)
  refine oW ?_
  repeat' refine nx ?_
  (refine rt ?_; refine fun w1 hm => ⟨v, hc, rfl, (hm.2.get (i := 0) rfl).2.1.mono fun b h => (hF b h).resolve_left id, hm.below⟩)
end Go.Proofs.YtklcfjlmlbnkaaaGreatDoor.Y
namespace Go.Proofs.YtklcfjlmlbnkaaaGreatDoor.Y
open Go.RowKit
attribute [local irreducible] Calls
set_option maxRecDepth 100000
set_option maxHeartbeats 64000000
theorem Mem.addN {w0 w : World} {M : List Ent} (h : Mem w0 w M) (T : TypeId) (sz : Nat) : Mem w0 w (.own none 0 T sz 0 [] :: M) :=
  ⟨h.1, World.ownsRow_nil _ _ _ _, fun _ _ _ => ⟨fun hm => hm.elim, fun _ hf => hf.elim⟩, h.2⟩
theorem Mem.addR {w0 w : World} {M : List Ent} (h : Mem w0 w M) (p : World → Prop) (hp : ∀ w, p w) : Mem w0 w (.rep (fun _ => False) p :: M) :=
  ⟨h.1, ⟨fun _ h => h.elim, hp w, fun _ w2 _ _ => hp w2⟩, fun _ _ _ => ⟨fun hm => hm.elim, fun _ hf => hf.elim⟩, h.2⟩
section
variable {P : Program} {l0 rest : List Oper} {Q : Exit → Act → World → Prop} {n : Nat} {w0 : World} {S : bq} {M : List Ent} {L : Cd} {o : Oper} {d : Nat}
theorem C3 {σ : Type} {f : FuncId} {args : List Value} (Φ : σ → Prop) (V : σ → Value) (N : σ → List Ent) (hg : gd l0 S o.guard = some L) (hL : az L = true) (ho : dd P S L o f args)
    (hc : ∀ w, Mem w0 w M → Calls P f ⟨args⟩ w fun e w' => ∃ p, Φ p ∧ e = .returned (V p) ∧ Mem w0 w' (N p))
    (hd : o.dst = some d) (hn : Nat.blt d n = true) (hk : (tg o.op).pure = false) (hk2 : (tg o.op).read = false) (h : ∀ p, Φ p → SP P l0 Q rest n w0 ((d, [], V p) :: S) (N p)) : SP P l0 Q (o :: rest) n w0 S M :=
  C2 (σ := { p : σ // Φ p }) (N := fun q => N q.1) (S' := fun q => (d, [], V q.1) :: S) (fun _ h => nD Φ V N hg hL ho hc hd hn fun p hp => h ⟨p, hp⟩) hg hL hk hk2 fun q => h q.1 q.2
theorem Hr {f : FuncId} {args : List Value} {v : Value} (hc : ∀ w, Mem w0 w M → Calls Tryz.prog f ⟨args⟩ w fun e w' => e = .returned v ∧ Below w.heap.size w w') (hg : gd l0 S o.guard = some L) (hL : az L = true) (ho : dd Tryz.prog S L o f args)
    (hd : o.dst = some d) (hn : Nat.blt d n = true) (hk : (tg o.op).pure = false) (hk2 : (tg o.op).read = false) (h : SP Tryz.prog l0 Q rest n w0 ((d, L, v) :: S) M) : SP Tryz.prog l0 Q (o :: rest) n w0 S M :=
  C2 (σ := Unit) (N := fun _ => M) (S' := fun _ => (d, L, v) :: S) (fun _ h => cl hc (h ()) hg ho hd hn) hg hL hk hk2 fun _ => h
end
def Hs (h : Int × Int) : List Value := [.int .i64 h.1, .int .i64 h.2]
theorem EB (h : Int × Int) : (Hs h).length = 2 := rfl
theorem kH {ms : List ByteArray} {A : Nat → Prop} {w0 : World} {M : List Ent} (g : Nat) (x : CX) (f : FX) (kk n : Int) (ma : Option Addr) (mc : Nat) (w : World) (hg : MLen w0) (hR : Rws A w0 1 sC ma ms) (hM : Mem w0 w (XM g x f M)) (hm : fM ms) (h : Hop ms (cZ x)) (hag : xj (cZ x)) (hfl : (cZ x).fly.length ≤ 900000) :
    Calls Tryz.prog 6 #[.pointer (some ⟨g, 0, none⟩), .agg #[.int .i64 kk, .int .i64 n], .slice ma ms.length mc] w fun e w' => ∃ r : CX × FX, cZ r.1 = cq ms kk n (cZ x) ∧ e = .returned (.bool true) ∧ Mem w0 w' (XM g r.1 r.2 M) := by
  obtain ⟨cs, a, k, sf, gf, t, ou, h⟩ := h
  exact EA g x f kk n ma mc w hg hR hM hm h hag hfl
theorem Ht {A : Nat → Prop} {w : World} : LOk A w L0 := ⟨⟨dw, Nat.le_refl _, fun _ => rfl⟩, ⟨dw, Nat.le_refl _, fun _ => rfl⟩⟩
def Hu (a : Option Addr) (c : Nat) : Option Addr := if c = 0 then a else a.map (·.add (0 * 1))
theorem Gq {A : Nat → Prop} {w : World} {a : Option Addr} {l : List ByteArray} (c n : Nat) (h : Rws A w 1 sC a l) : Rws A w 1 sC (Hu a c) (l.take n) := by
  have e : Hu a c = a := by
    unfold Hu
    split
    · rfl
    · cases a with
      | none => rfl
      | some q => show some (q.add 0) = some q; unfold Addr.add; cases q with | mk b o s => cases s <;> rfl
  rw [e]
  exact h.take fun j y hy => (by rw [List.getElem?_take] at hy; split at hy; exact hy; cases hy)
structure Hv where
  j : Nat
  x : CX
  f : FX
structure DlI (ms : List ByteArray) (y0 : iN) (q : Hv) : Prop where
  i : ∃ cs a k sf gf t, HopI ms cs a k sf gf t [] (cZ q.x) ∧ vC (cZ q.x) ∧ ∀ i, a ≤ i → i < cs.length → Ae k (cZ q.x).e1 i ∨ gJ cs i ∈ (cZ q.x).fly
  g : xj (cZ q.x)
  n : (cZ q.x).fly.length = q.j
  b : q.j ≤ 300000
  e : jo ms y0.fly.length y0 = jo ms q.j (cZ q.x)
theorem DlI.next {ms : List ByteArray} (hm : fM ms) {y0 : iN} {j : Nat} {x x2 : CX} {f f2 : FX} (h : DlI ms y0 ⟨j + 1, x, f⟩) (hx : cZ x2 = cq ms 1 0 (cZ x)) : DlI ms y0 ⟨j, x2, f2⟩ := by
  obtain ⟨cs, a, k, sf, gf, t, h1, h2, h3⟩ := h.i
  have hn := h.n
  have hb := h.b
  have he := h.e
  dsimp only at hn hb he h1 h2 h3
  cases hf : (cZ x).fly with
  | nil => rw [hf] at hn; cases hn
  | cons p r =>
    obtain ⟨k', gf', g1, g2, g3, g4, g5, g6⟩ := yo hm h1 h2 hf h3
    rw [← hx] at g1 g2 g3 g6
    rw [hf, List.length_cons] at hn
    refine ⟨⟨cs, a, k', sf, gf', t, g1, g2, g6⟩, ?_, ?_, ?_, ?_⟩
    · show xj (cZ x2)
      rw [hx]
      exact pY ms 1 0 h.g
    · show (cZ x2).fly.length = j
      rw [g3]; omega
    · show j ≤ 300000
      omega
    · show _ = jo ms j (cZ x2)
      rw [he, hx]
      rfl
theorem DlI.hop {ms : List ByteArray} {y0 : iN} {q : Hv} (h : DlI ms y0 q) : Hop ms (cZ q.x) := by
  obtain ⟨cs, a, k, sf, gf, t, h1, _⟩ := h.i
  exact ⟨cs, a, k, sf, gf, t, [], h1⟩
theorem RndI.hop {ms : List ByteArray} {r : Nat} {x : iN} (h : RndI ms r x) : Hop ms x := by
  obtain ⟨cs, a, k, sf, gf, t, ou, h1, _⟩ := h.i
  exact ⟨cs, a, k, sf, gf, t, ou, h1⟩
theorem Hop.next {ms : List ByteArray} (hm : fM ms) {x : iN} (h : Hop ms x) (kk n : Int) : Hop ms (cq ms kk n x) ∧ (cq ms kk n x).fly.length ≤ x.fly.length + 2000 := by
  obtain ⟨cs, a, k, sf, gf, t, ou, h1⟩ := h
  obtain ⟨cs', a', k', sf', gf', t', h2, _, h3⟩ := Hl hm h1 kk n
  exact ⟨⟨_, _, _, _, _, _, _, h2⟩, h3⟩
theorem EC {A B : Nat → Prop} (ma : Option Addr) (ms : List ByteArray) (mc : Nat) (ha : Option Addr) (hs : List (Int × Int)) (hc : Nat) (w : World) (hg : MLen w) (hR : Rws A w 1 sC ma ms) (hH : Rws B w 2 Hs ha hs) (hcap : ms.length ≤ mc) :
    Calls Tryz.prog 3 #[.slice ma ms.length mc, .slice ha hs.length hc] w fun e w' => e = .returned (.bool true) ∧ Below w.heap.size w w' := by
  refine aA Tryz.func3 rfl Tryz.ntmps3 J J ?_
  repeat' refine nx ?_
  refine uL (A := fun _ => True) (F0 := fun _ => False) (C := CS 0 0 [qs]) (V := fun v => .tuple #[.agg ⟨I4 v⟩, .bool true]) (fun _ h => h.elim) (fun w1 hm => (Ac w1 (hg.below hm.below)).mono fun e w2 ⟨v, h1, h2, h3, h4⟩ => ⟨v, h1, h2, h3.mono fun _ => .inr, h4⟩) ?_ (ap J J J J trivial rfl (by kernel_rfl))
  rintro v F hv -
  repeat' (first | (refine al ?_; intro g5) | refine cl (v := .int .i64 1) (fun w1 hm => ie ⟨#[]⟩ w1) ?_ | refine nx ?_)
  refine ai J J ?_
  repeat' refine nx ?_
  by_cases hbig : 5 < ms.length ∨ 40 < hs.length
  · refine aq rfl (by simp only [Bool.or_eq_true, decide_eq_true_eq]; omega) ?_
    repeat' refine nx ?_
    (refine rt ?_; refine fun w1 hm => ⟨rfl, hm.below⟩)
  refine ai rfl (by simp only [Bool.or_eq_false_iff, decide_eq_false_iff_not]; omega) ?_
  repeat' refine nx ?_
  obtain ⟨f0, hf0⟩ : ∃ f : FX, f = ⟨fun _ => False, fun _ => False, F, fun _ => False⟩ := ⟨_, rfl⟩
  obtain ⟨x0, hx0⟩ : ∃ x : CX, x = ⟨L0, L0, [], none, 0, H4, H4, v, qp S0, 0, [], none, 0⟩ := ⟨_, rfl⟩
  refine kO (M' := XM g5 x0 f0 []) (fun w1 hM => ?_) ?_
  · subst hx0 hf0
    exact (((((((hM.addR (fun w => NOk (fun _ => False) w (qp S0)) fun w => nZ J J J).pull 2 rfl).addR (fun w => LOk (fun _ => False) w L0) fun _ => Ht).addR (fun w => LOk (fun _ => False) w L0) fun _ => Ht).addN 9 1).addN 58 3).pull 6 rfl)
  have hca : cZ x0 = I3 := by subst hx0; unfold cZ; dsimp only; rw [hv]; rfl
  clear hx0 hf0
  refine bP (σ := Nat) (fun j => j ≤ ms.length ∧ ∀ m ∈ ms.take j, m.size ≤ 100) (fun j => [(7, [], .int .i64 ((j : Nat) : Int)), (5, [], .pointer (some ⟨g5, 0, none⟩)), (0, [], .slice ma ms.length mc), (1, [], .slice ha hs.length hc)]) (fun _ => XM g5 x0 f0 []) (fun j => ms.length - j) 0 [] ⟨Nat.zero_le _, fun _ h => by cases h⟩ ⟨J, J, J, J, trivial⟩ rfl ?_
  rintro j ⟨hj0, hsm⟩
  by_cases hj : j < ms.length
  · obtain ⟨b, off, hx, hh⟩ := iz hR (show 0 < ms.length by omega)
    have hmq : ms[j]? = some ms[j] := List.getElem?_eq_getElem hj
    have hcell : w.cell? ⟨b, off + j * 1, none⟩ = some (.string ms[j]) := hh w hR j _ hmq 0 _ rfl
    subst hx
    repeat' refine nx ?_
    refine aq rfl (decide_eq_true (by omega)) ?_
    repeat' (first | refine vx rfl (ia (m := 1) j hj) ?_ | refine vx rfl (dG af (v := .string ms[j]) J J J J J (fun _ => hcell)) ?_ | refine nx ?_)
    by_cases hz : 100 < ms[j].size
    · refine aq rfl (decide_eq_true (by omega)) ?_
      repeat' refine nx ?_
      (refine rt ?_; refine fun w1 hm => ⟨rfl, hm.below⟩)
    · refine ai rfl (decide_eq_false (by omega)) ?_
      repeat' (first | refine vx rfl (bd J J J J J (by omega)) ?_ | refine nx ?_)
      exact aU (j + 1) [] ⟨hj, fun m hm => by
        rw [List.take_add_one, hmq] at hm
        rcases List.mem_append.1 hm with hm | hm
        · exact hsm m hm
        · rw [List.mem_singleton.1 hm]; omega⟩ (show ms.length - (j + 1) < ms.length - j by omega) ⟨J, J, J, J, trivial⟩ rfl
  have hjl : j = ms.length := by omega
  subst hjl
  rw [List.take_length] at hsm
  have hmm : fM ms := ⟨by omega, hsm⟩
  clear hsm
  repeat' refine nx ?_
  refine ai rfl (decide_eq_false (by omega)) ?_
  repeat' refine nx ?_
  refine bP (σ := Hv) (fun s => s.j ≤ hs.length ∧ Hop ms (cZ s.x) ∧ xj (cZ s.x) ∧ (cZ s.x).fly.length ≤ 2000 * s.j) (fun s => [(8, [], .int .i64 ((s.j : Nat) : Int)), (5, [], .pointer (some ⟨g5, 0, none⟩)), (0, [], .slice ma ms.length mc), (1, [], .slice ha hs.length hc)]) (fun s => XM g5 s.x s.f []) (fun s => hs.length - s.j) ⟨0, x0, f0⟩ [] ⟨Nat.zero_le _, by rw [hca]; exact ⟨_, _, _, _, _, _, _, zV ms⟩, by rw [hca]; exact ⟨by decide, by decide⟩, by rw [hca]; exact Nat.le_refl _⟩ ⟨J, J, J, J, trivial⟩ rfl ?_
  rintro ⟨j, x, f⟩ ⟨hj0, hhp, hag, hfl⟩
  dsimp only at hj0 hhp hag hfl ⊢
  by_cases hj : j < hs.length
  · obtain ⟨b, off, hx, hh⟩ := iz hH (show 0 < hs.length by omega)
    have hrow : w.rangeAt b (off + j * 2) (Hs hs[j]) := hh w hH j _ (List.getElem?_eq_getElem hj)
    subst hx
    repeat' refine nx ?_
    refine aq rfl (decide_eq_true (by omega)) ?_
    repeat' refine nx ?_
    refine xl am (by kernel_rfl) ?_
    repeat' (first | refine Gn J J (ia (m := 2) j hj) J J ?_ | refine yw J J J (Fd hrow) J J ?_ | refine np ?_)
    refine C3 (σ := CX × FX) (fun p => cZ p.1 = cq ms hs[j].1 hs[j].2 (cZ x)) (fun _ => .bool true) (fun p => XM g5 p.1 p.2 []) J J (ap J J J J ⟨J, J, J, trivial⟩ rfl (by kernel_rfl)) (fun w1 hM => kH g5 x f hs[j].1 hs[j].2 ma mc w1 hg hR hM hmm hhp hag (by omega)) J J J J ?_
    rintro ⟨x2, f2⟩ hx2
    dsimp only at hx2 ⊢
    obtain ⟨hh2, hl2⟩ := hhp.next hmm hs[j].1 hs[j].2
    have hg2 := pY ms hs[j].1 hs[j].2 hag
    rw [← hx2] at hh2 hl2 hg2
    clear hx2
    have hbg : (cZ x2).nx ≤ ms.length ∧ ∃ r, (cZ x2).got ++ r = ms.take (cZ x2).nx := by
      obtain ⟨cs, a, k, sf, gf, t, ou, h1⟩ := hh2
      exact ⟨h1.nx, h1.begins⟩
    have hkeep : Hop ms (cZ x2) ∧ xj (cZ x2) ∧ (cZ x2).fly.length ≤ 2000 * (j + 1) := ⟨hh2, hg2, by omega⟩
    obtain ⟨e0, e1, fly, fa, fc, qu, re, kl, sv, nn, got, ga, gc⟩ := x2
    obtain ⟨hnx, r, hgr⟩ := hbg
    dsimp only [cZ] at hnx hgr
    have htk : (ms.take nn).length = nn := by rw [List.length_take]; omega
    repeat' (first | refine Gn J J (iY (v := .slice (Hu ma mc) nn mc) (cA af 0 nn J J J J J J J J J J J (Nat.zero_le _) (by omega)) (by rw [Nat.sub_zero, Nat.sub_zero]; rfl)) J J ?_ | refine np ?_)
    refine Hr (v := .bool true) (fun w1 hM => by
      have h9 := nP (A := fun b => w.heap.size ≤ b) ga got gc (Hu ma mc) (ms.take nn) r mc w1 (Rws.own eb (hM.2.get (i := 2) rfl)) ((Gq mc nn hR).below hM.below) hgr.symm (by omega)
      rw [htk] at h9
      exact h9) J J (ap J J J J ⟨J, J, trivial⟩ rfl (by kernel_rfl)) J J J J ?_
    repeat' refine np ?_
    repeat' refine nx ?_
    refine ai J J ?_
    repeat' (first | refine vx rfl (bd J J J J J (by omega)) ?_ | refine nx ?_)
    exact aU ⟨j + 1, ⟨e0, e1, fly, fa, fc, qu, re, kl, sv, nn, got, ga, gc⟩, f2⟩ [] ⟨hj, hkeep⟩ (show hs.length - (j + 1) < hs.length - j by omega) ⟨J, J, J, J, trivial⟩ rfl
  have hjl : j = hs.length := by omega
  clear hj
  subst hjl
  repeat' refine nx ?_
  refine ai rfl (decide_eq_false (by omega)) ?_
  repeat' refine nx ?_
  refine bP (σ := Hv) (fun s => s.j ≤ 90 ∧ RndI ms s.j (cZ s.x) ∧ xj (cZ s.x)) (fun s => [(9, [], .int .i64 ((s.j : Nat) : Int)), (5, [], .pointer (some ⟨g5, 0, none⟩)), (0, [], .slice ma ms.length mc)]) (fun s => XM g5 s.x s.f []) (fun s => 90 - s.j) ⟨0, x, f⟩ [] ⟨Nat.zero_le _, RndI.of hhp (show (cZ x).fly.length ≤ 200000 by omega), hag⟩ ⟨J, J, J, trivial⟩ rfl ?_
  clear hhp hag hfl
  rintro ⟨j, x, f⟩ ⟨hj0, hrd, hag⟩
  dsimp only at hj0 hrd hag ⊢
  by_cases hj : j < 90
  · repeat' refine nx ?_
    refine aq rfl (decide_eq_true (by omega)) ?_
    repeat' refine nx ?_
    obtain ⟨y1, hy1⟩ : ∃ y, cq ms 0 0 (cZ x) = y := ⟨_, rfl⟩
    obtain ⟨hh1, hl1⟩ := hrd.hop.next hmm 0 0
    have hg1 := pY ms 0 0 hag
    have hf0 := hrd.f
    refine bj (σ := CX × FX) (fun p => cZ p.1 = cq ms 0 0 (cZ x)) (fun _ => .bool true) (fun p => XM g5 p.1 p.2 []) rfl (ap J J J J ⟨J, J, J, trivial⟩ rfl (by kernel_rfl)) (fun w1 hM => kH g5 x f 0 0 ma mc w1 hg hR hM hmm hrd.hop hag (by omega)) J J ?_
    rintro ⟨x1, f1⟩ hx1
    dsimp only at hx1 ⊢
    rw [← hx1] at hh1 hl1 hg1
    repeat' refine nx ?_
    refine nD (σ := CX × FX) (fun p => cZ p.1 = cq ms 4 0 (cZ x1)) (fun _ => .bool true) (fun p => XM g5 p.1 p.2 []) J J (ap J J J J ⟨J, J, J, trivial⟩ rfl (by kernel_rfl)) (fun w1 hM => kH g5 x1 f1 4 0 ma mc w1 hg hR hM hmm hh1 hg1 (by omega)) J J ?_
    rintro ⟨x2, f2⟩ hx2
    dsimp only at hx2 ⊢
    repeat' refine nx ?_
    refine ai J J ?_
    have hd2 : DlI ms (cZ x2) ⟨(cZ x2).fly.length, x2, f2⟩ := by
      obtain ⟨cs, a, k, sf, gf, t, ou, h1, _⟩ := hrd.i
      obtain ⟨cs', sf', t', h2, h3, _, _⟩ := yq hmm h1
      rw [← hx1] at h2 h3
      obtain ⟨h4, h5, _⟩ := sQ h2 h3
      have h6 := yp h2 h3
      have h7 := (hh1.next hmm 4 0).2
      rw [← hx2] at h4 h5 h6 h7
      exact ⟨⟨_, _, _, _, _, _, h4, h5, h6⟩, by rw [hx2]; exact pY ms 4 0 hg1, rfl, by dsimp only; omega, rfl⟩
    have hr2 : nw ms (cZ x) = cq ms 5 0 (jo ms (cZ x2).fly.length (cZ x2)) := by rw [hx2, hx1]; rfl
    have hrn := hrd.next hmm
    rw [hr2] at hrn
    repeat' refine nx ?_
    refine bP (σ := Hv) (fun s => DlI ms (cZ x2) s) (fun _ => [(9, [], .int .i64 ((j : Nat) : Int)), (5, [], .pointer (some ⟨g5, 0, none⟩)), (0, [], .slice ma ms.length mc)]) (fun s => XM g5 s.x s.f []) (fun s => s.j) ⟨(cZ x2).fly.length, x2, f2⟩ [] hd2 ⟨J, J, J, trivial⟩ rfl ?_
    rintro ⟨i, x3, f3⟩ hd3
    have hn3 := hd3.n
    have hb3 := hd3.b
    dsimp only at hn3 hb3 ⊢
    by_cases hi : 0 < i
    · obtain ⟨i, rfl⟩ : ∃ k, i = k + 1 := ⟨i - 1, by omega⟩
      repeat' refine nx ?_
      refine aq rfl (decide_eq_true (by have h9 : x3.fly.length = i + 1 := hn3; omega)) ?_
      repeat' refine nx ?_
      refine bj (σ := CX × FX) (fun p => cZ p.1 = cq ms 1 0 (cZ x3)) (fun _ => .bool true) (fun p => XM g5 p.1 p.2 []) rfl (ap J J J J ⟨J, J, J, trivial⟩ rfl (by kernel_rfl)) (fun w1 hM => kH g5 x3 f3 1 0 ma mc w1 hg hR hM hmm hd3.hop hd3.g (by rw [hn3]; omega)) J J ?_
      rintro ⟨x4, f4⟩ hx4
      dsimp only at hx4 ⊢
      repeat' refine nx ?_
      refine ai J J ?_
      repeat' refine nx ?_
      exact aU ⟨i, x4, f4⟩ [] (hd3.next hmm hx4) (Nat.lt_succ_self i) ⟨J, J, J, trivial⟩ rfl
    · have hi0 : i = 0 := by omega
      subst hi0
      have he3 : jo ms (cZ x2).fly.length (cZ x2) = cZ x3 := hd3.e
      rw [he3] at hrn
      repeat' refine nx ?_
      refine ai rfl (decide_eq_false (by have h9 : x3.fly.length = 0 := hn3; omega)) ?_
      repeat' refine nx ?_
      refine bj (σ := CX × FX) (fun p => cZ p.1 = cq ms 5 0 (cZ x3)) (fun _ => .bool true) (fun p => XM g5 p.1 p.2 []) rfl (ap J J J J ⟨J, J, J, trivial⟩ rfl (by kernel_rfl)) (fun w1 hM => kH g5 x3 f3 5 0 ma mc w1 hg hR hM hmm hd3.hop hd3.g (by rw [hn3]; omega)) J J ?_
      rintro ⟨x4, f4⟩ hx4
      dsimp only at hx4 ⊢
      rw [← hx4] at hrn
      have hg4 := pY ms 5 0 hd3.g
      rw [← hx4] at hg4
      repeat' refine nx ?_
      refine ai J J ?_
      repeat' (first | refine vx rfl (bd J J J J J (by omega)) ?_ | refine nx ?_)
      exact aU ⟨j + 1, x4, f4⟩ [] ⟨hj, hrn, hg4⟩ (show 90 - (j + 1) < 90 - j by omega) ⟨J, J, J, trivial⟩ rfl
  · have hjl : j = 90 := by omega
    subst hjl
    obtain ⟨hgot, hqu⟩ := hrd.e (by decide)
    obtain ⟨e0, e1, fly, fa, fc, qu, re, kl, sv, nn, got, ga, gc⟩ := x
    dsimp only [cZ] at hgot hqu
    subst hgot
    repeat' refine nx ?_
    refine ai J J ?_
    repeat' (first | refine vx rfl (eI af 6 0 J J J J J J J J J J) ?_ | refine cl (v := .bool true) (fun w1 hM => nP (A := fun b => w.heap.size ≤ b) ga got gc ma got [] mc w1 (Rws.own eb (hM.2.get (i := 2) rfl)) (hR.below hM.below) (List.append_nil _).symm (by omega)) ?_ | refine cl (v := .bool true) (fun w1 hM => by have h9 := zT (A := f.f0) e0 w1 (hM.2.get (i := 3) rfl).2.1; rw [hqu] at h9; exact h9) ?_ | refine nx ?_)
    (refine rt ?_; refine fun w1 hm => ⟨?_, hm.below⟩)
    simp
end Go.Proofs.YtklcfjlmlbnkaaaGreatDoor.Y
