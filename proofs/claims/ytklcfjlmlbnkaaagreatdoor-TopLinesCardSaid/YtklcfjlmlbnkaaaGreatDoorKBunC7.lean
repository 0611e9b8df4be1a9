/- Texts of this claim merged into one: KCn7, KCn8, KMapD, KCn5. -/
import Derived.Test.YtklcfjlmlbnkaaaGreatDoorKBunT
import Derived.Test.YtklcfjlmlbnkaaaGreatDoorKBunC2
namespace Go.Proofs.YtklcfjlmlbnkaaaGreatDoor.Y
open Go.RowKit
def OutN (A : Nat → Prop) (w w' : World) (v' : NV) : Prop := NOk (fun b => A b ∨ w.heap.size ≤ b) w' v' ∧ Below w.heap.size w w'
theorem OutN.same {A : Nat → Prop} {w w' : World} {v : NV} (h : NOk A w v) (hb : Below w.heap.size w w') : OutN A w w' v := ⟨(h.below hb).mono fun _ => .inl, hb⟩
theorem OutN.made {A : Nat → Prop} {w w' : World} {v : NV} (h : Mem w w' (EN v)) (he : v.c.ks = v.kv.map (·.k)) : OutN A w w' v := ⟨(NOk.own h.2 he).mono fun _ => .inr, h.below⟩
def qp (c : NL) : NV := ⟨c, none, 0, [], none, 0, none, 0⟩
theorem nZ {A : Nat → Prop} {w : World} {c : NL} (h1 : c.ks = []) (h2 : c.ou = []) (h3 : c.pg = []) : NOk A w (qp c) := ⟨dw, by show Rws A w 4 fC none c.ou; rw [h2]; exact dw, by show Rws A w 1 iC none c.pg; rw [h3]; exact dw, h1, fun _ hu => by cases hu⟩
theorem BD {id : Int} : ∀ {l : List KR} {k i : Nat}, dj id l k = some i → k ≤ i ∧ ∃ q, l[i - k]? = some q ∧ q.st.id = id
  | [], k, i, h => by cases h
  | a :: l, k, i, h => by
    unfold dj at h
    split at h
    · obtain rfl := (by simpa using h : k = i)
      exact ⟨Nat.le_refl _, a, by simp, by assumption⟩
    · obtain ⟨h1, q, h2, h3⟩ := BD h
      refine ⟨by omega, q, ?_, h3⟩
      rw [show i - k = i - (k + 1) + 1 by omega]; simpa using h2
theorem od {id : Int} {l : List KR} {i : Nat} (h : dj id l 0 = some i) : ∃ q, l[i]? = some q ∧ q.st.id = id := by
  obtain ⟨_, q, h2, h3⟩ := BD h
  exact ⟨q, h2, h3⟩
theorem BE {c : NL} {kv : List KV} {i : Nat} {u : KV} (hq : c.ks = kv.map (·.k)) (h : kv[i]? = some u) : mK c i = u.k := by
  unfold mK
  rw [hq, List.getElem?_map, h]; rfl
theorem BF {l1 l2 : List KV} (h : l1.map (·.k) = l2.map (·.k)) {i : Nat} {u : KV} (hu : l2[i]? = some u) : ∃ u1, l1[i]? = some u1 ∧ u1.k = u.k := by
  have h1 := congrArg (fun l => l[i]?) h
  simp only [List.getElem?_map, hu, Option.map_some] at h1
  cases hh : l1[i]? with
  | none => rw [hh] at h1; cases h1
  | some u1 => rw [hh] at h1; exact ⟨u1, rfl, by simpa using h1⟩
theorem pu {l1 l2 : List KV} (h : l1.map (·.k) = l2.map (·.k)) : l1.length = l2.length := by
  have := congrArg List.length h
  simpa using this
attribute [local irreducible] Calls
theorem BG {A : Nat → Prop} (v : NV) (id : Int) (o : Option Nat) (w : World) (hN : NOk A w v) (hzk : v.kv.length ≤ 606626243774) (h : dj id v.c.ks 0 = o) : Calls Tryz.prog 52 #[.agg ⟨NC v⟩, .int .i64 id] w fun e w' => e = .returned (.int .i64 (GU o)) ∧ Below w.heap.size w w' := by subst h; exact DX v id w hN hzk
theorem GX (n : Int) (r : ui) (h : jT n = r) (w : World) : Calls Tryz.prog 18 #[.int .i64 n] w fun e w' => e = .returned (.tuple #[.agg #[.int .i64 r.win.size, .int .i64 r.win.left, .int .i64 r.win.held], .int .i64 r.err]) ∧ Below w.heap.size w w' := by
  subst h
  exact uC n w
set_option maxRecDepth 100000 in
set_option maxHeartbeats 8000000 in
theorem uE (sd sz : Int) (w : World) : Calls Tryz.prog 10 #[.int .i64 sd, .int .i64 sz] w fun e w' => e = .returned (.tuple #[.agg ⟨NC (qp (jN sd sz).1)⟩, .int .i64 (jN sd sz).2]) ∧ Below w.heap.size w w' := by
  refine aA Tryz.func10 rfl Tryz.ntmps10 J J ?_
  obtain ⟨r, hr⟩ : ∃ r, jT sz = r := ⟨_, rfl⟩
  repeat' (first | refine cl (fun w hm => GX sz r hr w) ?_ | (refine al ?_; intro g) | refine nx ?_)
  by_cases h : (sd ≠ 1 ∧ sd ≠ 2) ∨ r.err ≠ 0
  · have hc : jN sd sz = (IQ, 1) := by unfold jN; rw [hr, if_pos h]
    rw [hc]
    refine aq rfl (by simpa using h) ?_
    repeat' refine nx ?_
    (refine rt ?_; refine fun w1 hm => ⟨rfl, hm.below⟩)
  · have hc : jN sd sz = (⟨sd, 1, 0, 0, sz, r.win, r.win, [], [], [], false⟩, 0) := by unfold jN; rw [hr, if_neg h]
    rw [hc]
    refine ai rfl (by
      cases hb : (((sd != 1) && (sd != 2)) || (r.err != 0)) with
      | false => rfl
      | true => exact absurd (by simpa using hb) h) ?_
    repeat' refine nx ?_
    (refine rt ?_; refine fun w1 hm => ⟨rfl, hm.below⟩)
set_option maxRecDepth 100000 in
set_option maxHeartbeats 8000000 in
theorem wG {A : Nat → Prop} (v : NV) (w : World) (hN : NOk A w v) (hz : DP v) : Calls Tryz.prog 35 #[.agg ⟨NC v⟩] w fun e w' => ∃ v' : NV, ∃ p : Option Addr × Nat, v'.c = (gX v.c).1 ∧ e = .returned (.tuple #[.agg ⟨NC v'⟩, .slice p.1 v.c.ou.length p.2]) ∧ OutN A w w' v' ∧ Rws (fun b => w.heap.size ≤ b) w' 4 fC p.1 v.c.ou := by
  refine aA Tryz.func35 rfl Tryz.ntmps35 J J ?_
  repeat' (first | (refine bx ?_; intro g1) | (refine al ?_; intro g) | refine nx ?_)
  refine cQ (σ := NV) (fun s => s.c = v.c ∧ s.kv.map (·.k) = v.kv.map (·.k)) (fun s => .agg ⟨NC s⟩) (fun s => EN s) rfl (ap J J J J ⟨J, trivial⟩ rfl (by kernel_rfl)) (fun w1 hm => jg v w1 (hN.below hm.below) hz) J J ?_
  rintro ⟨c1, x1, xc1, kv1, o1, oc1, p1, pc1⟩ ⟨hc1, hk1⟩
  dsimp only at hc1 hk1
  subst hc1
  dsimp only [EN, List.cons_append, List.nil_append]
  refine cR (fun w h => h.perm (Bg [_, _, _] (kv1.flatMap EK) [_, _])) ?_
  dsimp only [List.cons_append, List.nil_append]
  repeat' (first | (refine al ?_; intro g4) | refine nx ?_)
  (refine rt ?_; refine fun w1 hm => ⟨⟨{ v.c with ou := [] }, x1, xc1, kv1, none, 0, p1, pc1⟩, (o1, oc1), rfl, rfl, ⟨?_, hm.below⟩, Rws.own ej (hm.2.get (i := 2) rfl)⟩)
  have hE : MemL w.heap.size w1 (kv1.flatMap EK) := (hm.mask [false, false, false, false, false, false] rfl).2
  have h1 := hm.2.get (i := 1) rfl
  have h3 := hm.2.get (i := 3) rfl
  exact ⟨(Rws.own aK h3).mono fun _ => .inr, dw, (Rws.own fR h1).mono fun _ => .inr, by rw [hN.eq]; exact hk1.symm, fun u hu => (KOk.own (qU hE hu)).mono fun _ => .inr⟩
end Go.Proofs.YtklcfjlmlbnkaaaGreatDoor.Y
namespace Go.Proofs.YtklcfjlmlbnkaaaGreatDoor.Y
open Go.RowKit
structure FJ (v : NV) : Prop where
  tx : ∀ u ∈ v.kv, u.k.st.text.size ≤ 4611686018427387900
  fr : ∀ u ∈ v.kv, ∀ f ∈ u.k.ob, f.data.size < 4294967281
  ob : ∀ u ∈ v.kv, u.k.ob.length ≤ 1000000000
  ou : v.c.ou.length ≤ 1000000000
theorem kZ {α : Type} {l : List α} {i : Nat} {x y : α} (hi : i < l.length) (h : x ∈ l.set i y) : x = y ∨ x ∈ l.eraseIdx i := by
  rw [za hi] at h
  rw [List.eraseIdx_eq_take_drop_succ]
  rcases List.mem_append.1 h with h | h
  · exact .inr (List.mem_append_left _ h)
  · rcases List.mem_cons.1 h with h | h
    · exact .inl h
    · exact .inr (List.mem_append_right _ h)
theorem sD {u : KV} : ∀ {l : List KV} {k : Nat}, l[k]? = some u → (l.flatMap EK).Perm (EK u ++ (l.eraseIdx k).flatMap EK)
  | a :: l, 0, h => by
    obtain rfl := (by simpa using h : a = u)
    rw [List.flatMap_cons]
    exact List.Perm.refl _
  | a :: l, k + 1, h => by
    have h1 : l[k]? = some u := by simpa using h
    rw [List.flatMap_cons, List.eraseIdx_cons_succ, List.flatMap_cons]
    exact (List.Perm.append_left _ (sD h1)).trans (by rw [← List.append_assoc, ← List.append_assoc]; exact List.Perm.append_right _ List.perm_append_comm)
theorem BH {u : KV} {l : List KV} {k : Nat} (E : List Ent) (h : l[k]? = some u) : (E ++ l.flatMap EK).Perm (EK u ++ (E ++ (l.eraseIdx k).flatMap EK)) :=
  (List.Perm.append_left E (sD h)).trans (by rw [← List.append_assoc, ← List.append_assoc]; exact List.Perm.append_right _ List.perm_append_comm)
theorem Mem.toRep {α : Type} {w0 w : World} {M : List Ent} {a : Option Addr} {cap sz : Nat} {T : TypeId} {f : α → List Value} {l : List α} (hf : ∀ x, (f x).length = sz) (h : Mem w0 w (.own a cap T sz l.length (l.flatMap f) :: M)) : Mem w0 w (.rep (fun b => ∃ ad, a = some ad ∧ b = ad.block) (fun w => Rws (fun b => ∃ ad, a = some ad ∧ b = ad.block) w sz f a l) :: M) := by
  have hmt : ∀ k, (∃ ad, a = some ad ∧ k = ad.block) → (Ent.own a cap T sz l.length (l.flatMap f)).mut k := fun k ⟨ad, h1, h2⟩ => by subst h1; exact h2
  refine ⟨h.1, ⟨⟨fun k hk => (Ent.ok.mut_lt h.2.1 (hmt k hk)).2, Bh hf h.2.1, fun w1 w2 hk hp => hp.agree hk⟩, fun x hx k => ?_, h.2.2.2⟩⟩
  have h1 := h.2.2.1 x hx k
  exact ⟨fun hm => hm.elim, fun hm hk => h1.2 hm (Ent.mut_foot (hmt k hk))⟩
theorem Mem.toRep1 {α : Type} {w0 w : World} {M : List Ent} {a : Option Addr} {cap sz n : Nat} {T : TypeId} {f : α → List Value} {xs : List Value} (l : List α) (hf : ∀ x, (f x).length = sz) (h1 : n = l.length) (h2 : xs = l.flatMap f) (h : Mem w0 w (.own a cap T sz n xs :: M)) : Mem w0 w (.rep (fun b => ∃ ad, a = some ad ∧ b = ad.block) (fun w => Rws (fun b => ∃ ad, a = some ad ∧ b = ad.block) w sz f a l) :: M) := by
  subst h1
  subst h2
  exact h.toRep hf
theorem DY {c : NL} {i : Nat} {g : KR → KR} {k : KR} (hi : i < c.ks.length) (hk : g (mK c i) = k) {r : HJ} (hr : jO k.ob k.st c.sw c.ou = r) : gu (eZ c i g) i = { c with sw := r.w, ks := c.ks.set i { k with st := r.st, ob := r.ob }, ou := r.ou } := by
  have h1 : mK (eZ c i g) i = k := by
    rw [← hk]
    unfold eZ
    unfold mK
    simp [hi]
  unfold gu wq
  rw [h1]
  unfold eZ at h1 ⊢
  dsimp only
  rw [h1, List.set_set, hr]
theorem Id {A : Nat → Prop} (v : KV) (r : C9) (h : dF v.k.ob v.k.st = r) (w : World) (hO : Rws A w 4 fC v.o v.k.ob) (hzo : v.k.ob.length ≤ 3518437208883) (htx : v.k.st.text.size ≤ 4611686018427387900) (hfd : ∀ f ∈ v.k.ob, f.data.size < 4294967281) (hg : MLen w) : Calls Tryz.prog 53 #[.agg #[.int .i64 v.k.st.id, .int .i64 v.k.st.side, .int .i64 v.k.st.shape, .int .i64 v.k.st.sent, .int .i64 v.k.st.got, .bool v.k.st.se, .bool v.k.st.ge, .bool v.k.st.done, .int .i64 v.k.st.code, .string v.k.st.text, .int .i64 v.k.st.snd.size, .int .i64 v.k.st.snd.left, .int .i64 v.k.st.snd.held, .int .i64 v.k.st.rcv.size, .int .i64 v.k.st.rcv.left, .int .i64 v.k.st.rcv.held, .string v.k.sv, .string v.k.mt, .int .i64 v.k.lt, .slice v.m v.k.ms.length v.mc, .slice v.i v.k.ib.length v.ic, .slice v.o v.k.ob.length v.oc]] w fun e w' => e = .returned (.tuple #[.agg ⟨tC r.st⟩, .int .i64 r.err]) ∧ Below w.heap.size w w' := by
  subst h
  exact BB v w hO hzo htx hfd hg
theorem xV : ∀ (l : List FrV) (s : StV), s.text.size ≤ 4611686018427387900 → (∀ f ∈ l, f.data.size < 4294967281) → (dF l s).st.text.size ≤ 4611686018427387900
  | [], s, h, _ => h
  | f :: l, s, h, hf => by
    rw [dF]
    split
    · exact h
    · exact xV l _ (pq h (hf f (List.mem_cons_self ..))) (fun x hx => hf x (List.mem_cons_of_mem _ hx))
attribute [local irreducible] Calls
set_option maxRecDepth 100000 in
set_option maxHeartbeats 8000000 in
theorem BI (msg : ByteArray) (sz : Int) (g5 g3 : Nat) (w : World) (h5 : w.cell? ⟨g5, 0, none⟩ = some (.string msg)) (h3 : w.cell? ⟨g3, 0 + 4, none⟩ = some (.int .i64 sz)) : Calls Tryz.prog 26 #[.pointer (some ⟨g5, 0, none⟩), .pointer (some ⟨g3, 0, none⟩)] w fun e w' => e = .returned (.int .i64 (if 16384 < msg.size ∨ sz < au msg then 3 else 0)) ∧ Below w.heap.size w w' := by
  refine aA Tryz.func26 rfl Tryz.ntmps26 J J ?_
  repeat' (first | refine vx rfl (dG af (v := .string msg) J J J J J (fun _ => h5)) ?_ | refine vx rfl (dG af (v := .int .i64 sz) J J J J J (fun _ => h3)) ?_ | refine aL am rfl (by kernel_rfl) ?_ | refine bW ?_ | ((refine' di rfl ?_ J J J ?_); rotate_left; first | exact dG af (v := .string msg) J J J J J (fun _ => h5) | exact dG af (v := .int .i64 sz) J J J J J (fun _ => h3) | exact aI af J J J J | exact bw af J J J J J J | exact ew J J J J J | exact fi af J J J J J J J) | refine bm rfl (ap J J J J ⟨J, trivial⟩ rfl (by kernel_rfl)) rfl (fun w hm => ie msg w) J J ?_ | refine nx ?_)
  by_cases h : 16384 < msg.size ∨ sz < au msg
  · rw [if_pos h]
    refine aq rfl (by simp only [Bool.or_eq_true, decide_eq_true_eq]; omega) ?_
    repeat' refine nx ?_
    (refine rt ?_; refine fun w hm => ⟨?_, hm.below⟩)
    rfl
  · rw [if_neg h]
    refine ai rfl (by simp only [Bool.or_eq_false_iff, decide_eq_false_iff_not]; omega) ?_
    repeat' refine nx ?_
    (refine rt ?_; refine fun w hm => ⟨?_, hm.below⟩)
    rfl
theorem GY (msg : ByteArray) (sz ck : Int) (g5 g3 : Nat) (h : (if 16384 < msg.size ∨ sz < au msg then 3 else 0) = ck) (w : World) (h5 : w.cell? ⟨g5, 0, none⟩ = some (.string msg)) (h3 : w.cell? ⟨g3, 0 + 4, none⟩ = some (.int .i64 sz)) : Calls Tryz.prog 26 #[.pointer (some ⟨g5, 0, none⟩), .pointer (some ⟨g3, 0, none⟩)] w fun e w' => e = .returned (.int .i64 ck) ∧ Below w.heap.size w w' := by
  subst h
  exact BI msg sz g5 g3 w h5 h3
set_option maxRecDepth 100000 in
set_option maxHeartbeats 32000000 in
theorem wH {A : Nat → Prop} (v : NV) (f : FrV) (ck : Int) (msg : ByteArray) (gm gn : Nat) (w : World) (hN : NOk A w v) (hz : DP v) (hgd : FJ v) (hfd0 : ck = 0 → f.data.size < 4294967281) (hg : MLen w) (h5 : w.cell? ⟨gm, 0, none⟩ = some (.string msg)) (h3 : w.cell? ⟨gn, 0 + 4, none⟩ = some (.int .i64 v.c.sz)) (hck0 : (if 16384 < msg.size ∨ v.c.sz < au msg then 3 else 0) = ck) : Calls Tryz.prog 25 #[.agg #[.int .i64 v.c.sd, .int .i64 v.c.nx, .int .i64 v.c.la, .int .i64 v.c.aw, .int .i64 v.c.sz, .int .i64 v.c.sw.size, .int .i64 v.c.sw.left, .int .i64 v.c.sw.held, .int .i64 v.c.rw.size, .int .i64 v.c.rw.left, .int .i64 v.c.rw.held, .slice v.x v.kv.length v.xc, .slice v.o v.c.ou.length v.oc, .slice v.p v.c.pg.length v.pc, .bool v.c.cl], .agg #[.int .i64 f.kind, .int .i64 f.strm, .int .i64 f.num, .string f.data], .func (.func 26) #[] #[.pointer (some ⟨gm, 0, none⟩), .pointer (some ⟨gn, 0, none⟩)]] w fun e w' => ∃ v' : NV, v'.c = (eP v.c f ck).1 ∧ e = .returned (.tuple #[.agg ⟨NC v'⟩, .int .i64 (eP v.c f ck).2]) ∧ OutN A w w' v' := by
  refine aA Tryz.func25 rfl Tryz.ntmps25 J J ?_
  have hzk := hz.ks
  obtain ⟨o, ho⟩ : ∃ o, dj f.strm v.c.ks 0 = o := ⟨_, rfl⟩
  repeat' (first | (refine bx ?_; intro g3) | (refine al ?_; intro g6) | refine cl (fun w hm => BG v f.strm o w (hN.below hm.below) (by omega) ho) ?_ | refine nx ?_)
  cases o with
  | none =>
    have hwl : eP v.c f ck = (v.c, 10) := by unfold eP mw; rw [ho]; rfl
    refine aq J J ?_
    repeat' refine nx ?_
    (refine rt ?_; refine fun w1 hm => ⟨v, ?_, ?_, OutN.same hN hm.below⟩)
    · rw [hwl]
    · rw [hwl]; rfl
  | some i =>
    obtain ⟨q, hq, _⟩ := od ho
    obtain ⟨u, hu, huk⟩ : ∃ u, v.kv[i]? = some u ∧ u.k = q := by rw [hN.eq, List.getElem?_map] at hq; simpa using hq
    have hat := BE hN.eq hu
    have hum := List.mem_of_getElem? hu
    have hi : i < v.kv.length := (List.getElem?_eq_some_iff.1 hu).1
    obtain ⟨bb, off, hx, _, _, hrows⟩ := hN.ks (by omega)
    have hrow : w.rangeAt bb (off + i * 22) (KC u) := hrows i u hu
    obtain ⟨hk1, hk2, hk3⟩ := hN.ok u hum
    obtain ⟨hs1, hs2, hs3⟩ := hz.ok u hum
    have htx := hgd.tx u hum
    have hfr := hgd.fr u hum
    obtain ⟨r, hr⟩ : ∃ r, dF u.k.ob u.k.st = r := ⟨_, rfl⟩
    have hrt : r.st.text.size ≤ 4611686018427387900 := by rw [← hr]; exact xV _ _ htx hfr
    obtain ⟨r2, hr2⟩ : ∃ r2, bh r.st f = r2 := ⟨_, rfl⟩
    have hwe : mw v.c f ck = if ck ≠ 0 then ck else if r.err ≠ 0 then r.err else r2.err := by unfold mw; rw [ho]; dsimp only; rw [hat, hr, hr2]
    refine ai rfl (show decide (((i : Nat) : Int) < 0) = false from decide_eq_false (by omega)) ?_
    repeat' (first | refine cl (fun w hm => GY msg v.c.sz ck gm gn hck0 w ((hm.below.cell (block_lt_of_cell h5)).trans h5) ((hm.below.cell (block_lt_of_cell h3)).trans h3)) ?_ | refine nx ?_)
    by_cases hck : ck = 0
    rotate_left
    · have hwl : eP v.c f ck = (v.c, ck) := by unfold eP; rw [hwe, if_pos hck, if_pos hck]
      refine aq rfl (by simpa using hck) ?_
      repeat' refine nx ?_
      (refine rt ?_; refine fun w1 hm => ⟨v, ?_, ?_, OutN.same hN hm.below⟩)
      · rw [hwl]
      · rw [hwl]; rfl
    have hfd := hfd0 hck
    refine ai rfl (by simpa using hck) ?_
    rw [if_neg (by simpa using hck)] at hwe
    rw [hx]
    repeat' (first | refine vx rfl (ia (m := 22) i hi) ?_ | refine vx rfl (Fd (cs := KC u) hrow) ?_ | (refine al ?_; intro g10) | refine cl (fun w hm => Id u r hr w (hk3.below hm.below) hs3 htx hfr (hg.below hm.below)) ?_ | refine nx ?_)
    by_cases he1 : r.err = 0
    rotate_left
    · have hwl : eP v.c f ck = (v.c, r.err) := by unfold eP; rw [hwe, if_pos he1, if_pos he1]
      refine aq rfl (by simpa using he1) ?_
      rw [← hx]
      repeat' refine nx ?_
      (refine rt ?_; refine fun w1 hm => ⟨v, ?_, ?_, OutN.same hN hm.below⟩)
      · rw [hwl]
      · rw [hwl]; rfl
    refine ai rfl (by simpa using he1) ?_
    rw [if_neg (by simpa using he1)] at hwe
    repeat' (first | (refine al ?_; intro g12) | refine cl (fun w hm => xU r.st f r2 hr2 w hrt hfd (hg.below hm.below)) ?_ | refine nx ?_)
    by_cases he2 : r2.err = 0
    rotate_left
    · have hwl : eP v.c f ck = (v.c, r2.err) := by unfold eP; rw [hwe, if_pos he2]
      refine aq rfl (by simpa using he2) ?_
      rw [← hx]
      repeat' refine nx ?_
      (refine rt ?_; refine fun w1 hm => ⟨v, ?_, ?_, OutN.same hN hm.below⟩)
      · rw [hwl]
      · rw [hwl]; rfl
    refine ai rfl (by simpa using he2) ?_
    have hwl : eP v.c f ck = (gu (eZ v.c i (fun k => { k with ob := k.ob ++ [f] })) i, 0) := by unfold eP; rw [hwe, if_neg (by simpa using he2), ho]; rfl
    rw [hwl]
    rw [← hx]
    repeat' refine nx ?_
    refine cQ (σ := NV) (fun s => s.c = v.c ∧ s.kv.map (·.k) = v.kv.map (·.k)) (fun s => .agg ⟨NC s⟩) (fun s => EN s) rfl (ap J J J J ⟨J, trivial⟩ rfl (by kernel_rfl)) (fun w1 hm => jg v w1 (hN.below hm.below) hz) J J ?_
    rintro ⟨c1, x1, xc1, kv1, o1, oc1, p1, pc1⟩ ⟨hc1, hkm⟩
    dsimp only at hc1 hkm
    subst hc1
    dsimp only [EN, List.cons_append, List.nil_append]
    obtain ⟨u1, hu1, hu1k⟩ := BF hkm hu
    have hi1 : i < kv1.length := (List.getElem?_eq_some_iff.1 hu1).1
    have hob : u1.k.ob.length ≤ 1000000000 := by rw [hu1k]; exact hgd.ob u hum
    have hou := hgd.ou
    refine cR (fun w h => h.perm (Bg [_, _, _] (kv1.flatMap EK) [_, _, _, _, _])) ?_
    refine cR (fun w h => h.perm (BH ([_, _, _] ++ [_, _, _, _, _]) hu1)) ?_
    dsimp only [EK, List.cons_append, List.nil_append]
    refine oV 5 rfl (by omega) ?_
    rintro gx rfl
    repeat' (first | refine vx rfl (ia (m := 22) i hi1) ?_ | (refine al ?_; intro g14) | refine nx ?_)
    refine cY 7 am rfl (by kernel_rfl) ?_
    iterate 6 (((refine' di rfl ?_ J J J ?_); rotate_left; first | exact bM af 6 (v := .slice u1.o u1.k.ob.length u1.oc) J J J J J J (fun _ => by rw [Nat.zero_add]; exact aJ aK hu1 (k := 21) rfl) | exact aI af J J J J | exact ab af 10 J J J J J))
    refine dV af J J J ⟨J, trivial⟩ J J J J J J J J ?_
    refine bC ?_
    intro s1
    refine bA af 3 0 J J J J J J J J J (fun _ _ => rfl) lw J J (by unfold maxLen; omega) (by omega) J J ?_
    intro sa sc
    repeat' refine cV ?_
    refine cF af 7 J J J J J J J J J (show jv _ (0 + i * 22 + 21) _ = _ from by rw [Nat.zero_add]; exact cy aK (kv1) i 21 (u1) ({ u1 with k := { u1.k with ob := u1.k.ob ++ [f] }, o := sa, oc := sc }) _ hu1 (by rw [show u1.k.ob.length + 1 = (u1.k.ob ++ [f]).length by simp]; rfl)) J J ?_
    repeat' refine nx ?_
    have htx2 : ({ u1 with k := { u1.k with ob := u1.k.ob ++ [f] }, o := sa, oc := sc } : KV).k.st.text.size ≤ 4611686018427387900 := by show u1.k.st.text.size ≤ _; rw [hu1k]; exact htx
    have hfr2 : ∀ x ∈ ({ u1 with k := { u1.k with ob := u1.k.ob ++ [f] }, o := sa, oc := sc } : KV).k.ob, x.data.size < 4294967281 := fun x hx => by
      rcases List.mem_append.1 hx with hx | hx
      · exact hfr x (by rw [← hu1k]; exact hx)
      · obtain rfl := List.mem_singleton.1 hx
        exact hfd
    have hk2 : (kv1.set i { u1 with k := { u1.k with ob := u1.k.ob ++ [f] }, o := sa, oc := sc })[i]? = some { u1 with k := { u1.k with ob := u1.k.ob ++ [f] }, o := sa, oc := sc } := dH hu1 _
    refine iy (p := u1.k.ob.length + 1 ≤ sc ∧ ∀ ad, sa = some ad → w.heap.size ≤ ad.block) (fun w h => ⟨gl (h.2.get (i := 3) rfl), fun ad had => (Ent.ok.mut_lt (h.2.get (i := 3) rfl) (k := ad.block) (by subst had; rfl)).1⟩) (fun hcp2 => ?_)
    obtain ⟨hcap2, hnew⟩ := hcp2
    refine cR (fun w h => (((Mem.toRep1 (u1.k.ob ++ [f]) ej (by simp) (by simp [fC]) ((h.mask [false, true, true, true, true, true, true, true, false, false, true, false, false] rfl).perm (List.perm_middle (l₁ := [_, _])))).perm (List.perm_middle (l₁ := [_]))).perm (List.perm_middle (l₁ := [_, _, _, _, _, _]))).perm (List.perm_middle (l₁ := [_, _, _, _, _, _]))) ?_
    dsimp only [List.cons_append, List.nil_append]
    refine bj (σ := Value × lz) (fun s => Gv v.c { u1 with k := { u1.k with ob := u1.k.ob ++ [f] }, o := sa, oc := sc } s.2 ∧ jO (u1.k.ob ++ [f]) u1.k.st v.c.sw v.c.ou = ⟨s.2.st, s.2.w, s.2.r, s.2.ou⟩) (fun s => s.1) (fun s => _) rfl (ap J J J J ⟨J, J, trivial⟩ rfl (by kernel_rfl)) (fun w1 hM => (pt _ gx xc1 o1 oc1 p1 pc1 v.c (kv1.set i { u1 with k := { u1.k with ob := u1.k.ob ++ [f] }, o := sa, oc := sc }) kv1.length i { u1 with k := { u1.k with ob := u1.k.ob ++ [f] }, o := sa, oc := sc } hk2 _ w1 htx2 hfr2 (by show (u1.k.ob ++ [f]).length ≤ sc; simp; exact hcap2) (by show v.c.ou.length + (u1.k.ob ++ [f]).length ≤ _; simp; omega) (hM.2.get (i := 3) rfl).2.1 hg hM).mono fun e w' ⟨s, h1, h2, h3⟩ => ⟨s, h1, h2, h3⟩) J J ?_
    rintro ⟨rv, s⟩ ⟨hI, hsol⟩
    dsimp only at hI hsol ⊢
    have hC : gu (eZ v.c i (fun k => { k with ob := k.ob ++ [f] })) i = { v.c with sw := s.w, ks := v.c.ks.set i (uS { u1 with k := { u1.k with ob := u1.k.ob ++ [f] }, o := sa, oc := sc } s).k, ou := s.ou } := by
      have h9 := DY (c := v.c) (i := i) (g := fun k => { k with ob := k.ob ++ [f] }) (k := ({ u1 with k := { u1.k with ob := u1.k.ob ++ [f] }, o := sa, oc := sc } : KV).k) (by rw [hN.lenk]; exact hi) (by rw [hat, ← hu1k]) hsol
      exact h9
    rw [hC]
    repeat' refine nx ?_
    (refine rt ?_; refine fun w1 hm => ⟨⟨{ v.c with sw := s.w, ks := v.c.ks.set i (uS { u1 with k := { u1.k with ob := u1.k.ob ++ [f] }, o := sa, oc := sc } s).k, ou := s.ou }, some ⟨gx, 0, none⟩, xc1, (kv1.set i { u1 with k := { u1.k with ob := u1.k.ob ++ [f] }, o := sa, oc := sc }).set i (uS { u1 with k := { u1.k with ob := u1.k.ob ++ [f] }, o := sa, oc := sc } s), s.o, s.oc, p1, pc1⟩, rfl, ?_, ⟨?_, hm.below⟩⟩)
    · unfold NC
      simp only [List.length_set]
    · have hg1 := hm.2.get (i := 1) rfl
      rw [show kv1.length = ((kv1.set i { u1 with k := { u1.k with ob := u1.k.ob ++ [f] }, o := sa, oc := sc }).set i (uS { u1 with k := { u1.k with ob := u1.k.ob ++ [f] }, o := sa, oc := sc } s)).length by simp] at hg1
      have hR : MemL w.heap.size w1 ((kv1.eraseIdx i).flatMap EK) := (hm.mask [false, false, false, false, false, false, false, false] rfl).2
      have hrep := (hm.2.get (i := 3) rfl).2.1
      refine ⟨(Rws.own aK hg1).mono fun _ => .inr, (Rws.own ej (hm.2.get (i := 0) rfl)).mono fun _ => .inr, (Rws.own fR (hm.2.get (i := 6) rfl)).mono fun _ => .inr, ?_, fun x hx => ?_⟩
      · rw [List.set_set, List.map_set, hkm, hN.eq]
      · rw [List.set_set] at hx
        rcases kZ hi1 hx with rfl | hx
        · refine ⟨(Rws.own iK (hm.2.get (i := 4) rfl)).mono fun _ => .inr, (Rws.own eb (hm.2.get (i := 5) rfl)).mono fun _ => .inr, fun h0 => ?_⟩
          obtain ⟨b, off1, j, e1, e2, e3⟩ := hI.at_ h0
          obtain ⟨b', off', e4, _, e6, e7⟩ := hrep (by simp)
          have e1' : sa = some ⟨b, off1, none⟩ := e1
          rw [e1'] at e4
          obtain ⟨rfl, rfl⟩ := (by simpa using e4 : b = b' ∧ off1 = off')
          refine ⟨b, off1 + j * 4, e2, .inr (hnew _ e1'), e6, fun n y hy => ?_⟩
          have hy' : (({ u1 with k := { u1.k with ob := u1.k.ob ++ [f] }, o := sa, oc := sc } : KV).k.ob.drop j)[n]? = some y := by rw [← e3]; exact hy
          rw [List.getElem?_drop] at hy'
          have h8 := e7 (j + n) y hy'
          rw [show off1 + j * 4 + n * 4 = off1 + (j + n) * 4 by omega]
          exact h8
        · exact (KOk.own (qU hR hx)).mono fun _ => .inr
end Go.Proofs.YtklcfjlmlbnkaaaGreatDoor.Y
namespace Go.Proofs.YtklcfjlmlbnkaaaGreatDoor.Y
open Go.RowKit
section
variable {P : Program} {l0 rest : List Oper} {Q : Exit → Act → World → Prop} {n : Nat} {w0 : World} {S : bq} {M M' : List Ent} {o : Oper} {d : Nat}
theorem zr (i : Nat) {t kt et : TypeId} {x y z : Operand} {g clock : Nat} {es : Array MapEntry} {a : Int} {v v0 : Value} {k : Nat} (h1 : (∃ p, p = (t, x, y, z) ∧ (o.op = .mapUpdate t x y z ∨ o.op = .insert t x y z))) (hg : o.guard = none)
    (h2 : ev S x = some ([], .map (some g))) (h4 : ev S y = some ([], .int .i64 a)) (h5 : ev S z = some ([], v)) (hi : dI M i = some (.obj g (.map es clock))) (hu : P.underlying t = some (.map kt et)) (hk : P.underlying kt = some (.int .i64))
    (hf : Instr.findNow (.int .i64) (.int .i64 a) es.toList 0 = some (some (k, v0))) (hkey : ((es[k]?).map (·.key)).getD (.int .i64 a) = .int .i64 a) (h9 : ek M i (.obj g (.map (es.modify k fun e => { e with key := .int .i64 a, val := v }) clock)) = some M') (hd : o.dst = none) (h : SL P l0 Q rest n w0 S M') : SL P l0 Q (o :: rest) n w0 S M := by
  refine ci (L := []) (by rw [hg]; rfl) (fun hL w1 w hS hM => ?_) (fun hL => by cases hL)
  have hgo := (hM.2.get hi).2
  have hlts := gN hgo
  let w' : World := { w with heap := w.heap.setIfInBounds g (.map (es.modify k fun e => { e with key := .int .i64 a, val := v }) clock) }
  have hck : (Instr.checkKey false 10000 kt (.int .i64 a)).run P w = .ok () w := by
    unfold Instr.checkKey
    rw [Sem.run_bind, run_underlying hk]
    rfl
  have hfk : (Instr.findKey kt (.int .i64 a) es.toList).run P w = .ok (some (k, v0)) w := by simp [Instr.findKey, Sem.run_bind, run_underlying hk, hf]
  have hgo' : (getObj g).run P w = .ok (.map es clock) w := by simp [getObj, Sem.run, hgo]
  have hso : (setObj g (.map (es.modify k fun e => { e with key := .int .i64 a, val := v }) clock)).run P w = .ok () w' := by simp [setObj, Sem.run, hgo, w']
  have hks : (Instr.keyThatStays (.int .i64 a) (.int .i64 a)).run P w = .ok (.int .i64 a) w := by
    unfold Instr.keyThatStays
    rw [show Instr.sameBits 10000 (.int .i64 a) (.int .i64 a) = true by simp [Instr.sameBits]]
    rfl
  have hmu : (Instr.mapUpdate t (.map (some g)) (.int .i64 a) v).run P w = .ok () w' := by
    simp [Instr.mapUpdate, Sem.run_bind, run_underlying hu, hgo', hck, hfk, hkey, hks, hso]
  have hrun : (execOp w1.eval o).run P w = .ok .skip w' := by
    obtain ⟨_, _, h1 | h1⟩ := h1
    · unfold execOp
      simp only [h1, av hS h2 rfl, av hS h4 rfl, av hS h5 rfl, Sem.run_bind, hmu]; rfl
    · unfold execOp
      simp only [h1, av hS h2 rfl, av hS h4 rfl, av hS h5 rfl, Sem.run_bind, hmu]; rfl
  unfold Vals
  rw [hrun]
  refine h.run _ _ ?_ (hM.setObj (w' := w') hi h9 J J J (by simp [w']) (fun k hk => by simp [w', Ne.symm hk]) (by simp [w', hlts]))
  rw [hd]; exact hS
theorem zs (i : Nat) {t kt et kt' : TypeId} {x y : Operand} {g clock : Nat} {es : Array MapEntry} {a : Int} {v0 : Value} {k : Nat} (h1 : o.op = .call ⟨.builtin .delete, #[x, y], #[t, kt']⟩) (hg : o.guard = none)
    (h2 : ev S x = some ([], .map (some g))) (h4 : ev S y = some ([], .int .i64 a)) (hi : dI M i = some (.obj g (.map es clock))) (hu : P.underlying t = some (.map kt et)) (hk : P.underlying kt = some (.int .i64))
    (hf : Instr.findNow (.int .i64) (.int .i64 a) es.toList 0 = some (some (k, v0))) (h9 : ek M i (.obj g (.map (es.eraseIdxIfInBounds k) clock)) = some M') (hd : o.dst = none) (h : SL P l0 Q rest n w0 S M') : SL P l0 Q (o :: rest) n w0 S M := by
  refine ci (L := []) (by rw [hg]; rfl) (fun hL w1 w hS hM => ?_) (fun hL => by cases hL)
  have hgo := (hM.2.get hi).2
  have hlts := gN hgo
  let w' : World := { w with heap := w.heap.setIfInBounds g (.map (es.eraseIdxIfInBounds k) clock) }
  have hck : ∀ b, (Instr.checkKey b 10000 kt (.int .i64 a)).run P w = .ok () w := by
    intro b
    unfold Instr.checkKey
    rw [Sem.run_bind, run_underlying hk]
    rfl
  have hfk : (Instr.findKey kt (.int .i64 a) es.toList).run P w = .ok (some (k, v0)) w := by simp [Instr.findKey, Sem.run_bind, run_underlying hk, hf]
  have hgo' : (getObj g).run P w = .ok (.map es clock) w := by simp [getObj, Sem.run, hgo]
  have hso : (setObj g (.map (es.eraseIdxIfInBounds k) clock)).run P w = .ok () w' := by simp [setObj, Sem.run, hgo, w']
  have hrun : (execOp w1.eval o).run P w = .ok (.value (.tuple #[])) w' := by
    unfold execOp
    simp [h1, resolve, invoke, builtin, Builtin.delete_, av hS h2 rfl, av hS h4 rfl, Sem.run_bind, run_underlying hu, hgo', hck, hfk, hso]
  refine aX hrun (h.run _ _ ?_ (hM.setObj (w' := w') hi h9 J J J (by simp [w']) (fun k hk => by simp [w', Ne.symm hk]) (by simp [w', hlts])))
  rw [hd]; exact hS
theorem wI (i : Nat) {t kt et kt' : TypeId} {x y : Operand} {g clock : Nat} {es : Array MapEntry} {a : Int} (h1 : o.op = .call ⟨.builtin .delete, #[x, y], #[t, kt']⟩) (hg : o.guard = none)
    (h2 : ev S x = some ([], .map (some g))) (h4 : ev S y = some ([], .int .i64 a)) (hi : dI M i = some (.obj g (.map es clock))) (hu : P.underlying t = some (.map kt et)) (hk : P.underlying kt = some (.int .i64))
    (hf : Instr.findNow (.int .i64) (.int .i64 a) es.toList 0 = some none) (h9 : ek M i (.obj g (.map es clock)) = some M') (hd : o.dst = none) (h : SL P l0 Q rest n w0 S M') : SL P l0 Q (o :: rest) n w0 S M := by
  refine ci (L := []) (by rw [hg]; rfl) (fun hL w1 w hS hM => ?_) (fun hL => by cases hL)
  have hgo := (hM.2.get hi).2
  have hlts := gN hgo
  let w' : World := { w with heap := w.heap.setIfInBounds g (.map es clock) }
  have hck : ∀ b, (Instr.checkKey b 10000 kt (.int .i64 a)).run P w = .ok () w := by
    intro b
    unfold Instr.checkKey
    rw [Sem.run_bind, run_underlying hk]
    rfl
  have hfk : (Instr.findKey kt (.int .i64 a) es.toList).run P w = .ok none w := by simp [Instr.findKey, Sem.run_bind, run_underlying hk, hf]
  have hgo' : (getObj g).run P w = .ok (.map es clock) w := by simp [getObj, Sem.run, hgo]
  have hso : (setObj g (.map es clock)).run P w = .ok () w' := by simp [setObj, Sem.run, hgo, w']
  have hrun : (execOp w1.eval o).run P w = .ok (.value (.tuple #[])) w' := by
    unfold execOp
    simp [h1, resolve, invoke, builtin, Builtin.delete_, av hS h2 rfl, av hS h4 rfl, Sem.run_bind, run_underlying hu, hgo', hck, hfk, hso]
  refine aX hrun (h.run _ _ ?_ (hM.setObj (w' := w') hi h9 J J J (by simp [w']) (fun k hk => by simp [w', Ne.symm hk]) (by simp [w', hlts])))
  rw [hd]; exact hS
end
theorem xW {P : Program} {w0 : World} {S : bq} {M : List Ent} {L L1 : Cd} {o : Oper} (i : Nat) {t kt et : TypeId} {x : Operand} {g clock : Nat} {es : Array MapEntry} (h1 : o.op = .call ⟨.builtin .len, #[x], #[t]⟩)
    (h2 : ev S x = some (L1, .map (some g))) (h3 : Suf L1 L) (hi : dI M i = some (.obj g (.map es clock))) (hu : P.underlying t = some (.map kt et)) : VO P w0 S M L o (.int .i64 ((es.size : Nat) : Int)) := by
  intro n a w hS hM hL
  have hgo := (hM.2.get hi).2
  have hgo' : (getObj g).run P w = .ok (.map es clock) w := by simp [getObj, Sem.run, hgo]
  unfold execOp
  simp [h1, resolve, invoke, builtin, Builtin.len_, av hS h2 (h3.holds hL), Sem.run_bind, run_underlying hu, hgo', goInt]
end Go.Proofs.YtklcfjlmlbnkaaaGreatDoor.Y
namespace Go.Proofs.YtklcfjlmlbnkaaaGreatDoor.Y
open Go.RowKit
def zt (F : List Int) (a : Int) : List Int := if a ∈ F then F else F ++ [a]
def qq (l : List KR) : List Int := l.foldl (fun F k => zt F k.st.id) []
def lN (F : List Int) (l : List KR) : List Int := l.foldl (fun F k => if k.st.done = true then F.erase k.st.id else F) F
def sE (l : List KR) : Nat := (lN (qq l) l).length
theorem zu {l : List KR} {j : Nat} {k : KR} (h : l[j]? = some k) : qq (l.take (j + 1)) = zt (qq (l.take j)) k.st.id := by unfold qq; rw [gD h, List.foldl_append]; rfl
theorem zv {F : List Int} {l : List KR} {j : Nat} {k : KR} (h : l[j]? = some k) : lN F (l.take (j + 1)) = if k.st.done = true then (lN F (l.take j)).erase k.st.id else lN F (l.take j) := by unfold lN; rw [gD h, List.foldl_append]; rfl
def AM (es : Array MapEntry) (F : List Int) : Prop := es.toList.map (fun e => (e.key, e.val)) = F.map (fun a => (Value.int .i64 a, Value.bool true))
theorem ri (a : Int) : ∀ (es : List MapEntry) (F : List Int) (k : Nat), es.map (fun e => (e.key, e.val)) = F.map (fun a => (Value.int .i64 a, Value.bool true)) → Instr.findNow (.int .i64) (.int .i64 a) es k = some (if a ∈ F then some (k + F.idxOf a, Value.bool true) else none)
  | [], [], _, _ => by simp [Instr.findNow]
  | [], _ :: _, _, h => by cases h
  | _ :: _, [], _, h => by cases h
  | e :: es, b :: F, k, h => by
    simp only [List.map_cons, List.cons.injEq, Prod.mk.injEq] at h
    obtain ⟨⟨h1, h2⟩, h3⟩ := h
    have ih := ri a es F (k + 1) h3
    by_cases hh : b = a
    · subst hh
      unfold Instr.findNow
      rw [h1]
      simp [Instr.sameNow, h2]
    · have hb : (a == b) = false := by simp; exact fun e => hh e.symm
      unfold Instr.findNow
      rw [h1]
      simp only [Instr.sameNow, if_true, hb, ih]
      have hab : a ≠ b := fun e => hh e.symm
      simp only [List.mem_cons, hab, false_or]
      rw [List.idxOf_cons, show (b == a) = false by simpa using hh, cond_false]
      split
      · congr 3; omega
      · rfl
theorem nk {α β : Type} (f : α → β) : ∀ (l : List α) (i : Nat), (l.eraseIdx i).map f = (l.map f).eraseIdx i
  | [], _ => rfl
  | _ :: _, 0 => rfl
  | a :: l, i + 1 => by simp [nk f l i]
theorem rk (a : Int) : ∀ F : List Int, F.eraseIdx (F.idxOf a) = F.erase a
  | [] => rfl
  | b :: F => by
    rw [List.idxOf_cons, List.erase_cons]
    cases hb : (b == a) with
    | true => rfl
    | false => simp [rk a F]
theorem AM.find {es : Array MapEntry} {F : List Int} (h : AM es F) (a : Int) : Instr.findNow (.int .i64) (.int .i64 a) es.toList 0 = some (if a ∈ F then some (F.idxOf a, Value.bool true) else none) := by
  have := ri a es.toList F 0 h
  rwa [Nat.zero_add] at this
theorem AM.at_ {es : Array MapEntry} {F : List Int} (h : AM es F) {i : Nat} {a : Int} (hi : F[i]? = some a) : ∃ e, es[i]? = some e ∧ e.key = .int .i64 a ∧ e.val = .bool true := by
  have h1 := congrArg (fun l => l[i]?) h
  simp only [List.getElem?_map, hi, Option.map_some] at h1
  cases he : es.toList[i]? with
  | none => rw [he] at h1; cases h1
  | some e =>
    rw [he] at h1
    simp only [Option.map_some, Option.some.injEq, Prod.mk.injEq] at h1
    exact ⟨e, by rw [← Array.getElem?_toList]; exact he, h1.1, h1.2⟩
theorem BJ {F : List Int} {a : Int} (h : a ∈ F) : F[F.idxOf a]? = some a := by
  have h1 := List.idxOf_lt_length_of_mem h
  rw [List.getElem?_eq_getElem h1, List.getElem_idxOf]
theorem AM.key {es : Array MapEntry} {F : List Int} (h : AM es F) {a : Int} (ha : a ∈ F) : ((es[F.idxOf a]?).map (·.key)).getD (.int .i64 a) = .int .i64 a := by
  obtain ⟨e, h1, h2, _⟩ := h.at_ (BJ ha)
  rw [h1]
  exact h2
theorem AM.new {es : Array MapEntry} {F : List Int} (h : AM es F) (a : Int) (c : Nat) : AM (es.push ⟨.int .i64 a, .bool true, c⟩) (F ++ [a]) := by
  unfold AM at h ⊢
  simp [h]
theorem AM.old {es : Array MapEntry} {F : List Int} (h : AM es F) {a : Int} (ha : a ∈ F) : AM (es.modify (F.idxOf a) fun e => { e with key := .int .i64 a, val := .bool true }) F := by
  obtain ⟨e, h1, h2, h3⟩ := h.at_ (BJ ha)
  have hh : es.modify (F.idxOf a) (fun e => { e with key := .int .i64 a, val := .bool true }) = es := by
    apply Array.ext_getElem?
    intro i
    rw [Array.getElem?_modify]
    split
    · rename_i hi
      subst hi
      rw [h1]
      simp [← h2, ← h3]
    · rfl
  rw [hh]
  exact h
theorem AM.del {es : Array MapEntry} {F : List Int} (h : AM es F) (a : Int) : AM (es.eraseIdxIfInBounds (F.idxOf a)) (F.erase a) := by
  unfold AM at h ⊢
  rw [Array.toList_eraseIdxIfInBounds, nk, h, ← nk, rk]
theorem AM.size {es : Array MapEntry} {F : List Int} (h : AM es F) : es.size = F.length := by
  have := congrArg List.length h
  simpa using this
theorem uF : ∀ {l : List KR} {p : Int}, ascB (some p) l = true → ∀ k ∈ l, p < k.st.id
  | [], _, _, k, hk => by cases hk
  | a :: l, p, h, k, hk => by
    unfold ascB at h
    simp only [Bool.and_eq_true, decide_eq_true_eq] at h
    rcases List.mem_cons.1 hk with rfl | hk
    · exact h.1
    · have := uF h.2 k hk
      have := h.1
      omega
theorem uG : ∀ {l : List KR} {p : Option Int}, ascB p l = true → l.Pairwise (fun a b => a.st.id < b.st.id)
  | [], _, _ => .nil
  | a :: l, p, h => by
    unfold ascB at h
    simp only [Bool.and_eq_true] at h
    exact List.pairwise_cons.2 ⟨fun k hk => uF h.2 k hk, uG h.2⟩
theorem rl : ∀ (l : List KR) (F : List Int), (∀ a ∈ F, ∀ k ∈ l, a < k.st.id) → l.Pairwise (fun a b => a.st.id < b.st.id) → l.foldl (fun F k => zt F k.st.id) F = F ++ l.map (·.st.id)
  | [], F, _, _ => by simp
  | k :: l, F, h1, h2 => by
    obtain ⟨h3, h4⟩ := List.pairwise_cons.1 h2
    have hn : k.st.id ∉ F := fun hm => by have := h1 _ hm k (List.mem_cons_self ..); omega
    rw [List.foldl_cons, zt, if_neg hn, rl l _ (fun a ha x hx => ?_) h4]
    · simp
    · rcases List.mem_append.1 ha with ha | ha
      · exact h1 a ha x (List.mem_cons_of_mem _ hx)
      · obtain rfl := List.mem_singleton.1 ha
        exact h3 x hx
theorem nl : ∀ (l : List KR) (F : List Int), (∀ a ∈ F, ∀ k ∈ l, a < k.st.id) → l.Pairwise (fun a b => a.st.id < b.st.id) → lN (F ++ l.map (·.st.id)) l = F ++ (l.filter fun k => !k.st.done).map (·.st.id)
  | [], F, _, _ => by simp [lN]
  | k :: l, F, h1, h2 => by
    obtain ⟨h3, h4⟩ := List.pairwise_cons.1 h2
    have hn : k.st.id ∉ F := fun hm => by have := h1 _ hm k (List.mem_cons_self ..); omega
    have hl : ∀ a ∈ F, ∀ x ∈ l, a < x.st.id := fun a ha x hx => h1 a ha x (List.mem_cons_of_mem _ hx)
    cases hd : k.st.done with
    | true =>
      have e1 : lN (F ++ (k :: l).map (·.st.id)) (k :: l) = lN (F ++ l.map (·.st.id)) l := by
        unfold lN
        rw [List.foldl_cons, if_pos hd, List.erase_append_right _ hn, List.map_cons, List.erase_cons_head]
      rw [e1, nl l F hl h4]
      simp [hd]
    | false =>
      have e1 : lN (F ++ (k :: l).map (·.st.id)) (k :: l) = lN ((F ++ [k.st.id]) ++ l.map (·.st.id)) l := by
        unfold lN
        rw [List.foldl_cons, if_neg (by rw [hd]; simp)]
        simp
      rw [e1, nl l _ (fun a ha x hx => ?_) h4]
      · simp [hd]
      · rcases List.mem_append.1 ha with ha | ha
        · exact hl a ha x hx
        · obtain rfl := List.mem_singleton.1 ha
          exact h3 x hx
theorem BK {l : List KR} {p : Option Int} (h : ascB p l = true) : sE l = dO l := by
  have h1 := uG h
  unfold sE
  have h2 : qq l = [] ++ l.map (·.st.id) := rl l [] (fun _ ha => by cases ha) h1
  rw [h2, nl l [] (fun _ ha => by cases ha) h1]
  unfold dO
  rw [List.countP_eq_length_filter]
  simp
attribute [local irreducible] Calls
set_option maxRecDepth 100000 in
set_option maxHeartbeats 16000000 in
theorem uH {A : Nat → Prop} (v : NV) (w : World) (hN : NOk A w v) (hzk : v.kv.length ≤ 606626243774) : Calls Tryz.prog 19 #[.agg ⟨NC v⟩] w fun e w' => ∃ s : Nat × Array MapEntry × Nat, s.2.1.size = sE v.c.ks ∧ e = .returned (.map (some s.1)) ∧ Made w w' [.obj s.1 (.map s.2.1 s.2.2)] := by
  refine aA Tryz.func19 rfl Tryz.ntmps19 J J ?_
  have hl := hN.lenk
  repeat' (first | (refine bx ?_; intro g1) | (refine AE J J J J ?_; intro g) | refine nx ?_)
  refine bP (σ := Nat × Array MapEntry × Nat) (fun p => p.1 ≤ v.kv.length ∧ AM p.2.1 (qq (v.c.ks.take p.1))) (fun p => [(12, [], .int .i64 ((p.1 : Nat) : Int)), (11, [], .int .i64 ((v.kv.length : Nat) : Int)), (10, [], .slice v.x v.kv.length v.xc), (3, [], .map (some g)), (1, [], .pointer (some ⟨g1, 0, none⟩))]) (fun p => [.obj g (.map p.2.1 p.2.2), .cl g1 34 [.int .i64 v.c.sd, .int .i64 v.c.nx, .int .i64 v.c.la, .int .i64 v.c.aw, .int .i64 v.c.sz, .int .i64 v.c.sw.size, .int .i64 v.c.sw.left, .int .i64 v.c.sw.held, .int .i64 v.c.rw.size, .int .i64 v.c.rw.left, .int .i64 v.c.rw.held, .slice v.x v.kv.length v.xc, .slice v.o v.c.ou.length v.oc, .slice v.p v.c.pg.length v.pc, .bool v.c.cl]]) (fun p => v.kv.length - p.1) (0, #[], 0) [true, true] ⟨Nat.zero_le _, rfl⟩ ⟨J, J, J, J, J, trivial⟩ rfl ?_
  rintro ⟨j, es, ck⟩ ⟨hj0, hA⟩
  dsimp only at hj0 hA ⊢
  by_cases hj : j < v.kv.length
  · skip
    obtain ⟨u, hu0⟩ : ∃ u, v.kv[j]? = some u := ⟨v.kv[j], List.getElem?_eq_getElem hj⟩
    obtain ⟨bb, off, hx, _, _, hrows⟩ := hN.ks (by omega)
    have hrow : w.rangeAt bb (off + j * 22) (KC u) := hrows j u hu0
    have hq : v.c.ks[j]? = some u.k := by rw [hN.eq, List.getElem?_map, hu0]; rfl
    have hid := zu hq
    have hfd := hA.find u.k.st.id
    try unfold NC
    rw [hx]
    repeat' refine nx ?_
    refine aq rfl (by simp; omega) ?_
    repeat' (first | refine vx rfl (ia (m := 22) j hj) ?_ | refine vx rfl (Fd (cs := KC u) hrow) ?_ | (refine al ?_; intro g5) | refine nx ?_)
    by_cases hm : u.k.st.id ∈ qq (v.c.ks.take j)
    · rw [if_pos hm] at hfd
      rw [zt, if_pos hm] at hid
      refine zr 1 ⟨_, rfl, .inl rfl⟩ J J J J J Tryz.underlying69 Tryz.underlying3 hfd (hA.key hm) J J ?_
      repeat' (first | refine vx rfl (bd J J J J J (by omega)) ?_ | refine cV ?_)
      rw [← hx]
      refine aU (j + 1, _, ck) [false, true, true] ⟨hj, by rw [hid]; exact hA.old hm⟩ (show v.kv.length - (j + 1) < v.kv.length - j by omega) ⟨J, J, J, J, J, trivial⟩ rfl
    · rw [if_neg hm] at hfd
      rw [zt, if_neg hm] at hid
      refine yI 1 ⟨_, rfl, .inl rfl⟩ J J J J J Tryz.underlying69 Tryz.underlying3 rfl hfd J J ?_
      repeat' (first | refine vx rfl (bd J J J J J (by omega)) ?_ | refine cV ?_)
      rw [← hx]
      refine aU (j + 1, _, ck + 1) [false, true, true] ⟨hj, by rw [hid]; exact hA.new _ _⟩ (show v.kv.length - (j + 1) < v.kv.length - j by omega) ⟨J, J, J, J, J, trivial⟩ rfl
  · have hjl : j = v.kv.length := by omega
    subst hjl
    rw [← hl, List.take_length] at hA
    repeat' refine nx ?_
    refine ai rfl (by simp) ?_
    repeat' refine nx ?_
    refine bP (σ := Nat × Array MapEntry × Nat) (fun p => p.1 ≤ v.kv.length ∧ AM p.2.1 (lN (qq v.c.ks) (v.c.ks.take p.1))) (fun p => [(24, [], .int .i64 ((p.1 : Nat) : Int)), (23, [], .int .i64 ((v.kv.length : Nat) : Int)), (22, [], .slice v.x v.kv.length v.xc), (3, [], .map (some g)), (1, [], .pointer (some ⟨g1, 0, none⟩))]) (fun p => [.obj g (.map p.2.1 p.2.2), .cl g1 34 [.int .i64 v.c.sd, .int .i64 v.c.nx, .int .i64 v.c.la, .int .i64 v.c.aw, .int .i64 v.c.sz, .int .i64 v.c.sw.size, .int .i64 v.c.sw.left, .int .i64 v.c.sw.held, .int .i64 v.c.rw.size, .int .i64 v.c.rw.left, .int .i64 v.c.rw.held, .slice v.x v.kv.length v.xc, .slice v.o v.c.ou.length v.oc, .slice v.p v.c.pg.length v.pc, .bool v.c.cl]]) (fun p => v.kv.length - p.1) (0, es, ck) [true, true] ⟨Nat.zero_le _, hA⟩ ⟨J, J, J, J, J, trivial⟩ rfl ?_
    clear hA hj0 hj es ck
    rintro ⟨j, es, ck⟩ ⟨hj0, hA⟩
    dsimp only at hj0 hA ⊢
    by_cases hj : j < v.kv.length
    · skip
      obtain ⟨u, hu0⟩ : ∃ u, v.kv[j]? = some u := ⟨v.kv[j], List.getElem?_eq_getElem hj⟩
      obtain ⟨bb, off, hx, _, _, hrows⟩ := hN.ks (by omega)
      have hrow : w.rangeAt bb (off + j * 22) (KC u) := hrows j u hu0
      have hq : v.c.ks[j]? = some u.k := by rw [hN.eq, List.getElem?_map, hu0]; rfl
      have hid := zv (F := qq v.c.ks) hq
      have hfd := hA.find u.k.st.id
      rw [hx]
      repeat' refine nx ?_
      refine aq rfl (by simp; omega) ?_
      repeat' (first | refine vx rfl (ia (m := 22) j hj) ?_ | refine vx rfl (Fd (cs := KC u) hrow) ?_ | (refine al ?_; intro g7) | refine nx ?_)
      cases hdn : u.k.st.done with
      | false =>
        rw [hdn, if_neg (by simp)] at hid
        refine ai J J ?_
        repeat' (first | refine vx rfl (bd J J J J J (by omega)) ?_ | refine cV ?_)
        rw [← hx]
        refine aU (j + 1, es, ck) [false, true, true] ⟨hj, by rw [hid]; exact hA⟩ (show v.kv.length - (j + 1) < v.kv.length - j by omega) ⟨J, J, J, J, J, trivial⟩ rfl
      | true =>
        rw [hdn, if_pos rfl] at hid
        refine aq J J ?_
        repeat' refine cV ?_
        by_cases hm : u.k.st.id ∈ lN (qq v.c.ks) (v.c.ks.take j)
        · rw [if_pos hm] at hfd
          refine zs 1 J J J J J Tryz.underlying69 Tryz.underlying3 hfd J J ?_
          repeat' (first | refine vx rfl (bd J J J J J (by omega)) ?_ | refine cV ?_)
          rw [← hx]
          refine aU (j + 1, _, ck) [false, true, true] ⟨hj, by rw [hid]; exact hA.del _⟩ (show v.kv.length - (j + 1) < v.kv.length - j by omega) ⟨J, J, J, J, J, trivial⟩ rfl
        · rw [if_neg hm] at hfd
          rw [List.erase_of_not_mem hm] at hid
          refine wI 1 J J J J J Tryz.underlying69 Tryz.underlying3 hfd J J ?_
          repeat' (first | refine vx rfl (bd J J J J J (by omega)) ?_ | refine cV ?_)
          rw [← hx]
          refine aU (j + 1, es, ck) [false, true, true] ⟨hj, by rw [hid]; exact hA⟩ (show v.kv.length - (j + 1) < v.kv.length - j by omega) ⟨J, J, J, J, J, trivial⟩ rfl
    · have hjl : j = v.kv.length := by omega
      subst hjl
      rw [← hl, List.take_length] at hA
      repeat' refine nx ?_
      refine ai rfl (by simp) ?_
      repeat' refine nx ?_
      (refine rt ?_; refine fun w1 hm => ⟨(g, es, ck), hA.size, rfl, ?_⟩)
      exact Made.own (hm.mask [true, false] rfl) (fun e he => by obtain rfl := List.mem_singleton.1 he; rfl)
end Go.Proofs.YtklcfjlmlbnkaaaGreatDoor.Y
