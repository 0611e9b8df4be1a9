/- Texts of this claim merged into one: BCn18, BRegYC, BCn19, BCn17. -/
import Derived.Test.YthiocbcokfondaaGreatDoorBBunC9
import Derived.Test.YthiocbcokfondaaGreatDoorBBunX
import Derived.Test.YthiocbcokfondaaGreatDoorBBunQ
import Derived.Test.YthiocbcokfondaaGreatDoorBBunY
namespace Go.Proofs.YthiocbcokfondaaGreatDoor.Y
open Go.RowKit
def FK (l : List KV) (b : Nat) : Prop := ∃ e ∈ l.flatMap EK, e.foot b
theorem dW {w : World} {B cap sz : Nat} {T : TypeId} {a : Option Addr} {xs : List Value} {α : Type} {f : α → List Value} {l : List α} (hf : ∀ x, (f x).length = sz) (h : w.ownsRow B T sz (.slice a l.length cap) l.length xs) (he : xs = l.flatMap f) : Rws (fun b => (Ent.own a cap T sz l.length xs).foot b) w sz f a l := by
 subst he
 exact (wY hf h).mono fun b ⟨ad, h1, h2⟩ => by subst h1; exact Ent.mut_foot (e := .own (some ad) cap T sz l.length (l.flatMap f)) (by exact h2)
theorem n6 {w0 w : World} {a b c : Ent} {l : List KV} {M : List Ent} (h : Mem w0 w (a :: b :: c :: (l.flatMap EK ++ M))) : ∀ k, FK l k → w0.heap.size ≤ k := fun k ⟨e, he, hk⟩ => by
 have h1 : MemL w0.heap.size w (l.flatMap EK) := (MemL.split (M1 := l.flatMap EK) h.2.2.2.2.2.2.2).1
 have hok := MemL.mem h1 e he
 have hr := tg l e he
 cases e with
 | rep F p => cases hr
 | obj g o => exact (hok.mut_lt (k := k) hk).1
 | own a cap e size n xs => exact (hok.mut_lt (k := k) hk).1
theorem z6 {w : World} {B : Nat} {l : List KV} (h : MemL B w (l.flatMap EK)) : ∀ u ∈ l, KOk (FK l) w u := fun u hu => by
 have h1 := ku h hu
 have hm : ∀ e ∈ EK u, e ∈ l.flatMap EK := fun e he => List.mem_flatMap.2 ⟨u, hu, he⟩
 refine ⟨(dW fm h1.1 rfl).mono fun b hb => ⟨_, hm _ (List.mem_cons_self ..), hb⟩, (dW fj h1.2.2.2.2.1 rfl).mono fun b hb => ⟨_, hm _ (List.mem_cons_of_mem _ (List.mem_cons_of_mem _ (List.mem_cons_self ..))), hb⟩, (dW dI h1.2.2.1 rfl).mono fun b hb => ⟨_, hm _ (List.mem_cons_of_mem _ (List.mem_cons_self ..)), hb⟩⟩
theorem jk {w0 w : World} {a b c : Ent} {l : List KV} {M : List Ent} (h : Mem w0 w (a :: b :: c :: (l.flatMap EK ++ M))) : Mem w0 w (a :: b :: c :: .rep (FK l) (fun w => ∀ u ∈ l, KOk (FK l) w u) :: M) := by
 have h1 : Mem w0 w (l.flatMap EK ++ ([a, b, c] ++ M)) := h.perm (by
  rw [show a :: b :: c :: (l.flatMap EK ++ M) = [a, b, c] ++ (l.flatMap EK ++ M) from rfl, ← List.append_assoc, ← List.append_assoc]
  exact List.Perm.append_right _ List.perm_append_comm)
 have h2 := Mem.fuse (l.flatMap EK) (FK l) (fun w => ∀ u ∈ l, KOk (FK l) w u) h1 rfl (fun k hk => hk) (fun hm => z6 hm) (fun w1 w2 hk hp u hu => (hp u hu).agree hk)
 exact h2.perm (List.perm_middle (l₁ := [a, b, c]) (l₂ := M)).symm
theorem fE {A : Nat → Prop} {w w1 : World} {v' : NV} (hb : Below w.heap.size w w1) (hks : w1.ownsRow w.heap.size 39 22 (.slice v'.x v'.kv.length v'.xc) v'.kv.length (v'.kv.flatMap KC)) (hou : w1.ownsRow w.heap.size 65 4 (.slice v'.o v'.c.ou.length v'.oc) v'.c.ou.length (v'.c.ou.flatMap fC)) (hpg : w1.ownsRow w.heap.size 3 1 (.slice v'.p v'.c.pg.length v'.pc) v'.c.pg.length (v'.c.pg.flatMap iC)) (heq : v'.c.ks = v'.kv.map (·.k)) (hkk : ∀ u ∈ v'.kv, KOk (fun b => w.heap.size ≤ b) w1 u) : OutN A w w1 v' :=
 ⟨⟨(Rws.own aV hks).mono fun _ => .inr, (Rws.own dI hou).mono fun _ => .inr, (Rws.own eP hpg).mono fun _ => .inr, heq, fun u hu => (hkk u hu).mono fun _ => .inr⟩, hb⟩
theorem qq {w : World} {B cap : Nat} {T : TypeId} {a : Option Addr} {l : List bd} {f : bd} {xs : List Value} (h : w.ownsRow B T 4 (.slice a (l.length + 1) cap) (l.length + 1) (l.flatMap fC ++ xs)) (hx : xs = fC f) : w.ownsRow B T 4 (.slice a (l ++ [f]).length cap) (l ++ [f]).length ((l ++ [f]).flatMap fC) := by
 rw [List.length_append, List.flatMap_append, List.flatMap_singleton, ← hx]
 exact h
def ir (above : Int) (u : KV) : KV := if u.k.st.done = false ∧ above < u.k.st.id then fO { u with k := { u.k with st := qQ u.k.st 12 emptyB } } else u
theorem tq (above : Int) (u : KV) : (ir above u).k = fU above u.k := by
 unfold ir fU
 split
 · rw [mJ]
 · rfl
theorem lE {A : Nat → Prop} {w : World} {u : KV} (h : KOk A w u) : KOk A w (fO u) := by
 unfold fO
 split
 · exact ⟨h.1, h.2.1, bT⟩
 · exact h
theorem qr {A : Nat → Prop} {w : World} {above : Int} {u : KV} (h : KOk A w u) : KOk A w (ir above u) := by
 unfold ir
 split
 · exact lE ⟨h.1, h.2.1, h.2.2⟩
 · exact h
theorem CE (s t : cJ) (h : qQ s 12 emptyB = t) (w : World) (htx : s.text.size ≤ 4611686018427387900) : Calls Tryz.prog 127 #[.agg #[.int .i64 s.id, .int .i64 s.side, .int .i64 s.shape, .int .i64 s.sent, .int .i64 s.got, .bool s.se, .bool s.ge, .bool s.done, .int .i64 s.code, .string s.text, .int .i64 s.snd.size, .int .i64 s.snd.left, .int .i64 s.snd.held, .int .i64 s.rcv.size, .int .i64 s.rcv.left, .int .i64 s.rcv.held], .agg #[.int .i64 12, .string ⟨#[]⟩]] w fun e w' => e = .returned (.agg ⟨tC t⟩) ∧ Below w.heap.size w w' := by
 subst h
 exact zi s.id s.side s.shape s.sent s.got s.se s.ge s.done s.code s.text s.snd.size s.snd.left s.snd.held s.rcv.size s.rcv.left s.rcv.held 12 ⟨#[]⟩ w htx (by decide)
theorem mQ {u : KV} {i : Nat} {x : Value} (h : (tC u.k.st)[i]? = some x) : (KC u)[i]? = some x := by
 have hi : i < (tC u.k.st).length := (List.getElem?_eq_some_iff.1 h).1
 have e : KC u = tC u.k.st ++ (KC u).drop 16 := rfl
 rw [e, List.getElem?_append_left hi]
 exact h
attribute [local irreducible] Calls
set_option maxRecDepth 100000 in
set_option maxHeartbeats 16000000 in
theorem vA {A : Nat → Prop} (v : NV) (n : Int) (w : World) (hN : NOk A w v) (hz : rk v) (hgd : uc v) (hg : MLen w) : Calls Tryz.prog 52 #[.agg #[.int .i64 v.c.sd, .int .i64 v.c.nx, .int .i64 v.c.la, .int .i64 v.c.aw, .int .i64 v.c.sz, .int .i64 v.c.sw.size, .int .i64 v.c.sw.left, .int .i64 v.c.sw.held, .int .i64 v.c.rw.size, .int .i64 v.c.rw.left, .int .i64 v.c.rw.held, .slice v.x v.kv.length v.xc, .slice v.o v.c.ou.length v.oc, .slice v.p v.c.pg.length v.pc, .bool v.c.cl], .int .i64 n] w fun e w' => ∃ v' : NV, v'.c = (e9 v.c n).1 ∧ e = .returned (.tuple #[.agg ⟨NC v'⟩, .int .i64 (e9 v.c n).2]) ∧ OutN A w w' v' := by
 refine aI Tryz.func52 rfl Tryz.ntmps52 J J ?_
 have hou := hgd.ou
 have hez : emptyB.size < 4294967281 := show (0 : Nat) < 4294967281 by decide
 repeat' (first | refine ai ?_ | refine aa ?_ | refine ab ?_ | refine ag ?_ | (refine aR J J J J J J ?_; intro g2) | (refine aD af J J J J J J ?_; intro g4) | ((refine' ap rfl ?_ J J ?_); rotate_left; first | exact ak af J J J J | exact ae af 1 J J J J J))
 by_cases hcl : v.c.cl = true
 · have hp : e9 v.c n = (v.c, 20) := by unfold e9; rw [if_pos hcl]
   refine aB rfl hcl ?_
   repeat' (first | refine ai ?_ | refine aa ?_ | refine ab ?_ | refine az ?_ | refine ar ?_ | refine ag ?_ | ((refine' ap rfl ?_ J J ?_); rotate_left; first | exact ak af J J J J | exact ae af 1 J J J J J) | refine aj af 0 J J J J J J J J J J J J ?_)
   (refine aA af (fun _ => 0) J J ⟨J, trivial⟩ rfl fun w1 hm => ⟨v, ?_, ?_, OutN.same hN hm.below⟩)
   · rw [hp]
   · rw [hp]; rfl
 · refine am rfl (eq_false_of_ne_true hcl) ?_
   obtain ⟨ef, hef⟩ : ∃ x, aQ (⟨7, 0, n, emptyB⟩ : bd) = x := ⟨_, rfl⟩
   repeat' (first | refine ai ?_ | refine aa ?_ | refine ab ?_ | refine ay ?_ | refine ag ?_ | (refine aD af J J J J J J ?_; intro g6) | ((refine' ap rfl ?_ J J ?_); rotate_left; first | exact ak af J J J J | exact aq af J J J J J J | exact ae af 0 J J J J J | exact au af J J ⟨J, J, trivial⟩ J J J) | refine aH rfl (av J J J J ⟨J, trivial⟩ rfl (by kernel_rfl)) (fun w hm => rO (⟨7, 0, n, emptyB⟩ : bd) ef hef w (hg.below hm.below) hez) J J ?_ | refine aj af 0 J J J J J J J J J J J J ?_)
   by_cases he : ef = 0
   rotate_left
   · have hp : e9 v.c n = (v.c, ef) := by unfold e9; rw [if_neg hcl, hef, if_pos he]
     refine aB rfl (by simpa using he) ?_
     repeat' (first | refine ai ?_ | refine aa ?_ | refine ab ?_ | refine az ?_ | refine ar ?_ | refine ag ?_ | ((refine' ap rfl ?_ J J ?_); rotate_left; first | exact ak af J J J J | exact ae af 2 J J J J J) | refine aj af 1 J J J J J J J J J J J J ?_)
     (refine aA af (fun _ => 1) J J ⟨J, trivial⟩ rfl fun w1 hm => ⟨v, ?_, ?_, OutN.same hN hm.below⟩)
     · rw [hp]
     · rw [hp]; rfl
   have hp : e9 v.c n = ({ v.c with ou := v.c.ou ++ [(⟨7, 0, n, emptyB⟩ : bd)] }, 0) := by unfold e9; rw [if_neg hcl, hef, if_neg (by simpa using he)]
   rw [hp]
   refine am rfl (by simpa using he) ?_
   repeat' (first | refine ai ?_ | refine aa ?_ | refine ab ?_ | refine ay ?_ | ((refine' ap rfl ?_ J J ?_); rotate_left; exact ae af 2 J J J J J))
   refine cy (σ := NV) (fun s => s.c = v.c ∧ s.kv.map (·.k) = v.kv.map (·.k)) (fun s => .agg ⟨NC s⟩) (fun s => EN s) rfl (av J J J J ⟨J, trivial⟩ rfl (by kernel_rfl)) (fun w1 hm => dz v w1 (hN.below hm.below) hz) J J ?_
   rintro ⟨c1, x1, xc1, kv1, o1, oc1, p1, pc1⟩ ⟨hc1, hkm⟩
   dsimp only at hc1 hkm
   subst hc1
   dsimp only [EN, NC, List.cons_append, List.nil_append]
   refine d6 (fun w1 hm => n6 hm) (fun hFK => ?_)
   refine bI (fun w1 hm => jk hm) ?_
   have hlk : kv1.length = v.kv.length := fP hkm
   repeat' (first | refine ai ?_ | refine aa ?_ | refine ab ?_ | refine az ?_ | refine ag ?_ | (refine aD af J J J J J J ?_; intro g8) | (refine dr af J J J ⟨J, trivial⟩ J J J J J J J J ?_; intro g) | (refine bW af 3 0 J J J J J J J J J (fun _ _ => rfl) f4 J J (by unfold maxLen; omega) (by omega) J J ?_; intro sa sc) | ((refine' ap rfl ?_ J J ?_); rotate_left; first | exact ak af J J J J | exact ae af 0 J J J J J | exact ae af 1 J J J J J | exact ae af 5 J J J J J) | refine aj af 0 J J J J J J J J J J J J ?_ | refine aj af 1 J J J J J J J J J J J J ?_ | refine aj af 7 J J J J J J J J J J J J ?_)
   (refine aA af (fun _ => 7) J J ⟨J, trivial⟩ rfl fun w1 hm => ⟨⟨{ v.c with ou := v.c.ou ++ [(⟨7, 0, n, emptyB⟩ : bd)] }, x1, xc1, kv1, sa, sc, p1, pc1⟩, rfl, ?_, ?_⟩)
   · simp only [List.length_append, List.length_singleton]
   · exact fE hm.below (hm.2.get (i := 4) rfl) (qq (f := (⟨7, 0, n, emptyB⟩ : bd)) (hm.2.get (i := 3) rfl) rfl) (hm.2.get (i := 2) rfl) (by rw [hkm, hN.eq]) (fun u hu => ((hm.2.get (i := 5) rfl).2.1 u hu).mono hFK)
set_option maxRecDepth 100000 in
set_option maxHeartbeats 16000000 in
theorem vC {A : Nat → Prop} (v : NV) (w : World) (hN : NOk A w v) (hz : rk v) (hgd : uc v) (hla : v.c.la ≤ 4611686018427387904 ∧ -1 ≤ v.c.la) : Calls Tryz.prog 53 #[.agg #[.int .i64 v.c.sd, .int .i64 v.c.nx, .int .i64 v.c.la, .int .i64 v.c.aw, .int .i64 v.c.sz, .int .i64 v.c.sw.size, .int .i64 v.c.sw.left, .int .i64 v.c.sw.held, .int .i64 v.c.rw.size, .int .i64 v.c.rw.left, .int .i64 v.c.rw.held, .slice v.x v.kv.length v.xc, .slice v.o v.c.ou.length v.oc, .slice v.p v.c.pg.length v.pc, .bool v.c.cl]] w fun e w' => ∃ v' : NV, v'.c = iG v.c ∧ e = .returned (.agg ⟨NC v'⟩) ∧ OutN A w w' v' := by
 refine aI Tryz.func53 rfl Tryz.ntmps53 J J ?_
 have hou := hgd.ou
 repeat' (first | refine ai ?_ | refine aa ?_ | refine ab ?_ | refine ag ?_ | (refine aR J J J J J J ?_; intro g1) | (refine aD af J J J J J J ?_; intro g2) | ((refine' ap rfl ?_ J J ?_); rotate_left; exact ae af 1 J J J J J))
 refine cy (σ := NV) (fun s => s.c = v.c ∧ s.kv.map (·.k) = v.kv.map (·.k)) (fun s => .agg ⟨NC s⟩) (fun s => EN s) rfl (av J J J J ⟨J, trivial⟩ rfl (by kernel_rfl)) (fun w1 hm => dz v w1 (hN.below hm.below) hz) J J ?_
 rintro ⟨c1, x1, xc1, kv1, o1, oc1, p1, pc1⟩ ⟨hc1, hkm⟩
 dsimp only at hc1 hkm
 subst hc1
 dsimp only [EN, NC, List.cons_append, List.nil_append]
 refine d6 (fun w1 hm => n6 hm) (fun hFK => ?_)
 refine bI (fun w1 hm => jk hm) ?_
 have hlk : kv1.length = v.kv.length := fP hkm
 repeat' (first | refine ai ?_ | refine aa ?_ | refine ab ?_ | refine ag ?_ | (refine aD af J J J J J J ?_; intro g3) | ((refine' ap rfl ?_ J J ?_); rotate_left; first | exact ak af J J J J | exact aq af J J J J J J | exact bV J J J J J | exact ae af 6 J J J J J) | refine aj af 0 J J J J J J J J J J J J ?_)
 by_cases hc : v.c.sd = 2 ∧ v.c.cl = false ∧ v.c.aw = 0
 · have ha : iG v.c = { v.c with ou := v.c.ou ++ [(⟨9, 0, v.c.la, emptyB⟩ : bd)], aw := v.c.la + 1 } := by unfold iG; rw [if_pos hc]
   rw [ha]
   obtain ⟨hc1, hc2, hc3⟩ := hc
   refine aB rfl (by rw [hc1, hc2, hc3]; rfl) ?_
   repeat' (first | refine ai ?_ | refine aa ?_ | refine ab ?_ | refine az ?_ | refine ag ?_ | (refine dr af J J J ⟨J, trivial⟩ J J J J J J J J ?_; intro g) | (refine bW af 3 0 J J J J J J J J J (fun _ _ => rfl) f4 J J (by unfold maxLen; omega) (by omega) J J ?_; intro sa sc) | ((refine' ap rfl ?_ J J ?_); rotate_left; first | exact bU J J J J J (by omega) | exact ak af J J J J | exact ae af 0 J J J J J | exact ae af 1 J J J J J | exact ae af 6 J J J J J | exact ae af 7 J J J J J | exact au af J J ⟨J, J, trivial⟩ J J J) | refine aj af 1 J J J J J J J J J J J J ?_ | refine aj af 6 J J J J J J J J J J J J ?_)
   (refine aA af (fun _ => 6) J J ⟨J, trivial⟩ rfl fun w1 hm => ⟨⟨{ v.c with ou := v.c.ou ++ [(⟨9, 0, v.c.la, emptyB⟩ : bd)], aw := v.c.la + 1 }, x1, xc1, kv1, sa, sc, p1, pc1⟩, rfl, ?_, ?_⟩)
   · simp only [List.length_append, List.length_singleton]
   · exact fE hm.below (hm.2.get (i := 4) rfl) (qq (f := (⟨9, 0, v.c.la, emptyB⟩ : bd)) (hm.2.get (i := 3) rfl) rfl) (hm.2.get (i := 2) rfl) (by rw [hkm, hN.eq]) (fun u hu => ((hm.2.get (i := 5) rfl).2.1 u hu).mono hFK)
 · have ha : iG v.c = v.c := by unfold iG; rw [if_neg hc]
   rw [ha]
   refine am rfl (by
    cases h1 : (v.c.sd == 2) with
    | false => rfl
    | true =>
     cases h2 : v.c.cl with
     | true => rfl
     | false =>
      cases h3 : (v.c.aw == 0) with
      | false => rfl
      | true => exact absurd ⟨by simpa using h1, h2, by simpa using h3⟩ hc) ?_
   repeat' (first | refine ai ?_ | refine aa ?_ | refine ab ?_ | refine az ?_ | refine ay ?_ | refine ag ?_ | ((refine' ap rfl ?_ J J ?_); rotate_left; exact ae af 0 J J J J J) | refine aj af 5 J J J J J J J J J J J J ?_)
   (refine aA af (fun _ => 5) J J ⟨J, trivial⟩ rfl fun w1 hm => ⟨⟨v.c, x1, xc1, kv1, o1, oc1, p1, pc1⟩, rfl, rfl, ?_⟩)
   exact fE hm.below (hm.2.get (i := 3) rfl) (hm.2.get (i := 2) rfl) (hm.2.get (i := 1) rfl) (by rw [hkm, hN.eq]) (fun u hu => ((hm.2.get (i := 4) rfl).2.1 u hu).mono hFK)
set_option maxRecDepth 100000 in
set_option maxHeartbeats 16000000 in
theorem n7 {w0 : World} {M : List Ent} (gc : Nat) (xa : Option Addr) (xc : Nat) (a0 a1 a2 a3 a4 a5 a6 a7 a8 a9 a10 b0 b1 b2 : Value) (kv : List KV) (above : Int) (w : World) (hzk : kv.length ≤ 606626243774) (htx : ∀ u ∈ kv, u.k.st.text.size ≤ 4611686018427387900) (hM : Mem w0 w (.own xa xc 39 22 kv.length (kv.flatMap KC) :: .cl gc 28 [a0, a1, a2, a3, a4, a5, a6, a7, a8, a9, a10, .slice xa kv.length xc, b0, b1, b2] :: M)) : Calls Tryz.prog 67 #[.pointer (some ⟨gc, 0, none⟩), .int .i64 above] w fun e w' => ∃ r : Value, True ∧ e = .returned r ∧ Mem w0 w' (.own xa xc 39 22 kv.length ((kv.map (ir above)).flatMap KC) :: .cl gc 28 [a0, a1, a2, a3, a4, a5, a6, a7, a8, a9, a10, .slice xa kv.length xc, b0, b1, b2] :: M) := by
 refine cx hM Tryz.func67 rfl Tryz.ntmps67 J J ?_
 repeat' (first | refine ai ?_ | refine aa ?_ | refine ab ?_ | refine aM ?_ | refine ag ?_ | ((refine' ap rfl ?_ J J ?_); rotate_left; first | exact ak af J J J J | exact ae af 1 J J J J J | exact bo af J J J J J J J))
 refine dd (σ := Nat × List KV) (fun p => p.1 ≤ kv.length ∧ p.2.length = p.1 ∧ p.2 = (kv.take p.1).map (ir above)) (fun p => [(11, [], .int .i64 ((p.1 : Nat) : Int)), (10, [], .int .i64 ((kv.length : Nat) : Int)), (0, [], .pointer (some ⟨gc, 0, none⟩)), (1, [], .int .i64 above)]) (fun p => .own xa xc 39 22 kv.length ((p.2 ++ kv.drop p.1).flatMap KC) :: .cl gc 28 [a0, a1, a2, a3, a4, a5, a6, a7, a8, a9, a10, .slice xa kv.length xc, b0, b1, b2] :: M) (fun p => kv.length - p.1) (0, []) [true, true] ⟨Nat.zero_le _, rfl, rfl⟩ ⟨J, J, J, J, trivial⟩ rfl ?_
 rintro ⟨j, d⟩ ⟨hj0, hd, hmap⟩
 dsimp only at hj0 hd hmap ⊢
 by_cases hj : j < kv.length
 · obtain ⟨u, hu0⟩ : ∃ u, kv[j]? = some u := ⟨kv[j], List.getElem?_eq_getElem hj⟩
   have hu := List.mem_of_getElem? hu0
   have hat := wV hd hu0
   have htx0 := htx u hu
   have hn0 : 0 < kv.length := Nat.lt_of_le_of_lt (Nat.zero_le _) hj
   refine ai ?_
   refine aa ?_
   refine ip 0 rfl hn0 ?_
   rintro gx rfl
   repeat' (first | refine ai ?_ | refine ab ?_ | refine ag ?_ | ((refine' ap rfl ?_ J J ?_); rotate_left; exact aq af J J J J J J))
   refine aB rfl (show decide (((j : Nat) : Int) < ((kv.length : Nat) : Int)) = true from decide_eq_true (by omega)) ?_
   repeat' (first | refine ai ?_ | refine aa ?_ | refine ab ?_ | refine ay ?_ | refine aM ?_ | refine ag ?_ | ((refine' ap rfl ?_ J J ?_); rotate_left; first | exact bO af (m := 22) j J J J J J J J J (fun _ => rfl) (fun _ => hj) | exact ak af J J J J | exact ae af 1 J J J J J))
   ((refine' ap rfl ?_ J J ?_); rotate_left; exact cg af 0 (v := .bool u.k.st.done) J J J J J J (fun _ => by rw [Nat.zero_add]; exact be aV hat (k := 7) rfl))
   repeat' (((refine' ap rfl ?_ J J ?_); rotate_left; exact ak af J J J J))
   ((refine' ap rfl ?_ J J ?_); rotate_left; exact cg af 0 (v := .int .i64 u.k.st.id) J J J J J J (fun _ => by rw [Nat.zero_add]; exact be aV hat (k := 0) rfl))
   repeat' (first | refine ab ?_ | refine ag ?_ | ((refine' ap rfl ?_ J J ?_); rotate_left; first | exact ak af J J J J | exact aq af J J J J J J | exact bV J J J J J))
   by_cases hc : u.k.st.done = false ∧ above < u.k.st.id
   · obtain ⟨t, ht⟩ : ∃ t, qQ u.k.st 12 emptyB = t := ⟨_, rfl⟩
     have hev : ir above u = fO { u with k := { u.k with st := t } } := by unfold ir; rw [if_pos hc, ht]
     refine aB rfl (by rw [hc.1]; simp; exact hc.2) ?_
     repeat' (first | refine ai ?_ | refine aa ?_ | ((refine' ap rfl ?_ J J ?_); rotate_left; first | exact jb af 0 (cs := tC u.k.st) J J J J J J (fun _ i x hx => by rw [Nat.zero_add, Nat.add_zero]; exact be aV hat (mQ hx)) | exact ak af J J J J | exact au af J J ⟨J, trivial⟩ J J J) | refine aH rfl (av J J J J ⟨J, J, trivial⟩ rfl (by kernel_rfl)) (fun w hm => CE u.k.st t ht w htx0) J J ?_)
     refine cM af 0 J J J J J J J J J (show iu _ (0 + j * 22 + 0) _ = _ from by rw [Nat.zero_add]; exact cK aV (d ++ kv.drop j) j 0 (u) ({ u with k := { u.k with st := t } }) _ hat rfl) J J ?_
     repeat' (first | refine aa ?_ | refine ab ?_ | refine ag ?_ | ((refine' ap rfl ?_ J J ?_); rotate_left; exact ak af J J J J))
     have hat1 : ((d ++ kv.drop j).set j { u with k := { u.k with st := t } })[j]? = some { u with k := { u.k with st := t } } := dy hat _
     refine bD (σ := Value) (fun _ => True) (fun r => r) (fun _ => _) rfl (av J J J J ⟨J, trivial⟩ rfl (by kernel_rfl)) (fun w hM => (iQ gx xc kv.length j ((d ++ kv.drop j).set j { u with k := { u.k with st := t } }) { u with k := { u.k with st := t } } hat1 w hM).mono fun e w' ⟨r, h1, h2, h3⟩ => ⟨r, trivial, h2, h3⟩) J J ?_
     rintro rv -
     rw [List.set_set, ← hev, tT hd hu0]
     repeat' (first | refine aa ?_ | refine ab ?_ | refine ax ?_ | refine ag ?_ | ((refine' ap rfl ?_ J J ?_); rotate_left; first | exact bU J J J J J (by omega) | exact ak af J J J J))
     exact bC (j + 1, d ++ [ir above u]) [] ⟨hj, by simp [hd], by rw [List.take_add_one, hu0]; simp [hmap]⟩ (show kv.length - (j + 1) < kv.length - j by omega) ⟨J, J, J, J, trivial⟩ rfl
   · have hev : ir above u = u := by unfold ir; rw [if_neg hc]
     refine am rfl (by
      cases h1 : u.k.st.done with
      | true => rfl
      | false => simp; exact Int.not_lt.1 (fun h => hc ⟨h1, h⟩)) ?_
     repeat' (first | refine aa ?_ | refine ab ?_ | refine ay ?_ | refine ax ?_ | refine ag ?_ | ((refine' ap rfl ?_ J J ?_); rotate_left; first | exact bU J J J J J (by omega) | exact ak af J J J J))
     refine je (M' := .own (some ⟨gx, 0, none⟩) xc 39 22 kv.length ((((j + 1, d ++ [ir above u]) : Nat × List KV).2 ++ kv.drop ((j + 1, d ++ [ir above u]) : Nat × List KV).1).flatMap KC) :: .cl gc 28 [a0, a1, a2, a3, a4, a5, a6, a7, a8, a9, a10, .slice (some ⟨gx, 0, none⟩) kv.length xc, b0, b1, b2] :: M) (fun w hM => ?_) ?_
     · have e : d ++ [ir above u] ++ kv.drop (j + 1) = d ++ kv.drop j := by rw [hev, List.append_assoc, fo hu0]; rfl
       dsimp only
       rw [e]
       exact hM
     · exact bC (j + 1, d ++ [ir above u]) [] ⟨hj, by simp [hd], by rw [List.take_add_one, hu0]; simp [hmap]⟩ (show kv.length - (j + 1) < kv.length - j by omega) ⟨J, J, J, J, trivial⟩ rfl
 · have hjl : j = kv.length := by omega
   subst hjl
   repeat' (first | refine ai ?_ | refine aa ?_ | refine ab ?_ | refine ag ?_ | ((refine' ap rfl ?_ J J ?_); rotate_left; exact aq af J J J J J J))
   refine am rfl (by simp) ?_
   repeat' (first | refine bF ?_ | refine aO ?_ | refine aS ?_)
   (refine dP af (fun _ => 0) J J trivial rfl fun w1 hm => ?_)
   refine ⟨_, trivial, rfl, ?_⟩
   rw [hmap, List.take_length, List.drop_length, List.append_nil] at hm
   exact hm
set_option maxRecDepth 100000 in
set_option maxHeartbeats 16000000 in
theorem n8 {A : Nat → Prop} (v : NV) (w : World) (hN : NOk A w v) (hz : rk v) (hgd : uc v) : Calls Tryz.prog 23 #[.agg #[.int .i64 v.c.sd, .int .i64 v.c.nx, .int .i64 v.c.la, .int .i64 v.c.aw, .int .i64 v.c.sz, .int .i64 v.c.sw.size, .int .i64 v.c.sw.left, .int .i64 v.c.sw.held, .int .i64 v.c.rw.size, .int .i64 v.c.rw.left, .int .i64 v.c.rw.held, .slice v.x v.kv.length v.xc, .slice v.o v.c.ou.length v.oc, .slice v.p v.c.pg.length v.pc, .bool v.c.cl]] w fun e w' => ∃ v' : NV, v'.c = gU v.c ∧ e = .returned (.agg ⟨NC v'⟩) ∧ OutN A w w' v' := by
 refine aI Tryz.func23 rfl Tryz.ntmps23 J J ?_
 have hzk := hz.ks
 repeat' (first | refine ai ?_ | refine aa ?_ | refine ab ?_ | refine ag ?_ | (refine aR J J J J J J ?_; intro g1) | (refine aD af J J J J J J ?_; intro g2) | ((refine' ap rfl ?_ J J ?_); rotate_left; exact ae af 1 J J J J J))
 refine cy (σ := NV) (fun s => s.c = v.c ∧ s.kv.map (·.k) = v.kv.map (·.k)) (fun s => .agg ⟨NC s⟩) (fun s => EN s) rfl (av J J J J ⟨J, trivial⟩ rfl (by kernel_rfl)) (fun w1 hm => dz v w1 (hN.below hm.below) hz) J J ?_
 rintro ⟨c1, x1, xc1, kv1, o1, oc1, p1, pc1⟩ ⟨hc1, hkm⟩
 dsimp only at hc1 hkm
 subst hc1
 dsimp only [EN, NC, List.cons_append, List.nil_append]
 refine d6 (fun w1 hm => n6 hm) (fun hFK => ?_)
 refine bI (fun w1 hm => jk hm) ?_
 have hlk : kv1.length = v.kv.length := fP hkm
 have htx : ∀ u ∈ kv1, u.k.st.text.size ≤ 4611686018427387900 := fun u hu => by
  have h1 : u.k ∈ v.kv.map (·.k) := by rw [← hkm]; exact List.mem_map_of_mem hu
  obtain ⟨u0, hu0, e0⟩ := List.mem_map.1 h1
  rw [← e0]
  exact hgd.tx u0 hu0
 repeat' (first | refine ai ?_ | refine aa ?_ | refine ab ?_ | refine ag ?_ | (refine aD af J J J J J J ?_; intro g3) | ((refine' ap rfl ?_ J J ?_); rotate_left; exact ak af J J J J) | refine aj af 0 J J J J J J J J J J J J ?_)
 refine bI (fun w1 hm => hm.perm (List.perm_middle (l₁ := [_, _, _]))) ?_
 dsimp only [List.cons_append, List.nil_append]
 refine bD (σ := Value) (fun _ => True) (fun r => r) (fun _ => _) rfl (av J J J J ⟨J, J, trivial⟩ rfl (by kernel_rfl)) (fun w1 hM => (n7 g3 x1 xc1 _ _ _ _ _ _ _ _ _ _ _ _ _ _ kv1 0 w1 (by omega) htx hM).mono fun e w' ⟨r, h1, h2, h3⟩ => ⟨r, trivial, h2, h3⟩) J J ?_
 rintro rv -
 repeat' (first | refine ai ?_ | refine aa ?_ | refine ab ?_ | refine az ?_ | refine ag ?_ | ((refine' ap rfl ?_ J J ?_); rotate_left; exact ae af 1 J J J J J) | refine aj af 5 J J J J J J J J J J J J ?_)
 (refine aA af (fun _ => 5) J J ⟨J, trivial⟩ rfl fun w1 hm => ⟨⟨gU v.c, x1, xc1, kv1.map (ir 0), none, 0, p1, pc1⟩, rfl, ?_, ?_⟩)
 · simp only [List.length_map]; rfl
 · refine fE hm.below (by rw [List.length_map]; exact hm.2.get (i := 0) rfl) (World.ownsRow_nil _ _ _ _) (hm.2.get (i := 2) rfl) ?_ (fun u hu => ?_)
   · show v.c.ks.map (fU 0) = (kv1.map (ir 0)).map (·.k)
     rw [hN.eq, ← hkm, List.map_map, List.map_map]
     exact List.map_congr_left fun u _ => (tq 0 u).symm
   · obtain ⟨u0, hu0, rfl⟩ := List.mem_map.1 hu
     exact qr (((hm.2.get (i := 4) rfl).2.1 u0 hu0).mono hFK)
end Go.Proofs.YthiocbcokfondaaGreatDoor.Y
namespace Go.Proofs.YthiocbcokfondaaGreatDoor.Y
open Go.RowKit
section
variable {P : Program} {T : eU} {l0 rest : List Oper} {Z : Act → World → Prop} {Q : Exit → Act → World → Prop} {n : Nat} {w0 : World} {S : bR} {M M' M2 : List Ent} {p : World → Prop} {L : Cd} {o : Oper} {d : Nat}
theorem mR {f : FuncId} {args : List Value} {v : Value} (hg : o.guard = none) (ho : fh P S [] o f args) (hk : (xp o.op).pure = false) (hk2 : (xp o.op).read = false) (hc : ∀ w, Mem w0 w M → Calls P f ⟨args⟩ w fun e w' => e = .returned v ∧ Below w.heap.size w w')
 (hM' : ∀ w, Mem w0 w M → Mem w0 w M' ∧ p w) (hd : o.dst = some d) (hn : Nat.blt d n = true) (h : SY P l0 Z rest n w0 M' p ((d, [], v) :: S) M) : SY P l0 Z (o :: rest) n w0 M' p S M := by
 have hdn : d < n := Nat.le_of_ble_eq_true hn
 refine ⟨fun a w hS hM => bc (by unfold Region.wanted; rw [hg]) hk hk2 fun K hK => ?_⟩
 refine Vals.wp (R := fun v' w' => v' = v ∧ Mem w0 w' M) rfl (dM (ho.ok n a w hS rfl) ((hc w hM).mono fun e w' ⟨h1, h2⟩ => ⟨v, h1, rfl, hM.keep h2⟩)) (fun v' w' ⟨hv, hm⟩ => hK _ _ ⟨hM' _ hm, h.run _ _ ?_ hm⟩)
 subst hv
 rw [hd]; exact hS.put hdn (by simp [aF])
theorem fS {σ : Type} {f : FuncId} {args : List Value} (Φ : σ → Prop) (V : σ → Value) (N : σ → List Ent) (hg : o.guard = none) (ho : fh P S [] o f args)
 (hc : ∀ w, Mem w0 w M → Calls P f ⟨args⟩ w fun e w' => ∃ s, Φ s ∧ e = .returned (V s) ∧ Mem w0 w' (N s)) (hd : o.dst = some d) (hn : Nat.blt d n = true)
 (h : ∀ s, Φ s → SQ Q .normal n w0 ((d, [], V s) :: S) (N s)) : SY P l0 (iB P l0.toArray o (Q .normal)) [] n w0 M' p S M := by
 have hdn : d < n := Nat.le_of_ble_eq_true hn
 refine ⟨fun a w hS hM => cZ (iD (by unfold Region.wanted; rw [hg]) fun K hK => ?_)⟩
 refine Vals.wp (R := fun v' w' => ∃ s, Φ s ∧ v' = V s ∧ Mem w0 w' (N s)) rfl (dM (ho.ok n a w hS rfl) ((hc w hM).mono fun e w' ⟨s, h1, h2, h3⟩ => ⟨V s, h2, s, h1, rfl, h3⟩)) (fun v' w' ⟨s, h1, hv, hm⟩ => hK _ _ ((h s h1).run _ _ ?_ hm))
 subst hv
 rw [hd]; exact hS.put hdn (by simp [aF])
end
end Go.Proofs.YthiocbcokfondaaGreatDoor.Y
namespace Go.Proofs.YthiocbcokfondaaGreatDoor.Y
open Go.RowKit
def ft (cl : Bool) (x : bm) (u : Int) : bm := if cl = true ∨ ec x u ≤ 0 then x else yi x (ec x u)
def eK (cl : Bool) (x : bm) (u id : Int) (l : List bd) : List bd := if cl = true ∨ ec x u ≤ 0 then l else l ++ [⟨6, id, ec x u, emptyB⟩]
theorem gu (c : NL) : gbC c = { c with rw := ft c.cl c.rw (bh c.ks), ou := eK c.cl c.rw (bh c.ks) 0 c.ou } := by
 unfold gbC ft eK
 split <;> rfl
theorem vD {cl : Bool} {x : bm} {u id : Int} {l : List bd} : (eK cl x u id l).length ≤ l.length + 1 := by
 unfold eK
 split
 · exact Nat.le_succ _
 · rw [List.length_append, List.length_singleton]; exact Nat.le_refl _
theorem xT (x : bm) (u n : Int) (h : ec x u = n) (w : World) (hu : 0 ≤ u ∧ u ≤ 4611686018427387904) (hh : 0 ≤ x.held ∧ x.held ≤ 4611686018427387904) : Calls Tryz.prog 163 #[.agg #[.int .i64 x.size, .int .i64 x.left, .int .i64 x.held], .int .i64 u] w fun e w' => e = .returned (.int .i64 n) ∧ Below w.heap.size w w' := by
 subst h
 exact uX x u w hu hh
attribute [local irreducible] Calls
set_option maxRecDepth 100000 in
set_option maxHeartbeats 16000000 in
theorem iT {w0 : World} {M : List Ent} (gc : Nat) (a0 a1 a2 a3 a4 a5 a6 a7 b0 b1 : Value) (cl : Bool) (x : bm) (o : Option Addr) (oc : Nat) (ou : List bd) (id u : Int) (w : World) (hx : bq x = true) (hu0 : 0 ≤ u) (hu1 : u ≤ x.held) (hou : ou.length ≤ 2000000000) (hM : Mem w0 w (.own o oc 65 4 ou.length ((ou).flatMap fC) :: .cl gc 28 [a0, a1, a2, a3, a4, a5, a6, a7, .int .i64 x.size, .int .i64 x.left, .int .i64 x.held, b0, .slice o ou.length oc, b1, .bool cl] :: M)) : Calls Tryz.prog 102 #[.pointer (some ⟨gc, 0, none⟩), .pointer (some ⟨gc, 0 + 8, none⟩), .int .i64 id, .int .i64 u] w fun e w' => ∃ s : Value × Option Addr × Nat, True ∧ e = .returned s.1 ∧ Mem w0 w' (.own s.2.1 s.2.2 65 4 (eK cl x u id ou).length (((eK cl x u id ou)).flatMap fC) :: .cl gc 28 [a0, a1, a2, a3, a4, a5, a6, a7, .int .i64 (ft cl x u).size, .int .i64 (ft cl x u).left, .int .i64 (ft cl x u).held, b0, .slice s.2.1 (eK cl x u id ou).length s.2.2, b1, .bool cl] :: M) := by
 have hwo := bi.1 hx
 obtain ⟨hb0, hb1⟩ := lB hx hu0 hu1
 obtain ⟨n, hn⟩ : ∃ n, ec x u = n := ⟨_, rfl⟩
 unfold eK ft
 rw [hn] at hb0 hb1 ⊢
 refine cx hM Tryz.func102 rfl Tryz.ntmps102 J J ?_
 repeat' (first | refine ai ?_ | refine aa ?_ | refine ab ?_ | refine ag ?_ | ((refine' ap rfl ?_ J J ?_); rotate_left; first | exact ak af J J J J | exact aq af J J J J J J | exact bN J J J J J | exact ae af 1 J J J J J) | refine aH rfl (av J J J J ⟨J, J, trivial⟩ rfl (by kernel_rfl)) (fun w hm => xT x u n hn w ⟨hu0, by omega⟩ ⟨by omega, by omega⟩) J J ?_)
 by_cases hg : cl = true ∨ n ≤ 0
 · rw [if_pos hg, if_pos hg]
   refine aB rfl (by simpa using hg) ?_
   repeat' (first | refine az ?_ | refine ar ?_)
   (refine aA af (fun _ => 0) J J trivial rfl fun w1 hm => ?_)
   exact ⟨(_, o, oc), trivial, rfl, hm⟩
 · rw [if_neg hg, if_neg hg]
   refine am rfl (by
    cases h : (cl || decide (n ≤ 0)) with
    | false => rfl
    | true => exact absurd (by simpa using h) hg) ?_
   repeat' (first | refine ai ?_ | refine aa ?_ | refine ab ?_ | refine ay ?_ | refine ag ?_ | (refine dr af J J J ⟨J, trivial⟩ J J J J J J J J ?_; intro g) | (refine bW af 1 0 J J J J J J J J J (fun _ _ => rfl) f4 J J (by unfold maxLen; omega) (by omega) J J ?_; intro sa sc) | ((refine' ap rfl ?_ J J ?_); rotate_left; first | exact bU J J J J J (by omega) | exact pW J J J J J (by omega) | exact ak af J J J J | exact ae af 1 J J J J J | exact au af J J ⟨J, J, J, trivial⟩ J J J) | refine aj af 1 J J J J J J J J J J J J ?_ | refine aj af 2 J J J J J J J J J J J J ?_)
   (refine dP af (fun _ => 0) J J trivial rfl fun w1 hm => ?_)
   refine ⟨(_, sa, sc), trivial, rfl, ?_⟩
   have h1 := hm.mask [false, true, true] rfl
   rw [List.length_append, List.flatMap_append, List.flatMap_singleton]
   exact h1
theorem zw {u : KV} {i : Nat} {x : Value} (h : [Value.int .i64 u.k.st.rcv.size, .int .i64 u.k.st.rcv.left, .int .i64 u.k.st.rcv.held][i]? = some x) : (KC u)[13 + i]? = some x := by
 match i, h with
 | 0, h => exact h
 | 1, h => exact h
 | 2, h => exact h
set_option maxRecDepth 100000 in
set_option maxHeartbeats 16000000 in
theorem xU {w0 : World} {M : List Ent} (gc gx xc nn k : Nat) (a0 a1 a2 a3 a4 a5 a6 a7 a8 a9 a10 b0 b1 : Value) (cl : Bool) (kv : List KV) (u : KV) (hat : kv[k]? = some u) (o : Option Addr) (oc : Nat) (ou : List bd) (id r : Int) (w : World) (hx : bq u.k.st.rcv = true) (hu0 : 0 ≤ r) (hu1 : r ≤ u.k.st.rcv.held) (hou : ou.length ≤ 2000000000) (hM : Mem w0 w (.own o oc 65 4 ou.length ((ou).flatMap fC) :: .own (some ⟨gx, 0, none⟩) xc 39 22 nn ((kv).flatMap KC) :: .cl gc 28 [a0, a1, a2, a3, a4, a5, a6, a7, a8, a9, a10, b0, .slice o ou.length oc, b1, .bool cl] :: M)) : Calls Tryz.prog 102 #[.pointer (some ⟨gc, 0, none⟩), .pointer (some ⟨gx, 0 + k * 22 + 13, none⟩), .int .i64 id, .int .i64 r] w fun e w' => ∃ s : Value × Option Addr × Nat, True ∧ e = .returned s.1 ∧ Mem w0 w' (.own s.2.1 s.2.2 65 4 (eK cl u.k.st.rcv r id ou).length (((eK cl u.k.st.rcv r id ou)).flatMap fC) :: .own (some ⟨gx, 0, none⟩) xc 39 22 nn ((kv.set k { u with k := { u.k with st := { u.k.st with rcv := ft cl u.k.st.rcv r } } }).flatMap KC) :: .cl gc 28 [a0, a1, a2, a3, a4, a5, a6, a7, a8, a9, a10, b0, .slice s.2.1 (eK cl u.k.st.rcv r id ou).length s.2.2, b1, .bool cl] :: M) := by
 have hwo := bi.1 hx
 obtain ⟨hb0, hb1⟩ := lB hx hu0 hu1
 obtain ⟨n, hn⟩ : ∃ n, ec u.k.st.rcv r = n := ⟨_, rfl⟩
 unfold eK ft
 rw [hn] at hb0 hb1 ⊢
 refine cx hM Tryz.func102 rfl Tryz.ntmps102 J J ?_
 repeat' (first | refine ai ?_ | refine aa ?_ | ((refine' ap rfl ?_ J J ?_); rotate_left; exact ak af J J J J))
 ((refine' ap rfl ?_ J J ?_); rotate_left; exact jb af 1 (cs := [.int .i64 u.k.st.rcv.size, .int .i64 u.k.st.rcv.left, .int .i64 u.k.st.rcv.held]) J J J J J J (fun _ i x hx => by rw [Nat.zero_add, Nat.add_assoc]; exact be aV hat (zw hx)))
 repeat' (first | refine ai ?_ | refine aa ?_ | refine ab ?_ | refine ag ?_ | ((refine' ap rfl ?_ J J ?_); rotate_left; first | exact ak af J J J J | exact aq af J J J J J J | exact bN J J J J J | exact ae af 2 J J J J J) | refine aH rfl (av J J J J ⟨J, J, trivial⟩ rfl (by kernel_rfl)) (fun w hm => xT u.k.st.rcv r n hn w ⟨hu0, by omega⟩ ⟨by omega, by omega⟩) J J ?_)
 by_cases hg : cl = true ∨ n ≤ 0
 · rw [if_pos hg, if_pos hg]
   refine aB rfl (by simpa using hg) ?_
   repeat' (first | refine az ?_ | refine ar ?_)
   (refine aA af (fun _ => 0) J J trivial rfl fun w1 hm => ?_)
   refine ⟨(_, o, oc), trivial, rfl, ?_⟩
   rw [show kv.set k u = kv by obtain ⟨h1, h2⟩ := List.getElem?_eq_some_iff.1 hat; rw [← h2]; exact List.set_getElem_self h1]
   exact hm
 · rw [if_neg hg, if_neg hg]
   refine am rfl (by
    cases h : (cl || decide (n ≤ 0)) with
    | false => rfl
    | true => exact absurd (by simpa using h) hg) ?_
   repeat' (first | refine ai ?_ | refine aa ?_ | refine ab ?_ | refine ay ?_ | ((refine' ap rfl ?_ J J ?_); rotate_left; exact ak af J J J J))
   ((refine' ap rfl ?_ J J ?_); rotate_left; exact cg af 1 (v := .int .i64 u.k.st.rcv.left) J J J J J J (fun _ => by rw [Nat.zero_add]; exact be aV hat (k := 14) rfl))
   repeat' (((refine' ap rfl ?_ J J ?_); rotate_left; first | exact bU J J J J J (by omega) | exact ak af J J J J))
   refine cM af 1 J J J J J J J J J (show iu _ (0 + k * 22 + 14) _ = _ from by rw [Nat.zero_add]; exact cK aV (kv) k 14 (u) ({ u with k := { u.k with st := { u.k.st with rcv := ⟨u.k.st.rcv.size, u.k.st.rcv.left + n, u.k.st.rcv.held⟩ } } }) _ hat rfl) J J ?_
   repeat' (first | refine ai ?_ | refine aa ?_ | refine ab ?_ | refine ag ?_ | ((refine' ap rfl ?_ J J ?_); rotate_left; exact ak af J J J J))
   have hat1 : (kv.set k { u with k := { u.k with st := { u.k.st with rcv := ⟨u.k.st.rcv.size, u.k.st.rcv.left + n, u.k.st.rcv.held⟩ } } })[k]? = some { u with k := { u.k with st := { u.k.st with rcv := ⟨u.k.st.rcv.size, u.k.st.rcv.left + n, u.k.st.rcv.held⟩ } } } := dy hat _
   ((refine' ap rfl ?_ J J ?_); rotate_left; exact cg af 1 (v := .int .i64 u.k.st.rcv.held) J J J J J J (fun _ => by rw [Nat.zero_add]; exact be aV hat1 (k := 15) rfl))
   repeat' (((refine' ap rfl ?_ J J ?_); rotate_left; first | exact pW J J J J J (by omega) | exact ak af J J J J))
   refine cM af 1 J J J J J J J J J (show iu _ (0 + k * 22 + 15) _ = _ from by rw [Nat.zero_add]; exact cK aV (kv.set k { u with k := { u.k with st := { u.k.st with rcv := ⟨u.k.st.rcv.size, u.k.st.rcv.left + n, u.k.st.rcv.held⟩ } } }) k 15 ({ u with k := { u.k with st := { u.k.st with rcv := ⟨u.k.st.rcv.size, u.k.st.rcv.left + n, u.k.st.rcv.held⟩ } } }) ({ u with k := { u.k with st := { u.k.st with rcv := yi u.k.st.rcv n } } }) _ hat1 rfl) J J ?_
   rw [List.set_set]
   repeat' (first | refine aa ?_ | refine ab ?_ | refine ag ?_ | (refine dr af J J J ⟨J, trivial⟩ J J J J J J J J ?_; intro g) | (refine bW af 1 0 J J J J J J J J J (fun _ _ => rfl) f4 J J (by unfold maxLen; omega) (by omega) J J ?_; intro sa sc) | ((refine' ap rfl ?_ J J ?_); rotate_left; first | exact ak af J J J J | exact ae af 2 J J J J J | exact au af J J ⟨J, J, J, trivial⟩ J J J) | refine aj af 3 J J J J J J J J J J J J ?_)
   (refine dP af (fun _ => 0) J J trivial rfl fun w1 hm => ?_)
   refine ⟨(_, sa, sc), trivial, rfl, ?_⟩
   have h1 := hm.mask [false, true, true, true] rfl
   rw [List.length_append, List.flatMap_append, List.flatMap_singleton]
   exact h1
end Go.Proofs.YthiocbcokfondaaGreatDoor.Y
namespace Go.Proofs.YthiocbcokfondaaGreatDoor.Y
open Go.RowKit
theorem tr (c : Int) (t : ByteArray) : (kj c t).size < 4294967281 := by
 unfold kj
 split
 · rename_i h
   have h1 := rV h
   have h2 := (cd c.toNat).2
   show (yJ (bB c.toNat) t).size < _
   unfold yJ
   rw [ByteArray.size_append]
   show (bB c.toNat).toArray.size + t.size < _
   rw [List.size_toArray]
   omega
 · decide
theorem sk {w w' : World} {b o : Nat} {cs : List Value} (h : w.rangeAt b o cs) (hb : Below w.heap.size w w') : w'.rangeAt b o cs := fun j v hv => by
 have h1 := h j v hv
 exact (hb.cell (block_lt_of_cell h1)).trans h1
theorem zx {w0 w : World} {M : List Ent} {g : Nat} {T : TypeId} {cs : List Value} (i : Nat) (hM : Mem w0 w M) (h : eE M i = some (.cl g T cs)) : w.rangeAt g 0 cs := fun j v hv => by
 have hb : Bk w g T ⟨cs⟩ := (hM.2.get (i := i) h).2
 have := hb.at_ j (by simpa using hv)
 rw [Nat.zero_add]
 exact this
theorem CF {w : World} {M : List Ent} : ∀ w1, Mem w w1 M → ∀ b, b < w.heap.size → b < w1.heap.size ∧ ∀ f ∈ M, ¬ f.mut b := fun _ hm _ hb => ⟨Nat.lt_of_lt_of_le hb hm.1.size, fun _ hf => j4 hm hb hf⟩
theorem xV {F O : Nat → Prop} {w1 w2 : World} {s : NV} (h : OutN F w1 w2 s) (hO : ∀ b, F b → O b) : ∃ Fs : Nat → Prop, ∃ g : Nat → Prop, MemL w1.heap.size w2 [.rep Fs (fun w => NOk Fs w s)] ∧ (∀ f ∈ [Ent.rep Fs (fun w => NOk Fs w s)], ∀ b, f.mut b → g b) ∧ (∀ f ∈ [Ent.rep Fs (fun w => NOk Fs w s)], ∀ b, f.foot b → g b ∨ O b) ∧ (∀ b, g b → w1.heap.size ≤ b ∧ b < w2.heap.size) ∧ ∀ b, Fs b → F b ∨ w1.heap.size ≤ b := by
 refine ⟨fun b => (F b ∨ w1.heap.size ≤ b) ∧ b < w2.heap.size, fun b => w1.heap.size ≤ b ∧ b < w2.heap.size, ⟨⟨fun _ h => h.2, h.1.lt, fun w3 w4 hk h => h.agree hk⟩, fun f hf => (by cases hf), trivial⟩, fun f hf b hm => ?_, fun f hf b hm => ?_, fun _ h => h, fun b hb => hb.1⟩
 · obtain rfl := List.mem_singleton.1 hf
   exact hm.elim
 · obtain rfl := List.mem_singleton.1 hf
   have hm' : (F b ∨ w1.heap.size ≤ b) ∧ b < w2.heap.size := hm
   rcases hm'.1 with h | h
   · exact .inr (hO b h)
   · exact .inl ⟨h, hm'.2⟩
theorem BZ (c : Int) (s t : ByteArray) (h : kj c s = t) (w : World) (hs : s.size ≤ 4611686018427387900) : Calls Tryz.prog 104 #[.agg #[.int .i64 c, .string s]] w fun e w' => e = .returned (.string t) ∧ Below w.heap.size w w' := by
 subst h
 exact wz c s w hs
theorem CG (c : Int) (s : ByteArray) (n : Int) (h : bj c s = n) (w : World) (hs : s.size ≤ 4611686018427387900) : Calls Tryz.prog 106 #[.agg #[.int .i64 c, .string s]] w fun e w' => e = .returned (.int .i64 n) ∧ Below w.heap.size w w' := by
 subst h
 exact fw c s w hs
attribute [local irreducible] Calls
set_option maxRecDepth 100000 in
set_option maxHeartbeats 8000000 in
theorem vE  (w : World) : Calls Tryz.prog 103 #[] w fun e w' => e = .returned (.int .i64 0) ∧ Below w.heap.size w w' := by
 refine aI Tryz.func103 rfl Tryz.ntmps103 J J ?_
 repeat' (first | refine ai ?_ | refine aa ?_ | refine ab ?_ | refine az ?_ | refine ag ?_ | ((refine' ap rfl ?_ J J ?_); rotate_left; exact ak af J J J J))
 refine aA af (fun _ => 0) J J trivial rfl fun w hm => ⟨?_, hm.below⟩
 rfl
set_option maxRecDepth 100000 in
set_option maxHeartbeats 8000000 in
theorem vF (tc : Int) (tt : ByteArray) (ck : Int) (hck : bj tc tt = ck) (g5 : Nat) (w : World) (hrow : w.rangeAt g5 0 [.int .i64 tc, .string tt]) (htt : tt.size ≤ 4611686018427387900) : Calls Tryz.prog 105 #[.pointer (some ⟨g5, 0, none⟩)] w fun e w' => e = .returned (.int .i64 ck) ∧ Below w.heap.size w w' := by
 refine aI Tryz.func105 rfl Tryz.ntmps105 J J ?_
 repeat' (first | refine ai ?_ | refine aa ?_ | refine ab ?_ | refine az ?_ | refine ag ?_ | ((refine' ap rfl ?_ J J ?_); rotate_left; first | exact co af (cs := [.int .i64 tc, .string tt]) J J J J J (fun _ => hrow) | exact ak af J J J J) | refine aH rfl (av J J J J ⟨J, trivial⟩ rfl (by kernel_rfl)) (fun w hm => CG tc tt ck hck w htt) J J ?_)
 refine aA af (fun _ => 0) J J trivial rfl fun w hm => ⟨?_, hm.below⟩
 rfl
theorem AV (ck : Int) (h : (0 : Int) = ck) (w : World) : Calls Tryz.prog 103 #[] w fun e w' => e = .returned (.int .i64 ck) ∧ Below w.heap.size w w' := by
 subst h
 exact vE w
set_option maxRecDepth 100000 in
set_option maxHeartbeats 32000000 in
theorem tu {A : Nat → Prop} (v : NV) (f : bd) (ck : Int) (w : World) (hN : NOk A w v) (hz : rk v) (hgd : uc v) (hfd : f.data.size < 4294967281) (hg : MLen w) (hck0 : (0 : Int) = ck) : Calls Tryz.prog 95 #[.agg #[.int .i64 v.c.sd, .int .i64 v.c.nx, .int .i64 v.c.la, .int .i64 v.c.aw, .int .i64 v.c.sz, .int .i64 v.c.sw.size, .int .i64 v.c.sw.left, .int .i64 v.c.sw.held, .int .i64 v.c.rw.size, .int .i64 v.c.rw.left, .int .i64 v.c.rw.held, .slice v.x v.kv.length v.xc, .slice v.o v.c.ou.length v.oc, .slice v.p v.c.pg.length v.pc, .bool v.c.cl], .agg #[.int .i64 f.kind, .int .i64 f.strm, .int .i64 f.num, .string f.data], .func (.func 103) #[] #[]] w fun e w' => ∃ v' : NV, v'.c = (bJ v.c f ck).1 ∧ e = .returned (.tuple #[.agg ⟨NC v'⟩, .int .i64 (bJ v.c f ck).2]) ∧ OutN A w w' v' := by
 refine aI Tryz.func95 rfl Tryz.ntmps95 J J ?_
 have hzk := hz.ks
 obtain ⟨o, ho⟩ : ∃ o, cX f.strm v.c.ks 0 = o := ⟨_, rfl⟩
 repeat' (first | refine ai ?_ | refine aa ?_ | refine ab ?_ | refine ag ?_ | (refine aR J J J J J J ?_; intro g3) | (refine aD af J J J J J J ?_; intro g6) | ((refine' ap rfl ?_ J J ?_); rotate_left; first | exact ak af J J J J | exact aq af J J J J J J | exact ae af 1 J J J J J | exact ae af 2 J J J J J) | refine aH rfl (av J J J J ⟨J, J, trivial⟩ rfl (by kernel_rfl)) (fun w hm => nK v f.strm o w (hN.below hm.below) (by omega) ho) J J ?_)
 cases o with
 | none =>
  have hwl : bJ v.c f ck = (v.c, 10) := by unfold bJ fK; rw [ho]; rfl
  refine aB J J ?_
  repeat' (first | refine ai ?_ | refine aa ?_ | refine ab ?_ | refine az ?_ | refine ar ?_ | refine ag ?_ | ((refine' ap rfl ?_ J J ?_); rotate_left; first | exact ak af J J J J | exact ae af 2 J J J J J) | refine aj af 0 J J J J J J J J J J J J ?_)
  (refine aA af (fun _ => 0) J J ⟨J, trivial⟩ rfl fun w1 hm => ⟨v, ?_, ?_, OutN.same hN hm.below⟩)
  · rw [hwl]
  · rw [hwl]; rfl
 | some i =>
  obtain ⟨q, hq, _⟩ := ga ho
  obtain ⟨u, hu, huk⟩ : ∃ u, v.kv[i]? = some u ∧ u.k = q := by rw [hN.eq, List.getElem?_map] at hq; simpa using hq
  have hat := ma hN.eq hu
  have hum := List.mem_of_getElem? hu
  have hi : i < v.kv.length := (List.getElem?_eq_some_iff.1 hu).1
  obtain ⟨bb, off, hx, _, _, hrows⟩ := hN.ks (by omega)
  have hrow : w.rangeAt bb (off + i * 22) (KC u) := hrows i u hu
  obtain ⟨hk1, hk2, hk3⟩ := hN.ok u hum
  obtain ⟨hs1, hs2, hs3⟩ := hz.ok u hum
  have htx := hgd.tx u hum
  have hfr := hgd.fr u hum
  obtain ⟨r, hr⟩ : ∃ r, dh u.k.ob u.k.st = r := ⟨_, rfl⟩
  have hrt : r.st.text.size ≤ 4611686018427387900 := by rw [← hr]; exact mL _ _ htx hfr
  obtain ⟨r2, hr2⟩ : ∃ r2, bE r.st f = r2 := ⟨_, rfl⟩
  have hwe : fK v.c f ck = if ck ≠ 0 then ck else if r.err ≠ 0 then r.err else r2.err := by unfold fK; rw [ho]; dsimp only; rw [hat, hr, hr2]
  refine am rfl (show decide (((i : Nat) : Int) < 0) = false from decide_eq_false (by omega)) ?_
  repeat' (first | refine ai ?_ | refine aa ?_ | refine ab ?_ | refine ay ?_ | refine ag ?_ | ((refine' ap rfl ?_ J J ?_); rotate_left; first | exact ak af J J J J | exact aq af J J J J J J) | refine aH rfl (av J J J J trivial rfl (by kernel_rfl)) (fun w hm => AV ck hck0 w) J J ?_)
  by_cases hck : ck = 0
  rotate_left
  · have hwl : bJ v.c f ck = (v.c, ck) := by unfold bJ; rw [hwe, if_pos hck, if_pos hck]
    refine aB rfl (by simpa using hck) ?_
    repeat' (first | refine ai ?_ | refine aa ?_ | refine ab ?_ | refine az ?_ | refine ar ?_ | refine ag ?_ | ((refine' ap rfl ?_ J J ?_); rotate_left; first | exact ak af J J J J | exact ae af 2 J J J J J) | refine aj af 0 J J J J J J J J J J J J ?_)
    (refine aA af (fun _ => 0) J J ⟨J, trivial⟩ rfl fun w1 hm => ⟨v, ?_, ?_, OutN.same hN hm.below⟩)
    · rw [hwl]
    · rw [hwl]; rfl
  refine am rfl (by simpa using hck) ?_
  rw [if_neg (by simpa using hck)] at hwe
  rw [hx]
  repeat' (first | refine ai ?_ | refine aa ?_ | refine ab ?_ | refine ay ?_ | refine ag ?_ | (refine aD af J J J J J J ?_; intro g10) | ((refine' ap rfl ?_ J J ?_); rotate_left; first | exact bO af (m := 22) i J J J J J J J J (fun _ => rfl) (fun _ => hi) | exact co af (cs := KC u) J J J J J (fun _ => hrow) | exact ak af J J J J | exact aq af J J J J J J | exact ae af 2 J J J J J) | refine aH rfl (av J J J J ⟨J, trivial⟩ rfl (by kernel_rfl)) (fun w hm => zp u r hr w (hk3.below hm.below) hs3 htx hfr (hg.below hm.below)) J J ?_ | refine aj af 0 J J J J J J J J J J J J ?_)
  by_cases he1 : r.err = 0
  rotate_left
  · have hwl : bJ v.c f ck = (v.c, r.err) := by unfold bJ; rw [hwe, if_pos he1, if_pos he1]
    refine aB rfl (by simpa using he1) ?_
    rw [← hx]
    repeat' (first | refine ai ?_ | refine aa ?_ | refine ab ?_ | refine az ?_ | refine ar ?_ | refine ag ?_ | ((refine' ap rfl ?_ J J ?_); rotate_left; first | exact ak af J J J J | exact ae af 3 J J J J J) | refine aj af 1 J J J J J J J J J J J J ?_)
    (refine aA af (fun _ => 1) J J ⟨J, trivial⟩ rfl fun w1 hm => ⟨v, ?_, ?_, OutN.same hN hm.below⟩)
    · rw [hwl]
    · rw [hwl]; rfl
  refine am rfl (by simpa using he1) ?_
  rw [if_neg (by simpa using he1)] at hwe
  repeat' (first | refine ai ?_ | refine aa ?_ | refine ab ?_ | refine ay ?_ | refine ag ?_ | (refine aD af J J J J J J ?_; intro g12) | ((refine' ap rfl ?_ J J ?_); rotate_left; first | exact ak af J J J J | exact aq af J J J J J J | exact ae af 0 J J J J J | exact ae af 2 J J J J J) | refine aH rfl (av J J J J ⟨J, J, trivial⟩ rfl (by kernel_rfl)) (fun w hm => nH r.st f r2 hr2 w hrt hfd (hg.below hm.below)) J J ?_ | refine aj af 0 J J J J J J J J J J J J ?_)
  by_cases he2 : r2.err = 0
  rotate_left
  · have hwl : bJ v.c f ck = (v.c, r2.err) := by unfold bJ; rw [hwe, if_pos he2]
    refine aB rfl (by simpa using he2) ?_
    rw [← hx]
    repeat' (first | refine ai ?_ | refine aa ?_ | refine ab ?_ | refine az ?_ | refine ar ?_ | refine ag ?_ | ((refine' ap rfl ?_ J J ?_); rotate_left; first | exact ak af J J J J | exact ae af 4 J J J J J) | refine aj af 2 J J J J J J J J J J J J ?_)
    (refine aA af (fun _ => 2) J J ⟨J, trivial⟩ rfl fun w1 hm => ⟨v, ?_, ?_, OutN.same hN hm.below⟩)
    · rw [hwl]
    · rw [hwl]; rfl
  refine am rfl (by simpa using he2) ?_
  have hwl : bJ v.c f ck = (eM (eb v.c i (fun k => { k with ob := k.ob ++ [f] })) i, 0) := by unfold bJ; rw [hwe, if_neg (by simpa using he2), ho]; rfl
  rw [hwl]
  rw [← hx]
  repeat' (first | refine ai ?_ | refine aa ?_ | refine ab ?_ | refine ay ?_ | ((refine' ap rfl ?_ J J ?_); rotate_left; exact ae af 4 J J J J J))
  refine cy (σ := NV) (fun s => s.c = v.c ∧ s.kv.map (·.k) = v.kv.map (·.k)) (fun s => .agg ⟨NC s⟩) (fun s => EN s) rfl (av J J J J ⟨J, trivial⟩ rfl (by kernel_rfl)) (fun w1 hm => dz v w1 (hN.below hm.below) hz) J J ?_
  rintro ⟨c1, x1, xc1, kv1, o1, oc1, p1, pc1⟩ ⟨hc1, hkm⟩
  dsimp only at hc1 hkm
  subst hc1
  dsimp only [EN, List.cons_append, List.nil_append]
  obtain ⟨u1, hu1, hu1k⟩ := mb hkm hu
  have hi1 : i < kv1.length := (List.getElem?_eq_some_iff.1 hu1).1
  have hob : u1.k.ob.length ≤ 1000000000 := by rw [hu1k]; exact hgd.ob u hum
  have hou := hgd.ou
  refine bI (fun w h => h.perm (pZ [_, _, _] (kv1.flatMap EK) [_, _, _, _, _])) ?_
  refine bI (fun w h => h.perm (nL ([_, _, _] ++ [_, _, _, _, _]) hu1)) ?_
  dsimp only [EK, List.cons_append, List.nil_append]
  refine ip 5 rfl (by omega) ?_
  rintro gx rfl
  repeat' (first | refine ai ?_ | refine aa ?_ | refine ab ?_ | refine ag ?_ | (refine aD af J J J J J J ?_; intro g14) | ((refine' ap rfl ?_ J J ?_); rotate_left; first | exact bO af (m := 22) i J J J J J J J J (fun _ => rfl) (fun _ => hi1) | exact ak af J J J J | exact ae af 0 J J J J J) | refine aj af 0 J J J J J J J J J J J J ?_)
  refine cP 7 [64] [] aC rfl (by kernel_rfl) ?_
  iterate 6 (((refine' jK rfl ?_ J J J ?_); rotate_left; first | exact cg af 6 (v := .slice u1.o u1.k.ob.length u1.oc) J J J J J J (fun _ => by rw [Nat.zero_add]; exact be aV hu1 (k := 21) rfl) | exact ak af J J J J | exact ae af 10 J J J J J))
  refine di af 63 J J (by simp [aF]) rfl (by simp [aF]) rfl ⟨J, trivial⟩ J J J J J J J J J J J ?_
  refine fp ?_
  rintro s1 -
  dsimp only [List.cons_append, List.nil_append]
  refine bW af 3 0 J J J J J J J J J (fun _ _ => rfl) f4 J J (by unfold maxLen; omega) (by omega) J J ?_
  intro sa sc
  repeat' (((refine' ap rfl ?_ J J ?_); rotate_left; exact ak af J J J J))
  refine cM af 7 J J J J J J J J J (show iu _ (0 + i * 22 + 21) _ = _ from by rw [Nat.zero_add]; exact cK aV (kv1) i 21 (u1) ({ u1 with k := { u1.k with ob := u1.k.ob ++ [f] }, o := sa, oc := sc }) _ hu1 (by rw [show u1.k.ob.length + 1 = (u1.k.ob ++ [f]).length by simp]; rfl)) J J ?_
  repeat' (first | refine ai ?_ | refine aa ?_ | refine ab ?_ | refine ag ?_ | ((refine' ap rfl ?_ J J ?_); rotate_left; exact ak af J J J J))
  have htx2 : ({ u1 with k := { u1.k with ob := u1.k.ob ++ [f] }, o := sa, oc := sc } : KV).k.st.text.size ≤ 4611686018427387900 := by show u1.k.st.text.size ≤ _; rw [hu1k]; exact htx
  have hfr2 : ∀ x ∈ ({ u1 with k := { u1.k with ob := u1.k.ob ++ [f] }, o := sa, oc := sc } : KV).k.ob, x.data.size < 4294967281 := fun x hx => by
   rcases List.mem_append.1 hx with hx | hx
   · exact hfr x (by rw [← hu1k]; exact hx)
   · obtain rfl := List.mem_singleton.1 hx
     exact hfd
  have hk2 : (kv1.set i { u1 with k := { u1.k with ob := u1.k.ob ++ [f] }, o := sa, oc := sc })[i]? = some { u1 with k := { u1.k with ob := u1.k.ob ++ [f] }, o := sa, oc := sc } := dy hu1 _
  refine d6 (p := u1.k.ob.length + 1 ≤ sc ∧ ∀ ad, sa = some ad → w.heap.size ≤ ad.block) (fun w h => ⟨jf (h.2.get (i := 3) rfl), fun ad had => (Ent.ok.mut_lt (h.2.get (i := 3) rfl) (k := ad.block) (by subst had; rfl)).1⟩) (fun hcp2 => ?_)
  obtain ⟨hcap2, hnew⟩ := hcp2
  refine bI (fun w h => (((Mem.toRep1 (u1.k.ob ++ [f]) dI (by simp) (by simp [fC]) ((h.mask [false, true, true, true, true, true, true, true, false, false, true, false, false] rfl).perm (List.perm_middle (l₁ := [_, _])))).perm (List.perm_middle (l₁ := [_]))).perm (List.perm_middle (l₁ := [_, _, _, _, _, _]))).perm (List.perm_middle (l₁ := [_, _, _, _, _, _]))) ?_
  dsimp only [List.cons_append, List.nil_append]
  refine bD (σ := Value × j8) (fun s => zW v.c { u1 with k := { u1.k with ob := u1.k.ob ++ [f] }, o := sa, oc := sc } s.2 ∧ jW (u1.k.ob ++ [f]) u1.k.st v.c.sw v.c.ou = ⟨s.2.st, s.2.w, s.2.r, s.2.ou⟩) (fun s => s.1) (fun s => _) rfl (av J J J J ⟨J, J, trivial⟩ rfl (by kernel_rfl)) (fun w1 hM => (jL _ gx xc1 o1 oc1 p1 pc1 v.c (kv1.set i { u1 with k := { u1.k with ob := u1.k.ob ++ [f] }, o := sa, oc := sc }) kv1.length i { u1 with k := { u1.k with ob := u1.k.ob ++ [f] }, o := sa, oc := sc } hk2 _ w1 htx2 hfr2 (by show (u1.k.ob ++ [f]).length ≤ sc; simp; exact hcap2) (by show v.c.ou.length + (u1.k.ob ++ [f]).length ≤ _; simp; omega) (hM.2.get (i := 3) rfl).2.1 hg hM).mono fun e w' ⟨s, h1, h2, h3⟩ => ⟨s, h1, h2, h3⟩) J J ?_
  rintro ⟨rv, s⟩ ⟨hI, hsol⟩
  dsimp only at hI hsol ⊢
  have hC : eM (eb v.c i (fun k => { k with ob := k.ob ++ [f] })) i = { v.c with sw := s.w, ks := v.c.ks.set i (uS { u1 with k := { u1.k with ob := u1.k.ob ++ [f] }, o := sa, oc := sc } s).k, ou := s.ou } := by
   have h9 := qi (c := v.c) (i := i) (g := fun k => { k with ob := k.ob ++ [f] }) (k := ({ u1 with k := { u1.k with ob := u1.k.ob ++ [f] }, o := sa, oc := sc } : KV).k) (by rw [hN.lenk]; exact hi) (by rw [hat, ← hu1k]) hsol
   exact h9
  rw [hC]
  repeat' (first | refine ai ?_ | refine aa ?_ | refine ab ?_ | refine az ?_ | refine ag ?_ | ((refine' ap rfl ?_ J J ?_); rotate_left; first | exact ak af J J J J | exact ae af 2 J J J J J) | refine aj af 7 J J J J J J J J J J J J ?_)
  (refine aA af (fun _ => 7) J J ⟨J, trivial⟩ rfl fun w1 hm => ⟨⟨{ v.c with sw := s.w, ks := v.c.ks.set i (uS { u1 with k := { u1.k with ob := u1.k.ob ++ [f] }, o := sa, oc := sc } s).k, ou := s.ou }, some ⟨gx, 0, none⟩, xc1, (kv1.set i { u1 with k := { u1.k with ob := u1.k.ob ++ [f] }, o := sa, oc := sc }).set i (uS { u1 with k := { u1.k with ob := u1.k.ob ++ [f] }, o := sa, oc := sc } s), s.o, s.oc, p1, pc1⟩, rfl, ?_, ⟨?_, hm.below⟩⟩)
  · unfold NC
    simp only [List.length_set]
  · have hg1 := hm.2.get (i := 1) rfl
    rw [show kv1.length = ((kv1.set i { u1 with k := { u1.k with ob := u1.k.ob ++ [f] }, o := sa, oc := sc }).set i (uS { u1 with k := { u1.k with ob := u1.k.ob ++ [f] }, o := sa, oc := sc } s)).length by simp] at hg1
    have hR : MemL w.heap.size w1 ((kv1.eraseIdx i).flatMap EK) := (hm.mask [false, false, false, false, false, false, false, false] rfl).2
    have hrep := (hm.2.get (i := 3) rfl).2.1
    refine ⟨(Rws.own aV hg1).mono fun _ => .inr, (Rws.own dI (hm.2.get (i := 0) rfl)).mono fun _ => .inr, (Rws.own eP (hm.2.get (i := 6) rfl)).mono fun _ => .inr, ?_, fun x hx => ?_⟩
    · rw [List.set_set, List.map_set, hkm, hN.eq]
    · rw [List.set_set] at hx
      rcases gb hi1 hx with rfl | hx
      · refine ⟨(Rws.own fm (hm.2.get (i := 4) rfl)).mono fun _ => .inr, (Rws.own fj (hm.2.get (i := 5) rfl)).mono fun _ => .inr, fun h0 => ?_⟩
        obtain ⟨b, off1, j, e1, e2, e3⟩ := hI.at_ h0
        obtain ⟨b', off', e4, _, e6, e7⟩ := hrep (by simp)
        have e1' : sa = some ⟨b, off1, none⟩ := e1
        rw [e1'] at e4
        obtain ⟨rfl, rfl⟩ := (by simpa using e4 : b = b' ∧ off1 = off')
        refine ⟨b, off1 + j * 4, e2, .inr (hnew _ e1'), e6, fun n y hy => ?_⟩
        have hy' : (({ u1 with k := { u1.k with ob := u1.k.ob ++ [f] }, o := sa, oc := sc } : KV).k.ob.drop j)[n]? = some y := by rw [← e3]; exact hy
        rw [List.getElem?_drop] at hy'
        have h8 := e7 (j + n) y hy'
        rw [show off1 + j * 4 + n * 4 = off1 + (j + n) * 4 by omega]
        exact h8
      · exact (KOk.own (ku hR hx)).mono fun _ => .inr
set_option maxRecDepth 100000 in
set_option maxHeartbeats 32000000 in
theorem tv {A : Nat → Prop} (v : NV) (f : bd) (ck : Int) (tc : Int) (tt : ByteArray) (gm : Nat) (w : World) (hN : NOk A w v) (hz : rk v) (hgd : uc v) (hfd : f.data.size < 4294967281) (hg : MLen w) (h5 : w.rangeAt gm 0 [.int .i64 tc, .string tt]) (htt : tt.size ≤ 4611686018427387900) (hck0 : bj tc tt = ck) : Calls Tryz.prog 95 #[.agg #[.int .i64 v.c.sd, .int .i64 v.c.nx, .int .i64 v.c.la, .int .i64 v.c.aw, .int .i64 v.c.sz, .int .i64 v.c.sw.size, .int .i64 v.c.sw.left, .int .i64 v.c.sw.held, .int .i64 v.c.rw.size, .int .i64 v.c.rw.left, .int .i64 v.c.rw.held, .slice v.x v.kv.length v.xc, .slice v.o v.c.ou.length v.oc, .slice v.p v.c.pg.length v.pc, .bool v.c.cl], .agg #[.int .i64 f.kind, .int .i64 f.strm, .int .i64 f.num, .string f.data], .func (.func 105) #[] #[.pointer (some ⟨gm, 0, none⟩)]] w fun e w' => ∃ v' : NV, v'.c = (bJ v.c f ck).1 ∧ e = .returned (.tuple #[.agg ⟨NC v'⟩, .int .i64 (bJ v.c f ck).2]) ∧ OutN A w w' v' := by
 refine aI Tryz.func95 rfl Tryz.ntmps95 J J ?_
 have hzk := hz.ks
 obtain ⟨o, ho⟩ : ∃ o, cX f.strm v.c.ks 0 = o := ⟨_, rfl⟩
 repeat' (first | refine ai ?_ | refine aa ?_ | refine ab ?_ | refine ag ?_ | (refine aR J J J J J J ?_; intro g3) | (refine aD af J J J J J J ?_; intro g6) | ((refine' ap rfl ?_ J J ?_); rotate_left; first | exact ak af J J J J | exact aq af J J J J J J | exact ae af 1 J J J J J | exact ae af 2 J J J J J) | refine aH rfl (av J J J J ⟨J, J, trivial⟩ rfl (by kernel_rfl)) (fun w hm => nK v f.strm o w (hN.below hm.below) (by omega) ho) J J ?_)
 cases o with
 | none =>
  have hwl : bJ v.c f ck = (v.c, 10) := by unfold bJ fK; rw [ho]; rfl
  refine aB J J ?_
  repeat' (first | refine ai ?_ | refine aa ?_ | refine ab ?_ | refine az ?_ | refine ar ?_ | refine ag ?_ | ((refine' ap rfl ?_ J J ?_); rotate_left; first | exact ak af J J J J | exact ae af 2 J J J J J) | refine aj af 0 J J J J J J J J J J J J ?_)
  (refine aA af (fun _ => 0) J J ⟨J, trivial⟩ rfl fun w1 hm => ⟨v, ?_, ?_, OutN.same hN hm.below⟩)
  · rw [hwl]
  · rw [hwl]; rfl
 | some i =>
  obtain ⟨q, hq, _⟩ := ga ho
  obtain ⟨u, hu, huk⟩ : ∃ u, v.kv[i]? = some u ∧ u.k = q := by rw [hN.eq, List.getElem?_map] at hq; simpa using hq
  have hat := ma hN.eq hu
  have hum := List.mem_of_getElem? hu
  have hi : i < v.kv.length := (List.getElem?_eq_some_iff.1 hu).1
  obtain ⟨bb, off, hx, _, _, hrows⟩ := hN.ks (by omega)
  have hrow : w.rangeAt bb (off + i * 22) (KC u) := hrows i u hu
  obtain ⟨hk1, hk2, hk3⟩ := hN.ok u hum
  obtain ⟨hs1, hs2, hs3⟩ := hz.ok u hum
  have htx := hgd.tx u hum
  have hfr := hgd.fr u hum
  obtain ⟨r, hr⟩ : ∃ r, dh u.k.ob u.k.st = r := ⟨_, rfl⟩
  have hrt : r.st.text.size ≤ 4611686018427387900 := by rw [← hr]; exact mL _ _ htx hfr
  obtain ⟨r2, hr2⟩ : ∃ r2, bE r.st f = r2 := ⟨_, rfl⟩
  have hwe : fK v.c f ck = if ck ≠ 0 then ck else if r.err ≠ 0 then r.err else r2.err := by unfold fK; rw [ho]; dsimp only; rw [hat, hr, hr2]
  refine am rfl (show decide (((i : Nat) : Int) < 0) = false from decide_eq_false (by omega)) ?_
  repeat' (first | refine ai ?_ | refine aa ?_ | refine ab ?_ | refine ay ?_ | refine ag ?_ | ((refine' ap rfl ?_ J J ?_); rotate_left; first | exact ak af J J J J | exact aq af J J J J J J) | refine aH rfl (av J J J J trivial rfl (by kernel_rfl)) (fun w hm => vF tc tt ck hck0 gm w (sk h5 hm.below) htt) J J ?_)
  by_cases hck : ck = 0
  rotate_left
  · have hwl : bJ v.c f ck = (v.c, ck) := by unfold bJ; rw [hwe, if_pos hck, if_pos hck]
    refine aB rfl (by simpa using hck) ?_
    repeat' (first | refine ai ?_ | refine aa ?_ | refine ab ?_ | refine az ?_ | refine ar ?_ | refine ag ?_ | ((refine' ap rfl ?_ J J ?_); rotate_left; first | exact ak af J J J J | exact ae af 2 J J J J J) | refine aj af 0 J J J J J J J J J J J J ?_)
    (refine aA af (fun _ => 0) J J ⟨J, trivial⟩ rfl fun w1 hm => ⟨v, ?_, ?_, OutN.same hN hm.below⟩)
    · rw [hwl]
    · rw [hwl]; rfl
  refine am rfl (by simpa using hck) ?_
  rw [if_neg (by simpa using hck)] at hwe
  rw [hx]
  repeat' (first | refine ai ?_ | refine aa ?_ | refine ab ?_ | refine ay ?_ | refine ag ?_ | (refine aD af J J J J J J ?_; intro g10) | ((refine' ap rfl ?_ J J ?_); rotate_left; first | exact bO af (m := 22) i J J J J J J J J (fun _ => rfl) (fun _ => hi) | exact co af (cs := KC u) J J J J J (fun _ => hrow) | exact ak af J J J J | exact aq af J J J J J J | exact ae af 2 J J J J J) | refine aH rfl (av J J J J ⟨J, trivial⟩ rfl (by kernel_rfl)) (fun w hm => zp u r hr w (hk3.below hm.below) hs3 htx hfr (hg.below hm.below)) J J ?_ | refine aj af 0 J J J J J J J J J J J J ?_)
  by_cases he1 : r.err = 0
  rotate_left
  · have hwl : bJ v.c f ck = (v.c, r.err) := by unfold bJ; rw [hwe, if_pos he1, if_pos he1]
    refine aB rfl (by simpa using he1) ?_
    rw [← hx]
    repeat' (first | refine ai ?_ | refine aa ?_ | refine ab ?_ | refine az ?_ | refine ar ?_ | refine ag ?_ | ((refine' ap rfl ?_ J J ?_); rotate_left; first | exact ak af J J J J | exact ae af 3 J J J J J) | refine aj af 1 J J J J J J J J J J J J ?_)
    (refine aA af (fun _ => 1) J J ⟨J, trivial⟩ rfl fun w1 hm => ⟨v, ?_, ?_, OutN.same hN hm.below⟩)
    · rw [hwl]
    · rw [hwl]; rfl
  refine am rfl (by simpa using he1) ?_
  rw [if_neg (by simpa using he1)] at hwe
  repeat' (first | refine ai ?_ | refine aa ?_ | refine ab ?_ | refine ay ?_ | refine ag ?_ | (refine aD af J J J J J J ?_; intro g12) | ((refine' ap rfl ?_ J J ?_); rotate_left; first | exact ak af J J J J | exact aq af J J J J J J | exact ae af 0 J J J J J | exact ae af 2 J J J J J) | refine aH rfl (av J J J J ⟨J, J, trivial⟩ rfl (by kernel_rfl)) (fun w hm => nH r.st f r2 hr2 w hrt hfd (hg.below hm.below)) J J ?_ | refine aj af 0 J J J J J J J J J J J J ?_)
  by_cases he2 : r2.err = 0
  rotate_left
  · have hwl : bJ v.c f ck = (v.c, r2.err) := by unfold bJ; rw [hwe, if_pos he2]
    refine aB rfl (by simpa using he2) ?_
    rw [← hx]
    repeat' (first | refine ai ?_ | refine aa ?_ | refine ab ?_ | refine az ?_ | refine ar ?_ | refine ag ?_ | ((refine' ap rfl ?_ J J ?_); rotate_left; first | exact ak af J J J J | exact ae af 4 J J J J J) | refine aj af 2 J J J J J J J J J J J J ?_)
    (refine aA af (fun _ => 2) J J ⟨J, trivial⟩ rfl fun w1 hm => ⟨v, ?_, ?_, OutN.same hN hm.below⟩)
    · rw [hwl]
    · rw [hwl]; rfl
  refine am rfl (by simpa using he2) ?_
  have hwl : bJ v.c f ck = (eM (eb v.c i (fun k => { k with ob := k.ob ++ [f] })) i, 0) := by unfold bJ; rw [hwe, if_neg (by simpa using he2), ho]; rfl
  rw [hwl]
  rw [← hx]
  repeat' (first | refine ai ?_ | refine aa ?_ | refine ab ?_ | refine ay ?_ | ((refine' ap rfl ?_ J J ?_); rotate_left; exact ae af 4 J J J J J))
  refine cy (σ := NV) (fun s => s.c = v.c ∧ s.kv.map (·.k) = v.kv.map (·.k)) (fun s => .agg ⟨NC s⟩) (fun s => EN s) rfl (av J J J J ⟨J, trivial⟩ rfl (by kernel_rfl)) (fun w1 hm => dz v w1 (hN.below hm.below) hz) J J ?_
  rintro ⟨c1, x1, xc1, kv1, o1, oc1, p1, pc1⟩ ⟨hc1, hkm⟩
  dsimp only at hc1 hkm
  subst hc1
  dsimp only [EN, List.cons_append, List.nil_append]
  obtain ⟨u1, hu1, hu1k⟩ := mb hkm hu
  have hi1 : i < kv1.length := (List.getElem?_eq_some_iff.1 hu1).1
  have hob : u1.k.ob.length ≤ 1000000000 := by rw [hu1k]; exact hgd.ob u hum
  have hou := hgd.ou
  refine bI (fun w h => h.perm (pZ [_, _, _] (kv1.flatMap EK) [_, _, _, _, _])) ?_
  refine bI (fun w h => h.perm (nL ([_, _, _] ++ [_, _, _, _, _]) hu1)) ?_
  dsimp only [EK, List.cons_append, List.nil_append]
  refine ip 5 rfl (by omega) ?_
  rintro gx rfl
  repeat' (first | refine ai ?_ | refine aa ?_ | refine ab ?_ | refine ag ?_ | (refine aD af J J J J J J ?_; intro g14) | ((refine' ap rfl ?_ J J ?_); rotate_left; first | exact bO af (m := 22) i J J J J J J J J (fun _ => rfl) (fun _ => hi1) | exact ak af J J J J | exact ae af 0 J J J J J) | refine aj af 0 J J J J J J J J J J J J ?_)
  refine cP 7 [64] [] aC rfl (by kernel_rfl) ?_
  iterate 6 (((refine' jK rfl ?_ J J J ?_); rotate_left; first | exact cg af 6 (v := .slice u1.o u1.k.ob.length u1.oc) J J J J J J (fun _ => by rw [Nat.zero_add]; exact be aV hu1 (k := 21) rfl) | exact ak af J J J J | exact ae af 10 J J J J J))
  refine di af 63 J J (by simp [aF]) rfl (by simp [aF]) rfl ⟨J, trivial⟩ J J J J J J J J J J J ?_
  refine fp ?_
  rintro s1 -
  dsimp only [List.cons_append, List.nil_append]
  refine bW af 3 0 J J J J J J J J J (fun _ _ => rfl) f4 J J (by unfold maxLen; omega) (by omega) J J ?_
  intro sa sc
  repeat' (((refine' ap rfl ?_ J J ?_); rotate_left; exact ak af J J J J))
  refine cM af 7 J J J J J J J J J (show iu _ (0 + i * 22 + 21) _ = _ from by rw [Nat.zero_add]; exact cK aV (kv1) i 21 (u1) ({ u1 with k := { u1.k with ob := u1.k.ob ++ [f] }, o := sa, oc := sc }) _ hu1 (by rw [show u1.k.ob.length + 1 = (u1.k.ob ++ [f]).length by simp]; rfl)) J J ?_
  repeat' (first | refine ai ?_ | refine aa ?_ | refine ab ?_ | refine ag ?_ | ((refine' ap rfl ?_ J J ?_); rotate_left; exact ak af J J J J))
  have htx2 : ({ u1 with k := { u1.k with ob := u1.k.ob ++ [f] }, o := sa, oc := sc } : KV).k.st.text.size ≤ 4611686018427387900 := by show u1.k.st.text.size ≤ _; rw [hu1k]; exact htx
  have hfr2 : ∀ x ∈ ({ u1 with k := { u1.k with ob := u1.k.ob ++ [f] }, o := sa, oc := sc } : KV).k.ob, x.data.size < 4294967281 := fun x hx => by
   rcases List.mem_append.1 hx with hx | hx
   · exact hfr x (by rw [← hu1k]; exact hx)
   · obtain rfl := List.mem_singleton.1 hx
     exact hfd
  have hk2 : (kv1.set i { u1 with k := { u1.k with ob := u1.k.ob ++ [f] }, o := sa, oc := sc })[i]? = some { u1 with k := { u1.k with ob := u1.k.ob ++ [f] }, o := sa, oc := sc } := dy hu1 _
  refine d6 (p := u1.k.ob.length + 1 ≤ sc ∧ ∀ ad, sa = some ad → w.heap.size ≤ ad.block) (fun w h => ⟨jf (h.2.get (i := 3) rfl), fun ad had => (Ent.ok.mut_lt (h.2.get (i := 3) rfl) (k := ad.block) (by subst had; rfl)).1⟩) (fun hcp2 => ?_)
  obtain ⟨hcap2, hnew⟩ := hcp2
  refine bI (fun w h => (((Mem.toRep1 (u1.k.ob ++ [f]) dI (by simp) (by simp [fC]) ((h.mask [false, true, true, true, true, true, true, true, false, false, true, false, false] rfl).perm (List.perm_middle (l₁ := [_, _])))).perm (List.perm_middle (l₁ := [_]))).perm (List.perm_middle (l₁ := [_, _, _, _, _, _]))).perm (List.perm_middle (l₁ := [_, _, _, _, _, _]))) ?_
  dsimp only [List.cons_append, List.nil_append]
  refine bD (σ := Value × j8) (fun s => zW v.c { u1 with k := { u1.k with ob := u1.k.ob ++ [f] }, o := sa, oc := sc } s.2 ∧ jW (u1.k.ob ++ [f]) u1.k.st v.c.sw v.c.ou = ⟨s.2.st, s.2.w, s.2.r, s.2.ou⟩) (fun s => s.1) (fun s => _) rfl (av J J J J ⟨J, J, trivial⟩ rfl (by kernel_rfl)) (fun w1 hM => (jL _ gx xc1 o1 oc1 p1 pc1 v.c (kv1.set i { u1 with k := { u1.k with ob := u1.k.ob ++ [f] }, o := sa, oc := sc }) kv1.length i { u1 with k := { u1.k with ob := u1.k.ob ++ [f] }, o := sa, oc := sc } hk2 _ w1 htx2 hfr2 (by show (u1.k.ob ++ [f]).length ≤ sc; simp; exact hcap2) (by show v.c.ou.length + (u1.k.ob ++ [f]).length ≤ _; simp; omega) (hM.2.get (i := 3) rfl).2.1 hg hM).mono fun e w' ⟨s, h1, h2, h3⟩ => ⟨s, h1, h2, h3⟩) J J ?_
  rintro ⟨rv, s⟩ ⟨hI, hsol⟩
  dsimp only at hI hsol ⊢
  have hC : eM (eb v.c i (fun k => { k with ob := k.ob ++ [f] })) i = { v.c with sw := s.w, ks := v.c.ks.set i (uS { u1 with k := { u1.k with ob := u1.k.ob ++ [f] }, o := sa, oc := sc } s).k, ou := s.ou } := by
   have h9 := qi (c := v.c) (i := i) (g := fun k => { k with ob := k.ob ++ [f] }) (k := ({ u1 with k := { u1.k with ob := u1.k.ob ++ [f] }, o := sa, oc := sc } : KV).k) (by rw [hN.lenk]; exact hi) (by rw [hat, ← hu1k]) hsol
   exact h9
  rw [hC]
  repeat' (first | refine ai ?_ | refine aa ?_ | refine ab ?_ | refine az ?_ | refine ag ?_ | ((refine' ap rfl ?_ J J ?_); rotate_left; first | exact ak af J J J J | exact ae af 2 J J J J J) | refine aj af 7 J J J J J J J J J J J J ?_)
  (refine aA af (fun _ => 7) J J ⟨J, trivial⟩ rfl fun w1 hm => ⟨⟨{ v.c with sw := s.w, ks := v.c.ks.set i (uS { u1 with k := { u1.k with ob := u1.k.ob ++ [f] }, o := sa, oc := sc } s).k, ou := s.ou }, some ⟨gx, 0, none⟩, xc1, (kv1.set i { u1 with k := { u1.k with ob := u1.k.ob ++ [f] }, o := sa, oc := sc }).set i (uS { u1 with k := { u1.k with ob := u1.k.ob ++ [f] }, o := sa, oc := sc } s), s.o, s.oc, p1, pc1⟩, rfl, ?_, ⟨?_, hm.below⟩⟩)
  · unfold NC
    simp only [List.length_set]
  · have hg1 := hm.2.get (i := 1) rfl
    rw [show kv1.length = ((kv1.set i { u1 with k := { u1.k with ob := u1.k.ob ++ [f] }, o := sa, oc := sc }).set i (uS { u1 with k := { u1.k with ob := u1.k.ob ++ [f] }, o := sa, oc := sc } s)).length by simp] at hg1
    have hR : MemL w.heap.size w1 ((kv1.eraseIdx i).flatMap EK) := (hm.mask [false, false, false, false, false, false, false, false] rfl).2
    have hrep := (hm.2.get (i := 3) rfl).2.1
    refine ⟨(Rws.own aV hg1).mono fun _ => .inr, (Rws.own dI (hm.2.get (i := 0) rfl)).mono fun _ => .inr, (Rws.own eP (hm.2.get (i := 6) rfl)).mono fun _ => .inr, ?_, fun x hx => ?_⟩
    · rw [List.set_set, List.map_set, hkm, hN.eq]
    · rw [List.set_set] at hx
      rcases gb hi1 hx with rfl | hx
      · refine ⟨(Rws.own fm (hm.2.get (i := 4) rfl)).mono fun _ => .inr, (Rws.own fj (hm.2.get (i := 5) rfl)).mono fun _ => .inr, fun h0 => ?_⟩
        obtain ⟨b, off1, j, e1, e2, e3⟩ := hI.at_ h0
        obtain ⟨b', off', e4, _, e6, e7⟩ := hrep (by simp)
        have e1' : sa = some ⟨b, off1, none⟩ := e1
        rw [e1'] at e4
        obtain ⟨rfl, rfl⟩ := (by simpa using e4 : b = b' ∧ off1 = off')
        refine ⟨b, off1 + j * 4, e2, .inr (hnew _ e1'), e6, fun n y hy => ?_⟩
        have hy' : (({ u1 with k := { u1.k with ob := u1.k.ob ++ [f] }, o := sa, oc := sc } : KV).k.ob.drop j)[n]? = some y := by rw [← e3]; exact hy
        rw [List.getElem?_drop] at hy'
        have h8 := e7 (j + n) y hy'
        rw [show off1 + j * 4 + n * 4 = off1 + (j + n) * 4 by omega]
        exact h8
      · exact (KOk.own (ku hR hx)).mono fun _ => .inr
set_option maxRecDepth 100000 in
set_option maxHeartbeats 8000000 in
theorem xW {A : Nat → Prop} (v : NV) (id : Int) (w : World) (hN : NOk A w v) (hz : rk v) (hgd : uc v) (hg : MLen w) : Calls Tryz.prog 49 #[.agg #[.int .i64 v.c.sd, .int .i64 v.c.nx, .int .i64 v.c.la, .int .i64 v.c.aw, .int .i64 v.c.sz, .int .i64 v.c.sw.size, .int .i64 v.c.sw.left, .int .i64 v.c.sw.held, .int .i64 v.c.rw.size, .int .i64 v.c.rw.left, .int .i64 v.c.rw.held, .slice v.x v.kv.length v.xc, .slice v.o v.c.ou.length v.oc, .slice v.p v.c.pg.length v.pc, .bool v.c.cl], .int .i64 id] w fun e w' => ∃ v' : NV, v'.c = (km v.c id).1 ∧ e = .returned (.tuple #[.agg ⟨NC v'⟩, .int .i64 (km v.c id).2]) ∧ OutN A w w' v' := by
 refine aI Tryz.func49 rfl Tryz.ntmps49 J J ?_
 repeat' (first | refine ai ?_ | refine aa ?_ | refine ab ?_ | refine ag ?_ | (refine aR J J J J J J ?_; intro g2) | (refine aD af J J J J J J ?_; intro g4) | ((refine' ap rfl ?_ J J ?_); rotate_left; first | exact ak af J J J J | exact ae af 1 J J J J J | exact au af J J ⟨J, J, trivial⟩ J J J))
 refine cY (σ := NV) (fun s F => s.c = (km v.c id).1 ∧ ∀ b, F b → A b ∨ w.heap.size ≤ b) (fun s => .tuple ⟨[.agg ⟨NC s⟩, .int .i64 (km v.c id).2]⟩) (fun s F w => NOk F w s) rfl (av J J J J ⟨J, J, J, trivial⟩ rfl (by kernel_rfl)) (fun w1 hm => (tu v (⟨3, id, 0, emptyB⟩ : bd) 0 w1 (hN.lt.below hm.below) hz hgd (show (0 : Nat) < 4294967281 by decide) (hg.below hm.below) rfl).mono fun e w2 ⟨s, h1, h2, h3⟩ => by obtain ⟨F, h4, h5⟩ := dA hm h3; exact ⟨s, F, ⟨h1, h4⟩, h2, h5⟩) J J ?_
 rintro ⟨c1, x1, xc1, kv1, o1, oc1, p1, pc1⟩ F ⟨hc1, hF⟩
 dsimp only at hc1
 repeat' (first | refine ab ?_ | refine az ?_ | refine ag ?_ | ((refine' ap rfl ?_ J J ?_); rotate_left; exact ak af J J J J) | refine aj af 1 J J J J J J J J J J J J ?_)
 (refine aA af (fun _ => 1) J J ⟨J, trivial⟩ rfl fun w1 hm => ⟨⟨c1, x1, xc1, kv1, o1, oc1, p1, pc1⟩, hc1, rfl, cD (hm.2.get (i := 0) rfl).2.1 hF hm.below⟩)
set_option maxRecDepth 100000 in
set_option maxHeartbeats 16000000 in
theorem xX {A : Nat → Prop} (v : NV) (id tc : Int) (tt : ByteArray) (w : World) (hN : NOk A w v) (hz : rk v) (hgd : uc v) (hg : MLen w) (htt : tt.size ≤ 4611686018427387900) : Calls Tryz.prog 50 #[.agg #[.int .i64 v.c.sd, .int .i64 v.c.nx, .int .i64 v.c.la, .int .i64 v.c.aw, .int .i64 v.c.sz, .int .i64 v.c.sw.size, .int .i64 v.c.sw.left, .int .i64 v.c.sw.held, .int .i64 v.c.rw.size, .int .i64 v.c.rw.left, .int .i64 v.c.rw.held, .slice v.x v.kv.length v.xc, .slice v.o v.c.ou.length v.oc, .slice v.p v.c.pg.length v.pc, .bool v.c.cl], .int .i64 id, .agg #[.int .i64 tc, .string tt]] w fun e w' => ∃ v' : NV, v'.c = (kn v.c id tc tt).1 ∧ e = .returned (.tuple #[.agg ⟨NC v'⟩, .int .i64 (kn v.c id tc tt).2]) ∧ OutN A w w' v' := by
 refine aI Tryz.func50 rfl Tryz.ntmps50 J J ?_
 obtain ⟨pd, hpd⟩ : ∃ x, kj tc tt = x := ⟨_, rfl⟩
 have hpz : pd.size < 4294967281 := by rw [← hpd]; exact tr tc tt
 have hal : kn v.c id tc tt = (bJ v.c (⟨4, id, 0, pd⟩ : bd) (bj tc tt)) := by unfold kn; rw [hpd]
 rw [hal]
 refine ai ?_
 refine aa ?_
 (refine aR J J J J J J ?_; intro g3)
 (refine aR J J J J J J ?_; intro g5)
 repeat' (first | refine ai ?_ | refine ab ?_ | refine ag ?_ | (refine aD af J J J J J J ?_; intro g6) | ((refine' ap rfl ?_ J J ?_); rotate_left; exact ak af J J J J))
 refine jJ (fun b => b < w.heap.size) 9 [14] [15, 16] [16] CF aC rfl (by kernel_rfl) ?_
 iterate 3 (((refine' rC rfl ?_ J J J ?_); rotate_left; first | exact ak af J J J J | exact ae af 1 J J J J J | exact ae af 2 J J J J J))
 refine rD rfl (av J J J J ⟨J, trivial⟩ rfl (by kernel_rfl)) (fun w1 hm => BZ tc tt pd hpd w1 htt) J J J ?_
 iterate 2 (((refine' rC rfl ?_ J J J ?_); rotate_left; first | exact sS J J trivial rfl ⟨J, trivial⟩ | exact au af J J ⟨J, J, J, trivial⟩ J J J))
 refine l9 (σ := NV × (Nat → Prop)) (fun s => s.1.c = (bJ v.c (⟨4, id, 0, pd⟩ : bd) (bj tc tt)).1 ∧ ∀ b, s.2 b → A b ∨ w.heap.size ≤ b) (fun s => .tuple ⟨[.agg ⟨NC s.1⟩, .int .i64 (bJ v.c (⟨4, id, 0, pd⟩ : bd) (bj tc tt)).2]⟩) (fun s => [.rep s.2 (fun w => NOk s.2 w s.1)]) rfl (av J J J J ⟨J, J, J, trivial⟩ rfl (by kernel_rfl)) (fun w1 hm => (tv v (⟨4, id, 0, pd⟩ : bd) (bj tc tt) tc tt g5 w1 (hN.lt.below hm.below) hz hgd hpz (hg.below hm.below) (zx 1 hm rfl) htt rfl).mono fun e w2 ⟨s, h1, h2, h3⟩ => by
  obtain ⟨Fs, g, k1, k2, k3, k4, k5⟩ := xV (O := fun b => b < w.heap.size) h3 (fun b hb => hb.2)
  exact ⟨⟨(s, Fs), g, ⟨h1, fun b hb => (k5 b hb).elim (fun h => .inl h.1) (fun h => .inr (Nat.le_trans hm.1.size h))⟩, h2, k1, k2, k3, k4⟩, h3.2⟩) J J J J J ?_
 refine gI 6 0 (m := 2) J J (fun x ⟨s, _, e⟩ => ⟨_, e, rfl⟩) J J J J J J (by kernel_rfl) ?_
 refine gI 6 1 (m := 2) J J (fun x ⟨s, _, e⟩ => ⟨_, e, rfl⟩) J J J J J J (by kernel_rfl) ?_
 refine qg ?_
 refine rB ?_
 rintro ⟨⟨c1, x1, xc1, kv1, o1, oc1, p1, pc1⟩, F⟩ ⟨hc1, hF⟩
 dsimp only at hc1 hF
 refine jg (.agg ⟨NC ⟨c1, x1, xc1, kv1, o1, oc1, p1, pc1⟩⟩) J J ?_
 refine jg (.int .i64 (bJ v.c (⟨4, id, 0, pd⟩ : bd) (bj tc tt)).2) J J ?_
 refine te ?_
 dsimp only [List.cons_append, List.nil_append]
 repeat' (first | refine ab ?_ | refine az ?_ | refine ag ?_ | ((refine' ap rfl ?_ J J ?_); rotate_left; exact ak af J J J J) | refine aj af 1 J J J J J J J J J J J J ?_)
 (refine aA af (fun _ => 1) J J ⟨J, trivial⟩ rfl fun w1 hm => ⟨⟨c1, x1, xc1, kv1, o1, oc1, p1, pc1⟩, hc1, rfl, cD (hm.2.get (i := 0) rfl).2.1 hF hm.below⟩)
end Go.Proofs.YthiocbcokfondaaGreatDoor.Y
