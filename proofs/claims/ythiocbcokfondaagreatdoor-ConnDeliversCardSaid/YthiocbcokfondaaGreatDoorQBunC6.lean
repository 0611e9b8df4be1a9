/- Texts of this claim merged into one: QCn6, QCn7, QCn8. -/
import Derived.Test.YthiocbcokfondaaGreatDoorQCn3
import Derived.Test.YthiocbcokfondaaGreatDoorQBunC2
import Derived.Test.YthiocbcokfondaaGreatDoorQBunY
import Derived.Test.YthiocbcokfondaaGreatDoorQRegDB
namespace Go.Proofs.YthiocbcokfondaaGreatDoor.Y
open Go.RowKit
def gD (u : KV) : KV := if u.k.st.done = true then { u with k := { u.k with ob := [] }, o := none, oc := 0 } else u
theorem rP (u : KV) : (gD u).k = eL u.k := by unfold gD eL; split <;> rfl
structure kW where
  st : cx
  w : bj
  ou : List aY
  o : Option Addr
  oc : Nat
  a : Option Addr
  ac : Nat
  r : List aY
def uS (u : KV) (p : kW) : KV := { u with k := { u.k with st := p.st, ob := p.r }, o := p.a, oc := p.ac }
structure Dp (c : NL) (u : KV) (p : kW) : Prop where
  eq : kL u.k.ob u.k.st c.sw c.ou = kL p.r p.st p.w p.ou
  tx : p.st.text.size ≤ 4611686018427387900
  fr : ∀ f ∈ p.r, f.data.size < 4294967281
  ln : p.ou.length + p.r.length ≤ c.ou.length + u.k.ob.length
  cap : p.r.length ≤ p.ac
  at_ : 0 < p.r.length → ∃ b off j, u.o = some ⟨b, off, none⟩ ∧ p.a = some ⟨b, off + j * 4, none⟩ ∧ p.r = u.k.ob.drop j
attribute [local irreducible] Calls
set_option maxRecDepth 100000 in
set_option maxHeartbeats 8000000 in
theorem kH {w0 : World} {M : List Ent} (gx xc n k : Nat) (kv : List KV) (u : KV) (hu : kv[k]? = some u) (w : World) (hM : Mem w0 w (.own (some ⟨gx, 0, none⟩) xc 39 22 n ((kv).flatMap KC) :: M)) : Calls Tryz.prog 108 #[.pointer (some ⟨gx, 0 + k * 22, none⟩)] w fun e w' => ∃ r : Value, True ∧ e = .returned r ∧ Mem w0 w' (.own (some ⟨gx, 0, none⟩) xc 39 22 n ((kv.set k (gD u)).flatMap KC) :: M) := by
  refine cj hM Tryz.func108 rfl Tryz.ntmps108 J J ?_
  repeat' (first | refine ai ?_ | refine aa ?_ | refine ab ?_ | refine ag ?_ | ((refine' am rfl ?_ J J ?_); rotate_left; first | exact cC af 0 (v := .bool u.k.st.done) J J J J J J (fun _ => by rw [Nat.zero_add]; exact bk bi hu (k := 7) rfl) | exact ak af J J J J))
  cases hd : u.k.st.done with
  | true =>
    refine aB J J ?_
    repeat' (first | refine aa ?_ | ((refine' am rfl ?_ J J ?_); rotate_left; exact ak af J J J J))
    refine dk af 0 J J J J J J J J J (show jo _ (0 + k * 22 + 21) _ = _ from by rw [Nat.zero_add]; exact cW bi (kv) k 21 (u) ({ u with k := { u.k with ob := [] }, o := none, oc := 0 }) _ hu rfl) J J ?_
    repeat' (refine ag ?_)
    (refine dU af (fun _ => 0) J J trivial rfl fun w1 hm => ?_)
    refine ⟨_, trivial, rfl, ?_⟩
    rw [gD, if_pos hd]
    exact hm
  | false =>
    refine ar J J ?_
    repeat' (refine ay ?_)
    (refine dU af (fun _ => 0) J J trivial rfl fun w1 hm => ?_)
    refine ⟨_, trivial, rfl, ?_⟩
    rw [gD, if_neg (by rw [hd]; simp), show kv.set k u = kv by obtain ⟨h1, h2⟩ := List.getElem?_eq_some_iff.1 hu; rw [← h2]; exact List.set_getElem_self h1]
    exact hm
theorem DZ (x : bj) (n : Int) (t : th) (h : dG x n = t) (w : World) : Calls Tryz.prog 166 #[.agg #[.int .i64 x.size, .int .i64 x.left, .int .i64 x.held], .int .i64 n] w fun e w' => e = .returned (.tuple #[.agg #[.int .i64 t.win.size, .int .i64 t.win.left, .int .i64 t.win.held], .int .i64 t.err]) ∧ Below w.heap.size w w' := by
  subst h
  exact oU x n w
theorem CX {u : KV} {p : kW} {i : Nat} {x : Value} (h : (tC p.st)[i]? = some x) : (KC (uS u p))[i]? = some x := by
  have hi : i < (tC p.st).length := (List.getElem?_eq_some_iff.1 h).1
  have e : KC (uS u p) = tC p.st ++ (KC (uS u p)).drop 16 := rfl
  rw [e, List.getElem?_append_left hi]
  exact h
set_option maxRecDepth 100000 in
set_option maxHeartbeats 16000000 in
theorem pe {w0 : World} {M : List Ent} (gc gx xc : Nat) (o : Option Addr) (oc : Nat) (pa : Option Addr) (pc : Nat) (c : NL) (kv : List KV) (n : Nat) (k : Nat) (u : KV) (hu : kv[k]? = some u) (F : Nat → Prop) (w : World) (htx : u.k.st.text.size ≤ 4611686018427387900) (hfr : ∀ f ∈ u.k.ob, f.data.size < 4294967281) (hcap : u.k.ob.length ≤ u.oc) (hln : c.ou.length + u.k.ob.length ≤ 3518437208882) (hO : Rws F w 4 fC u.o u.k.ob) (hg : MLen w0) (hM : Mem w0 w (.own o oc 65 4 c.ou.length (c.ou.flatMap fC) :: .own (some ⟨gx, 0, none⟩) xc 39 22 n (kv.flatMap KC) :: .cl gc 28 [.int .i64 c.sd, .int .i64 c.nx, .int .i64 c.la, .int .i64 c.aw, .int .i64 c.sz, .int .i64 c.sw.size, .int .i64 c.sw.left, .int .i64 c.sw.held, .int .i64 c.rw.size, .int .i64 c.rw.left, .int .i64 c.rw.held, .slice (some ⟨gx, 0, none⟩) n xc, .slice o c.ou.length oc, .slice pa c.pg.length pc, .bool c.cl] :: .rep F (fun w => Rws F w 4 fC u.o u.k.ob) :: M)) : Calls Tryz.prog 157 #[.pointer (some ⟨gc, 0, none⟩), .pointer (some ⟨gx, 0 + k * 22, none⟩)] w fun e w' => ∃ s : Value × kW, (Dp c u s.2 ∧ kL u.k.ob u.k.st c.sw c.ou = ⟨s.2.st, s.2.w, s.2.r, s.2.ou⟩) ∧ e = .returned s.1 ∧ Mem w0 w' (.own s.2.o s.2.oc 65 4 s.2.ou.length (s.2.ou.flatMap fC) :: .own (some ⟨gx, 0, none⟩) xc 39 22 n ((kv.set k (uS u s.2)).flatMap KC) :: .cl gc 28 [.int .i64 c.sd, .int .i64 c.nx, .int .i64 c.la, .int .i64 c.aw, .int .i64 c.sz, .int .i64 s.2.w.size, .int .i64 s.2.w.left, .int .i64 s.2.w.held, .int .i64 c.rw.size, .int .i64 c.rw.left, .int .i64 c.rw.held, .slice (some ⟨gx, 0, none⟩) n xc, .slice s.2.o s.2.ou.length s.2.oc, .slice pa c.pg.length pc, .bool c.cl] :: .rep F (fun w => Rws F w 4 fC u.o u.k.ob) :: M) := by
  have e0 : kv.set k (uS u ⟨u.k.st, c.sw, c.ou, o, oc, u.o, u.oc, u.k.ob⟩) = kv := by obtain ⟨h1, h2⟩ := List.getElem?_eq_some_iff.1 hu; show kv.set k u = kv; rw [← h2]; exact List.set_getElem_self h1
  rw [show kv.flatMap KC = (kv.set k (uS u ⟨u.k.st, c.sw, c.ou, o, oc, u.o, u.oc, u.k.ob⟩)).flatMap KC by rw [e0]] at hM
  refine cj hM Tryz.func157 rfl Tryz.ntmps157 J J ?_
  clear e0
  repeat' (refine aJ ?_)
  refine cK (σ := kW) (Dp c u) (fun p => [(0, [], .pointer (some ⟨gc, 0, none⟩)), (1, [], .pointer (some ⟨gx, 0 + k * 22, none⟩))]) (fun p => .own p.o p.oc 65 4 p.ou.length (p.ou.flatMap fC) :: .own (some ⟨gx, 0, none⟩) xc 39 22 n ((kv.set k (uS u p)).flatMap KC) :: .cl gc 28 [.int .i64 c.sd, .int .i64 c.nx, .int .i64 c.la, .int .i64 c.aw, .int .i64 c.sz, .int .i64 p.w.size, .int .i64 p.w.left, .int .i64 p.w.held, .int .i64 c.rw.size, .int .i64 c.rw.left, .int .i64 c.rw.held, .slice (some ⟨gx, 0, none⟩) n xc, .slice p.o p.ou.length p.oc, .slice pa c.pg.length pc, .bool c.cl] :: .rep F (fun w => Rws F w 4 fC u.o u.k.ob) :: M) (fun p => p.r.length) ⟨u.k.st, c.sw, c.ou, o, oc, u.o, u.oc, u.k.ob⟩ [true, true, true, true] ⟨rfl, htx, hfr, Nat.le_refl _, hcap, fun h0 => ?_⟩ ⟨J, J, trivial⟩ rfl ?_
  · obtain ⟨b, off, hx, _⟩ := hO h0
    exact ⟨b, off, 0, hx, by rw [hx]; simp, rfl⟩
  intro p hI
  have hk : (kv.set k (uS u p))[k]? = some (uS u p) := en hu _
  have hki : k < kv.length := (List.getElem?_eq_some_iff.1 hu).1
  have hlnp := hI.ln
  have hcp := hI.cap
  repeat' (first | refine ai ?_ | refine aa ?_ | refine ab ?_ | refine ag ?_ | ((refine' am rfl ?_ J J ?_); rotate_left; first | exact cC af 1 (v := .slice p.a p.r.length p.ac) J J J J J J (fun _ => by rw [Nat.zero_add]; exact bk bi hk (k := 21) rfl) | exact ak af J J J J | exact aq af J J J J J J | exact bh af J J J J J J J))
  by_cases hr0 : p.r = []
  · refine ar rfl (by rw [hr0]; rfl) ?_
    repeat' (first | refine bq ?_ | refine aN ?_ | refine aT ?_)
    (refine dU af (fun _ => 0) J J trivial rfl fun w1 hm => ?_)
    refine ⟨(_, p), ⟨hI, ?_⟩, rfl, hm⟩
    rw [hI.eq, hr0]; rfl
  obtain ⟨f, r, hfr0⟩ : ∃ f r, p.r = f :: r := by cases h : p.r with | nil => exact absurd h hr0 | cons f r => exact ⟨f, r, rfl⟩
  have hlen0 : 0 < p.r.length := by rw [hfr0]; exact Nat.succ_pos _
  obtain ⟨b, off, j, hx, ha, hdr⟩ := hI.at_ hlen0
  have hjf : u.k.ob[j]? = some f := by rw [← List.head?_drop, ← hdr, hfr0]; rfl
  have hj : j < u.k.ob.length := (List.getElem?_eq_some_iff.1 hjf).1
  have hfd0 := hI.fr f (by rw [hfr0]; exact List.mem_cons_self ..)
  have hrow : ∀ w, Rws F w 4 fC u.o u.k.ob → w.rangeAt b (off + j * 4 + 0 * 4) (fC f) := fun w h => by
    obtain ⟨b', off', hx', _, _, h4⟩ := h (by omega)
    rw [hx] at hx'
    obtain ⟨rfl, rfl⟩ := (by simpa using hx' : b = b' ∧ off = off')
    rw [Nat.zero_mul, Nat.add_zero]
    exact h4 j f hjf
  refine aB rfl (by rw [hfr0]; simp) ?_
  repeat' (first | refine ab ?_ | refine ay ?_ | refine aJ ?_)
  refine ai ?_
  repeat' (first | refine aa ?_ | refine ab ?_ | refine ag ?_ | (refine aG af J J J J J J ?_; intro g4) | ((refine' am rfl ?_ J J ?_); rotate_left; first | exact cC af 1 (v := .slice (some ⟨b, off + j * 4, none⟩) p.r.length p.ac) J J J J J J (fun _ => by rw [Nat.zero_add, ← ha]; exact bk bi hk (k := 21) rfl) | exact cm af (m := 4) 0 J J J J J J J J (fun _ => rfl) (fun _ => hlen0) | exact nt af 3 (cs := fC f) J J J J J J (fun _ w h => hrow w h) | exact ak af J J J J) | refine aj af 0 J J J J J J J J J J J J ?_)
  refine ai ?_
  repeat' (first | refine aa ?_ | refine ab ?_ | refine ag ?_ | ((refine' am rfl ?_ J J ?_); rotate_left; exact ak af J J J J))
  have hcn : 0 ≤ bR f ∧ bR f ≤ 4294967296 := by unfold bR aI; split <;> (try split) <;> omega
  refine AP (σ := Unit) (fun _ => True) (fun _ => [(5, [], .int .i64 (bR f)), (4, [], .pointer (some ⟨g4, 0, none⟩)), (0, [], .pointer (some ⟨gc, 0, none⟩)), (1, [], .pointer (some ⟨gx, 0 + k * 22, none⟩))]) (fun _ => .cl g4 65 (fC f) :: .own p.o p.oc 65 4 p.ou.length (p.ou.flatMap fC) :: .own (some ⟨gx, 0, none⟩) xc 39 22 n ((kv.set k (uS u p)).flatMap KC) :: .cl gc 28 [.int .i64 c.sd, .int .i64 c.nx, .int .i64 c.la, .int .i64 c.aw, .int .i64 c.sz, .int .i64 p.w.size, .int .i64 p.w.left, .int .i64 p.w.held, .int .i64 c.rw.size, .int .i64 c.rw.left, .int .i64 c.rw.held, .slice (some ⟨gx, 0, none⟩) n xc, .slice p.o p.ou.length p.oc, .slice pa c.pg.length pc, .bool c.cl] :: .rep F (fun w => Rws F w 4 fC u.o u.k.ob) :: M) ?_ ?_
  · skip
    repeat' (first | refine ai ?_ | refine aa ?_ | refine ab ?_ | refine ag ?_ | ((refine' am rfl ?_ J J ?_); rotate_left; first | exact ak af J J J J | exact aq af J J J J J J | exact ae af 0 J J J J J))
    by_cases hk2 : f.kind = 2
    · refine aB rfl (by simpa using hk2) ?_
      repeat' (first | refine aa ?_ | refine ag ?_ | ((refine' am rfl ?_ J J ?_); rotate_left; first | exact ak af J J J J | exact ae af 0 J J J J J) | refine aK rfl (av J J J J ⟨J, trivial⟩ rfl (by kernel_rfl)) (fun w hm => hJ f.data w) J J ?_)
      refine vH () [] trivial ⟨by rw [bR, if_pos hk2]; rfl, rfl, rfl, rfl, trivial⟩ rfl
    · refine ar rfl (by simpa using hk2) ?_
      repeat' (refine ay ?_)
      refine vH () [] trivial ⟨by rw [bR, if_neg hk2]; rfl, rfl, rfl, rfl, trivial⟩ rfl
  rintro ⟨⟩ -
  repeat' (first | refine ai ?_ | refine aa ?_ | refine ab ?_ | refine ag ?_ | ((refine' am rfl ?_ J J ?_); rotate_left; first | exact cC af 2 (v := .int .i64 p.st.snd.left) J J J J J J (fun _ => by rw [Nat.zero_add]; exact bk bi hk (k := 11) rfl) | exact ak af J J J J | exact aq af J J J J J J | exact bL J J J J J | exact ae af 3 J J J J J))
  by_cases hA : p.st.snd.left < bR f ∨ p.w.left < bR f
  · refine aB rfl (by simp only [Bool.or_eq_true, decide_eq_true_eq]; omega) ?_
    repeat' (first | refine aA ?_ | refine au ?_ | refine ba ?_)
    (refine aC af (fun _ => 0) J J trivial rfl fun w1 hm => ?_)
    refine ⟨(_, p), ⟨hI, ?_⟩, rfl, hm.mask [false] rfl⟩
    rw [hI.eq, hfr0, kL, if_pos hA]
  refine ar rfl (by simp only [Bool.or_eq_false_iff, decide_eq_false_iff_not]; omega) ?_
  obtain ⟨r1, hr1⟩ : ∃ x, bD p.st f = x := ⟨_, rfl⟩
  obtain ⟨t1, ht1⟩ : ∃ x, dG p.w (bR f) = x := ⟨_, rfl⟩
  have hr1t : r1.st.text.size ≤ 4611686018427387900 := by rw [← hr1]; exact oY hI.tx hfd0
  repeat' (first | refine ai ?_ | refine aa ?_ | refine ab ?_ | refine ay ?_ | refine aU aD rfl (by kernel_rfl) ?_ | refine ag ?_ | (refine cJ ?_; intro g) | ((first | refine' am rfl ?_ J J ?_ | refine' dg rfl ?_ J J J ?_); rotate_left; first | exact jp af 2 (cs := tC p.st) J J J J J J (fun _ i x hx => by rw [Nat.zero_add, Nat.add_zero]; exact bk bi hk (CX hx)) | exact ak af J J J J | exact aq af J J J J J J | exact ae af 0 J J J J J) | refine br rfl (av J J J J ⟨J, J, trivial⟩ rfl (by kernel_rfl)) rfl (fun w hm => wd p.st f r1 hr1 w hI.tx hfd0 (hg.below hm.below)) J J ?_ | refine bW af J J J J J J ?_ | refine aj af 0 J J J J J J J J J J J J ?_)
  by_cases he1 : r1.err = 0
  rotate_left
  · refine aB rfl (by simpa using he1) ?_
    repeat' (first | refine aA ?_ | refine au ?_ | refine ba ?_)
    (refine aC af (fun _ => 0) J J trivial rfl fun w1 hm => ?_)
    refine ⟨(_, p), ⟨hI, ?_⟩, rfl, hm.mask [false, false] rfl⟩
    rw [hI.eq, hfr0, kL, if_neg hA, hr1, if_pos he1]
  refine ar rfl (by simpa using he1) ?_
  repeat' (first | refine ai ?_ | refine aa ?_ | refine ab ?_ | refine ay ?_ | refine ag ?_ | (refine aG af J J J J J J ?_; intro g8) | ((refine' am rfl ?_ J J ?_); rotate_left; first | exact ak af J J J J | exact aq af J J J J J J | exact ae af 4 J J J J J) | refine aK rfl (av J J J J ⟨J, J, trivial⟩ rfl (by kernel_rfl)) (fun w hm => DZ p.w (bR f) t1 ht1 w) J J ?_ | refine aj af 0 J J J J J J J J J J J J ?_)
  by_cases he2 : t1.err = 0
  rotate_left
  · refine aB rfl (by simpa using he2) ?_
    repeat' (first | refine aA ?_ | refine au ?_ | refine ba ?_)
    (refine aC af (fun _ => 0) J J trivial rfl fun w1 hm => ?_)
    refine ⟨(_, p), ⟨hI, ?_⟩, rfl, hm.mask [false, false, false] rfl⟩
    rw [hI.eq, hfr0, kL, if_neg hA, hr1, if_neg (by simpa using he1), ht1, if_pos he2]
  refine ar rfl (by simpa using he2) ?_
  repeat' (first | refine ai ?_ | refine ab ?_ | refine ay ?_)
  have hoc0 : ((kv.set k (uS u p)).flatMap KC)[k * 22 + 21]? = some (.slice (some ⟨b, off + j * 4, none⟩) p.r.length p.ac) := by rw [← ha]; exact bk bi hk (k := 21) rfl
  have hk1 : ((kv.set k (uS u p)).set k { uS u p with k := { (uS u p).k with st := r1.st } })[k]? = some { uS u p with k := { (uS u p).k with st := r1.st } } := en hk _
  have hoc1 : (((kv.set k (uS u p)).set k { uS u p with k := { (uS u p).k with st := r1.st } }).flatMap KC)[k * 22 + 21]? = some (.slice (some ⟨b, off + j * 4, none⟩) p.r.length p.ac) := by rw [← ha]; exact bk bi hk1 (k := 21) rfl
  refine fj [true, true, true, true, false, false] (fun w => w.cell? ⟨gx, 0 + k * 22 + 21, none⟩ = some (.slice (some ⟨b, off + j * 4, none⟩) p.r.length p.ac)) aD (by kernel_rfl) J J (fun w hM => iQ (hM.2.get (i := 4) rfl) (by rw [Nat.zero_add]; exact hoc0)) ?_
  iterate 8 (((refine' lw J J ?_ J J ?_); rotate_left; first | exact ak af J J J J | exact ae af 0 J J J J J | exact ae af 1 J J J J J))
  refine BD af J J J J J J (fun w h => h) J J ?_
  ((refine' lw J J ?_ J J ?_); rotate_left; exact rg af 1 p.r.length J J J J J J J J J J J (by omega) hcp)
  iterate 2 (((refine' lw J J ?_ J J ?_); rotate_left; exact ak af J J J J))
  refine zu af 5 J J J J J J J J J J J J (fun w h => ⟨h.mask [true, true, true, true, false, false] rfl, iQ (h.2.get (i := 4) rfl) (by rw [Nat.zero_add]; exact hoc0)⟩) ?_
  iterate 2 (((refine' lw J J ?_ J J ?_); rotate_left; exact ak af J J J J))
  refine xv af 4 J J J J J J J J J (show jo _ (0 + k * 22 + 0) _ = _ from by rw [Nat.zero_add]; exact cW bi (kv.set k (uS u p)) k 0 (uS u p) { uS u p with k := { (uS u p).k with st := r1.st } } _ hk rfl) J J (fun w h => ⟨h.mask [true, true, true, true, false, false] rfl, iQ (h.2.get (i := 4) rfl) (by rw [Nat.zero_add]; exact hoc1)⟩) ?_
  iterate 2 (((refine' lw J J ?_ J J ?_); rotate_left; exact ak af J J J J))
  refine zv af 4 J J J J J J J J J (show jo _ (0 + k * 22 + 21) _ = _ from by rw [Nat.zero_add]; exact cW bi ((kv.set k (uS u p)).set k { uS u p with k := { (uS u p).k with st := r1.st } }) k 21 { uS u p with k := { (uS u p).k with st := r1.st } } { uS u p with k := { (uS u p).k with st := r1.st, ob := r }, o := (if p.ac = 1 then some ⟨b, off + j * 4, none⟩ else (some ⟨b, off + j * 4, none⟩ : Option Addr).map (·.add (1 * 4))), oc := p.ac - 1 } _ hk1 (by rw [show p.r.length - 1 = r.length by rw [hfr0]; rfl]; rfl)) J J ?_
  rw [List.set_set, List.set_set]
  repeat' (first | refine ai ?_ | refine ab ?_)
  refine du 7 [88] [] aD rfl (by kernel_rfl) ?_
  iterate 6 (((refine' lX rfl ?_ J J J ?_); rotate_left; first | exact ak af J J J J | exact ae af 2 J J J J J | exact ae af 5 J J J J J))
  refine dV af 87 J J (by simp [aF]) rfl (by simp [aF]) rfl ⟨J, trivial⟩ J J J J J J J J J J J ?_
  refine gH ?_
  rintro s1 -
  dsimp only [List.cons_append, List.nil_append]
  refine ce af 4 0 J J J J J J J J J (fun _ _ => rfl) kS J J (by unfold maxLen; omega) (by omega) J J ?_
  intro sa sc
  repeat' (first | refine aa ?_ | refine ab ?_ | refine ag ?_ | ((refine' am rfl ?_ J J ?_); rotate_left; exact ak af J J J J) | refine aj af 6 J J J J J J J J J J J J ?_)
  have hk2 : (kv.set k { uS u p with k := { (uS u p).k with st := r1.st, ob := r }, o := (if p.ac = 1 then some ⟨b, off + j * 4, none⟩ else (some ⟨b, off + j * 4, none⟩ : Option Addr).map (·.add (1 * 4))), oc := p.ac - 1 })[k]? = some { uS u p with k := { (uS u p).k with st := r1.st, ob := r }, o := (if p.ac = 1 then some ⟨b, off + j * 4, none⟩ else (some ⟨b, off + j * 4, none⟩ : Option Addr).map (·.add (1 * 4))), oc := p.ac - 1 } := en hu _
  refine bz (σ := Value) (fun _ => True) (fun r => r) (fun _ => _) rfl (av J J J J ⟨J, trivial⟩ rfl (by kernel_rfl)) (fun w hM => (kH gx xc n k (kv.set k { uS u p with k := { (uS u p).k with st := r1.st, ob := r }, o := (if p.ac = 1 then some ⟨b, off + j * 4, none⟩ else (some ⟨b, off + j * 4, none⟩ : Option Addr).map (·.add (1 * 4))), oc := p.ac - 1 }) { uS u p with k := { (uS u p).k with st := r1.st, ob := r }, o := (if p.ac = 1 then some ⟨b, off + j * 4, none⟩ else (some ⟨b, off + j * 4, none⟩ : Option Addr).map (·.add (1 * 4))), oc := p.ac - 1 } hk2 w (hM.perm (List.perm_middle (l₁ := [_, _, _, _, _])))).mono fun e w' ⟨r, h1, h2, h3⟩ => ⟨r, trivial, h2, h3⟩) J J ?_
  rintro rv -
  rw [List.set_set]
  repeat' (first | refine ax ?_ | refine ag ?_)
  have hrd : p.r.length = r.length + 1 := by rw [hfr0]; rfl
  have hdr1 : r = u.k.ob.drop (j + 1) := by rw [hfr0, eJ hjf] at hdr; exact (List.cons.inj hdr).2
  have hstep : kL u.k.ob u.k.st c.sw c.ou = if r1.st.done = true then ⟨r1.st, t1.win, [], p.ou ++ [f]⟩ else kL r r1.st t1.win (p.ou ++ [f]) := by
    rw [hI.eq, hfr0, kL, if_neg hA, hr1, if_neg (by simpa using he1), ht1, if_neg (by simpa using he2)]
  cases hdn : r1.st.done with
  | true =>
    rw [hdn, if_pos rfl] at hstep
    rw [gD, if_pos (show ({ uS u p with k := { (uS u p).k with st := r1.st, ob := r }, o := (if p.ac = 1 then some ⟨b, off + j * 4, none⟩ else (some ⟨b, off + j * 4, none⟩ : Option Addr).map (·.add (1 * 4))), oc := p.ac - 1 } : KV).k.st.done = true from hdn)]
    refine fU (M' := .own (⟨r1.st, t1.win, p.ou ++ [f], sa, sc, none, 0, []⟩ : kW).o (⟨r1.st, t1.win, p.ou ++ [f], sa, sc, none, 0, []⟩ : kW).oc 65 4 (⟨r1.st, t1.win, p.ou ++ [f], sa, sc, none, 0, []⟩ : kW).ou.length ((⟨r1.st, t1.win, p.ou ++ [f], sa, sc, none, 0, []⟩ : kW).ou.flatMap fC) :: .own (some ⟨gx, 0, none⟩) xc 39 22 n ((kv.set k (uS u (⟨r1.st, t1.win, p.ou ++ [f], sa, sc, none, 0, []⟩ : kW))).flatMap KC) :: .cl gc 28 [.int .i64 c.sd, .int .i64 c.nx, .int .i64 c.la, .int .i64 c.aw, .int .i64 c.sz, .int .i64 (⟨r1.st, t1.win, p.ou ++ [f], sa, sc, none, 0, []⟩ : kW).w.size, .int .i64 (⟨r1.st, t1.win, p.ou ++ [f], sa, sc, none, 0, []⟩ : kW).w.left, .int .i64 (⟨r1.st, t1.win, p.ou ++ [f], sa, sc, none, 0, []⟩ : kW).w.held, .int .i64 c.rw.size, .int .i64 c.rw.left, .int .i64 c.rw.held, .slice (some ⟨gx, 0, none⟩) n xc, .slice (⟨r1.st, t1.win, p.ou ++ [f], sa, sc, none, 0, []⟩ : kW).o (⟨r1.st, t1.win, p.ou ++ [f], sa, sc, none, 0, []⟩ : kW).ou.length (⟨r1.st, t1.win, p.ou ++ [f], sa, sc, none, 0, []⟩ : kW).oc, .slice pa c.pg.length pc, .bool c.cl] :: .rep F (fun w => Rws F w 4 fC u.o u.k.ob) :: M) (fun w hM => ?_) ?_
    · have h1 := (hM.mask [true, false, false, false, false, true, true] rfl).perm (List.Perm.swap _ _ _)
      simp only [List.flatMap_append, List.flatMap_singleton, List.length_append, List.length_singleton]
      exact h1
    · exact bA ⟨r1.st, t1.win, p.ou ++ [f], sa, sc, none, 0, []⟩ [] ⟨hstep, hr1t, fun x hx => (by cases hx), by simp; omega, Nat.le_refl _, fun h => absurd h (Nat.lt_irrefl _)⟩ (by rw [hrd]; exact Nat.succ_pos _) ⟨J, J, trivial⟩ rfl
  | false =>
    rw [hdn, if_neg (by simp)] at hstep
    rw [gD, if_neg (show ¬ ({ uS u p with k := { (uS u p).k with st := r1.st, ob := r }, o := (if p.ac = 1 then some ⟨b, off + j * 4, none⟩ else (some ⟨b, off + j * 4, none⟩ : Option Addr).map (·.add (1 * 4))), oc := p.ac - 1 } : KV).k.st.done = true by show ¬ r1.st.done = true; rw [hdn]; simp)]
    refine fU (M' := .own (⟨r1.st, t1.win, p.ou ++ [f], sa, sc, (if p.ac = 1 then some ⟨b, off + j * 4, none⟩ else (some ⟨b, off + j * 4, none⟩ : Option Addr).map (·.add (1 * 4))), p.ac - 1, r⟩ : kW).o (⟨r1.st, t1.win, p.ou ++ [f], sa, sc, (if p.ac = 1 then some ⟨b, off + j * 4, none⟩ else (some ⟨b, off + j * 4, none⟩ : Option Addr).map (·.add (1 * 4))), p.ac - 1, r⟩ : kW).oc 65 4 (⟨r1.st, t1.win, p.ou ++ [f], sa, sc, (if p.ac = 1 then some ⟨b, off + j * 4, none⟩ else (some ⟨b, off + j * 4, none⟩ : Option Addr).map (·.add (1 * 4))), p.ac - 1, r⟩ : kW).ou.length ((⟨r1.st, t1.win, p.ou ++ [f], sa, sc, (if p.ac = 1 then some ⟨b, off + j * 4, none⟩ else (some ⟨b, off + j * 4, none⟩ : Option Addr).map (·.add (1 * 4))), p.ac - 1, r⟩ : kW).ou.flatMap fC) :: .own (some ⟨gx, 0, none⟩) xc 39 22 n ((kv.set k (uS u (⟨r1.st, t1.win, p.ou ++ [f], sa, sc, (if p.ac = 1 then some ⟨b, off + j * 4, none⟩ else (some ⟨b, off + j * 4, none⟩ : Option Addr).map (·.add (1 * 4))), p.ac - 1, r⟩ : kW))).flatMap KC) :: .cl gc 28 [.int .i64 c.sd, .int .i64 c.nx, .int .i64 c.la, .int .i64 c.aw, .int .i64 c.sz, .int .i64 (⟨r1.st, t1.win, p.ou ++ [f], sa, sc, (if p.ac = 1 then some ⟨b, off + j * 4, none⟩ else (some ⟨b, off + j * 4, none⟩ : Option Addr).map (·.add (1 * 4))), p.ac - 1, r⟩ : kW).w.size, .int .i64 (⟨r1.st, t1.win, p.ou ++ [f], sa, sc, (if p.ac = 1 then some ⟨b, off + j * 4, none⟩ else (some ⟨b, off + j * 4, none⟩ : Option Addr).map (·.add (1 * 4))), p.ac - 1, r⟩ : kW).w.left, .int .i64 (⟨r1.st, t1.win, p.ou ++ [f], sa, sc, (if p.ac = 1 then some ⟨b, off + j * 4, none⟩ else (some ⟨b, off + j * 4, none⟩ : Option Addr).map (·.add (1 * 4))), p.ac - 1, r⟩ : kW).w.held, .int .i64 c.rw.size, .int .i64 c.rw.left, .int .i64 c.rw.held, .slice (some ⟨gx, 0, none⟩) n xc, .slice (⟨r1.st, t1.win, p.ou ++ [f], sa, sc, (if p.ac = 1 then some ⟨b, off + j * 4, none⟩ else (some ⟨b, off + j * 4, none⟩ : Option Addr).map (·.add (1 * 4))), p.ac - 1, r⟩ : kW).o (⟨r1.st, t1.win, p.ou ++ [f], sa, sc, (if p.ac = 1 then some ⟨b, off + j * 4, none⟩ else (some ⟨b, off + j * 4, none⟩ : Option Addr).map (·.add (1 * 4))), p.ac - 1, r⟩ : kW).ou.length (⟨r1.st, t1.win, p.ou ++ [f], sa, sc, (if p.ac = 1 then some ⟨b, off + j * 4, none⟩ else (some ⟨b, off + j * 4, none⟩ : Option Addr).map (·.add (1 * 4))), p.ac - 1, r⟩ : kW).oc, .slice pa c.pg.length pc, .bool c.cl] :: .rep F (fun w => Rws F w 4 fC u.o u.k.ob) :: M) (fun w hM => ?_) ?_
    · have h1 := (hM.mask [true, false, false, false, false, true, true] rfl).perm (List.Perm.swap _ _ _)
      simp only [List.flatMap_append, List.flatMap_singleton, List.length_append, List.length_singleton]
      exact h1
    · refine bA ⟨r1.st, t1.win, p.ou ++ [f], sa, sc, (if p.ac = 1 then some ⟨b, off + j * 4, none⟩ else (some ⟨b, off + j * 4, none⟩ : Option Addr).map (·.add (1 * 4))), p.ac - 1, r⟩ [] ⟨hstep, hr1t, fun x hx => hI.fr x (by rw [hfr0]; exact List.mem_cons_of_mem _ hx), by simp; omega, show r.length ≤ p.ac - 1 by omega, fun h => ⟨b, off, j + 1, hx, ?_, hdr1⟩⟩ (by rw [hrd]; exact Nat.lt_succ_self _) ⟨J, J, trivial⟩ rfl
      have h2 : ¬ p.ac = 1 := by have : 0 < r.length := h; omega
      show (if p.ac = 1 then some ⟨b, off + j * 4, none⟩ else (some ⟨b, off + j * 4, none⟩ : Option Addr).map (·.add (1 * 4))) = _
      rw [if_neg h2]
      show some (⟨b, off + j * 4 + 1 * 4, none⟩ : Addr) = _
      rw [show off + j * 4 + 1 * 4 = off + (j + 1) * 4 by omega]
end Go.Proofs.YthiocbcokfondaaGreatDoor.Y
namespace Go.Proofs.YthiocbcokfondaaGreatDoor.Y
open Go.RowKit
def OutN (A : Nat → Prop) (w w' : World) (v' : NV) : Prop := NOk (fun b => A b ∨ w.heap.size ≤ b) w' v' ∧ Below w.heap.size w w'
theorem OutN.same {A : Nat → Prop} {w w' : World} {v : NV} (h : NOk A w v) (hb : Below w.heap.size w w') : OutN A w w' v := ⟨(h.below hb).mono fun _ => .inl, hb⟩
theorem OutN.made {A : Nat → Prop} {w w' : World} {v : NV} (h : Mem w w' (EN v)) (he : v.c.ks = v.kv.map (·.k)) : OutN A w w' v := ⟨(NOk.own h.2 he).mono fun _ => .inr, h.below⟩
def bx (c : NL) : NV := ⟨c, none, 0, [], none, 0, none, 0⟩
theorem jz {A : Nat → Prop} {w : World} {c : NL} (h1 : c.ks = []) (h2 : c.ou = []) (h3 : c.pg = []) : NOk A w (bx c) := ⟨dr, by show Rws A w 4 fC none c.ou; rw [h2]; exact dr, by show Rws A w 1 iC none c.pg; rw [h3]; exact dr, h1, fun _ hu => by cases hu⟩
theorem zw {id : Int} : ∀ {l : List KR} {k i : Nat}, dO id l k = some i → k ≤ i ∧ ∃ q, l[i - k]? = some q ∧ q.st.id = id
  | [], k, i, h => by cases h
  | a :: l, k, i, h => by
    unfold dO at h
    split at h
    · obtain rfl := (by simpa using h : k = i)
      exact ⟨Nat.le_refl _, a, by simp, by assumption⟩
    · obtain ⟨h1, q, h2, h3⟩ := zw h
      refine ⟨by omega, q, ?_, h3⟩
      rw [show i - k = i - (k + 1) + 1 by omega]; simpa using h2
theorem lY {id : Int} {l : List KR} {i : Nat} (h : dO id l 0 = some i) : ∃ q, l[i]? = some q ∧ q.st.id = id := by
  obtain ⟨_, q, h2, h3⟩ := zw h
  exact ⟨q, h2, h3⟩
theorem ve {c : NL} {kv : List KV} {i : Nat} {u : KV} (hq : c.ks = kv.map (·.k)) (h : kv[i]? = some u) : mG c i = u.k := by
  unfold mG
  rw [hq, List.getElem?_map, h]; rfl
theorem vf {l1 l2 : List KV} (h : l1.map (·.k) = l2.map (·.k)) {i : Nat} {u : KV} (hu : l2[i]? = some u) : ∃ u1, l1[i]? = some u1 ∧ u1.k = u.k := by
  have h1 := congrArg (fun l => l[i]?) h
  simp only [List.getElem?_map, hu, Option.map_some] at h1
  cases hh : l1[i]? with
  | none => rw [hh] at h1; cases h1
  | some u1 => rw [hh] at h1; exact ⟨u1, rfl, by simpa using h1⟩
theorem pf {l1 l2 : List KV} (h : l1.map (·.k) = l2.map (·.k)) : l1.length = l2.length := by
  have := congrArg List.length h
  simpa using this
def Fe : KV := ⟨Ep, none, 0, none, 0, none, 0⟩
theorem CY {A : Nat → Prop} {w : World} : KOk A w Fe := ⟨dr, dr, dr⟩
attribute [local irreducible] Calls
theorem vg {A : Nat → Prop} (v : NV) (id : Int) (o : Option Nat) (w : World) (hN : NOk A w v) (hzk : v.kv.length ≤ 606626243774) (h : dO id v.c.ks 0 = o) : Calls Tryz.prog 37 #[.agg #[.int .i64 v.c.sd, .int .i64 v.c.nx, .int .i64 v.c.la, .int .i64 v.c.aw, .int .i64 v.c.sz, .int .i64 v.c.sw.size, .int .i64 v.c.sw.left, .int .i64 v.c.sw.held, .int .i64 v.c.rw.size, .int .i64 v.c.rw.left, .int .i64 v.c.rw.held, .slice v.x v.kv.length v.xc, .slice v.o v.c.ou.length v.oc, .slice v.p v.c.pg.length v.pc, .bool v.c.cl], .int .i64 id] w fun e w' => e = .returned (.int .i64 (DS o)) ∧ Below w.heap.size w w' := by subst h; exact Bz v id w hN hzk
theorem D0 (n : Int) (r : th) (h : ig n = r) (w : World) : Calls Tryz.prog 43 #[.int .i64 n] w fun e w' => e = .returned (.tuple #[.agg #[.int .i64 r.win.size, .int .i64 r.win.left, .int .i64 r.win.held], .int .i64 r.err]) ∧ Below w.heap.size w w' := by
  subst h
  exact tF n w
set_option maxRecDepth 100000 in
set_option maxHeartbeats 8000000 in
theorem ph (sd sz : Int) (w : World) : Calls Tryz.prog 14 #[.int .i64 sd, .int .i64 sz] w fun e w' => e = .returned (.tuple #[.agg ⟨NC (bx (dP sd sz).1)⟩, .int .i64 (dP sd sz).2]) ∧ Below w.heap.size w w' := by
  refine aQ Tryz.func14 rfl Tryz.ntmps14 J J ?_
  obtain ⟨r, hr⟩ : ∃ r, ig sz = r := ⟨_, rfl⟩
  repeat' (first | refine ai ?_ | refine aa ?_ | refine ab ?_ | refine ag ?_ | ((refine' am rfl ?_ J J ?_); rotate_left; first | exact ak af J J J J | exact aq af J J J J J J | exact bL J J J J J | exact bK J J J J J) | refine aK rfl (av J J J J ⟨J, trivial⟩ rfl (by kernel_rfl)) (fun w hm => D0 sz r hr w) J J ?_ | (refine aG af J J J J J J ?_; intro g) | refine aj af 0 J J J J J J J J J J J J ?_)
  by_cases h : (sd ≠ 1 ∧ sd ≠ 2) ∨ r.err ≠ 0
  · have hc : dP sd sz = (E8, 1) := by unfold dP; rw [hr, if_pos h]
    rw [hc]
    refine aB rfl (by simpa using h) ?_
    repeat' (first | refine ai ?_ | refine aa ?_ | refine ab ?_ | refine aA ?_ | refine au ?_ | refine ag ?_ | ((refine' am rfl ?_ J J ?_); rotate_left; first | exact ak af J J J J | exact ap af J J trivial J J J) | refine aj af 1 J J J J J J J J J J J J ?_)
    (refine aC af (fun _ => 1) J J ⟨J, trivial⟩ rfl fun w1 hm => ⟨rfl, hm.below⟩)
  · have hc : dP sd sz = (⟨sd, 1, 0, 0, sz, r.win, r.win, [], [], [], false⟩, 0) := by unfold dP; rw [hr, if_neg h]
    rw [hc]
    refine ar rfl (by
      cases hb : (((sd != 1) && (sd != 2)) || (r.err != 0)) with
      | false => rfl
      | true => exact absurd (by simpa using hb) h) ?_
    repeat' (first | refine ai ?_ | refine aa ?_ | refine ab ?_ | refine aA ?_ | refine ay ?_ | refine ag ?_ | ((refine' am rfl ?_ J J ?_); rotate_left; first | exact ak af J J J J | exact ae af 0 J J J J J | exact ap af J J ⟨J, J, J, J, J, trivial⟩ J J J) | refine aj af 1 J J J J J J J J J J J J ?_)
    (refine aC af (fun _ => 1) J J ⟨J, trivial⟩ rfl fun w1 hm => ⟨rfl, hm.below⟩)
set_option maxRecDepth 100000 in
set_option maxHeartbeats 8000000 in
theorem lx {A : Nat → Prop} (v : NV) (w : World) (hN : NOk A w v) (hz : yS v) : Calls Tryz.prog 26 #[.agg #[.int .i64 v.c.sd, .int .i64 v.c.nx, .int .i64 v.c.la, .int .i64 v.c.aw, .int .i64 v.c.sz, .int .i64 v.c.sw.size, .int .i64 v.c.sw.left, .int .i64 v.c.sw.held, .int .i64 v.c.rw.size, .int .i64 v.c.rw.left, .int .i64 v.c.rw.held, .slice v.x v.kv.length v.xc, .slice v.o v.c.ou.length v.oc, .slice v.p v.c.pg.length v.pc, .bool v.c.cl]] w fun e w' => ∃ v' : NV, ∃ p : Option Addr × Nat, v'.c = (jF v.c).1 ∧ e = .returned (.tuple #[.agg ⟨NC v'⟩, .slice p.1 v.c.ou.length p.2]) ∧ OutN A w w' v' ∧ Rws (fun b => w.heap.size ≤ b) w' 4 fC p.1 v.c.ou := by
  refine aQ Tryz.func26 rfl Tryz.ntmps26 J J ?_
  repeat' (first | refine ai ?_ | refine aa ?_ | refine ab ?_ | refine ag ?_ | (refine aV J J J J J J ?_; intro g1) | ((refine' am rfl ?_ J J ?_); rotate_left; first | exact ak af J J J J | exact ae af 1 J J J J J) | (refine aG af J J J J J J ?_; intro g))
  refine eC (σ := NV) (fun s => s.c = v.c ∧ s.kv.map (·.k) = v.kv.map (·.k)) (fun s => .agg ⟨NC s⟩) (fun s => EN s) rfl (av J J J J ⟨J, trivial⟩ rfl (by kernel_rfl)) (fun w1 hm => hY v w1 (hN.below hm.below) hz) J J ?_
  rintro ⟨c1, x1, xc1, kv1, o1, oc1, p1, pc1⟩ ⟨hc1, hk1⟩
  dsimp only at hc1 hk1
  subst hc1
  dsimp only [EN, List.cons_append, List.nil_append]
  refine de (fun w h => h.perm (wZ [_, _, _] (kv1.flatMap EK) [_, _])) ?_
  dsimp only [List.cons_append, List.nil_append]
  repeat' (first | refine ai ?_ | refine aa ?_ | refine ab ?_ | refine aA ?_ | refine ag ?_ | (refine aG af J J J J J J ?_; intro g4) | ((refine' am rfl ?_ J J ?_); rotate_left; first | exact ak af J J J J | exact ae af 0 J J J J J) | refine aj af 0 J J J J J J J J J J J J ?_ | refine aj af 4 J J J J J J J J J J J J ?_)
  (refine aC af (fun _ => 4) J J ⟨J, trivial⟩ rfl fun w1 hm => ⟨⟨{ v.c with ou := [] }, x1, xc1, kv1, none, 0, p1, pc1⟩, (o1, oc1), rfl, rfl, ⟨?_, hm.below⟩, Rws.own fh (hm.2.get (i := 2) rfl)⟩)
  have hE : MemL w.heap.size w1 (kv1.flatMap EK) := (hm.mask [false, false, false, false, false, false] rfl).2
  have h1 := hm.2.get (i := 1) rfl
  have h3 := hm.2.get (i := 3) rfl
  exact ⟨(Rws.own bi h3).mono fun _ => .inr, dr, (Rws.own gA h1).mono fun _ => .inr, by rw [hN.eq]; exact hk1.symm, fun u hu => (KOk.own (pb hE hu)).mono fun _ => .inr⟩
set_option maxRecDepth 100000 in
set_option maxHeartbeats 8000000 in
theorem xw {A : Nat → Prop} (v : NV) (id : Int) (w : World) (hN : NOk A w v) (hz : yS v) : Calls Tryz.prog 10 #[.agg #[.int .i64 v.c.sd, .int .i64 v.c.nx, .int .i64 v.c.la, .int .i64 v.c.aw, .int .i64 v.c.sz, .int .i64 v.c.sw.size, .int .i64 v.c.sw.left, .int .i64 v.c.sw.held, .int .i64 v.c.rw.size, .int .i64 v.c.rw.left, .int .i64 v.c.rw.held, .slice v.x v.kv.length v.xc, .slice v.o v.c.ou.length v.oc, .slice v.p v.c.pg.length v.pc, .bool v.c.cl], .int .i64 id] w fun e w' => ∃ u : KV, u.k = (lQ v.c id).1 ∧ e = .returned (.tuple #[.agg ⟨KC u⟩, .bool (lQ v.c id).2]) ∧ KOk (fun b => w.heap.size ≤ b) w' u ∧ Below w.heap.size w w' := by
  refine aQ Tryz.func10 rfl Tryz.ntmps10 J J ?_
  have hzk := hz.ks
  cases hf : dO id v.c.ks 0 with
  | none =>
    have hfl : lQ v.c id = (Ep, false) := by unfold lQ; rw [hf]
    rw [hfl]
    repeat' (first | refine ai ?_ | refine aa ?_ | refine ab ?_ | refine ag ?_ | (refine aV J J J J J J ?_; intro g2) | (refine aG af J J J J J J ?_; intro g4) | ((refine' am rfl ?_ J J ?_); rotate_left; first | exact ak af J J J J | exact aq af J J J J J J | exact ae af 1 J J J J J) | refine aK rfl (av J J J J ⟨J, J, trivial⟩ rfl (by kernel_rfl)) (fun w hm => vg v id none w (hN.below hm.below) (by omega) hf) J J ?_)
    refine aB J J ?_
    repeat' (first | refine ai ?_ | refine aa ?_ | refine ab ?_ | refine aA ?_ | refine au ?_ | refine ag ?_ | ((refine' am rfl ?_ J J ?_); rotate_left; first | exact ak af J J J J | exact ap af J J trivial J J J) | refine aj af 0 J J J J J J J J J J J J ?_)
    (refine aC af (fun _ => 0) J J ⟨J, trivial⟩ rfl fun w1 hm => ⟨Fe, rfl, rfl, CY, hm.below⟩)
  | some i =>
    obtain ⟨q, hq, _⟩ := lY hf
    obtain ⟨u, hu, huk⟩ : ∃ u, v.kv[i]? = some u ∧ u.k = q := by rw [hN.eq, List.getElem?_map] at hq; simpa using hq
    have hat := ve hN.eq hu
    have hfl : lQ v.c id = (u.k, true) := by unfold lQ; rw [hf]; dsimp only; rw [hat]
    rw [hfl]
    have hi : i < v.kv.length := (List.getElem?_eq_some_iff.1 hu).1
    repeat' (first | refine ai ?_ | refine aa ?_ | refine ab ?_ | refine ag ?_ | (refine aV J J J J J J ?_; intro g2) | (refine aG af J J J J J J ?_; intro g4) | ((refine' am rfl ?_ J J ?_); rotate_left; first | exact ak af J J J J | exact aq af J J J J J J | exact ae af 1 J J J J J) | refine aK rfl (av J J J J ⟨J, J, trivial⟩ rfl (by kernel_rfl)) (fun w hm => vg v id (some i) w (hN.below hm.below) (by omega) hf) J J ?_)
    refine ar rfl (show decide (((i : Nat) : Int) < 0) = false from decide_eq_false (by omega)) ?_
    repeat' (first | refine ai ?_ | refine aa ?_ | refine ab ?_ | refine ay ?_ | ((refine' am rfl ?_ J J ?_); rotate_left; exact ae af 1 J J J J J))
    refine eC (σ := NV) (fun s => s.c = v.c ∧ s.kv.map (·.k) = v.kv.map (·.k)) (fun s => .agg ⟨NC s⟩) (fun s => EN s) rfl (av J J J J ⟨J, trivial⟩ rfl (by kernel_rfl)) (fun w1 hm => hY v w1 (hN.below hm.below) hz) J J ?_
    rintro ⟨c1, x1, xc1, kv1, o1, oc1, p1, pc1⟩ ⟨hc1, hk1⟩
    dsimp only at hc1 hk1
    subst hc1
    dsimp only [EN, List.cons_append, List.nil_append]
    obtain ⟨u1, hu1, hu1k⟩ := vf hk1 hu
    have hi1 : i < kv1.length := (List.getElem?_eq_some_iff.1 hu1).1
    refine de (fun w h => h.perm (wZ [_, _, _] (kv1.flatMap EK) [_, _])) ?_
    dsimp only [List.cons_append, List.nil_append]
    refine mI 2 rfl (by omega) ?_
    rintro gx rfl
    repeat' (first | refine ab ?_ | refine aA ?_ | refine ag ?_ | ((refine' am rfl ?_ J J ?_); rotate_left; first | exact cm af (m := 22) i J J J J J J J J (fun _ => rfl) (fun _ => hi1) | exact jp af 2 (cs := KC u1) J J J J J J (fun _ k c hc => by rw [Nat.zero_add]; exact bk bi hu1 hc) | exact ak af J J J J) | refine aj af 3 J J J J J J J J J J J J ?_)
    (refine aC af (fun _ => 3) J J ⟨J, trivial⟩ rfl fun w1 hm => ⟨u1, hu1k, rfl, KOk.own (pb (hm.mask [false, false, false, false, false] rfl).2 (List.mem_of_getElem? hu1)), hm.below⟩)
end Go.Proofs.YthiocbcokfondaaGreatDoor.Y
namespace Go.Proofs.YthiocbcokfondaaGreatDoor.Y
open Go.RowKit
structure Cc (v : NV) : Prop where
  tx : ∀ u ∈ v.kv, u.k.st.text.size ≤ 4611686018427387900
  fr : ∀ u ∈ v.kv, ∀ f ∈ u.k.ob, f.data.size < 4294967281
  ob : ∀ u ∈ v.kv, u.k.ob.length ≤ 1000000000
  ou : v.c.ou.length ≤ 1000000000
theorem kI {α : Type} {l : List α} {i : Nat} {x y : α} (hi : i < l.length) (h : x ∈ l.set i y) : x = y ∨ x ∈ l.eraseIdx i := by
  rw [xd hi] at h
  rw [List.eraseIdx_eq_take_drop_succ]
  rcases List.mem_append.1 h with h | h
  · exact .inr (List.mem_append_left _ h)
  · rcases List.mem_cons.1 h with h | h
    · exact .inl h
    · exact .inr (List.mem_append_right _ h)
theorem rQ {u : KV} : ∀ {l : List KV} {k : Nat}, l[k]? = some u → (l.flatMap EK).Perm (EK u ++ (l.eraseIdx k).flatMap EK)
  | a :: l, 0, h => by
    obtain rfl := (by simpa using h : a = u)
    rw [List.flatMap_cons]
    exact List.Perm.refl _
  | a :: l, k + 1, h => by
    have h1 : l[k]? = some u := by simpa using h
    rw [List.flatMap_cons, List.eraseIdx_cons_succ, List.flatMap_cons]
    exact (List.Perm.append_left _ (rQ h1)).trans (by rw [← List.append_assoc, ← List.append_assoc]; exact List.Perm.append_right _ List.perm_append_comm)
theorem zx {u : KV} {l : List KV} {k : Nat} (E : List Ent) (h : l[k]? = some u) : (E ++ l.flatMap EK).Perm (EK u ++ (E ++ (l.eraseIdx k).flatMap EK)) :=
  (List.Perm.append_left E (rQ h)).trans (by rw [← List.append_assoc, ← List.append_assoc]; exact List.Perm.append_right _ List.perm_append_comm)
theorem Mem.toRep {α : Type} {w0 w : World} {M : List Ent} {a : Option Addr} {cap sz : Nat} {T : TypeId} {f : α → List Value} {l : List α} (hf : ∀ x, (f x).length = sz) (h : Mem w0 w (.own a cap T sz l.length (l.flatMap f) :: M)) : Mem w0 w (.rep (fun b => ∃ ad, a = some ad ∧ b = ad.block) (fun w => Rws (fun b => ∃ ad, a = some ad ∧ b = ad.block) w sz f a l) :: M) := by
  have hmt : ∀ k, (∃ ad, a = some ad ∧ k = ad.block) → (Ent.own a cap T sz l.length (l.flatMap f)).mut k := fun k ⟨ad, h1, h2⟩ => by subst h1; exact h2
  refine ⟨h.1, ⟨⟨fun k hk => (Ent.ok.mut_lt h.2.1 (hmt k hk)).2, yR hf h.2.1, fun w1 w2 hk hp => hp.agree hk⟩, fun x hx k => ?_, h.2.2.2⟩⟩
  have h1 := h.2.2.1 x hx k
  exact ⟨fun hm => hm.elim, fun hm hk => h1.2 hm (Ent.mut_foot (hmt k hk))⟩
theorem Mem.toRep1 {α : Type} {w0 w : World} {M : List Ent} {a : Option Addr} {cap sz n : Nat} {T : TypeId} {f : α → List Value} {xs : List Value} (l : List α) (hf : ∀ x, (f x).length = sz) (h1 : n = l.length) (h2 : xs = l.flatMap f) (h : Mem w0 w (.own a cap T sz n xs :: M)) : Mem w0 w (.rep (fun b => ∃ ad, a = some ad ∧ b = ad.block) (fun w => Rws (fun b => ∃ ad, a = some ad ∧ b = ad.block) w sz f a l) :: M) := by
  subst h1
  subst h2
  exact h.toRep hf
theorem BE {c : NL} {i : Nat} {g : KR → KR} {k : KR} (hi : i < c.ks.length) (hk : g (mG c i) = k) {r : Eq} (hr : kL k.ob k.st c.sw c.ou = r) : fw (gb c i g) i = { c with sw := r.w, ks := c.ks.set i { k with st := r.st, ob := r.ob }, ou := r.ou } := by
  have h1 : mG (gb c i g) i = k := by
    rw [← hk]
    unfold gb
    unfold mG
    simp [hi]
  unfold fw sonR
  rw [h1]
  unfold gb at h1 ⊢
  dsimp only
  rw [h1, List.set_set, hr]
theorem D1 {A : Nat → Prop} (v : KV) (r : Bf) (h : cy v.k.ob v.k.st = r) (w : World) (hO : Rws A w 4 fC v.o v.k.ob) (hzo : v.k.ob.length ≤ 3518437208883) (htx : v.k.st.text.size ≤ 4611686018427387900) (hfd : ∀ f ∈ v.k.ob, f.data.size < 4294967281) (hg : MLen w) : Calls Tryz.prog 139 #[.agg #[.int .i64 v.k.st.id, .int .i64 v.k.st.side, .int .i64 v.k.st.shape, .int .i64 v.k.st.sent, .int .i64 v.k.st.got, .bool v.k.st.se, .bool v.k.st.ge, .bool v.k.st.done, .int .i64 v.k.st.code, .string v.k.st.text, .int .i64 v.k.st.snd.size, .int .i64 v.k.st.snd.left, .int .i64 v.k.st.snd.held, .int .i64 v.k.st.rcv.size, .int .i64 v.k.st.rcv.left, .int .i64 v.k.st.rcv.held, .string v.k.sv, .string v.k.mt, .int .i64 v.k.lt, .slice v.m v.k.ms.length v.mc, .slice v.i v.k.ib.length v.ic, .slice v.o v.k.ob.length v.oc]] w fun e w' => e = .returned (.tuple #[.agg ⟨tC r.st⟩, .int .i64 r.err]) ∧ Below w.heap.size w w' := by
  subst h
  exact zl v w hO hzo htx hfd hg
theorem wq : ∀ (l : List aY) (s : cx), s.text.size ≤ 4611686018427387900 → (∀ f ∈ l, f.data.size < 4294967281) → (cy l s).st.text.size ≤ 4611686018427387900
  | [], s, h, _ => h
  | f :: l, s, h, hf => by
    rw [cy]
    split
    · exact h
    · exact wq l _ (oY h (hf f (List.mem_cons_self ..))) (fun x hx => hf x (List.mem_cons_of_mem _ hx))
attribute [local irreducible] Calls
set_option maxRecDepth 100000 in
set_option maxHeartbeats 8000000 in
theorem zy (msg : ByteArray) (sz : Int) (g5 g3 : Nat) (w : World) (h5 : w.cell? ⟨g5, 0, none⟩ = some (.string msg)) (h3 : w.cell? ⟨g3, 0 + 4, none⟩ = some (.int .i64 sz)) : Calls Tryz.prog 96 #[.pointer (some ⟨g5, 0, none⟩), .pointer (some ⟨g3, 0, none⟩)] w fun e w' => e = .returned (.int .i64 (if 16384 < msg.size ∨ sz < aI msg then 3 else 0)) ∧ Below w.heap.size w w' := by
  refine aQ Tryz.func96 rfl Tryz.ntmps96 J J ?_
  repeat' (first | refine ai ?_ | refine aa ?_ | refine ab ?_ | refine aU aD rfl (by kernel_rfl) ?_ | refine ag ?_ | refine bH ?_ | ((first | refine' am rfl ?_ J J ?_ | refine' dg rfl ?_ J J J ?_); rotate_left; first | exact eH af (v := .string msg) J J J J J (fun _ => h5) | exact eH af (v := .int .i64 sz) J J J J J (fun _ => h3) | exact ak af J J J J | exact aq af J J J J J J | exact bL J J J J J | exact bh af J J J J J J J) | refine br rfl (av J J J J ⟨J, trivial⟩ rfl (by kernel_rfl)) rfl (fun w hm => hJ msg w) J J ?_)
  by_cases h : 16384 < msg.size ∨ sz < aI msg
  · rw [if_pos h]
    refine aB rfl (by simp only [Bool.or_eq_true, decide_eq_true_eq]; omega) ?_
    repeat' (first | refine ai ?_ | refine aa ?_ | refine ab ?_ | refine aA ?_ | refine au ?_ | refine ag ?_ | ((refine' am rfl ?_ J J ?_); rotate_left; exact ak af J J J J))
    refine aC af (fun _ => 0) J J trivial rfl fun w hm => ⟨?_, hm.below⟩
    rfl
  · rw [if_neg h]
    refine ar rfl (by simp only [Bool.or_eq_false_iff, decide_eq_false_iff_not]; omega) ?_
    repeat' (first | refine ai ?_ | refine aa ?_ | refine ab ?_ | refine aA ?_ | refine ay ?_ | refine ag ?_ | ((refine' am rfl ?_ J J ?_); rotate_left; exact ak af J J J J))
    refine aC af (fun _ => 0) J J trivial rfl fun w hm => ⟨?_, hm.below⟩
    rfl
theorem D2 (msg : ByteArray) (sz ck : Int) (g5 g3 : Nat) (h : (if 16384 < msg.size ∨ sz < aI msg then 3 else 0) = ck) (w : World) (h5 : w.cell? ⟨g5, 0, none⟩ = some (.string msg)) (h3 : w.cell? ⟨g3, 0 + 4, none⟩ = some (.int .i64 sz)) : Calls Tryz.prog 96 #[.pointer (some ⟨g5, 0, none⟩), .pointer (some ⟨g3, 0, none⟩)] w fun e w' => e = .returned (.int .i64 ck) ∧ Below w.heap.size w w' := by
  subst h
  exact zy msg sz g5 g3 w h5 h3
set_option maxRecDepth 100000 in
set_option maxHeartbeats 32000000 in
theorem vi {A : Nat → Prop} (v : NV) (f : aY) (ck : Int) (msg : ByteArray) (gm gn : Nat) (w : World) (hN : NOk A w v) (hz : yS v) (hgd : Cc v) (hfd0 : ck = 0 → f.data.size < 4294967281) (hg : MLen w) (h5 : w.cell? ⟨gm, 0, none⟩ = some (.string msg)) (h3 : w.cell? ⟨gn, 0 + 4, none⟩ = some (.int .i64 v.c.sz)) (hck0 : (if 16384 < msg.size ∨ v.c.sz < aI msg then 3 else 0) = ck) : Calls Tryz.prog 95 #[.agg #[.int .i64 v.c.sd, .int .i64 v.c.nx, .int .i64 v.c.la, .int .i64 v.c.aw, .int .i64 v.c.sz, .int .i64 v.c.sw.size, .int .i64 v.c.sw.left, .int .i64 v.c.sw.held, .int .i64 v.c.rw.size, .int .i64 v.c.rw.left, .int .i64 v.c.rw.held, .slice v.x v.kv.length v.xc, .slice v.o v.c.ou.length v.oc, .slice v.p v.c.pg.length v.pc, .bool v.c.cl], .agg #[.int .i64 f.kind, .int .i64 f.strm, .int .i64 f.num, .string f.data], .func (.func 96) #[] #[.pointer (some ⟨gm, 0, none⟩), .pointer (some ⟨gn, 0, none⟩)]] w fun e w' => ∃ v' : NV, v'.c = (eM v.c f ck).1 ∧ e = .returned (.tuple #[.agg ⟨NC v'⟩, .int .i64 (eM v.c f ck).2]) ∧ OutN A w w' v' := by
  refine aQ Tryz.func95 rfl Tryz.ntmps95 J J ?_
  have hzk := hz.ks
  obtain ⟨o, ho⟩ : ∃ o, dO f.strm v.c.ks 0 = o := ⟨_, rfl⟩
  repeat' (first | refine ai ?_ | refine aa ?_ | refine ab ?_ | refine ag ?_ | (refine aV J J J J J J ?_; intro g3) | (refine aG af J J J J J J ?_; intro g6) | ((refine' am rfl ?_ J J ?_); rotate_left; first | exact ak af J J J J | exact aq af J J J J J J | exact ae af 1 J J J J J | exact ae af 2 J J J J J) | refine aK rfl (av J J J J ⟨J, J, trivial⟩ rfl (by kernel_rfl)) (fun w hm => vg v f.strm o w (hN.below hm.below) (by omega) ho) J J ?_)
  cases o with
  | none =>
    have hwl : eM v.c f ck = (v.c, 10) := by unfold eM jT; rw [ho]; rfl
    refine aB J J ?_
    repeat' (first | refine ai ?_ | refine aa ?_ | refine ab ?_ | refine aA ?_ | refine au ?_ | refine ag ?_ | ((refine' am rfl ?_ J J ?_); rotate_left; first | exact ak af J J J J | exact ae af 2 J J J J J) | refine aj af 0 J J J J J J J J J J J J ?_)
    (refine aC af (fun _ => 0) J J ⟨J, trivial⟩ rfl fun w1 hm => ⟨v, ?_, ?_, OutN.same hN hm.below⟩)
    · rw [hwl]
    · rw [hwl]; rfl
  | some i =>
    obtain ⟨q, hq, _⟩ := lY ho
    obtain ⟨u, hu, huk⟩ : ∃ u, v.kv[i]? = some u ∧ u.k = q := by rw [hN.eq, List.getElem?_map] at hq; simpa using hq
    have hat := ve hN.eq hu
    have hum := List.mem_of_getElem? hu
    have hi : i < v.kv.length := (List.getElem?_eq_some_iff.1 hu).1
    obtain ⟨bb, off, hx, _, _, hrows⟩ := hN.ks (by omega)
    have hrow : w.rangeAt bb (off + i * 22) (KC u) := hrows i u hu
    obtain ⟨hk1, hk2, hk3⟩ := hN.ok u hum
    obtain ⟨hs1, hs2, hs3⟩ := hz.ok u hum
    have htx := hgd.tx u hum
    have hfr := hgd.fr u hum
    obtain ⟨r, hr⟩ : ∃ r, cy u.k.ob u.k.st = r := ⟨_, rfl⟩
    have hrt : r.st.text.size ≤ 4611686018427387900 := by rw [← hr]; exact wq _ _ htx hfr
    obtain ⟨r2, hr2⟩ : ∃ r2, bD r.st f = r2 := ⟨_, rfl⟩
    have hwe : jT v.c f ck = if ck ≠ 0 then ck else if r.err ≠ 0 then r.err else r2.err := by unfold jT; rw [ho]; dsimp only; rw [hat, hr, hr2]
    refine ar rfl (show decide (((i : Nat) : Int) < 0) = false from decide_eq_false (by omega)) ?_
    repeat' (first | refine ai ?_ | refine aa ?_ | refine ab ?_ | refine ay ?_ | refine ag ?_ | ((refine' am rfl ?_ J J ?_); rotate_left; first | exact ak af J J J J | exact aq af J J J J J J) | refine aK rfl (av J J J J trivial rfl (by kernel_rfl)) (fun w hm => D2 msg v.c.sz ck gm gn hck0 w ((hm.below.cell (block_lt_of_cell h5)).trans h5) ((hm.below.cell (block_lt_of_cell h3)).trans h3)) J J ?_)
    by_cases hck : ck = 0
    rotate_left
    · have hwl : eM v.c f ck = (v.c, ck) := by unfold eM; rw [hwe, if_pos hck, if_pos hck]
      refine aB rfl (by simpa using hck) ?_
      repeat' (first | refine ai ?_ | refine aa ?_ | refine ab ?_ | refine aA ?_ | refine au ?_ | refine ag ?_ | ((refine' am rfl ?_ J J ?_); rotate_left; first | exact ak af J J J J | exact ae af 2 J J J J J) | refine aj af 0 J J J J J J J J J J J J ?_)
      (refine aC af (fun _ => 0) J J ⟨J, trivial⟩ rfl fun w1 hm => ⟨v, ?_, ?_, OutN.same hN hm.below⟩)
      · rw [hwl]
      · rw [hwl]; rfl
    have hfd := hfd0 hck
    refine ar rfl (by simpa using hck) ?_
    rw [if_neg (by simpa using hck)] at hwe
    rw [hx]
    repeat' (first | refine ai ?_ | refine aa ?_ | refine ab ?_ | refine ay ?_ | refine ag ?_ | (refine aG af J J J J J J ?_; intro g10) | ((refine' am rfl ?_ J J ?_); rotate_left; first | exact cm af (m := 22) i J J J J J J J J (fun _ => rfl) (fun _ => hi) | exact dC af (cs := KC u) J J J J J (fun _ => hrow) | exact ak af J J J J | exact aq af J J J J J J | exact ae af 2 J J J J J) | refine aK rfl (av J J J J ⟨J, trivial⟩ rfl (by kernel_rfl)) (fun w hm => D1 u r hr w (hk3.below hm.below) hs3 htx hfr (hg.below hm.below)) J J ?_ | refine aj af 0 J J J J J J J J J J J J ?_)
    by_cases he1 : r.err = 0
    rotate_left
    · have hwl : eM v.c f ck = (v.c, r.err) := by unfold eM; rw [hwe, if_pos he1, if_pos he1]
      refine aB rfl (by simpa using he1) ?_
      rw [← hx]
      repeat' (first | refine ai ?_ | refine aa ?_ | refine ab ?_ | refine aA ?_ | refine au ?_ | refine ag ?_ | ((refine' am rfl ?_ J J ?_); rotate_left; first | exact ak af J J J J | exact ae af 3 J J J J J) | refine aj af 1 J J J J J J J J J J J J ?_)
      (refine aC af (fun _ => 1) J J ⟨J, trivial⟩ rfl fun w1 hm => ⟨v, ?_, ?_, OutN.same hN hm.below⟩)
      · rw [hwl]
      · rw [hwl]; rfl
    refine ar rfl (by simpa using he1) ?_
    rw [if_neg (by simpa using he1)] at hwe
    repeat' (first | refine ai ?_ | refine aa ?_ | refine ab ?_ | refine ay ?_ | refine ag ?_ | (refine aG af J J J J J J ?_; intro g12) | ((refine' am rfl ?_ J J ?_); rotate_left; first | exact ak af J J J J | exact aq af J J J J J J | exact ae af 0 J J J J J | exact ae af 2 J J J J J) | refine aK rfl (av J J J J ⟨J, J, trivial⟩ rfl (by kernel_rfl)) (fun w hm => wd r.st f r2 hr2 w hrt hfd (hg.below hm.below)) J J ?_ | refine aj af 0 J J J J J J J J J J J J ?_)
    by_cases he2 : r2.err = 0
    rotate_left
    · have hwl : eM v.c f ck = (v.c, r2.err) := by unfold eM; rw [hwe, if_pos he2]
      refine aB rfl (by simpa using he2) ?_
      rw [← hx]
      repeat' (first | refine ai ?_ | refine aa ?_ | refine ab ?_ | refine aA ?_ | refine au ?_ | refine ag ?_ | ((refine' am rfl ?_ J J ?_); rotate_left; first | exact ak af J J J J | exact ae af 4 J J J J J) | refine aj af 2 J J J J J J J J J J J J ?_)
      (refine aC af (fun _ => 2) J J ⟨J, trivial⟩ rfl fun w1 hm => ⟨v, ?_, ?_, OutN.same hN hm.below⟩)
      · rw [hwl]
      · rw [hwl]; rfl
    refine ar rfl (by simpa using he2) ?_
    have hwl : eM v.c f ck = (fw (gb v.c i (fun k => { k with ob := k.ob ++ [f] })) i, 0) := by unfold eM; rw [hwe, if_neg (by simpa using he2), ho]; rfl
    rw [hwl]
    rw [← hx]
    repeat' (first | refine ai ?_ | refine aa ?_ | refine ab ?_ | refine ay ?_ | ((refine' am rfl ?_ J J ?_); rotate_left; exact ae af 4 J J J J J))
    refine eC (σ := NV) (fun s => s.c = v.c ∧ s.kv.map (·.k) = v.kv.map (·.k)) (fun s => .agg ⟨NC s⟩) (fun s => EN s) rfl (av J J J J ⟨J, trivial⟩ rfl (by kernel_rfl)) (fun w1 hm => hY v w1 (hN.below hm.below) hz) J J ?_
    rintro ⟨c1, x1, xc1, kv1, o1, oc1, p1, pc1⟩ ⟨hc1, hkm⟩
    dsimp only at hc1 hkm
    subst hc1
    dsimp only [EN, List.cons_append, List.nil_append]
    obtain ⟨u1, hu1, hu1k⟩ := vf hkm hu
    have hi1 : i < kv1.length := (List.getElem?_eq_some_iff.1 hu1).1
    have hob : u1.k.ob.length ≤ 1000000000 := by rw [hu1k]; exact hgd.ob u hum
    have hou := hgd.ou
    refine de (fun w h => h.perm (wZ [_, _, _] (kv1.flatMap EK) [_, _, _, _, _])) ?_
    refine de (fun w h => h.perm (zx ([_, _, _] ++ [_, _, _, _, _]) hu1)) ?_
    dsimp only [EK, List.cons_append, List.nil_append]
    refine mI 5 rfl (by omega) ?_
    rintro gx rfl
    repeat' (first | refine ai ?_ | refine aa ?_ | refine ab ?_ | refine ag ?_ | (refine aG af J J J J J J ?_; intro g14) | ((refine' am rfl ?_ J J ?_); rotate_left; first | exact cm af (m := 22) i J J J J J J J J (fun _ => rfl) (fun _ => hi1) | exact ak af J J J J | exact ae af 0 J J J J J) | refine aj af 0 J J J J J J J J J J J J ?_)
    refine du 7 [64] [] aD rfl (by kernel_rfl) ?_
    iterate 6 (((refine' lX rfl ?_ J J J ?_); rotate_left; first | exact cC af 6 (v := .slice u1.o u1.k.ob.length u1.oc) J J J J J J (fun _ => by rw [Nat.zero_add]; exact bk bi hu1 (k := 21) rfl) | exact ak af J J J J | exact ae af 10 J J J J J))
    refine dV af 63 J J (by simp [aF]) rfl (by simp [aF]) rfl ⟨J, trivial⟩ J J J J J J J J J J J ?_
    refine gH ?_
    rintro s1 -
    dsimp only [List.cons_append, List.nil_append]
    refine ce af 3 0 J J J J J J J J J (fun _ _ => rfl) kS J J (by unfold maxLen; omega) (by omega) J J ?_
    intro sa sc
    repeat' (((refine' am rfl ?_ J J ?_); rotate_left; exact ak af J J J J))
    refine dk af 7 J J J J J J J J J (show jo _ (0 + i * 22 + 21) _ = _ from by rw [Nat.zero_add]; exact cW bi (kv1) i 21 (u1) ({ u1 with k := { u1.k with ob := u1.k.ob ++ [f] }, o := sa, oc := sc }) _ hu1 (by rw [show u1.k.ob.length + 1 = (u1.k.ob ++ [f]).length by simp]; rfl)) J J ?_
    repeat' (first | refine ai ?_ | refine aa ?_ | refine ab ?_ | refine ag ?_ | ((refine' am rfl ?_ J J ?_); rotate_left; exact ak af J J J J))
    have htx2 : ({ u1 with k := { u1.k with ob := u1.k.ob ++ [f] }, o := sa, oc := sc } : KV).k.st.text.size ≤ 4611686018427387900 := by show u1.k.st.text.size ≤ _; rw [hu1k]; exact htx
    have hfr2 : ∀ x ∈ ({ u1 with k := { u1.k with ob := u1.k.ob ++ [f] }, o := sa, oc := sc } : KV).k.ob, x.data.size < 4294967281 := fun x hx => by
      rcases List.mem_append.1 hx with hx | hx
      · exact hfr x (by rw [← hu1k]; exact hx)
      · obtain rfl := List.mem_singleton.1 hx
        exact hfd
    have hk2 : (kv1.set i { u1 with k := { u1.k with ob := u1.k.ob ++ [f] }, o := sa, oc := sc })[i]? = some { u1 with k := { u1.k with ob := u1.k.ob ++ [f] }, o := sa, oc := sc } := en hu1 _
    refine fV (p := u1.k.ob.length + 1 ≤ sc ∧ ∀ ad, sa = some ad → w.heap.size ≤ ad.block) (fun w h => ⟨nw (h.2.get (i := 3) rfl), fun ad had => (Ent.ok.mut_lt (h.2.get (i := 3) rfl) (k := ad.block) (by subst had; rfl)).1⟩) (fun hcp2 => ?_)
    obtain ⟨hcap2, hnew⟩ := hcp2
    refine de (fun w h => (((Mem.toRep1 (u1.k.ob ++ [f]) fh (by simp) (by simp [fC]) ((h.mask [false, true, true, true, true, true, true, true, false, false, true, false, false] rfl).perm (List.perm_middle (l₁ := [_, _])))).perm (List.perm_middle (l₁ := [_]))).perm (List.perm_middle (l₁ := [_, _, _, _, _, _]))).perm (List.perm_middle (l₁ := [_, _, _, _, _, _]))) ?_
    dsimp only [List.cons_append, List.nil_append]
    refine bz (σ := Value × kW) (fun s => Dp v.c { u1 with k := { u1.k with ob := u1.k.ob ++ [f] }, o := sa, oc := sc } s.2 ∧ kL (u1.k.ob ++ [f]) u1.k.st v.c.sw v.c.ou = ⟨s.2.st, s.2.w, s.2.r, s.2.ou⟩) (fun s => s.1) (fun s => _) rfl (av J J J J ⟨J, J, trivial⟩ rfl (by kernel_rfl)) (fun w1 hM => (pe _ gx xc1 o1 oc1 p1 pc1 v.c (kv1.set i { u1 with k := { u1.k with ob := u1.k.ob ++ [f] }, o := sa, oc := sc }) kv1.length i { u1 with k := { u1.k with ob := u1.k.ob ++ [f] }, o := sa, oc := sc } hk2 _ w1 htx2 hfr2 (by show (u1.k.ob ++ [f]).length ≤ sc; simp; exact hcap2) (by show v.c.ou.length + (u1.k.ob ++ [f]).length ≤ _; simp; omega) (hM.2.get (i := 3) rfl).2.1 hg hM).mono fun e w' ⟨s, h1, h2, h3⟩ => ⟨s, h1, h2, h3⟩) J J ?_
    rintro ⟨rv, s⟩ ⟨hI, hsol⟩
    dsimp only at hI hsol ⊢
    have hC : fw (gb v.c i (fun k => { k with ob := k.ob ++ [f] })) i = { v.c with sw := s.w, ks := v.c.ks.set i (uS { u1 with k := { u1.k with ob := u1.k.ob ++ [f] }, o := sa, oc := sc } s).k, ou := s.ou } := by
      have h9 := BE (c := v.c) (i := i) (g := fun k => { k with ob := k.ob ++ [f] }) (k := ({ u1 with k := { u1.k with ob := u1.k.ob ++ [f] }, o := sa, oc := sc } : KV).k) (by rw [hN.lenk]; exact hi) (by rw [hat, ← hu1k]) hsol
      exact h9
    rw [hC]
    repeat' (first | refine ai ?_ | refine aa ?_ | refine ab ?_ | refine aA ?_ | refine ag ?_ | ((refine' am rfl ?_ J J ?_); rotate_left; first | exact ak af J J J J | exact ae af 2 J J J J J) | refine aj af 7 J J J J J J J J J J J J ?_)
    (refine aC af (fun _ => 7) J J ⟨J, trivial⟩ rfl fun w1 hm => ⟨⟨{ v.c with sw := s.w, ks := v.c.ks.set i (uS { u1 with k := { u1.k with ob := u1.k.ob ++ [f] }, o := sa, oc := sc } s).k, ou := s.ou }, some ⟨gx, 0, none⟩, xc1, (kv1.set i { u1 with k := { u1.k with ob := u1.k.ob ++ [f] }, o := sa, oc := sc }).set i (uS { u1 with k := { u1.k with ob := u1.k.ob ++ [f] }, o := sa, oc := sc } s), s.o, s.oc, p1, pc1⟩, rfl, ?_, ⟨?_, hm.below⟩⟩)
    · unfold NC
      simp only [List.length_set]
    · have hg1 := hm.2.get (i := 1) rfl
      rw [show kv1.length = ((kv1.set i { u1 with k := { u1.k with ob := u1.k.ob ++ [f] }, o := sa, oc := sc }).set i (uS { u1 with k := { u1.k with ob := u1.k.ob ++ [f] }, o := sa, oc := sc } s)).length by simp] at hg1
      have hR : MemL w.heap.size w1 ((kv1.eraseIdx i).flatMap EK) := (hm.mask [false, false, false, false, false, false, false, false] rfl).2
      have hrep := (hm.2.get (i := 3) rfl).2.1
      refine ⟨(Rws.own bi hg1).mono fun _ => .inr, (Rws.own fh (hm.2.get (i := 0) rfl)).mono fun _ => .inr, (Rws.own gA (hm.2.get (i := 6) rfl)).mono fun _ => .inr, ?_, fun x hx => ?_⟩
      · rw [List.set_set, List.map_set, hkm, hN.eq]
      · rw [List.set_set] at hx
        rcases kI hi1 hx with rfl | hx
        · refine ⟨(Rws.own iI (hm.2.get (i := 4) rfl)).mono fun _ => .inr, (Rws.own cT (hm.2.get (i := 5) rfl)).mono fun _ => .inr, fun h0 => ?_⟩
          obtain ⟨b, off1, j, e1, e2, e3⟩ := hI.at_ h0
          obtain ⟨b', off', e4, _, e6, e7⟩ := hrep (by simp)
          have e1' : sa = some ⟨b, off1, none⟩ := e1
          rw [e1'] at e4
          obtain ⟨rfl, rfl⟩ := (by simpa using e4 : b = b' ∧ off1 = off')
          refine ⟨b, off1 + j * 4, e2, .inr (hnew _ e1'), e6, fun n y hy => ?_⟩
          have hy' : (({ u1 with k := { u1.k with ob := u1.k.ob ++ [f] }, o := sa, oc := sc } : KV).k.ob.drop j)[n]? = some y := by rw [← e3]; exact hy
          rw [List.getElem?_drop] at hy'
          have h8 := e7 (j + n) y hy'
          rw [show off1 + j * 4 + n * 4 = off1 + (j + n) * 4 by omega]
          exact h8
        · exact (KOk.own (pb hR hx)).mono fun _ => .inr
end Go.Proofs.YthiocbcokfondaaGreatDoor.Y
