/- Texts of this claim merged into one: KRd1F, KCn23, KCn24. -/
import Derived.Test.YtklcfjlmlbnkaaaGreatDoorKHp
import Derived.Test.YtklcfjlmlbnkaaaGreatDoorKBunT
import Derived.Test.YtklcfjlmlbnkaaaGreatDoorKBunC22
namespace Go.Proofs.YtklcfjlmlbnkaaaGreatDoor.Y
open Go.RowKit
theorem Iz (s : ByteArray) (R : Fl) (h : cM s = R) (w : World) (hg : MLen w) (hs : s.size < 4294967281) : Calls Tryz.prog 46 #[.string s] w fun e w' => ∃ p : Option Addr × Nat, True ∧ e = .returned (.tuple ⟨[.agg ⟨[.string R.head.svc, .string R.head.mth, .int .i64 R.head.late, .slice p.1 R.head.metas.length p.2]⟩, .int .i64 R.err]⟩) ∧ Made w w' [.own p.1 p.2 85 2 R.head.metas.length (R.head.metas.flatMap mC)] := by
  subst h
  refine (lr s w hg hs).mono fun e w' ⟨v, h1, h2, h3⟩ => ?_
  rcases id h2.2 with ⟨hv, h0⟩ | ⟨g, cap, cur, hv, _⟩
  · subst hv
    refine ⟨(none, 0), trivial, ?_, Made.one (a := none) (cap := 0) ?_ h3⟩
    · rw [h1, h0]
    · rw [h0] at h2 ⊢; exact h2
  · subst hv
    exact ⟨(some ⟨g, 0, none⟩, cap), trivial, h1, Made.one h2 h3⟩
theorem Gc {w0 w : World} {a b c d e : Ent} {M : List Ent} {F : Nat → Prop} {P : World → Prop} (h : Mem w0 w (a :: b :: c :: d :: e :: .rep F P :: M)) (Q : World → Prop) (hq : ∀ w, Ent.ok w0.heap.size w e → P w → Q w) (hk : ∀ w1 w2, (∀ k, (e.foot k ∨ F k) → w2.heap[k]? = w1.heap[k]?) → Q w1 → Q w2) : Mem w0 w (a :: b :: c :: d :: .rep (fun k => e.foot k ∨ F k) Q :: M) := by
  have hp : (a :: b :: c :: d :: e :: .rep F P :: M).Perm ([e, .rep F P] ++ (a :: b :: c :: d :: M)) := List.perm_append_comm (l₁ := [a, b, c, d]) (l₂ := [_, _]) |>.append_right M
  have h2 := Mem.fuse [e, .rep F P] (fun k => e.foot k ∨ F k) Q (h.perm hp) rfl (fun k hk => hk.elim (fun h => ⟨_, List.mem_cons_self .., h⟩) (fun h => ⟨_, List.mem_cons_of_mem _ (List.mem_cons_self ..), h⟩)) (fun hm => hq w hm.1 hm.2.2.1.2.1) hk
  exact h2.perm (List.perm_middle (l₁ := [a, b, c, d]) (l₂ := M)).symm
attribute [local irreducible] Calls
set_option maxRecDepth 100000 in
set_option maxHeartbeats 16000000 in
theorem zN {w0 : World} {M : List Ent} (gc : Nat) (v : NV) (f : FrV) (w : World) (hv : VN v.c) (hms : cm v.c ≤ 500000000) (heq : v.c.ks = v.kv.map (·.k)) (hfd : f.data.size < 4294967281) (hg : MLen w0) (hM : Mem w0 w (.own v.o v.oc 74 4 v.c.ou.length (v.c.ou.flatMap fC) :: .own v.x v.xc 87 22 v.kv.length (v.kv.flatMap KC) :: .cl gc 34 [.int .i64 v.c.sd, .int .i64 v.c.nx, .int .i64 v.c.la, .int .i64 v.c.aw, .int .i64 v.c.sz, .int .i64 v.c.sw.size, .int .i64 v.c.sw.left, .int .i64 v.c.sw.held, .int .i64 v.c.rw.size, .int .i64 v.c.rw.left, .int .i64 v.c.rw.held, .slice v.x v.kv.length v.xc, .slice v.o v.c.ou.length v.oc, .slice v.p v.c.pg.length v.pc, .bool v.c.cl] :: .own v.p v.pc 3 1 v.c.pg.length (v.c.pg.flatMap iC) :: (v.kv.flatMap EK ++ M))) : Calls Tryz.prog 90 #[.pointer (some ⟨gc, 0, none⟩), .agg #[.int .i64 f.kind, .int .i64 f.strm, .int .i64 f.num, .string f.data]] w fun e w' => ∃ r : Value × NV × (Nat → Prop), (r.2.1.c = jd v.c f ∧ r.2.1.c.ks = r.2.1.kv.map (·.k) ∧ ∀ b, r.2.2 b → w0.heap.size ≤ b) ∧ e = .returned r.1 ∧ Mem w0 w' (CM gc r.2.2 r.2.1 M) := by
  obtain ⟨r, hr⟩ : ∃ x, dq f.strm 2 f.num v.c.sz = x := ⟨_, rfl⟩
  obtain ⟨R, hR⟩ : ∃ x, cM f.data = x := ⟨_, rfl⟩
  have hsz := hv.toVB.szl hms
  have hlk : v.c.ks.length = v.kv.length := by rw [heq, List.length_map]
  have hks := hsz.ks
  have hoz := hsz.ou.1
  obtain ⟨hM, hFK⟩ := nu hM
  refine bv hM Tryz.func90 rfl Tryz.ntmps90 J J ?_
  repeat' (first | refine aL am rfl (by kernel_rfl) ?_ | (refine bC ?_; intro g) | (refine bx ?_; intro g3) | ((refine' di rfl ?_ J J J ?_); rotate_left; first | exact aI af J J J J | exact ab af 0 J J J J J | exact ab af 1 J J J J J | exact ab af 3 J J J J J) | refine bm rfl (ap J J J J ⟨J, J, J, J, trivial⟩ rfl (by kernel_rfl)) rfl (fun w hm => BL f.strm 2 f.num v.c.sz r hr w) J J ?_ | refine bY af J J J J J J ?_ | refine nx ?_)
  refine cQ (σ := Option Addr × Nat) (fun _ => True) (fun p => .tuple ⟨[.agg ⟨[.string R.head.svc, .string R.head.mth, .int .i64 R.head.late, .slice p.1 R.head.metas.length p.2]⟩, .int .i64 R.err]⟩) (fun p => [.own p.1 p.2 85 2 R.head.metas.length (R.head.metas.flatMap mC)]) rfl (ap J J J J ⟨J, trivial⟩ rfl (by kernel_rfl)) (fun w1 hm => Iz f.data R hR w1 (hg.below hm.below) hfd) J J ?_
  rintro ⟨pm, pmc⟩ -
  dsimp only [List.cons_append, List.nil_append]
  repeat' (first | (refine al ?_; intro g6) | refine nx ?_)
  have hact := hv.toVB.acts
  by_cases haw : v.c.aw = 0
  · have hbw : (v.c.aw != 0) = false := by rw [haw]; rfl
    rw [hbw]
    refine yZ (σ := Nat × Array MapEntry × Nat) (fun s => s.2.1.size = sE v.c.ks) (fun s => .map (some s.1)) (fun s => [.obj s.1 (.map s.2.1 s.2.2)]) J J (ap J J J J ⟨J, trivial⟩ rfl (by kernel_rfl)) (fun w1 hm => uH (⟨{ v.c with la := f.strm }, v.x, v.xc, v.kv, v.o, v.oc, v.p, v.pc⟩ : NV) w1 (jF (v' := (⟨{ v.c with la := f.strm }, v.x, v.xc, v.kv, v.o, v.oc, v.p, v.pc⟩ : NV)) (hm.2.get (i := 5) rfl) (hm.2.get (i := 4) rfl) (hm.2.get (i := 7) rfl) heq (hm.2.get (i := 8) rfl).2.1) (show v.kv.length ≤ 606626243774 by omega)) J J ?_
    rintro ⟨gm, es, ck⟩ hes
    dsimp only [List.cons_append, List.nil_append]
    dsimp only at hes
    rw [hact] at hes
    repeat' (first | refine vx rfl (xW 0 J J J J Tryz.underlying69) ?_ | refine cV ?_)
    by_cases hc : v.c.aw ≠ 0 ∨ 64 ≤ dO v.c.ks ∨ (dq f.strm 2 f.num v.c.sz).err ≠ 0 ∨ (cM f.data).err ≠ 0
    · have hc2 : 64 ≤ es.size ∨ r.err ≠ 0 ∨ R.err ≠ 0 := by
        rcases hc with h | h | h | h
        · exact absurd haw h
        · exact .inl (by omega)
        · exact .inr (.inl (by rw [← hr]; exact h))
        · exact .inr (.inr (by rw [← hR]; exact h))
      refine aq rfl (by simp only [Bool.false_or, Bool.or_eq_true, decide_eq_true_eq, bne_iff_ne, ne_eq]; omega) ?_
      have hap : jd v.c f = { v.c with la := f.strm, ou := v.c.ou ++ [(⟨5, f.strm, 12, emptyB⟩ : FrV)] } := by unfold jd; rw [if_pos hc]
      rw [hap]
      repeat' refine nx ?_
      refine cY 9 am rfl (by kernel_rfl) ?_
      iterate 8 (((refine' di rfl ?_ J J J ?_); rotate_left; first | exact aI af J J J J | exact ab af 4 J J J J J | exact ab af 7 J J J J J | exact aj af J J ⟨J, J, J, trivial⟩ J J J))
      refine dV af J J J ⟨J, trivial⟩ J J J J J J J J ?_
      refine bC ?_
      intro s1
      refine bA af 6 0 J J J J J J J J J (fun _ _ => rfl) lw J J (by unfold maxLen; omega) (by omega) J J ?_
      intro sa sc
      repeat' refine cV ?_
      (refine rt ?_; refine fun w1 hm => ?_)
      refine ⟨(_, ⟨{ v.c with la := f.strm, ou := v.c.ou ++ [(⟨5, f.strm, 12, emptyB⟩ : FrV)] }, v.x, v.xc, v.kv, sa, sc, v.p, v.pc⟩, FK v.kv), ⟨rfl, heq, hFK⟩, rfl, ?_⟩
      have h1 := hm.mask [false, false, false, false, false, false, true, true, true, true, true] rfl
      unfold CM
      simp only [List.length_append, List.length_singleton, List.flatMap_append, List.flatMap_singleton]
      exact h1
    · have hc2 : ¬ (64 ≤ es.size ∨ r.err ≠ 0 ∨ R.err ≠ 0) := fun h => hc (by
        rcases h with h | h | h
        · exact .inr (.inl (by omega))
        · exact .inr (.inr (.inl (by rw [hr]; exact h)))
        · exact .inr (.inr (.inr (by rw [hR]; exact h))))
      have hap : jd v.c f = { v.c with la := f.strm, ks := v.c.ks ++ [⟨r.st, R.head.svc, R.head.mth, R.head.late, R.head.metas, [], []⟩] } := by unfold jd; rw [if_neg hc, hr, hR]
      rw [hap]
      refine ai rfl (by simp only [Bool.false_or, Bool.or_eq_false_iff, decide_eq_false_iff_not, bne_eq_false_iff_eq]; omega) ?_
      repeat' refine cV ?_
      refine cY 9 am rfl (by kernel_rfl) ?_
      iterate 8 (((refine' di rfl ?_ J J J ?_); rotate_left; first | exact aI af J J J J | exact ab af 1 J J J J J | exact ab af 3 J J J J J | exact ab af 7 J J J J J | exact aj af J J ⟨J, J, trivial⟩ J J J))
      refine dV af J J J ⟨J, trivial⟩ J J J J J J J J ?_
      refine bC ?_
      intro s1
      refine bA af 7 0 J J J J J J J J J (fun _ _ => rfl) wt J J (by unfold maxLen; omega) (by omega) J J ?_
      intro sa sc
      repeat' refine cV ?_
      (refine bJ af (fun _ => 0) J J trivial rfl fun w1 hm => ?_)
      refine ⟨(_, ⟨{ v.c with la := f.strm, ks := v.c.ks ++ [⟨r.st, R.head.svc, R.head.mth, R.head.late, R.head.metas, [], []⟩] }, sa, sc, v.kv ++ [(⟨⟨r.st, R.head.svc, R.head.mth, R.head.late, R.head.metas, [], []⟩, pm, pmc, none, 0, none, 0⟩ : KV)], v.o, v.oc, v.p, v.pc⟩, fun k => (Ent.own pm pmc 85 2 R.head.metas.length (R.head.metas.flatMap mC)).foot k ∨ FK v.kv k), ⟨rfl, by rw [List.map_append, ← heq]; rfl, fun k hk => hk.elim (fun h => (gU (hm.2.get (i := 3) rfl) h).1) (hFK k)⟩, rfl, ?_⟩
      have h1 := (hm.mask [false, false, false, true, false, false, true, true, true, true, true] rfl).perm (List.perm_middle (l₁ := [_, _, _, _])).symm
      unfold CM
      simp only [List.length_append, List.length_singleton, List.flatMap_append, List.flatMap_singleton]
      refine Gc h1 _ (fun w2 ho hp x hx => ?_) (fun w1 w2 hk hp x hx => (hp x hx).agree hk)
      rcases List.mem_append.1 hx with hx | hx
      · exact (hp x hx).mono fun _ => .inr
      · obtain rfl := List.mem_singleton.1 hx
        exact ⟨(dD iK ho rfl).mono fun _ h => .inl h, dw, dw⟩
  · have hbw : (v.c.aw != 0) = true := by simpa using haw
    have hc : v.c.aw ≠ 0 ∨ 64 ≤ dO v.c.ks ∨ (dq f.strm 2 f.num v.c.sz).err ≠ 0 ∨ (cM f.data).err ≠ 0 := .inl haw
    rw [hbw]
    refine vx rfl (rP (.map none) rfl) ?_
    refine vx rfl (rP (.int .i64 0) rfl) ?_
    repeat' refine cV ?_
    refine aq J J ?_
    have hap : jd v.c f = { v.c with la := f.strm, ou := v.c.ou ++ [(⟨5, f.strm, 12, emptyB⟩ : FrV)] } := by unfold jd; rw [if_pos hc]
    rw [hap]
    repeat' refine nx ?_
    refine cY 9 am rfl (by kernel_rfl) ?_
    iterate 8 (((refine' di rfl ?_ J J J ?_); rotate_left; first | exact aI af J J J J | exact ab af 3 J J J J J | exact ab af 6 J J J J J | exact aj af J J ⟨J, J, J, trivial⟩ J J J))
    refine dV af J J J ⟨J, trivial⟩ J J J J J J J J ?_
    refine bC ?_
    intro s1
    refine bA af 5 0 J J J J J J J J J (fun _ _ => rfl) lw J J (by unfold maxLen; omega) (by omega) J J ?_
    intro sa sc
    repeat' refine cV ?_
    (refine rt ?_; refine fun w1 hm => ?_)
    refine ⟨(_, ⟨{ v.c with la := f.strm, ou := v.c.ou ++ [(⟨5, f.strm, 12, emptyB⟩ : FrV)] }, v.x, v.xc, v.kv, sa, sc, v.p, v.pc⟩, FK v.kv), ⟨rfl, heq, hFK⟩, rfl, ?_⟩
    have h1 := hm.mask [false, false, false, false, false, true, true, true, true, true] rfl
    unfold CM
    simp only [List.length_append, List.length_singleton, List.flatMap_append, List.flatMap_singleton]
    exact h1
end Go.Proofs.YtklcfjlmlbnkaaaGreatDoor.Y
namespace Go.Proofs.YtklcfjlmlbnkaaaGreatDoor.Y
open Go.RowKit
theorem Mem.repDup4 {w0 w : World} {a b c d : Ent} {M : List Ent} {F : Nat → Prop} {p p' : World → Prop} (h : Mem w0 w (a :: b :: c :: d :: .rep F p :: M)) (h1 : ∀ w, p w → p' w) (h2 : ∀ w1 w2, (∀ k, F k → w2.heap[k]? = w1.heap[k]?) → p' w1 → p' w2) : Mem w0 w (a :: b :: c :: .rep F p' :: d :: .rep F p :: M) := by
  have hq := h.perm (List.perm_middle (l₁ := [a, b, c, d]))
  have hd : Mem w0 w (.rep F p' :: .rep F p :: ([a, b, c, d] ++ M)) := by
    refine ⟨hq.1, ⟨hq.2.1.1, h1 _ hq.2.1.2.1, h2⟩, fun f hf k => ?_, hq.2⟩
    rcases List.mem_cons.1 hf with rfl | hf
    · exact ⟨fun hm => hm.elim, fun hm => hm.elim⟩
    · exact hq.2.2.1 f hf k
  refine hd.perm ?_
  have e1 : (.rep F p' :: .rep F p :: ([a, b, c, d] ++ M)).Perm (.rep F p' :: (a :: b :: c :: d :: .rep F p :: M)) := ((List.perm_middle (l₁ := [a, b, c, d])).symm).cons _
  exact e1.trans (List.perm_middle (l₁ := [a, b, c])).symm
theorem E1 {A : Nat → Prop} {w : World} {c : NL} {u : KV} {s : lz} (hI : Gv c u s) (h : KOk A w u) : KOk A w (uS u s) := by
  refine ⟨h.1, h.2.1, fun h0 => ?_⟩
  obtain ⟨b, off, j, e1, e2, e3⟩ := hI.at_ h0
  have h0' : 0 < s.r.length := h0
  have hob : 0 < u.k.ob.length := by
    rw [e3, List.length_drop] at h0'
    omega
  obtain ⟨b', off', e4, e5, e6, e7⟩ := h.2.2 hob
  rw [e1] at e4
  obtain ⟨rfl, rfl⟩ := (by simpa using e4 : b = b' ∧ off = off')
  refine ⟨b, off + j * 4, e2, e5, e6, fun n y hy => ?_⟩
  have hy' : (u.k.ob.drop j)[n]? = some y := by rw [← e3]; exact hy
  rw [List.getElem?_drop] at hy'
  have h8 := e7 (j + n) y hy'
  rw [show off + j * 4 + n * 4 = off + (j + n) * 4 by omega]
  exact h8
theorem Cv {u : KV} {f : FrV} (h : u.k.ob.length ≤ u.oc) : (jn u f).k.ob.length ≤ (jn u f).oc := by
  unfold jn fX
  split
  · split
    · exact Nat.le_refl _
    · exact h
  · split
    · exact Nat.le_refl _
    · exact h
theorem yj {c : NL} {i : Nat} {u : KV} {s : lz} (hi : c.ks[i]? = some u.k) (h : jO u.k.ob u.k.st c.sw c.ou = ⟨s.st, s.w, s.r, s.ou⟩) : gu c i = { c with sw := s.w, ks := c.ks.set i (uS u s).k, ou := s.ou } := by
  rw [jl hi, h]; rfl
structure ot where
  j : Nat
  c : NL
  kv : List KV
  o : Option Addr
  oc : Nat
structure Jx (v : NV) (c1 : NL) (p : ot) : Prop where
  j : p.j ≤ v.kv.length
  vb : VB p.c
  eq : p.c.ks = p.kv.map (·.k)
  ln : p.kv.length = v.kv.length
  go : kx c1 v.kv.length 0 = kx p.c (v.kv.length - p.j) p.j
  ms : cm p.c ≤ 500000000
  pg : p.c.pg = v.c.pg
  at_ : ∀ m, p.j ≤ m → p.kv[m]? = v.kv[m]?
  ok : ∀ w, (∀ u ∈ v.kv, KOk (FK v.kv) w u) → ∀ u ∈ p.kv, KOk (FK v.kv) w u
attribute [local irreducible] Calls
set_option maxRecDepth 100000 in
set_option maxHeartbeats 32000000 in
theorem zO {w0 : World} {M : List Ent} (gc : Nat) (v : NV) (f : FrV) (w : World) (hv : VN v.c) (hms : cm v.c ≤ 400000000) (heq : v.c.ks = v.kv.map (·.k)) (hcap : ∀ u ∈ v.kv, u.k.ib.length ≤ u.ic ∧ u.k.ob.length ≤ u.oc) (hcl : v.c.cl = false) (hf : ay f = 0) (hkk : 3 ≤ f.kind ∧ f.kind ≤ 6) (hgw : f.kind = 6 → f.strm = 0 → (cC v.c.sw f.num).err = 0) (hg : MLen w0) (hM : Mem w0 w (.own v.o v.oc 74 4 v.c.ou.length (v.c.ou.flatMap fC) :: .own v.x v.xc 87 22 v.kv.length (v.kv.flatMap KC) :: .cl gc 34 [.int .i64 v.c.sd, .int .i64 v.c.nx, .int .i64 v.c.la, .int .i64 v.c.aw, .int .i64 v.c.sz, .int .i64 v.c.sw.size, .int .i64 v.c.sw.left, .int .i64 v.c.sw.held, .int .i64 v.c.rw.size, .int .i64 v.c.rw.left, .int .i64 v.c.rw.held, .slice v.x v.kv.length v.xc, .slice v.o v.c.ou.length v.oc, .slice v.p v.c.pg.length v.pc, .bool v.c.cl] :: .own v.p v.pc 3 1 v.c.pg.length (v.c.pg.flatMap iC) :: (v.kv.flatMap EK ++ M))) : Calls Tryz.prog 92 #[.pointer (some ⟨gc, 0, none⟩), .agg #[.int .i64 f.kind, .int .i64 f.strm, .int .i64 f.num, .string f.data]] w fun e w' => ∃ r : Value × NV × (Nat → Prop), (r.2.1.c = gY v.c f ∧ r.2.1.c.ks = r.2.1.kv.map (·.k) ∧ ∀ b, r.2.2 b → w0.heap.size ≤ b) ∧ e = .returned r.1 ∧ Mem w0 w' (CM gc r.2.2 r.2.1 M) := by
  have hsz := hv.toVB.szl (by omega)
  have hlk : v.c.ks.length = v.kv.length := by rw [heq, List.length_map]
  have hks := hsz.ks
  have hoz := hsz.ou.1
  have hfz := fw hf
  obtain ⟨hM, hFK⟩ := nu hM
  refine bv hM Tryz.func92 rfl Tryz.ntmps92 J J ?_
  repeat' (first | (refine bx ?_; intro g3) | refine nx ?_)
  by_cases h0 : f.strm = 0
  · have h6 : f.kind = 6 := by
      have := sH hf
      unfold eA at this
      rw [if_neg (by omega)] at this
      by_cases e : f.kind = 6
      · exact e
      · rw [if_neg e, h0] at this; cases this
    obtain ⟨_, b1, b2, hgv⟩ := og (hgw h6 h0)
    have hvb1 : VB ({ v.c with sw := (⟨v.c.sw.size, v.c.sw.left + f.num, v.c.sw.held⟩ : WinV) } : NL) := ⟨hv.sd, hv.sz, oh hv.sw b1 b2, hv.rw, hv.ss, hv.rs, hv.sh, hv.la, hv.aw, hv.n1, hv.n2, hv.pg, hv.pn, hv.cn, hv.pk, hv.asc, hv.ou, hv.cl, hv.tt⟩
    have hcr : gY v.c f = kx ({ v.c with sw := (⟨v.c.sw.size, v.c.sw.left + f.num, v.c.sw.held⟩ : WinV) } : NL) v.kv.length 0 := by unfold gY; rw [if_pos h0, hgv, if_pos rfl, hlk]
    rw [hcr]
    refine aq rfl (by simpa using h0) ?_
    repeat' (first | refine aL am rfl (by kernel_rfl) ?_ | (refine bC ?_; intro g) | ((refine' di rfl ?_ J J J ?_); rotate_left; first | exact aI af J J J J | exact bw af J J J J J J | exact ab af 0 J J J J J | exact ab af 3 J J J J J) | refine bm rfl (ap J J J J ⟨J, J, trivial⟩ rfl (by kernel_rfl)) rfl (fun w hm => Hh v.c.sw f.num ⟨(⟨v.c.sw.size, v.c.sw.left + f.num, v.c.sw.held⟩ : WinV), 0⟩ hgv w) J J ?_ | refine bY af J J J J J J ?_ | refine nx ?_)
    refine aq J J ?_
    repeat' refine nx ?_
    refine bP (σ := ot) (Jx v ({ v.c with sw := (⟨v.c.sw.size, v.c.sw.left + f.num, v.c.sw.held⟩ : WinV) } : NL)) (fun p => [(32, [], .int .i64 ((p.j : Nat) : Int)), (31, [], .int .i64 ((v.kv.length : Nat) : Int)), (0, [], .pointer (some ⟨gc, 0, none⟩))]) (fun p => .own p.o p.oc 74 4 p.c.ou.length (p.c.ou.flatMap fC) :: .own v.x v.xc 87 22 v.kv.length (p.kv.flatMap KC) :: .cl gc 34 [.int .i64 p.c.sd, .int .i64 p.c.nx, .int .i64 p.c.la, .int .i64 p.c.aw, .int .i64 p.c.sz, .int .i64 p.c.sw.size, .int .i64 p.c.sw.left, .int .i64 p.c.sw.held, .int .i64 p.c.rw.size, .int .i64 p.c.rw.left, .int .i64 p.c.rw.held, .slice v.x v.kv.length v.xc, .slice p.o p.c.ou.length p.oc, .slice v.p p.c.pg.length v.pc, .bool p.c.cl] :: .own v.p v.pc 3 1 v.c.pg.length (v.c.pg.flatMap iC) :: .rep (FK v.kv) (fun w => ∀ u ∈ v.kv, KOk (FK v.kv) w u) :: M) (fun p => v.kv.length - p.j) ⟨0, ({ v.c with sw := (⟨v.c.sw.size, v.c.sw.left + f.num, v.c.sw.held⟩ : WinV) } : NL), v.kv, v.o, v.oc⟩ [false, false, true, true, true, true, true] ⟨Nat.zero_le _, hvb1, heq, rfl, rfl, (by show cm v.c ≤ 500000000; omega), rfl, fun _ _ => rfl, fun _ h => h⟩ ⟨J, J, J, trivial⟩ rfl ?_
    intro p hI
    have hj0 := hI.j
    by_cases hj : p.j < v.kv.length
    · obtain ⟨u, hu⟩ : ∃ u, p.kv[p.j]? = some u := ⟨p.kv[p.j]'(by rw [hI.ln]; exact hj), List.getElem?_eq_getElem _⟩
      have hu0 : v.kv[p.j]? = some u := by rw [← hI.at_ p.j (Nat.le_refl _)]; exact hu
      have hpi : p.c.ks[p.j]? = some u.k := by rw [hI.eq, List.getElem?_map, hu]; rfl
      have hsp := hI.vb.szl hI.ms
      have hps := hsp.ok u.k (List.mem_of_getElem? hpi)
      have hpo := hsp.ou.1
      have hum0 := List.mem_of_getElem? hu0
      refine bc ?_
      refine aH ?_
      refine oV 1 rfl (show 0 < v.kv.length by omega) ?_
      intro gx hgx
      rw [hgx]
      repeat' refine nx ?_
      refine aq rfl (by simp; omega) ?_
      repeat' (first | refine vx rfl (ia (m := 22) p.j hj) ?_ | refine nx ?_)
      refine cR (fun w1 hm => Mem.repDup4 (p' := fun w => Rws (FK v.kv) w 4 fC u.o u.k.ob) hm (fun w h => (h u hum0).2.2) (fun w1 w2 hk h => h.agree hk)) ?_
      refine bj (σ := Value × lz) (fun s => Gv p.c u s.2 ∧ jO u.k.ob u.k.st p.c.sw p.c.ou = ⟨s.2.st, s.2.w, s.2.r, s.2.ou⟩) (fun s => s.1) (fun s => _) rfl (ap J J J J ⟨J, J, trivial⟩ rfl (by kernel_rfl)) (fun w1 hM => (pt gc gx v.xc p.o p.oc v.p v.pc p.c p.kv v.kv.length p.j u hu (FK v.kv) w1 hps.2.2.2.1 hps.2.2.2.2.1 (hcap u hum0).2 (by have := om (List.mem_of_getElem? hpi); have := hI.ms; unfold cm at this; omega) (hM.2.get (i := 3) rfl).2.1 hg hM).mono fun e w' ⟨s, h1, h2, h3⟩ => ⟨s, h1, h2, h3⟩) J J ?_
      rintro ⟨rv, s⟩ ⟨hSo, hsol⟩
      dsimp only at hSo hsol ⊢
      have hsl := yj hpi hsol
      obtain ⟨vb2, _, _⟩ := hI.vb.son hpi
      rw [hsl] at vb2
      have hms2 := pI hI.vb hpi
      rw [hsl] at hms2
      have hpl : p.j < p.kv.length := by rw [hI.ln]; exact hj
      repeat' (first | refine vx rfl (bd J J J J J (by omega)) ?_ | refine cV ?_)
      refine gk (M' := .own (⟨p.j + 1, { p.c with sw := s.w, ks := p.c.ks.set p.j (uS u s).k, ou := s.ou }, p.kv.set p.j (uS u s), s.o, s.oc⟩ : ot).o (⟨p.j + 1, { p.c with sw := s.w, ks := p.c.ks.set p.j (uS u s).k, ou := s.ou }, p.kv.set p.j (uS u s), s.o, s.oc⟩ : ot).oc 74 4 (⟨p.j + 1, { p.c with sw := s.w, ks := p.c.ks.set p.j (uS u s).k, ou := s.ou }, p.kv.set p.j (uS u s), s.o, s.oc⟩ : ot).c.ou.length ((⟨p.j + 1, { p.c with sw := s.w, ks := p.c.ks.set p.j (uS u s).k, ou := s.ou }, p.kv.set p.j (uS u s), s.o, s.oc⟩ : ot).c.ou.flatMap fC) :: .own (some ⟨gx, 0, none⟩) v.xc 87 22 v.kv.length ((⟨p.j + 1, { p.c with sw := s.w, ks := p.c.ks.set p.j (uS u s).k, ou := s.ou }, p.kv.set p.j (uS u s), s.o, s.oc⟩ : ot).kv.flatMap KC) :: .cl gc 34 [.int .i64 (⟨p.j + 1, { p.c with sw := s.w, ks := p.c.ks.set p.j (uS u s).k, ou := s.ou }, p.kv.set p.j (uS u s), s.o, s.oc⟩ : ot).c.sd, .int .i64 (⟨p.j + 1, { p.c with sw := s.w, ks := p.c.ks.set p.j (uS u s).k, ou := s.ou }, p.kv.set p.j (uS u s), s.o, s.oc⟩ : ot).c.nx, .int .i64 (⟨p.j + 1, { p.c with sw := s.w, ks := p.c.ks.set p.j (uS u s).k, ou := s.ou }, p.kv.set p.j (uS u s), s.o, s.oc⟩ : ot).c.la, .int .i64 (⟨p.j + 1, { p.c with sw := s.w, ks := p.c.ks.set p.j (uS u s).k, ou := s.ou }, p.kv.set p.j (uS u s), s.o, s.oc⟩ : ot).c.aw, .int .i64 (⟨p.j + 1, { p.c with sw := s.w, ks := p.c.ks.set p.j (uS u s).k, ou := s.ou }, p.kv.set p.j (uS u s), s.o, s.oc⟩ : ot).c.sz, .int .i64 (⟨p.j + 1, { p.c with sw := s.w, ks := p.c.ks.set p.j (uS u s).k, ou := s.ou }, p.kv.set p.j (uS u s), s.o, s.oc⟩ : ot).c.sw.size, .int .i64 (⟨p.j + 1, { p.c with sw := s.w, ks := p.c.ks.set p.j (uS u s).k, ou := s.ou }, p.kv.set p.j (uS u s), s.o, s.oc⟩ : ot).c.sw.left, .int .i64 (⟨p.j + 1, { p.c with sw := s.w, ks := p.c.ks.set p.j (uS u s).k, ou := s.ou }, p.kv.set p.j (uS u s), s.o, s.oc⟩ : ot).c.sw.held, .int .i64 (⟨p.j + 1, { p.c with sw := s.w, ks := p.c.ks.set p.j (uS u s).k, ou := s.ou }, p.kv.set p.j (uS u s), s.o, s.oc⟩ : ot).c.rw.size, .int .i64 (⟨p.j + 1, { p.c with sw := s.w, ks := p.c.ks.set p.j (uS u s).k, ou := s.ou }, p.kv.set p.j (uS u s), s.o, s.oc⟩ : ot).c.rw.left, .int .i64 (⟨p.j + 1, { p.c with sw := s.w, ks := p.c.ks.set p.j (uS u s).k, ou := s.ou }, p.kv.set p.j (uS u s), s.o, s.oc⟩ : ot).c.rw.held, .slice (some ⟨gx, 0, none⟩) v.kv.length v.xc, .slice (⟨p.j + 1, { p.c with sw := s.w, ks := p.c.ks.set p.j (uS u s).k, ou := s.ou }, p.kv.set p.j (uS u s), s.o, s.oc⟩ : ot).o (⟨p.j + 1, { p.c with sw := s.w, ks := p.c.ks.set p.j (uS u s).k, ou := s.ou }, p.kv.set p.j (uS u s), s.o, s.oc⟩ : ot).c.ou.length (⟨p.j + 1, { p.c with sw := s.w, ks := p.c.ks.set p.j (uS u s).k, ou := s.ou }, p.kv.set p.j (uS u s), s.o, s.oc⟩ : ot).oc, .slice v.p (⟨p.j + 1, { p.c with sw := s.w, ks := p.c.ks.set p.j (uS u s).k, ou := s.ou }, p.kv.set p.j (uS u s), s.o, s.oc⟩ : ot).c.pg.length v.pc, .bool (⟨p.j + 1, { p.c with sw := s.w, ks := p.c.ks.set p.j (uS u s).k, ou := s.ou }, p.kv.set p.j (uS u s), s.o, s.oc⟩ : ot).c.cl] :: .own v.p v.pc 3 1 v.c.pg.length (v.c.pg.flatMap iC) :: .rep (FK v.kv) (fun w => ∀ u ∈ v.kv, KOk (FK v.kv) w u) :: M) (fun w hM => hM.mask [true, true, true, false, true, true] rfl) ?_
      refine aU (⟨p.j + 1, { p.c with sw := s.w, ks := p.c.ks.set p.j (uS u s).k, ou := s.ou }, p.kv.set p.j (uS u s), s.o, s.oc⟩ : ot) [] ⟨hj, vb2, by show p.c.ks.set p.j (uS u s).k = (p.kv.set p.j (uS u s)).map (·.k); rw [List.map_set, hI.eq], by show (p.kv.set p.j (uS u s)).length = _; rw [List.length_set]; exact hI.ln, ?_, ?_, hI.pg, fun m hm => ?_, fun w h x hx => ?_⟩ (show v.kv.length - (p.j + 1) < v.kv.length - p.j by omega) ⟨J, J, J, trivial⟩ rfl
      · rw [hI.go, show v.kv.length - p.j = (v.kv.length - (p.j + 1)) + 1 by omega, kx, hsl]
      · exact Nat.le_trans hms2 hI.ms
      · show (p.kv.set p.j (uS u s))[m]? = _
        have hm' : p.j + 1 ≤ m := hm
        rw [List.getElem?_set_ne (by omega)]
        exact hI.at_ m (by omega)
      · have hx' : x ∈ p.kv.set p.j (uS u s) := hx
        rcases kZ hpl hx' with rfl | hx'
        · exact E1 hSo (hI.ok w h u (List.mem_of_getElem? hu))
        · exact hI.ok w h x (List.mem_of_mem_eraseIdx hx')
    · have hjl : p.j = v.kv.length := by omega
      repeat' refine nx ?_
      refine ai rfl (by simp; omega) ?_
      repeat' refine cV ?_
      (refine rt ?_; refine fun w1 hm => ?_)
      refine ⟨(_, ⟨p.c, v.x, v.xc, p.kv, p.o, p.oc, v.p, v.pc⟩, FK v.kv), ⟨by rw [hI.go, hjl, Nat.sub_self, kx], hI.eq, hFK⟩, rfl, ?_⟩
      unfold CM
      dsimp only
      rw [hI.ln, hI.pg]
      rw [hI.pg] at hm
      have h2 := hm.perm (List.perm_middle (l₁ := [_, _, _, _]))
      exact (h2.repTo (fun w h => hI.ok w h) (fun w1 w2 hk h x hx => (h x hx).agree hk)).perm (List.perm_middle (l₁ := [_, _, _, _])).symm
  · refine ai rfl (by simpa using h0) ?_
    obtain ⟨o, ho⟩ : ∃ o, dj f.strm v.c.ks 0 = o := ⟨_, rfl⟩
    repeat' (first | refine aL am rfl (by kernel_rfl) ?_ | refine bW ?_ | ((refine' di rfl ?_ J J J ?_); rotate_left; first | exact aI af J J J J | exact bw af J J J J J J | exact ab af 0 J J J J J | exact ab af 3 J J J J J) | refine bm rfl (ap J J J J ⟨J, J, trivial⟩ rfl (by kernel_rfl)) rfl (fun w hm => BG v f.strm o w (jF (hm.2.get (i := 2) rfl) (hm.2.get (i := 1) rfl) (hm.2.get (i := 4) rfl) heq (hm.2.get (i := 5) rfl).2.1) (show v.kv.length ≤ 606626243774 by omega) ho) J J ?_ | refine nx ?_)
    cases o with
    | none =>
      have hcr : gY v.c f = v.c := by unfold gY; rw [if_neg h0, ho]
      rw [hcr]
      refine ai J J ?_
      repeat' refine cV ?_
      (refine bJ af (fun _ => 0) J J trivial rfl fun w1 hm => ?_)
      exact ⟨(_, v, FK v.kv), ⟨rfl, heq, hFK⟩, rfl, hm.mask [false, true, true, true, true, true] rfl⟩
    | some i =>
      obtain ⟨q, hq, hqi⟩ := od ho
      obtain ⟨u, hu, huk⟩ : ∃ u, v.kv[i]? = some u ∧ u.k = q := by rw [heq, List.getElem?_map] at hq; simpa using hq
      subst huk
      have hi : i < v.kv.length := (List.getElem?_eq_some_iff.1 hu).1
      have hum := List.mem_of_getElem? hu
      have hso := Cu hv (i := i) (k := u.k) hq hf hqi.symm ⟨by omega, hkk.2⟩
      obtain ⟨hr1, hr2⟩ := pP (c := v.c) (f := f) hq hso
      obtain ⟨k', e', hrr⟩ := lf hv hq hf hqi.symm ⟨by omega, hkk.2⟩
      obtain ⟨vb1, _, _, _⟩ := nt hv hcl hq hrr
      have hms1 := pK hq hrr
      rw [hr1] at vb1 hms1
      have htx : u.k.st.text.size ≤ 4611686018427387900 := (hsz.ok u.k (List.mem_of_getElem? hq)).2.2.2.1
      have hcr : gY v.c f = gu (dX v.c i f) i := by unfold gY; rw [if_neg h0, ho]
      rw [hcr, hr1]
      have hiz : decide ((GU (some i)) ≥ 0) = true := decide_eq_true (by show ((i : Nat) : Int) ≥ 0; omega)
      refine aq rfl hiz ?_
      by_cases hxx : v.x = none
      · exfalso
        have := (hM.2.get (i := 1) rfl)
        obtain ⟨g, hg'⟩ := ka this (show 0 < v.kv.length by omega)
        rw [hxx] at hg'; cases hg'
      obtain ⟨gx, hgx⟩ : ∃ gx, v.x = some ⟨gx, 0, none⟩ := ka (hM.2.get (i := 1) rfl) (show 0 < v.kv.length by omega)
      rw [hgx]
      repeat' refine nx ?_
      refine bR [true, true, true, true, true, true] (fun _ => True) am (by kernel_rfl) J J (fun _ _ => trivial) ?_
      iterate 6 (((refine' gp J J ?_ J J ?_); rotate_left; first | exact aI af J J J J | exact ab af 3 J J J J J))
      ((refine' gp J J ?_ J J ?_); rotate_left; exact AN af (m := 22) i J J J J J J J J (fun _ => rfl) (fun _ => hi))
      ((refine' gp J J ?_ J J ?_); rotate_left; exact ab af 0 J J J J J)
      refine fK (σ := Option Addr × Nat) (fun _ => True) (fun _ => .bool (xb u f)) (fun s => _) rfl (ap J J J J ⟨J, J, J, trivial⟩ rfl (by kernel_rfl)) (fun w1 hM => (vm gc gx v.xc v.kv.length i _ _ _ _ _ _ _ _ _ _ _ _ _ _ v.kv u hu v.o v.oc v.c.ou f w1 htx (by omega) (by omega) hso hg (hM.perm (List.perm_middle (l₁ := [_]) |>.trans ((List.perm_middle (l₁ := [_])).cons _) |>.trans (((List.perm_middle (l₁ := [_])).cons _).cons _)))).mono fun e w' ⟨s, h1, h2, h3⟩ => ⟨s, h1, h2, h3⟩) J J ?_
      rintro ⟨qa, qc⟩ -
      obtain ⟨u2, hu2⟩ : ∃ u2 : KV, jn u f = u2 := ⟨_, rfl⟩
      obtain ⟨ou2, hou2⟩ : ∃ l, qt u f v.c.ou = l := ⟨_, rfl⟩
      have hcp2 : u2.k.ob.length ≤ u2.oc := by rw [← hu2]; exact Cv (hcap u hum).2
      have hok2 : ∀ {A : Nat → Prop} {w : World}, KOk A w u → KOk A w u2 := fun h => by rw [← hu2]; exact El h
      rw [hu2, hou2] at vb1 hms1
      rw [hu2, hou2]
      have hat2 : (v.kv.set i u2)[i]? = some u2 := dH hu _
      have hq2 : (v.c.ks.set i u2.k)[i]? = some u2.k := List.getElem?_set_self (by rw [hlk]; exact hi)
      have hs2 := vb1.szl (by omega)
      have hp2 := hs2.ok u2.k (List.mem_of_getElem? hq2)
      have hob2 := om (List.mem_of_getElem? hq2)
      have hms3 : ou2.length + u2.k.ob.length ≤ 500000000 := by have h9 := hms; unfold cm at hms1 h9; dsimp only at hms1; omega
      repeat' (first | refine vx rfl (ia (m := 22) i hi) ?_ | refine cV ?_)
      refine cR (fun w1 hm => Mem.repDup4 (p' := fun w => Rws (FK v.kv) w 4 fC u2.o u2.k.ob) (hm.mask [true, true, true, false, true, true] rfl) (fun w h => (hok2 (h u hum)).2.2) (fun w1 w2 hk h => h.agree hk)) ?_
      refine bj (σ := Value × lz) (fun s => Gv { v.c with ou := ou2 } u2 s.2 ∧ jO u2.k.ob u2.k.st v.c.sw ou2 = ⟨s.2.st, s.2.w, s.2.r, s.2.ou⟩) (fun s => s.1) (fun s => _) rfl (ap J J J J ⟨J, J, trivial⟩ rfl (by kernel_rfl)) (fun w1 hM => (pt gc gx v.xc qa qc v.p v.pc { v.c with ou := ou2 } (v.kv.set i u2) v.kv.length i u2 hat2 (FK v.kv) w1 hp2.2.2.2.1 hp2.2.2.2.2.1 hcp2 (by dsimp only; omega) (hM.2.get (i := 3) rfl).2.1 hg hM).mono fun e w' ⟨s, h1, h2, h3⟩ => ⟨s, h1, h2, h3⟩) J J ?_
      rintro ⟨rv, s⟩ ⟨hSo, hsol⟩
      dsimp only at hSo hsol ⊢
      have hsl := yj (c := { v.c with ks := v.c.ks.set i u2.k, ou := ou2 }) hq2 hsol
      rw [hsl]
      repeat' refine cV ?_
      (refine bJ af (fun _ => 0) J J trivial rfl fun w1 hm => ?_)
      refine ⟨(_, ⟨{ v.c with sw := s.w, ks := (v.c.ks.set i u2.k).set i (uS u2 s).k, ou := s.ou }, some ⟨gx, 0, none⟩, v.xc, (v.kv.set i u2).set i (uS u2 s), s.o, s.oc, v.p, v.pc⟩, FK v.kv), ⟨rfl, by dsimp only; rw [List.map_set, List.map_set, heq], hFK⟩, rfl, ?_⟩
      have hll : ((v.kv.set i u2).set i (uS u2 s)).length = v.kv.length := by rw [List.length_set, List.length_set]
      unfold CM
      dsimp only
      rw [hll]
      have h2 := (hm.mask [true, true, true, false, true, true] rfl).perm (List.perm_middle (l₁ := [_, _, _, _]))
      refine (h2.repTo (fun w h x hx => ?_) (fun w1 w2 hk h x hx => (h x hx).agree hk)).perm (List.perm_middle (l₁ := [_, _, _, _])).symm
      rw [List.set_set] at hx
      rcases kZ hi hx with rfl | hx
      · exact E1 hSo (hok2 (h u hum))
      · exact h x (List.mem_of_mem_eraseIdx hx)
end Go.Proofs.YtklcfjlmlbnkaaaGreatDoor.Y
