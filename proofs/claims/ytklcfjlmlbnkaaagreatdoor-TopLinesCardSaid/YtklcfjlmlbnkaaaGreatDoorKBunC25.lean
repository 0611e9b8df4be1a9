/- Texts of this claim merged into one: KCn25, KTpO. -/
import Derived.Test.YtklcfjlmlbnkaaaGreatDoorKBunT
import Derived.Test.YtklcfjlmlbnkaaaGreatDoorKBunC23
import Derived.Test.YtklcfjlmlbnkaaaGreatDoorKBunO
import Derived.Test.YtklcfjlmlbnkaaaGreatDoorKBunM
import Derived.Test.YtklcfjlmlbnkaaaGreatDoorKBunC20
namespace Go.Proofs.YtklcfjlmlbnkaaaGreatDoor.Y
open Go.RowKit
abbrev H3 (gc : Nat) (F : Nat → Prop) (v : NV) (M : List Ent) : List Ent := .own v.o v.oc 74 4 v.c.ou.length (v.c.ou.flatMap fC) :: .own v.x v.xc 87 22 v.kv.length (v.kv.flatMap KC) :: .cl gc 34 [.int .i64 v.c.sd, .int .i64 v.c.nx, .int .i64 v.c.la, .int .i64 v.c.aw, .int .i64 v.c.sz, .int .i64 v.c.sw.size, .int .i64 v.c.sw.left, .int .i64 v.c.sw.held, .int .i64 v.c.rw.size, .int .i64 v.c.rw.left, .int .i64 v.c.rw.held, .slice v.x v.kv.length v.xc, .slice v.o v.c.ou.length v.oc, .slice v.p v.c.pg.length v.pc, .bool v.c.cl] :: .rep F (fun w => Rws F w 1 iC v.p v.c.pg ∧ ∀ u ∈ v.kv, KOk F w u) :: M
theorem yr {w0 w : World} {a b c e : Ent} {M : List Ent} {F : Nat → Prop} {P : World → Prop} (h : Mem w0 w (a :: b :: c :: e :: .rep F P :: M)) (Q : World → Prop) (hq : ∀ w, Ent.ok w0.heap.size w e → P w → Q w) (hk : ∀ w1 w2, (∀ k, (e.foot k ∨ F k) → w2.heap[k]? = w1.heap[k]?) → Q w1 → Q w2) : Mem w0 w (a :: b :: c :: .rep (fun k => e.foot k ∨ F k) Q :: M) := by
  have hp : (a :: b :: c :: e :: .rep F P :: M).Perm ([e, .rep F P] ++ (a :: b :: c :: M)) := List.perm_append_comm (l₁ := [a, b, c]) (l₂ := [_, _]) |>.append_right M
  have h2 := Mem.fuse [e, .rep F P] (fun k => e.foot k ∨ F k) Q (h.perm hp) rfl (fun k hk => hk.elim (fun h => ⟨_, List.mem_cons_self .., h⟩) (fun h => ⟨_, List.mem_cons_of_mem _ (List.mem_cons_self ..), h⟩)) (fun hm => hq w hm.1 hm.2.2.1.2.1) hk
  exact h2.perm (List.perm_middle (l₁ := [a, b, c]) (l₂ := M)).symm
theorem rF {w0 w : World} {gc : Nat} {F : Nat → Prop} {v : NV} {M : List Ent} (h : Mem w0 w (CM gc F v M)) (hF : ∀ b, F b → w0.heap.size ≤ b) : ∃ F' : Nat → Prop, Mem w0 w (H3 gc F' v M) ∧ ∀ b, F' b → w0.heap.size ≤ b := by
  refine ⟨fun k => (Ent.own v.p v.pc 3 1 v.c.pg.length (v.c.pg.flatMap iC)).foot k ∨ F k, ?_, fun b hb => hb.elim (fun h1 => (gU (h.2.get (i := 3) rfl) h1).1) (hF b)⟩
  exact yr h _ (fun w2 ho hp => ⟨(dD fR ho rfl).mono fun _ h => .inl h, fun u hu => (hp u hu).mono fun _ => .inr⟩) (fun w1 w2 hk hp => ⟨hp.1.agree hk, fun u hu => (hp.2 u hu).agree hk⟩)
theorem CL (g a b c d : Ent) (E M : List Ent) : (g :: a :: b :: c :: d :: (E ++ M)).Perm (a :: b :: c :: d :: (E ++ (g :: M))) := by
  have h := (List.perm_middle (a := g) (l₁ := a :: b :: c :: d :: E) (l₂ := M)).symm
  simpa using h
theorem CN {w : World} {B cap : Nat} {T : TypeId} {a : Option Addr} {l : List Int} {n : Int} {xs : List Value} (h : w.ownsRow B T 1 (.slice a (l.length + 1) cap) (l.length + 1) (l.flatMap iC ++ xs)) (hx : xs = iC n) : w.ownsRow B T 1 (.slice a (l ++ [n]).length cap) (l ++ [n]).length ((l ++ [n]).flatMap iC) := by
  rw [List.length_append, List.flatMap_append, List.flatMap_singleton, ← hx]
  exact h
theorem zW {α : Type} {A : Nat → Prop} {w : World} {sz : Nat} {f : α → List Value} {a : Option Addr} {l : List α} {cap k : Nat} (h : Rws A w sz f a l) (hc : l.length ≤ cap) : Rws A w sz f (if cap = k then a else a.map (·.add (k * sz))) (l.drop k) := fun h0 => by
  rw [List.length_drop] at h0
  obtain ⟨b, off, h1, h2, h3, h4⟩ := h (by omega)
  refine ⟨b, off + k * sz, ?_, h2, h3, fun j v hj => ?_⟩
  · rw [if_neg (by omega), h1]
    simp [Addr.add_mid]
  · rw [List.getElem?_drop] at hj
    have := h4 (k + j) v hj
    rw [show off + k * sz + j * sz = off + (k + j) * sz by rw [Nat.add_mul]; omega]
    exact this
structure Jz (c : NL) (f : FrV) : Prop where
  fe : ay f = 0
  k1 : f.kind = 1 → c.sd = 2 ∧ c.la < f.strm
  k2 : f.kind = 2 → au f.data ≤ c.rw.left
  k6 : f.kind = 6 → f.strm = 0 → (cC c.sw f.num).err = 0
theorem JA {c : NL} {f : FrV} (h : VN c) (hr : lj c f = 0) : Jz c f := by
  unfold lj at hr
  split at hr
  · cases hr
  rename_i g1
  split at hr
  · cases hr
  rename_i g2
  split at hr
  · cases hr
  rename_i g3
  split at hr
  · cases hr
  rename_i g4
  have hf : ay f = 0 := Decidable.not_not.1 fun e => g1 (.inl e)
  have hfo : ut c.sd f.kind = false := eq_false_of_ne_true fun e => g1 (.inr e)
  refine ⟨hf, fun hk => ⟨?_, ?_⟩, fun hk => (by have := fun e => g3 ⟨hk, e⟩; omega), fun a b => Decidable.not_not.1 fun e => g4 ⟨a, b, e⟩⟩
  · rcases h.sd with e | e
    · rw [e, hk] at hfo; exact absurd hfo (by decide)
    · exact e
  · by_cases e : f.strm ≤ c.la
    · exact absurd (propext ⟨fun _ => e, fun _ => hk⟩) g2
    · omega
attribute [local irreducible] Calls
set_option maxRecDepth 100000 in
set_option maxHeartbeats 32000000 in
theorem zX {w0 : World} {M : List Ent} (gc : Nat) (v : NV) (f : FrV) (w : World) (hv : VN v.c) (hms : cm v.c ≤ 400000000) (heq : v.c.ks = v.kv.map (·.k)) (hcap : ∀ u ∈ v.kv, u.k.ib.length ≤ u.ic ∧ u.k.ob.length ≤ u.oc) (hcl : v.c.cl = false) (hre : lj v.c f = 0) (hfd : f.data.size < 4294967281) (hg : MLen w0) (hM : Mem w0 w (.own v.o v.oc 74 4 v.c.ou.length (v.c.ou.flatMap fC) :: .own v.x v.xc 87 22 v.kv.length (v.kv.flatMap KC) :: .cl gc 34 [.int .i64 v.c.sd, .int .i64 v.c.nx, .int .i64 v.c.la, .int .i64 v.c.aw, .int .i64 v.c.sz, .int .i64 v.c.sw.size, .int .i64 v.c.sw.left, .int .i64 v.c.sw.held, .int .i64 v.c.rw.size, .int .i64 v.c.rw.left, .int .i64 v.c.rw.held, .slice v.x v.kv.length v.xc, .slice v.o v.c.ou.length v.oc, .slice v.p v.c.pg.length v.pc, .bool v.c.cl] :: .own v.p v.pc 3 1 v.c.pg.length (v.c.pg.flatMap iC) :: (v.kv.flatMap EK ++ M))) : Calls Tryz.prog 59 #[.pointer (some ⟨gc, 0, none⟩), .agg #[.int .i64 f.kind, .int .i64 f.strm, .int .i64 f.num, .string f.data]] w fun e w' => ∃ r : Value × NV × (Nat → Prop), (r.2.1.c = sj v.c f ∧ r.2.1.c.ks = r.2.1.kv.map (·.k) ∧ ∀ b, r.2.2 b → w0.heap.size ≤ b) ∧ e = .returned r.1 ∧ Mem w0 w' (H3 gc r.2.2 r.2.1 M) := by
  obtain ⟨hf, a1, a2, a6⟩ := JA hv hre
  have hsz := hv.toVB.szl (by omega)
  have hlk : v.c.ks.length = v.kv.length := by rw [heq, List.length_map]
  have hks := hsz.ks
  have hoz := hsz.ou.1
  have hfk := sI hf
  have hpg := hv.pg
  have hal : sj v.c f = if f.kind = 1 then jd v.c f else if f.kind = 2 then lv v.c f else if f.kind = 7 then { v.c with ou := v.c.ou ++ [⟨8, 0, f.num, emptyB⟩] } else if f.kind = 8 then { v.c with pg := (v.c.pg ++ [f.num]).drop (v.c.pg.length + 1 - 16) } else if f.kind = 9 then ur { v.c with aw := if v.c.aw = 0 ∨ f.num + 1 < v.c.aw then f.num + 1 else v.c.aw } f.num else gY v.c f := rfl
  rw [hal]
  by_cases hk1 : f.kind = 1
  · refine bv hM Tryz.func59 rfl Tryz.ntmps59 J J ?_
    repeat' (first | (refine bx ?_; intro g3) | refine nx ?_)
    refine aq rfl (by simpa using hk1) ?_
    repeat' refine cV ?_
    rw [if_pos hk1]
    refine bj (σ := Value × NV × (Nat → Prop)) (fun r => r.2.1.c = jd v.c f ∧ r.2.1.c.ks = r.2.1.kv.map (·.k) ∧ ∀ b, r.2.2 b → w0.heap.size ≤ b) (fun r => r.1) (fun r => CM gc r.2.2 r.2.1 _) rfl (ap J J J J ⟨J, J, trivial⟩ rfl (by kernel_rfl)) (fun w1 hM => (zN gc v f w1 hv (by omega) heq hfd hg (hM.perm (CL _ _ _ _ _ _ _))).mono fun e w' ⟨r, h1, h2, h3⟩ => ⟨r, h1, h2, h3⟩) J J ?_
    rintro ⟨rv, v2, F2⟩ ⟨q1, q2, q3⟩
    dsimp only at q1 q2 q3 ⊢
    repeat' refine cV ?_
    (refine bJ af (fun _ => 0) J J trivial rfl fun w1 hm => ?_)
    obtain ⟨F3, h1, h2⟩ := rF (hm.mask [true, true, true, true, true, false] rfl) q3
    exact ⟨(_, v2, F3), ⟨q1, q2, h2⟩, rfl, h1⟩
  rw [if_neg hk1]
  by_cases hk2 : f.kind = 2
  · refine bv hM Tryz.func59 rfl Tryz.ntmps59 J J ?_
    repeat' (first | (refine bx ?_; intro g3) | refine nx ?_)
    refine ai rfl (by simpa using hk1) ?_
    repeat' refine nx ?_
    refine aq rfl (by simpa using hk2) ?_
    repeat' refine cV ?_
    rw [if_pos hk2]
    refine bj (σ := Value × NV × (Nat → Prop)) (fun r => r.2.1.c = lv v.c f ∧ r.2.1.c.ks = r.2.1.kv.map (·.k) ∧ ∀ b, r.2.2 b → w0.heap.size ≤ b) (fun r => r.1) (fun r => CM gc r.2.2 r.2.1 _) rfl (ap J J J J ⟨J, J, trivial⟩ rfl (by kernel_rfl)) (fun w1 hM => (zM gc v f w1 hv (by omega) heq hcl hf hk2 (a2 hk2) hg (hM.perm (CL _ _ _ _ _ _ _))).mono fun e w' ⟨r, h1, h2, h3⟩ => ⟨r, h1, h2, h3⟩) J J ?_
    rintro ⟨rv, v2, F2⟩ ⟨q1, q2, q3⟩
    dsimp only at q1 q2 q3 ⊢
    repeat' refine cV ?_
    (refine bJ af (fun _ => 0) J J trivial rfl fun w1 hm => ?_)
    obtain ⟨F3, h1, h2⟩ := rF (hm.mask [true, true, true, true, true, false] rfl) q3
    exact ⟨(_, v2, F3), ⟨q1, q2, h2⟩, rfl, h1⟩
  rw [if_neg hk2]
  by_cases hk7 : f.kind = 7
  · rw [if_pos hk7]
    obtain ⟨hM, hFK⟩ := nu hM
    refine bv hM Tryz.func59 rfl Tryz.ntmps59 J J ?_
    repeat' (first | (refine bx ?_; intro g3) | refine nx ?_)
    refine ai rfl (by simpa using hk1) ?_
    repeat' refine nx ?_
    refine ai rfl (by simpa using hk2) ?_
    repeat' refine nx ?_
    refine aq rfl (by simpa using hk7) ?_
    repeat' (first | refine vx rfl (aj af J J ⟨J, J, J, J, J, J, J, J, trivial⟩ J J J) ?_ | refine bW ?_ | (refine bC ?_; intro g) | ((refine' di rfl ?_ J J J ?_); rotate_left; first | exact aI af J J J J | exact bw af J J J J J J | exact ew J J J J J | exact eF J J J J J | exact ab af 0 J J J J J | exact ab af 1 J J J J J | exact ab af 2 J J J J J | exact ab af 3 J J J J J | exact ab af 4 J J J J J | exact ab af 5 J J J J J | exact ab af 6 J J J J J | exact ab af 7 J J J J J | exact gQ af iI J J J J J J (by kernel_rfl) | exact iG af iI J J J J J J (by kernel_rfl) | exact fi af J J J J J J J | exact fO J J J J J | exact iF J J J J J | exact lp J J J J J J J | exact aj af J J trivial J J J | exact aj af J J ⟨J, trivial⟩ J J J | exact aj af J J ⟨J, J, trivial⟩ J J J | exact aj af J J ⟨J, J, J, trivial⟩ J J J | exact aj af J J ⟨J, J, J, J, trivial⟩ J J J | exact aj af J J ⟨J, J, J, J, J, trivial⟩ J J J | exact aj af J J ⟨J, J, J, J, J, J, trivial⟩ J J J | exact aj af J J ⟨J, J, J, J, J, J, J, trivial⟩ J J J | exact aj af J J ⟨J, J, J, J, J, J, J, J, trivial⟩ J J J) | (refine bx ?_; intro g) | (refine al ?_; intro g) | refine bY af J J J J J J ?_ | refine iH J J J J J J ?_ | refine nx ?_)
    refine cY 9 am rfl (by kernel_rfl) ?_
    iterate 8 (((refine' di rfl ?_ J J J ?_); rotate_left; first | exact aI af J J J J | exact ab af 0 J J J J J | exact ab af 3 J J J J J | exact aj af J J ⟨J, J, trivial⟩ J J J))
    refine dV af J J J ⟨J, trivial⟩ J J J J J J J J ?_
    refine bC ?_
    intro s1
    refine bA af 2 0 J J J J J J J J J (fun _ _ => rfl) lw J J (by unfold maxLen; omega) (by omega) J J ?_
    intro sa sc
    repeat' refine cV ?_
    (refine bJ af (fun _ => 0) J J trivial rfl fun w1 hm => ?_)
    have h0 : Mem w0 w1 (CM gc (FK v.kv) ⟨{ v.c with ou := v.c.ou ++ [(⟨8, 0, f.num, emptyB⟩ : FrV)] }, v.x, v.xc, v.kv, sa, sc, v.p, v.pc⟩ M) := by
      have h1 := hm.mask [false, false, true, true, true, true, true] rfl
      unfold CM
      simp only [List.length_append, List.length_singleton, List.flatMap_append, List.flatMap_singleton]
      exact h1
    obtain ⟨F3, h1, h2⟩ := rF h0 hFK
    exact ⟨(_, ⟨{ v.c with ou := v.c.ou ++ [(⟨8, 0, f.num, emptyB⟩ : FrV)] }, v.x, v.xc, v.kv, sa, sc, v.p, v.pc⟩, F3), ⟨rfl, heq, h2⟩, rfl, h1⟩
  rw [if_neg hk7]
  by_cases hk8 : f.kind = 8
  · rw [if_pos hk8]
    obtain ⟨hM, hFK⟩ := nu hM
    refine bv hM Tryz.func59 rfl Tryz.ntmps59 J J ?_
    repeat' (first | (refine bx ?_; intro g3) | refine nx ?_)
    refine ai rfl (by simpa using hk1) ?_
    repeat' refine nx ?_
    refine ai rfl (by simpa using hk2) ?_
    repeat' refine nx ?_
    refine ai rfl (by simpa using hk7) ?_
    repeat' refine nx ?_
    refine aq rfl (by simpa using hk8) ?_
    repeat' refine nx ?_
    refine cY 8 am rfl (by kernel_rfl) ?_
    iterate 7 (((refine' di rfl ?_ J J J ?_); rotate_left; first | exact aI af J J J J | exact ab af 0 J J J J J | exact ab af 3 J J J J J))
    refine dV af J J J ⟨J, trivial⟩ J J J J J J J J ?_
    refine bC ?_
    intro s1
    refine bA af 5 0 J J J J J J J J J (fun _ _ => rfl) EM J J (by unfold maxLen; omega) (by omega) J J ?_
    intro qa qc
    refine iy (fun w1 hm => gl (hm.2.get (i := 5) rfl)) (fun hqc => ?_)
    have hmx : (if ((v.c.pg.length + 1 : Nat) : Int) - 16 > 0 then ((v.c.pg.length + 1 : Nat) : Int) - 16 else 0) = ((v.c.pg.length + 1 - 16 : Nat) : Int) := by split <;> omega
    repeat' (first | refine vx rfl (gO J J J J J (by omega)) ?_ | refine vx rfl (cA af (v.c.pg.length + 1 - 16) (v.c.pg.length + 1) J J J J J J J J J hmx rfl (by omega) hqc) ?_ | refine aL am rfl (by kernel_rfl) ?_ | refine bW ?_ | ((refine' di rfl ?_ J J J ?_); rotate_left; first | exact gO J J J J J (by omega) | exact cA af (v.c.pg.length + 1 - 16) (v.c.pg.length + 1) J J J J J J J J J hmx rfl (by omega) hqc | exact aI af J J J J | exact ab af 4 J J J J J | exact fi af J J J J J J J | exact fO J J J J J) | refine cV ?_)
    (refine bJ af (fun _ => 0) J J trivial rfl fun w1 hm => ?_)
    have h1 := hm.mask [false, false, true, true, true, true, true] rfl
    have hln : ((v.c.pg ++ [f.num]).drop (v.c.pg.length + 1 - 16)).length = v.c.pg.length + 1 - (v.c.pg.length + 1 - 16) := by rw [List.length_drop, List.length_append, List.length_singleton]
    refine ⟨(_, ⟨{ v.c with pg := (v.c.pg ++ [f.num]).drop (v.c.pg.length + 1 - 16) }, v.x, v.xc, v.kv, v.o, v.oc, (if qc = v.c.pg.length + 1 - 16 then qa else qa.map (·.add ((v.c.pg.length + 1 - 16) * 1))), qc - (v.c.pg.length + 1 - 16)⟩, fun k => (Ent.own qa qc 3 1 (v.c.pg.length + 1) (v.c.pg.flatMap iC ++ iC f.num)).foot k ∨ FK v.kv k), ⟨rfl, heq, fun k hk => hk.elim (fun h => (gU (h1.2.get (i := 3) rfl) h).1) (hFK k)⟩, rfl, ?_⟩
    unfold H3
    dsimp only
    rw [hln]
    refine yr h1 _ (fun w2 ho hp => ⟨?_, fun u hu => (hp u hu).mono fun _ => .inr⟩) (fun w1 w2 hk hp => ⟨hp.1.agree hk, fun u hu => (hp.2 u hu).agree hk⟩)
    have hr := (dD fR (CN (n := f.num) ho rfl) rfl)
    exact (zW hr (by rw [List.length_append, List.length_singleton]; exact hqc)).mono fun _ h => .inl h
  rw [if_neg hk8]
  by_cases hk9 : f.kind = 9
  · rw [if_pos hk9]
    have hnum := pD hf
    unfold fQ at hnum
    rw [hk9] at hnum
    have hnum2 : 0 ≤ f.num ∧ f.num ≤ 2147483647 := by simpa using hnum
    have haw := hv.aw
    have hkz : ∀ u ∈ v.kv, u.k.st.text.size ≤ 4611686018427387900 := fun u hu => (hsz.ok u.k (by rw [heq]; exact List.mem_map_of_mem hu)).2.2.2.1
    obtain ⟨hM, hFK⟩ := nu hM
    refine bv hM Tryz.func59 rfl Tryz.ntmps59 J J ?_
    repeat' (first | (refine bx ?_; intro g3) | refine nx ?_)
    refine ai rfl (by simpa using hk1) ?_
    repeat' refine nx ?_
    refine ai rfl (by simpa using hk2) ?_
    repeat' refine nx ?_
    refine ai rfl (by simpa using hk7) ?_
    repeat' refine nx ?_
    refine ai rfl (by simpa using hk8) ?_
    repeat' refine nx ?_
    refine aq rfl (by simpa using hk9) ?_
    repeat' (first | refine aL am rfl (by kernel_rfl) ?_ | refine bW ?_ | ((refine' di rfl ?_ J J J ?_); rotate_left; first | exact bd J J J J J (by omega) | exact aI af J J J J | exact bw af J J J J J J | exact ew J J J J J | exact ab af 0 J J J J J | exact ab af 3 J J J J J) | refine nx ?_)
    by_cases hw : v.c.aw = 0 ∨ f.num + 1 < v.c.aw
    · rw [if_pos hw]
      refine aq rfl (by simp only [Bool.or_eq_true, beq_iff_eq, decide_eq_true_eq]; exact hw) ?_
      repeat' (first | refine vx rfl (bd J J J J J (by omega)) ?_ | refine cV ?_)
      refine cR (fun w1 hm => hm.perm (H1 _ _ _ _ _)) ?_
      refine bj (σ := Value) (fun _ => True) (fun r => r) (fun _ => _) rfl (ap J J J J ⟨J, J, trivial⟩ rfl (by kernel_rfl)) (fun w1 hM => (pO gc v.x v.xc _ _ _ _ _ _ _ _ _ _ _ _ _ _ v.kv f.num w1 (by omega) hkz hM).mono fun e w' ⟨r, h1, h2, h3⟩ => ⟨r, trivial, h2, h3⟩) J J ?_
      rintro rv -
      repeat' refine cV ?_
      (refine bJ af (fun _ => 0) J J trivial rfl fun w1 hm => ?_)
      have h0 : Mem w0 w1 (CM gc (FK v.kv) ⟨ur { v.c with aw := f.num + 1 } f.num, v.x, v.xc, v.kv.map (iM f.num), v.o, v.oc, v.p, v.pc⟩ M) := by
        have h1 := (hm.mask [true, true, false, true, true, true] rfl).perm (List.perm_middle (l₁ := [_, _]))
        unfold CM
        dsimp only
        rw [List.length_map]
        have h2 := h1.perm (List.perm_middle (l₁ := [_, _, _, _]))
        refine (h2.repTo (fun w h x hx => ?_) (fun w1 w2 hk h x hx => (h x hx).agree hk)).perm (List.perm_middle (l₁ := [_, _, _, _])).symm
        obtain ⟨u0, hu0, rfl⟩ := List.mem_map.1 hx
        exact sN (h u0 hu0)
      obtain ⟨F3, h1, h2⟩ := rF h0 hFK
      refine ⟨(_, _, F3), ⟨rfl, ?_, h2⟩, rfl, h1⟩
      show v.c.ks.map (fS f.num) = (v.kv.map (iM f.num)).map (·.k)
      rw [heq, List.map_map, List.map_map]
      exact List.map_congr_left fun u _ => (wY f.num u).symm
    · rw [if_neg hw]
      refine ai rfl (by simp only [Bool.or_eq_false_iff, beq_eq_false_iff_ne, decide_eq_false_iff_not]; omega) ?_
      repeat' refine cV ?_
      refine cR (fun w1 hm => hm.perm (H1 _ _ _ _ _)) ?_
      refine bj (σ := Value) (fun _ => True) (fun r => r) (fun _ => _) rfl (ap J J J J ⟨J, J, trivial⟩ rfl (by kernel_rfl)) (fun w1 hM => (pO gc v.x v.xc _ _ _ _ _ _ _ _ _ _ _ _ _ _ v.kv f.num w1 (by omega) hkz hM).mono fun e w' ⟨r, h1, h2, h3⟩ => ⟨r, trivial, h2, h3⟩) J J ?_
      rintro rv -
      repeat' refine cV ?_
      (refine bJ af (fun _ => 0) J J trivial rfl fun w1 hm => ?_)
      have h0 : Mem w0 w1 (CM gc (FK v.kv) ⟨ur { v.c with aw := v.c.aw } f.num, v.x, v.xc, v.kv.map (iM f.num), v.o, v.oc, v.p, v.pc⟩ M) := by
        have h1 := (hm.mask [true, true, false, true, true, true] rfl).perm (List.perm_middle (l₁ := [_, _]))
        unfold CM
        dsimp only
        rw [List.length_map]
        have h2 := h1.perm (List.perm_middle (l₁ := [_, _, _, _]))
        refine (h2.repTo (fun w h x hx => ?_) (fun w1 w2 hk h x hx => (h x hx).agree hk)).perm (List.perm_middle (l₁ := [_, _, _, _])).symm
        obtain ⟨u0, hu0, rfl⟩ := List.mem_map.1 hx
        exact sN (h u0 hu0)
      obtain ⟨F3, h1, h2⟩ := rF h0 hFK
      refine ⟨(_, _, F3), ⟨rfl, ?_, h2⟩, rfl, h1⟩
      show v.c.ks.map (fS f.num) = (v.kv.map (iM f.num)).map (·.k)
      rw [heq, List.map_map, List.map_map]
      exact List.map_congr_left fun u _ => (wY f.num u).symm
  rw [if_neg hk9]
  refine bv hM Tryz.func59 rfl Tryz.ntmps59 J J ?_
  repeat' (first | (refine bx ?_; intro g3) | refine nx ?_)
  refine ai rfl (by simpa using hk1) ?_
  repeat' refine nx ?_
  refine ai rfl (by simpa using hk2) ?_
  repeat' refine nx ?_
  refine ai rfl (by simpa using hk7) ?_
  repeat' refine nx ?_
  refine ai rfl (by simpa using hk8) ?_
  repeat' refine nx ?_
  refine ai rfl (by simpa using hk9) ?_
  repeat' refine cV ?_
  rw [show gY v.c f = gY v.c f from rfl]
  refine bj (σ := Value × NV × (Nat → Prop)) (fun r => r.2.1.c = gY v.c f ∧ r.2.1.c.ks = r.2.1.kv.map (·.k) ∧ ∀ b, r.2.2 b → w0.heap.size ≤ b) (fun r => r.1) (fun r => CM gc r.2.2 r.2.1 _) rfl (ap J J J J ⟨J, J, trivial⟩ rfl (by kernel_rfl)) (fun w1 hM => (zO gc v f w1 hv hms heq hcap hcl hf ⟨by omega, by omega⟩ a6 hg (hM.perm (CL _ _ _ _ _ _ _))).mono fun e w' ⟨r, h1, h2, h3⟩ => ⟨r, h1, h2, h3⟩) J J ?_
  rintro ⟨rv, v2, F2⟩ ⟨q1, q2, q3⟩
  dsimp only at q1 q2 q3 ⊢
  repeat' refine cV ?_
  (refine bJ af (fun _ => 0) J J trivial rfl fun w1 hm => ?_)
  obtain ⟨F3, h1, h2⟩ := rF (hm.mask [true, true, true, true, true, false] rfl) q3
  exact ⟨(_, v2, F3), ⟨q1, q2, h2⟩, rfl, h1⟩
theorem Hn (v : NV) (f : FrV) (n : Int) (h : lj v.c f = n) (w : World) (hfd : f.data.size < 4294967281) (hg : MLen w) : Calls Tryz.prog 57 #[.agg ⟨NC v⟩, .agg #[.int .i64 f.kind, .int .i64 f.strm, .int .i64 f.num, .string f.data]] w fun e w' => e = .returned (.int .i64 n) ∧ Below w.heap.size w w' := by
  subst h
  exact zK v f w hfd hg
set_option maxRecDepth 100000 in
set_option maxHeartbeats 16000000 in
theorem zY {A : Nat → Prop} (v : NV) (f : FrV) (w : World) (hN : NOk A w v) (hv : VN v.c) (hms : cm v.c ≤ 400000000) (hfd : f.data.size < 4294967281) (hg : MLen w) : Calls Tryz.prog 28 #[.agg ⟨NC v⟩, .agg #[.int .i64 f.kind, .int .i64 f.strm, .int .i64 f.num, .string f.data]] w fun e w' => ∃ v' : NV, v'.c = (dg v.c f).1 ∧ e = .returned (.tuple #[.agg ⟨NC v'⟩, .int .i64 (dg v.c f).2]) ∧ OutN A w w' v' := by
  refine aA Tryz.func28 rfl Tryz.ntmps28 J J ?_
  have hsz := hv.toVB.szl (by omega)
  have hz := hsz.n hN
  have hgd := hsz.g hN
  refine bc ?_
  refine aH ?_
  (refine bx ?_; intro g2)
  (refine bx ?_; intro g3)
  repeat' (first | (refine al ?_; intro g4) | refine nx ?_)
  by_cases hcl : v.c.cl = true
  · have hp : dg v.c f = (v.c, 20) := by unfold dg; rw [if_pos hcl]
    refine aq rfl hcl ?_
    repeat' refine nx ?_
    (refine rt ?_; refine fun w1 hm => ⟨v, ?_, ?_, OutN.same hN hm.below⟩)
    · rw [hp]
    · rw [hp]; rfl
  refine ai rfl (eq_false_of_ne_true hcl) ?_
  obtain ⟨er, her⟩ : ∃ x, lj v.c f = x := ⟨_, rfl⟩
  repeat' (first | refine cl (fun w hm => Hn v f er her w hfd (hg.below hm.below)) ?_ | refine nx ?_)
  by_cases he : er = 0
  rotate_left
  · have hp : dg v.c f = (lu v.c, er) := by unfold dg; rw [if_neg hcl, her, if_pos he]
    rw [hp]
    refine aq rfl (by simpa using he) ?_
    repeat' refine nx ?_
    refine kw (σ := NV) (fun s F => s.c = lu v.c ∧ ∀ b, F b → A b ∨ w.heap.size ≤ b) (fun s => .agg ⟨NC s⟩) (fun s F w => NOk F w s) rfl (ap J J J J ⟨J, trivial⟩ rfl (by kernel_rfl)) (fun w1 hm => (wZ v w1 (hN.lt.below hm.below) hz hgd).mono fun e w2 ⟨s, h1, h2, h3⟩ => by obtain ⟨F, h4, h5⟩ := uI hm h3; exact ⟨s, F, ⟨h1, h4⟩, h2, h5⟩) J J ?_
    rintro ⟨c1, x1, xc1, kv1, o1, oc1, p1, pc1⟩ F ⟨hc1, hF⟩
    dsimp only at hc1
    repeat' refine cV ?_
    (refine rt ?_; refine fun w1 hm => ⟨⟨c1, x1, xc1, kv1, o1, oc1, p1, pc1⟩, hc1, rfl, rm (hm.2.get (i := 0) rfl).2.1 hF hm.below⟩)
  · subst he
    have hp : dg v.c f = (sj v.c f, 0) := by unfold dg; rw [if_neg hcl, her, if_neg (by simp)]
    rw [hp]
    refine ai J J ?_
    repeat' refine nx ?_
    refine cQ (σ := NV) (fun s => s.c = v.c ∧ s.kv.map (·.k) = v.kv.map (·.k)) (fun s => .agg ⟨NC s⟩) (fun s => EN s) rfl (ap J J J J ⟨J, trivial⟩ rfl (by kernel_rfl)) (fun w1 hm => jg v w1 (hN.below hm.below) hz) J J ?_
    rintro ⟨c1, x1, xc1, kv1, o1, oc1, p1, pc1⟩ ⟨hc1, hkm⟩
    dsimp only at hc1 hkm
    subst hc1
    dsimp only [EN, NC, List.cons_append, List.nil_append]
    refine iy (fun w1 hm => Cn hm) (fun hcap => ?_)
    refine cR (fun w1 hm => hm.perm (Bg [_, _, _] (kv1.flatMap EK) [_, _, _])) ?_
    dsimp only [List.cons_append, List.nil_append]
    repeat' (first | (refine al ?_; intro g7) | refine nx ?_)
    refine cR (fun w1 hm => (hm.perm (Bg [_, _, _, _] [_, _, _] (kv1.flatMap EK))).perm (H1 _ _ _ _ _)) ?_
    refine bj (σ := Value × NV × (Nat → Prop)) (fun r => r.2.1.c = sj v.c f ∧ r.2.1.c.ks = r.2.1.kv.map (·.k) ∧ ∀ b, r.2.2 b → w.heap.size ≤ b) (fun r => r.1) (fun r => H3 g7 r.2.2 r.2.1 _) rfl (ap J J J J ⟨J, J, trivial⟩ rfl (by kernel_rfl)) (fun w1 hM => (zX g7 ⟨v.c, x1, xc1, kv1, o1, oc1, p1, pc1⟩ f w1 hv hms (by dsimp only; rw [hkm, hN.eq]) hcap (eq_false_of_ne_true hcl) her hfd hg hM).mono fun e w' ⟨r, h1, h2, h3⟩ => ⟨r, h1, h2, h3⟩) J J ?_
    rintro ⟨rv, v2, F2⟩ ⟨q1, q2, q3⟩
    dsimp only at q1 q2 q3 ⊢
    repeat' refine nx ?_
    (refine rt ?_; refine fun w1 hm => ⟨v2, q1, rfl, ⟨⟨?_, ?_, ?_, q2, ?_⟩, hm.below⟩⟩)
    · exact (Rws.own aK (hm.2.get (i := 1) rfl)).mono fun _ => .inr
    · exact (Rws.own ej (hm.2.get (i := 0) rfl)).mono fun _ => .inr
    · exact (hm.2.get (i := 3) rfl).2.1.1.mono fun b hb => .inr (q3 b hb)
    · exact fun u hu => ((hm.2.get (i := 3) rfl).2.1.2 u hu).mono fun b hb => .inr (q3 b hb)
end Go.Proofs.YtklcfjlmlbnkaaaGreatDoor.Y
namespace Go.Proofs.YtklcfjlmlbnkaaaGreatDoor.Y
open Go.RowKit
theorem JB {α : Type} (sz : Nat) (f : α → List Value) (l : List α) : Rp (fun F w (p : Option Addr × Nat) => Rws F w sz f p.1 l) := ⟨fun h => h.lt, fun h hk => h.agree hk⟩
theorem Eu {σ : Type} {Ok : (Nat → Prop) → World → σ → Prop} (K : Rp Ok) {F0 O : Nat → Prop} {w1 w2 : World} {s : σ} (h : Ok (fun b => F0 b ∨ w1.heap.size ≤ b) w2 s) (hO : ∀ b, F0 b → O b) : ∃ Fs : Nat → Prop, ∃ g : Nat → Prop, MemL w1.heap.size w2 [.rep Fs (fun w => Ok Fs w s)] ∧ (∀ f ∈ [Ent.rep Fs (fun w => Ok Fs w s)], ∀ b, f.mut b → g b) ∧ (∀ f ∈ [Ent.rep Fs (fun w => Ok Fs w s)], ∀ b, f.foot b → g b ∨ O b) ∧ (∀ b, g b → w1.heap.size ≤ b ∧ b < w2.heap.size) := by
  refine ⟨fun b => (F0 b ∨ w1.heap.size ≤ b) ∧ b < w2.heap.size, fun b => w1.heap.size ≤ b ∧ b < w2.heap.size, ⟨⟨fun _ h => h.2, K.lt h, fun w3 w4 hk h => K.ag h hk⟩, fun f hf => (by cases hf), trivial⟩, fun f hf b hm => ?_, fun f hf b hm => ?_, fun _ h => h⟩
  · obtain rfl := List.mem_singleton.1 hf
    exact hm.elim
  · obtain rfl := List.mem_singleton.1 hf
    have hm' : (F0 b ∨ w1.heap.size ≤ b) ∧ b < w2.heap.size := hm
    rcases hm'.1 with h | h
    · exact .inr (hO b h)
    · exact .inl ⟨h, hm'.2⟩
section
variable {P : Program} {l0 rest tail : List Oper} {Q : Exit → Act → World → Prop} {n : Nat} {w0 : World} {S : bq} {M : List Ent} {o : Oper} {d i : Nat} {es : List (Nat × OU)} {ds dl d2 : List Nat} {O F0 : Nat → Prop} {C : ww} {f : FuncId} {args : List Value}
theorem gG {σ : Type} {Ok : (Nat → Prop) → World → σ → Prop} (K : Rp Ok) (Ψ : σ → Prop) (V : σ → Value) (hO : ∀ b, F0 b → O b) (hc : ∀ w, Mem w0 w M → Calls P f ⟨args⟩ w fun e w' => ∃ s, Ψ s ∧ e = .returned (V s) ∧ Ok (fun b => F0 b ∨ w.heap.size ≤ b) w' s ∧ Below w.heap.size w w')
    (h : qf O ds dl d2 P l0 Q rest tail n w0 M S (i + 1) ((i, d, fun x => ∃ s : σ × (Nat → Prop), Ψ s.1 ∧ x = V s.1) :: C) (es ++ [(i, .ex ⟨d, σ × (Nat → Prop), fun r => Ψ r.1, fun r => V r.1, fun r => [.rep r.2 (fun w => Ok r.2 w r.1)]⟩)]))
    (ho : dd P S [] o f args := by first | exact ap J J J J ⟨J, trivial⟩ rfl (by kernel_rfl) | exact ap J J J J ⟨J, J, trivial⟩ rfl (by kernel_rfl) | exact ap J J J J ⟨J, J, J, trivial⟩ rfl (by kernel_rfl)) (hg : o.guard = none := by exact rfl) (hd : o.dst = some d := by exact rfl) (hn : Nat.blt d n = true := by exact rfl) (hf : bi o = false := by exact rfl) (hi : ds.contains d = true := by exact rfl) (hi2 : dl.contains d = false := by exact rfl) : qf O ds dl d2 P l0 Q (o :: rest) tail n w0 M S i C es :=
  gE (σ := σ × (Nat → Prop)) (fun r => Ψ r.1) (fun r => V r.1) (fun r => [.rep r.2 (fun w => Ok r.2 w r.1)]) hg ho (fun w hm => (hc w hm).mono fun e w2 ⟨s, h1, h2, h3, h4⟩ => by
    obtain ⟨Fs, g, k1, k2, k3, k4⟩ := Eu K h3 hO
    exact ⟨⟨(s, Fs), g, h1, h2, k1, k2, k3, k4⟩, h4⟩) hd hn hf hi hi2 h
end
section
variable {A F0 : Nat → Prop} {P : Program} {l0 rest : List Oper} {Q : Exit → Act → World → Prop} {n : Nat} {w : World} {S : bq} {M : List Ent} {o : Oper} {d : Nat} {f : FuncId} {args : List Value}
theorem pU {σ : Type} {Ok : (Nat → Prop) → World → σ → Prop} (K : Rp Ok) (Φ : σ → Prop) (V : σ → Value) (hs : EV (fun _ => True) w M F0) (hc : ∀ w1, Mem w w1 M → Calls P f ⟨args⟩ w1 fun e w2 => ∃ s : σ, Φ s ∧ e = .returned (V s) ∧ Ok (fun b => F0 b ∨ w1.heap.size ≤ b) w2 s ∧ Below w1.heap.size w1 w2) (h : ∀ (s : σ) (F : Nat → Prop), Φ s → SL P l0 Q rest n w ((d, [], V s) :: S) (.rep F (fun w => Ok F w s) :: M)) (ho : dd P S [] o f args := by first | exact ap J J J J ⟨J, trivial⟩ rfl (by kernel_rfl) | exact ap J J J J ⟨J, J, trivial⟩ rfl (by kernel_rfl) | exact ap J J J J ⟨J, J, J, trivial⟩ rfl (by kernel_rfl)) (hg : o.guard = none := by exact rfl) (hd : o.dst = some d := by exact rfl) (hn : Nat.blt d n = true := by exact rfl) : SL P l0 Q (o :: rest) n w S M :=
  kw (σ := σ) (fun s _ => Φ s) V (fun s F w => Ok F w s) hg ho (fun w1 hm => (hc w1 hm).mono fun e w2 ⟨s, h1, h2, h3, h4⟩ => by obtain ⟨F, _, h6⟩ := yl K hm hs h3 h4; exact ⟨s, F, h1, h2, h6⟩) hd hn (fun s F hh => h s F hh)
end
theorem Gg {w : World} {M : List Ent} (i : Nat) {F : Nat → Prop} {p : World → Prop} (hi : dI M i = some (.rep F p)) : EV (fun _ => True) w M F := D1 i (fun _ _ => .inl trivial) hi
theorem yt {w : World} {g : Nat} {T : TypeId} {cs : List Value} (h : w.heap[g]? = some (.cells ⟨cs⟩ T (0, 0))) (i : Nat) {v : Value} (hv : cs[i]? = some v) : w.cell? ⟨g, i, none⟩ = some v := Bk.at_ (t := T) (cs := ⟨cs⟩) h i (by simpa using hv)
theorem rv {a b : Prop} (h : b) (r : b → a := by exact ff rfl vv J J J) : a := r h
end Go.Proofs.YtklcfjlmlbnkaaaGreatDoor.Y
