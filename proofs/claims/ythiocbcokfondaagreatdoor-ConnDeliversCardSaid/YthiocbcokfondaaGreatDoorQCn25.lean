/- conn.act, conn.Feed. -/
import Derived.Test.YthiocbcokfondaaGreatDoorQBunC23
namespace Go.Proofs.YthiocbcokfondaaGreatDoor.Y
open Go.RowKit
abbrev Ex (gc : Nat) (F : Nat → Prop) (v : NV) (M : List Ent) : List Ent := .own v.o v.oc 65 4 v.c.ou.length (v.c.ou.flatMap fC) :: .own v.x v.xc 39 22 v.kv.length (v.kv.flatMap KC) :: .cl gc 28 [.int .i64 v.c.sd, .int .i64 v.c.nx, .int .i64 v.c.la, .int .i64 v.c.aw, .int .i64 v.c.sz, .int .i64 v.c.sw.size, .int .i64 v.c.sw.left, .int .i64 v.c.sw.held, .int .i64 v.c.rw.size, .int .i64 v.c.rw.left, .int .i64 v.c.rw.held, .slice v.x v.kv.length v.xc, .slice v.o v.c.ou.length v.oc, .slice v.p v.c.pg.length v.pc, .bool v.c.cl] :: .rep F (fun w => Rws F w 1 iC v.p v.c.pg ∧ ∀ u ∈ v.kv, KOk F w u) :: M
theorem wF {w0 w : World} {a b c e : Ent} {M : List Ent} {F : Nat → Prop} {P : World → Prop} (h : Mem w0 w (a :: b :: c :: e :: .rep F P :: M)) (Q : World → Prop) (hq : ∀ w, Ent.ok w0.heap.size w e → P w → Q w) (hk : ∀ w1 w2, (∀ k, (e.foot k ∨ F k) → w2.heap[k]? = w1.heap[k]?) → Q w1 → Q w2) : Mem w0 w (a :: b :: c :: .rep (fun k => e.foot k ∨ F k) Q :: M) := by
  have hp : (a :: b :: c :: e :: .rep F P :: M).Perm ([e, .rep F P] ++ (a :: b :: c :: M)) := List.perm_append_comm (l₁ := [a, b, c]) (l₂ := [_, _]) |>.append_right M
  have h2 := Mem.fuse [e, .rep F P] (fun k => e.foot k ∨ F k) Q (h.perm hp) rfl (fun k hk => hk.elim (fun h => ⟨_, List.mem_cons_self .., h⟩) (fun h => ⟨_, List.mem_cons_of_mem _ (List.mem_cons_self ..), h⟩)) (fun hm => hq w hm.1 hm.2.2.1.2.1) hk
  exact h2.perm (List.perm_middle (l₁ := [a, b, c]) (l₂ := M)).symm
theorem qT {w0 w : World} {gc : Nat} {F : Nat → Prop} {v : NV} {M : List Ent} (h : Mem w0 w (CM gc F v M)) (hF : ∀ b, F b → w0.heap.size ≤ b) : ∃ F' : Nat → Prop, Mem w0 w (Ex gc F' v M) ∧ ∀ b, F' b → w0.heap.size ≤ b := by
  refine ⟨fun k => (Ent.own v.p v.pc 3 1 v.c.pg.length (v.c.pg.flatMap iC)).foot k ∨ F k, ?_, fun b hb => hb.elim (fun h1 => (gY (h.2.get (i := 3) rfl) h1).1) (hF b)⟩
  exact wF h _ (fun w2 ho hp => ⟨(eg gA ho rfl).mono fun _ h => .inl h, fun u hu => (hp u hu).mono fun _ => .inr⟩) (fun w1 w2 hk hp => ⟨hp.1.agree hk, fun u hu => (hp.2 u hu).agree hk⟩)
theorem Ak (g a b c d : Ent) (E M : List Ent) : (g :: a :: b :: c :: d :: (E ++ M)).Perm (a :: b :: c :: d :: (E ++ (g :: M))) := by
  have h := (List.perm_middle (a := g) (l₁ := a :: b :: c :: d :: E) (l₂ := M)).symm
  simpa using h
theorem Al {w : World} {B cap : Nat} {T : TypeId} {a : Option Addr} {l : List Int} {n : Int} {xs : List Value} (h : w.ownsRow B T 1 (.slice a (l.length + 1) cap) (l.length + 1) (l.flatMap iC ++ xs)) (hx : xs = iC n) : w.ownsRow B T 1 (.slice a (l ++ [n]).length cap) (l ++ [n]).length ((l ++ [n]).flatMap iC) := by
  rw [List.length_append, List.flatMap_append, List.flatMap_singleton, ← hx]
  exact h
theorem xQ {α : Type} {A : Nat → Prop} {w : World} {sz : Nat} {f : α → List Value} {a : Option Addr} {l : List α} {cap k : Nat} (h : Rws A w sz f a l) (hc : l.length ≤ cap) : Rws A w sz f (if cap = k then a else a.map (·.add (k * sz))) (l.drop k) := fun h0 => by
  rw [List.length_drop] at h0
  obtain ⟨b, off, h1, h2, h3, h4⟩ := h (by omega)
  refine ⟨b, off + k * sz, ?_, h2, h3, fun j v hj => ?_⟩
  · rw [if_neg (by omega), h1]
    simp [Addr.add_mid]
  · rw [List.getElem?_drop] at hj
    have := h4 (k + j) v hj
    rw [show off + k * sz + j * sz = off + (k + j) * sz by rw [Nat.add_mul]; omega]
    exact this
structure FN (c : NL) (f : aY) : Prop where
  fe : aR f = 0
  k1 : f.kind = 1 → c.sd = 2 ∧ c.la < f.strm
  k2 : f.kind = 2 → aI f.data ≤ c.rw.left
  k6 : f.kind = 6 → f.strm = 0 → (cS c.sw f.num).err = 0
theorem FP {c : NL} {f : aY} (h : VN c) (hr : jL c f = 0) : FN c f := by
  unfold jL at hr
  split at hr
  · cases hr
  rename_i g1
  split at hr
  · cases hr
  rename_i g2
  split at hr
  · cases hr
  rename_i g3
  split at hr
  · cases hr
  rename_i g4
  have hf : aR f = 0 := Decidable.not_not.1 fun e => g1 (.inl e)
  have hfo : oI c.sd f.kind = false := eq_false_of_ne_true fun e => g1 (.inr e)
  refine ⟨hf, fun hk => ⟨?_, ?_⟩, fun hk => (by have := fun e => g3 ⟨hk, e⟩; omega), fun a b => Decidable.not_not.1 fun e => g4 ⟨a, b, e⟩⟩
  · rcases h.sd with e | e
    · rw [e, hk] at hfo; exact absurd hfo (by decide)
    · exact e
  · by_cases e : f.strm ≤ c.la
    · exact absurd (propext ⟨fun _ => e, fun _ => hk⟩) g2
    · omega
attribute [local irreducible] Calls
set_option maxRecDepth 100000 in
set_option maxHeartbeats 32000000 in
theorem xR {w0 : World} {M : List Ent} (gc : Nat) (v : NV) (f : aY) (w : World) (hv : VN v.c) (hms : cu v.c ≤ 400000000) (heq : v.c.ks = v.kv.map (·.k)) (hcap : ∀ u ∈ v.kv, u.k.ib.length ≤ u.ic ∧ u.k.ob.length ≤ u.oc) (hcl : v.c.cl = false) (hre : jL v.c f = 0) (hfd : f.data.size < 4294967281) (hg : MLen w0) (hM : Mem w0 w (.own v.o v.oc 65 4 v.c.ou.length (v.c.ou.flatMap fC) :: .own v.x v.xc 39 22 v.kv.length (v.kv.flatMap KC) :: .cl gc 28 [.int .i64 v.c.sd, .int .i64 v.c.nx, .int .i64 v.c.la, .int .i64 v.c.aw, .int .i64 v.c.sz, .int .i64 v.c.sw.size, .int .i64 v.c.sw.left, .int .i64 v.c.sw.held, .int .i64 v.c.rw.size, .int .i64 v.c.rw.left, .int .i64 v.c.rw.held, .slice v.x v.kv.length v.xc, .slice v.o v.c.ou.length v.oc, .slice v.p v.c.pg.length v.pc, .bool v.c.cl] :: .own v.p v.pc 3 1 v.c.pg.length (v.c.pg.flatMap iC) :: (v.kv.flatMap EK ++ M))) : Calls Tryz.prog 69 #[.pointer (some ⟨gc, 0, none⟩), .agg #[.int .i64 f.kind, .int .i64 f.strm, .int .i64 f.num, .string f.data]] w fun e w' => ∃ r : Value × NV × (Nat → Prop), (r.2.1.c = lR v.c f ∧ r.2.1.c.ks = r.2.1.kv.map (·.k) ∧ ∀ b, r.2.2 b → w0.heap.size ≤ b) ∧ e = .returned r.1 ∧ Mem w0 w' (Ex gc r.2.2 r.2.1 M) := by
  obtain ⟨hf, a1, a2, a6⟩ := FP hv hre
  have hsz := hv.toVB.szl (by omega)
  have hlk : v.c.ks.length = v.kv.length := by rw [heq, List.length_map]
  have hks := hsz.ks
  have hoz := hsz.ou.1
  have hfk := rU hf
  have hpg := hv.pg
  have hal : lR v.c f = if f.kind = 1 then iw v.c f else if f.kind = 2 then jU v.c f else if f.kind = 7 then { v.c with ou := v.c.ou ++ [⟨8, 0, f.num, emptyB⟩] } else if f.kind = 8 then { v.c with pg := (v.c.pg ++ [f.num]).drop (v.c.pg.length + 1 - 16) } else if f.kind = 9 then tp { v.c with aw := if v.c.aw = 0 ∨ f.num + 1 < v.c.aw then f.num + 1 else v.c.aw } f.num else gf v.c f := rfl
  rw [hal]
  by_cases hk1 : f.kind = 1
  · refine cj hM Tryz.func69 rfl Tryz.ntmps69 J J ?_
    repeat' (first | refine ai ?_ | refine aa ?_ | refine ab ?_ | refine aJ ?_ | refine ag ?_ | (refine aV J J J J J J ?_; intro g3) | ((refine' am rfl ?_ J J ?_); rotate_left; first | exact ak af J J J J | exact aq af J J J J J J | exact ae af 0 J J J J J))
    refine aB rfl (by simpa using hk1) ?_
    repeat' (first | refine aa ?_ | ((refine' am rfl ?_ J J ?_); rotate_left; first | exact ak af J J J J | exact ae af 0 J J J J J))
    rw [if_pos hk1]
    refine bz (σ := Value × NV × (Nat → Prop)) (fun r => r.2.1.c = iw v.c f ∧ r.2.1.c.ks = r.2.1.kv.map (·.k) ∧ ∀ b, r.2.2 b → w0.heap.size ≤ b) (fun r => r.1) (fun r => CM gc r.2.2 r.2.1 _) rfl (av J J J J ⟨J, J, trivial⟩ rfl (by kernel_rfl)) (fun w1 hM => (xO gc v f w1 hv (by omega) heq hfd hg (hM.perm (Ak _ _ _ _ _ _ _))).mono fun e w' ⟨r, h1, h2, h3⟩ => ⟨r, h1, h2, h3⟩) J J ?_
    rintro ⟨rv, v2, F2⟩ ⟨q1, q2, q3⟩
    dsimp only at q1 q2 q3 ⊢
    repeat' (first | refine ax ?_ | refine ag ?_)
    (refine dU af (fun _ => 0) J J trivial rfl fun w1 hm => ?_)
    obtain ⟨F3, h1, h2⟩ := qT (hm.mask [true, true, true, true, true, false] rfl) q3
    exact ⟨(_, v2, F3), ⟨q1, q2, h2⟩, rfl, h1⟩
  rw [if_neg hk1]
  by_cases hk2 : f.kind = 2
  · refine cj hM Tryz.func69 rfl Tryz.ntmps69 J J ?_
    repeat' (first | refine ai ?_ | refine aa ?_ | refine ab ?_ | refine aJ ?_ | refine ag ?_ | (refine aV J J J J J J ?_; intro g3) | ((refine' am rfl ?_ J J ?_); rotate_left; first | exact ak af J J J J | exact aq af J J J J J J | exact ae af 0 J J J J J))
    refine ar rfl (by simpa using hk1) ?_
    repeat' (first | refine ai ?_ | refine aa ?_ | refine ab ?_ | refine ag ?_ | ((refine' am rfl ?_ J J ?_); rotate_left; first | exact ak af J J J J | exact aq af J J J J J J))
    refine aB rfl (by simpa using hk2) ?_
    repeat' (first | refine aa ?_ | ((refine' am rfl ?_ J J ?_); rotate_left; first | exact ak af J J J J | exact ae af 0 J J J J J))
    rw [if_pos hk2]
    refine bz (σ := Value × NV × (Nat → Prop)) (fun r => r.2.1.c = jU v.c f ∧ r.2.1.c.ks = r.2.1.kv.map (·.k) ∧ ∀ b, r.2.2 b → w0.heap.size ≤ b) (fun r => r.1) (fun r => CM gc r.2.2 r.2.1 _) rfl (av J J J J ⟨J, J, trivial⟩ rfl (by kernel_rfl)) (fun w1 hM => (xN gc v f w1 hv (by omega) heq hcl hf hk2 (a2 hk2) hg (hM.perm (Ak _ _ _ _ _ _ _))).mono fun e w' ⟨r, h1, h2, h3⟩ => ⟨r, h1, h2, h3⟩) J J ?_
    rintro ⟨rv, v2, F2⟩ ⟨q1, q2, q3⟩
    dsimp only at q1 q2 q3 ⊢
    repeat' (first | refine ax ?_ | refine ag ?_)
    (refine dU af (fun _ => 0) J J trivial rfl fun w1 hm => ?_)
    obtain ⟨F3, h1, h2⟩ := qT (hm.mask [true, true, true, true, true, false] rfl) q3
    exact ⟨(_, v2, F3), ⟨q1, q2, h2⟩, rfl, h1⟩
  rw [if_neg hk2]
  by_cases hk7 : f.kind = 7
  · rw [if_pos hk7]
    obtain ⟨hM, hFK⟩ := mT hM
    refine cj hM Tryz.func69 rfl Tryz.ntmps69 J J ?_
    repeat' (first | refine ai ?_ | refine aa ?_ | refine ab ?_ | refine aJ ?_ | refine ag ?_ | (refine aV J J J J J J ?_; intro g3) | ((refine' am rfl ?_ J J ?_); rotate_left; first | exact ak af J J J J | exact aq af J J J J J J | exact ae af 0 J J J J J))
    refine ar rfl (by simpa using hk1) ?_
    repeat' (first | refine ai ?_ | refine aa ?_ | refine ab ?_ | refine ag ?_ | ((refine' am rfl ?_ J J ?_); rotate_left; first | exact ak af J J J J | exact aq af J J J J J J))
    refine ar rfl (by simpa using hk2) ?_
    repeat' (first | refine ai ?_ | refine aa ?_ | refine ab ?_ | refine ag ?_ | ((refine' am rfl ?_ J J ?_); rotate_left; first | exact ak af J J J J | exact aq af J J J J J J))
    refine aB rfl (by simpa using hk7) ?_
    repeat' (first | refine ai ?_ | refine aa ?_ | refine ab ?_ | refine aA ?_ | refine ay ?_ | refine aJ ?_ | refine bq ?_ | refine au ?_ | refine aN ?_ | refine ax ?_ | refine ba ?_ | refine aT ?_ | refine cg rfl ?_ | refine ag ?_ | refine bH ?_ | (refine cJ ?_; intro g) | ((first | refine' am rfl ?_ J J ?_ | refine' dg rfl ?_ J J J ?_); rotate_left; first | exact ak af J J J J | exact aq af J J J J J J | exact bL J J J J J | exact bK J J J J J | exact ae af 0 J J J J J | exact ae af 1 J J J J J | exact ae af 2 J J J J J | exact ae af 3 J J J J J | exact ae af 4 J J J J J | exact ae af 5 J J J J J | exact ae af 6 J J J J J | exact ae af 7 J J J J J | exact fb af fE J J J J J J (by kernel_rfl) | exact fL af fE J J J J J J (by kernel_rfl) | exact bh af J J J J J J J | exact eZ J J J J J | exact fK J J J J J | exact iP J J J J J J J | exact ap af J J trivial J J J | exact ap af J J ⟨J, trivial⟩ J J J | exact ap af J J ⟨J, J, trivial⟩ J J J | exact ap af J J ⟨J, J, J, trivial⟩ J J J | exact ap af J J ⟨J, J, J, J, trivial⟩ J J J | exact ap af J J ⟨J, J, J, J, J, trivial⟩ J J J | exact ap af J J ⟨J, J, J, J, J, J, trivial⟩ J J J | exact ap af J J ⟨J, J, J, J, J, J, J, trivial⟩ J J J | exact ap af J J ⟨J, J, J, J, J, J, J, J, trivial⟩ J J J) | (refine aV J J J J J J ?_; intro g) | (refine aG af J J J J J J ?_; intro g) | refine bW af J J J J J J ?_ | refine fO J J J J J J ?_ | refine aj af 0 J J J J J J J J J J J J ?_ | refine aj af 1 J J J J J J J J J J J J ?_ | refine aj af 2 J J J J J J J J J J J J ?_ | refine aj af 3 J J J J J J J J J J J J ?_ | refine aj af 4 J J J J J J J J J J J J ?_ | refine aj af 5 J J J J J J J J J J J J ?_ | refine aj af 6 J J J J J J J J J J J J ?_ | refine aj af 7 J J J J J J J J J J J J ?_)
    refine du 9 [29] [] aD rfl (by kernel_rfl) ?_
    iterate 8 (((refine' lX rfl ?_ J J J ?_); rotate_left; first | exact ak af J J J J | exact ae af 0 J J J J J | exact ae af 3 J J J J J | exact ap af J J ⟨J, J, trivial⟩ J J J))
    refine dV af 28 J J (by simp [aF]) rfl (by simp [aF]) rfl ⟨J, trivial⟩ J J J J J J J J J J J ?_
    refine gH ?_
    rintro s1 -
    dsimp only [List.cons_append, List.nil_append]
    refine ce af 2 0 J J J J J J J J J (fun _ _ => rfl) kS J J (by unfold maxLen; omega) (by omega) J J ?_
    intro sa sc
    repeat' (first | refine ax ?_ | refine ag ?_ | ((refine' am rfl ?_ J J ?_); rotate_left; exact ak af J J J J) | refine aj af 4 J J J J J J J J J J J J ?_)
    (refine dU af (fun _ => 0) J J trivial rfl fun w1 hm => ?_)
    have h0 : Mem w0 w1 (CM gc (FK v.kv) ⟨{ v.c with ou := v.c.ou ++ [(⟨8, 0, f.num, emptyB⟩ : aY)] }, v.x, v.xc, v.kv, sa, sc, v.p, v.pc⟩ M) := by
      have h1 := hm.mask [false, false, true, true, true, true, true] rfl
      unfold CM
      simp only [List.length_append, List.length_singleton, List.flatMap_append, List.flatMap_singleton]
      exact h1
    obtain ⟨F3, h1, h2⟩ := qT h0 hFK
    exact ⟨(_, ⟨{ v.c with ou := v.c.ou ++ [(⟨8, 0, f.num, emptyB⟩ : aY)] }, v.x, v.xc, v.kv, sa, sc, v.p, v.pc⟩, F3), ⟨rfl, heq, h2⟩, rfl, h1⟩
  rw [if_neg hk7]
  by_cases hk8 : f.kind = 8
  · rw [if_pos hk8]
    obtain ⟨hM, hFK⟩ := mT hM
    refine cj hM Tryz.func69 rfl Tryz.ntmps69 J J ?_
    repeat' (first | refine ai ?_ | refine aa ?_ | refine ab ?_ | refine aJ ?_ | refine ag ?_ | (refine aV J J J J J J ?_; intro g3) | ((refine' am rfl ?_ J J ?_); rotate_left; first | exact ak af J J J J | exact aq af J J J J J J | exact ae af 0 J J J J J))
    refine ar rfl (by simpa using hk1) ?_
    repeat' (first | refine ai ?_ | refine aa ?_ | refine ab ?_ | refine ag ?_ | ((refine' am rfl ?_ J J ?_); rotate_left; first | exact ak af J J J J | exact aq af J J J J J J))
    refine ar rfl (by simpa using hk2) ?_
    repeat' (first | refine ai ?_ | refine aa ?_ | refine ab ?_ | refine ag ?_ | ((refine' am rfl ?_ J J ?_); rotate_left; first | exact ak af J J J J | exact aq af J J J J J J))
    refine ar rfl (by simpa using hk7) ?_
    repeat' (first | refine ai ?_ | refine aa ?_ | refine ab ?_ | refine ag ?_ | ((refine' am rfl ?_ J J ?_); rotate_left; first | exact ak af J J J J | exact aq af J J J J J J))
    refine aB rfl (by simpa using hk8) ?_
    repeat' (refine ai ?_)
    refine du 8 [42] [] aD rfl (by kernel_rfl) ?_
    iterate 7 (((refine' lX rfl ?_ J J J ?_); rotate_left; first | exact ak af J J J J | exact ae af 0 J J J J J | exact ae af 3 J J J J J))
    refine dV af 41 J J (by simp [aF]) rfl (by simp [aF]) rfl ⟨J, trivial⟩ J J J J J J J J J J J ?_
    refine gH ?_
    rintro s1 -
    dsimp only [List.cons_append, List.nil_append]
    refine ce af 5 0 J J J J J J J J J (fun _ _ => rfl) B7 J J (by unfold maxLen; omega) (by omega) J J ?_
    intro qa qc
    refine fV (fun w1 hm => nw (hm.2.get (i := 5) rfl)) (fun hqc => ?_)
    have hmx : (if ((v.c.pg.length + 1 : Nat) : Int) - 16 > 0 then ((v.c.pg.length + 1 : Nat) : Int) - 16 else 0) = ((v.c.pg.length + 1 - 16 : Nat) : Int) := by split <;> omega
    repeat' (first | refine ab ?_ | refine ax ?_ | refine aU aD rfl (by kernel_rfl) ?_ | refine ag ?_ | refine bH ?_ | ((first | refine' am rfl ?_ J J ?_ | refine' dg rfl ?_ J J J ?_); rotate_left; first | exact rd J J J J J (by omega) | exact rg af (v.c.pg.length + 1 - 16) (v.c.pg.length + 1) J J J J J J J J J hmx rfl (by omega) hqc | exact ak af J J J J | exact ae af 4 J J J J J | exact bh af J J J J J J J | exact eZ J J J J J) | refine aj af 4 J J J J J J J J J J J J ?_)
    (refine dU af (fun _ => 0) J J trivial rfl fun w1 hm => ?_)
    have h1 := hm.mask [false, false, true, true, true, true, true] rfl
    have hln : ((v.c.pg ++ [f.num]).drop (v.c.pg.length + 1 - 16)).length = v.c.pg.length + 1 - (v.c.pg.length + 1 - 16) := by rw [List.length_drop, List.length_append, List.length_singleton]
    refine ⟨(_, ⟨{ v.c with pg := (v.c.pg ++ [f.num]).drop (v.c.pg.length + 1 - 16) }, v.x, v.xc, v.kv, v.o, v.oc, (if qc = v.c.pg.length + 1 - 16 then qa else qa.map (·.add ((v.c.pg.length + 1 - 16) * 1))), qc - (v.c.pg.length + 1 - 16)⟩, fun k => (Ent.own qa qc 3 1 (v.c.pg.length + 1) (v.c.pg.flatMap iC ++ iC f.num)).foot k ∨ FK v.kv k), ⟨rfl, heq, fun k hk => hk.elim (fun h => (gY (h1.2.get (i := 3) rfl) h).1) (hFK k)⟩, rfl, ?_⟩
    unfold Ex
    dsimp only
    rw [hln]
    refine wF h1 _ (fun w2 ho hp => ⟨?_, fun u hu => (hp u hu).mono fun _ => .inr⟩) (fun w1 w2 hk hp => ⟨hp.1.agree hk, fun u hu => (hp.2 u hu).agree hk⟩)
    have hr := (eg gA (Al (n := f.num) ho rfl) rfl)
    exact (xQ hr (by rw [List.length_append, List.length_singleton]; exact hqc)).mono fun _ h => .inl h
  rw [if_neg hk8]
  by_cases hk9 : f.kind = 9
  · rw [if_pos hk9]
    have hnum := lA hf
    unfold gG at hnum
    rw [hk9] at hnum
    have hnum2 : 0 ≤ f.num ∧ f.num ≤ 2147483647 := by simpa using hnum
    have haw := hv.aw
    have hkz : ∀ u ∈ v.kv, u.k.st.text.size ≤ 4611686018427387900 := fun u hu => (hsz.ok u.k (by rw [heq]; exact List.mem_map_of_mem hu)).2.2.2.1
    obtain ⟨hM, hFK⟩ := mT hM
    refine cj hM Tryz.func69 rfl Tryz.ntmps69 J J ?_
    repeat' (first | refine ai ?_ | refine aa ?_ | refine ab ?_ | refine aJ ?_ | refine ag ?_ | (refine aV J J J J J J ?_; intro g3) | ((refine' am rfl ?_ J J ?_); rotate_left; first | exact ak af J J J J | exact aq af J J J J J J | exact ae af 0 J J J J J))
    refine ar rfl (by simpa using hk1) ?_
    repeat' (first | refine ai ?_ | refine aa ?_ | refine ab ?_ | refine ag ?_ | ((refine' am rfl ?_ J J ?_); rotate_left; first | exact ak af J J J J | exact aq af J J J J J J))
    refine ar rfl (by simpa using hk2) ?_
    repeat' (first | refine ai ?_ | refine aa ?_ | refine ab ?_ | refine ag ?_ | ((refine' am rfl ?_ J J ?_); rotate_left; first | exact ak af J J J J | exact aq af J J J J J J))
    refine ar rfl (by simpa using hk7) ?_
    repeat' (first | refine ai ?_ | refine aa ?_ | refine ab ?_ | refine ag ?_ | ((refine' am rfl ?_ J J ?_); rotate_left; first | exact ak af J J J J | exact aq af J J J J J J))
    refine ar rfl (by simpa using hk8) ?_
    repeat' (first | refine ai ?_ | refine aa ?_ | refine ab ?_ | refine ag ?_ | ((refine' am rfl ?_ J J ?_); rotate_left; first | exact ak af J J J J | exact aq af J J J J J J))
    refine aB rfl (by simpa using hk9) ?_
    repeat' (first | refine ai ?_ | refine ab ?_ | refine aU aD rfl (by kernel_rfl) ?_ | refine ag ?_ | refine bH ?_ | ((refine' dg rfl ?_ J J J ?_); rotate_left; first | exact bN J J J J J (by omega) | exact ak af J J J J | exact aq af J J J J J J | exact bL J J J J J | exact ae af 0 J J J J J | exact ae af 3 J J J J J))
    by_cases hw : v.c.aw = 0 ∨ f.num + 1 < v.c.aw
    · rw [if_pos hw]
      refine aB rfl (by simp only [Bool.or_eq_true, beq_iff_eq, decide_eq_true_eq]; exact hw) ?_
      repeat' (first | refine aa ?_ | refine ab ?_ | refine ag ?_ | ((refine' am rfl ?_ J J ?_); rotate_left; first | exact bN J J J J J (by omega) | exact ak af J J J J | exact ae af 0 J J J J J) | refine aj af 3 J J J J J J J J J J J J ?_)
      refine de (fun w1 hm => hm.perm (Ew _ _ _ _ _)) ?_
      refine bz (σ := Value) (fun _ => True) (fun r => r) (fun _ => _) rfl (av J J J J ⟨J, J, trivial⟩ rfl (by kernel_rfl)) (fun w1 hM => (pE gc v.x v.xc _ _ _ _ _ _ _ _ _ _ _ _ _ _ v.kv f.num w1 (by omega) hkz hM).mono fun e w' ⟨r, h1, h2, h3⟩ => ⟨r, trivial, h2, h3⟩) J J ?_
      rintro rv -
      repeat' (first | refine ax ?_ | refine ag ?_)
      (refine dU af (fun _ => 0) J J trivial rfl fun w1 hm => ?_)
      have h0 : Mem w0 w1 (CM gc (FK v.kv) ⟨tp { v.c with aw := f.num + 1 } f.num, v.x, v.xc, v.kv.map (iK f.num), v.o, v.oc, v.p, v.pc⟩ M) := by
        have h1 := (hm.mask [true, true, false, true, true, true] rfl).perm (List.perm_middle (l₁ := [_, _]))
        unfold CM
        dsimp only
        rw [List.length_map]
        have h2 := h1.perm (List.perm_middle (l₁ := [_, _, _, _]))
        refine (h2.repTo (fun w h x hx => ?_) (fun w1 w2 hk h x hx => (h x hx).agree hk)).perm (List.perm_middle (l₁ := [_, _, _, _])).symm
        obtain ⟨u0, hu0, rfl⟩ := List.mem_map.1 hx
        exact rY (h u0 hu0)
      obtain ⟨F3, h1, h2⟩ := qT h0 hFK
      refine ⟨(_, _, F3), ⟨rfl, ?_, h2⟩, rfl, h1⟩
      show v.c.ks.map (gz f.num) = (v.kv.map (iK f.num)).map (·.k)
      rw [heq, List.map_map, List.map_map]
      exact List.map_congr_left fun u _ => (vu f.num u).symm
    · rw [if_neg hw]
      refine ar rfl (by simp only [Bool.or_eq_false_iff, beq_eq_false_iff_ne, decide_eq_false_iff_not]; omega) ?_
      repeat' (first | refine aa ?_ | refine ab ?_ | refine ay ?_ | ((refine' am rfl ?_ J J ?_); rotate_left; first | exact ak af J J J J | exact ae af 0 J J J J J))
      refine de (fun w1 hm => hm.perm (Ew _ _ _ _ _)) ?_
      refine bz (σ := Value) (fun _ => True) (fun r => r) (fun _ => _) rfl (av J J J J ⟨J, J, trivial⟩ rfl (by kernel_rfl)) (fun w1 hM => (pE gc v.x v.xc _ _ _ _ _ _ _ _ _ _ _ _ _ _ v.kv f.num w1 (by omega) hkz hM).mono fun e w' ⟨r, h1, h2, h3⟩ => ⟨r, trivial, h2, h3⟩) J J ?_
      rintro rv -
      repeat' (first | refine ax ?_ | refine ag ?_)
      (refine dU af (fun _ => 0) J J trivial rfl fun w1 hm => ?_)
      have h0 : Mem w0 w1 (CM gc (FK v.kv) ⟨tp { v.c with aw := v.c.aw } f.num, v.x, v.xc, v.kv.map (iK f.num), v.o, v.oc, v.p, v.pc⟩ M) := by
        have h1 := (hm.mask [true, true, false, true, true, true] rfl).perm (List.perm_middle (l₁ := [_, _]))
        unfold CM
        dsimp only
        rw [List.length_map]
        have h2 := h1.perm (List.perm_middle (l₁ := [_, _, _, _]))
        refine (h2.repTo (fun w h x hx => ?_) (fun w1 w2 hk h x hx => (h x hx).agree hk)).perm (List.perm_middle (l₁ := [_, _, _, _])).symm
        obtain ⟨u0, hu0, rfl⟩ := List.mem_map.1 hx
        exact rY (h u0 hu0)
      obtain ⟨F3, h1, h2⟩ := qT h0 hFK
      refine ⟨(_, _, F3), ⟨rfl, ?_, h2⟩, rfl, h1⟩
      show v.c.ks.map (gz f.num) = (v.kv.map (iK f.num)).map (·.k)
      rw [heq, List.map_map, List.map_map]
      exact List.map_congr_left fun u _ => (vu f.num u).symm
  rw [if_neg hk9]
  refine cj hM Tryz.func69 rfl Tryz.ntmps69 J J ?_
  repeat' (first | refine ai ?_ | refine aa ?_ | refine ab ?_ | refine aJ ?_ | refine ag ?_ | (refine aV J J J J J J ?_; intro g3) | ((refine' am rfl ?_ J J ?_); rotate_left; first | exact ak af J J J J | exact aq af J J J J J J | exact ae af 0 J J J J J))
  refine ar rfl (by simpa using hk1) ?_
  repeat' (first | refine ai ?_ | refine aa ?_ | refine ab ?_ | refine ag ?_ | ((refine' am rfl ?_ J J ?_); rotate_left; first | exact ak af J J J J | exact aq af J J J J J J))
  refine ar rfl (by simpa using hk2) ?_
  repeat' (first | refine ai ?_ | refine aa ?_ | refine ab ?_ | refine ag ?_ | ((refine' am rfl ?_ J J ?_); rotate_left; first | exact ak af J J J J | exact aq af J J J J J J))
  refine ar rfl (by simpa using hk7) ?_
  repeat' (first | refine ai ?_ | refine aa ?_ | refine ab ?_ | refine ag ?_ | ((refine' am rfl ?_ J J ?_); rotate_left; first | exact ak af J J J J | exact aq af J J J J J J))
  refine ar rfl (by simpa using hk8) ?_
  repeat' (first | refine ai ?_ | refine aa ?_ | refine ab ?_ | refine ag ?_ | ((refine' am rfl ?_ J J ?_); rotate_left; first | exact ak af J J J J | exact aq af J J J J J J))
  refine ar rfl (by simpa using hk9) ?_
  repeat' (first | refine aa ?_ | ((refine' am rfl ?_ J J ?_); rotate_left; first | exact ak af J J J J | exact ae af 0 J J J J J))
  rw [show gf v.c f = gf v.c f from rfl]
  refine bz (σ := Value × NV × (Nat → Prop)) (fun r => r.2.1.c = gf v.c f ∧ r.2.1.c.ks = r.2.1.kv.map (·.k) ∧ ∀ b, r.2.2 b → w0.heap.size ≤ b) (fun r => r.1) (fun r => CM gc r.2.2 r.2.1 _) rfl (av J J J J ⟨J, J, trivial⟩ rfl (by kernel_rfl)) (fun w1 hM => (xP gc v f w1 hv hms heq hcap hcl hf ⟨by omega, by omega⟩ a6 hg (hM.perm (Ak _ _ _ _ _ _ _))).mono fun e w' ⟨r, h1, h2, h3⟩ => ⟨r, h1, h2, h3⟩) J J ?_
  rintro ⟨rv, v2, F2⟩ ⟨q1, q2, q3⟩
  dsimp only at q1 q2 q3 ⊢
  repeat' (first | refine ax ?_ | refine ag ?_)
  (refine dU af (fun _ => 0) J J trivial rfl fun w1 hm => ?_)
  obtain ⟨F3, h1, h2⟩ := qT (hm.mask [true, true, true, true, true, false] rfl) q3
  exact ⟨(_, v2, F3), ⟨q1, q2, h2⟩, rfl, h1⟩
theorem Ej (v : NV) (f : aY) (n : Int) (h : jL v.c f = n) (w : World) (hfd : f.data.size < 4294967281) (hg : MLen w) : Calls Tryz.prog 68 #[.agg #[.int .i64 v.c.sd, .int .i64 v.c.nx, .int .i64 v.c.la, .int .i64 v.c.aw, .int .i64 v.c.sz, .int .i64 v.c.sw.size, .int .i64 v.c.sw.left, .int .i64 v.c.sw.held, .int .i64 v.c.rw.size, .int .i64 v.c.rw.left, .int .i64 v.c.rw.held, .slice v.x v.kv.length v.xc, .slice v.o v.c.ou.length v.oc, .slice v.p v.c.pg.length v.pc, .bool v.c.cl], .agg #[.int .i64 f.kind, .int .i64 f.strm, .int .i64 f.num, .string f.data]] w fun e w' => e = .returned (.int .i64 n) ∧ Below w.heap.size w w' := by
  subst h
  exact xL v f w hfd hg
set_option maxRecDepth 100000 in
set_option maxHeartbeats 16000000 in
theorem qU {A : Nat → Prop} (v : NV) (f : aY) (w : World) (hN : NOk A w v) (hv : VN v.c) (hms : cu v.c ≤ 400000000) (hfd : f.data.size < 4294967281) (hg : MLen w) : Calls Tryz.prog 24 #[.agg #[.int .i64 v.c.sd, .int .i64 v.c.nx, .int .i64 v.c.la, .int .i64 v.c.aw, .int .i64 v.c.sz, .int .i64 v.c.sw.size, .int .i64 v.c.sw.left, .int .i64 v.c.sw.held, .int .i64 v.c.rw.size, .int .i64 v.c.rw.left, .int .i64 v.c.rw.held, .slice v.x v.kv.length v.xc, .slice v.o v.c.ou.length v.oc, .slice v.p v.c.pg.length v.pc, .bool v.c.cl], .agg #[.int .i64 f.kind, .int .i64 f.strm, .int .i64 f.num, .string f.data]] w fun e w' => ∃ v' : NV, v'.c = (aH v.c f).1 ∧ e = .returned (.tuple #[.agg ⟨NC v'⟩, .int .i64 (aH v.c f).2]) ∧ OutN A w w' v' := by
  refine aQ Tryz.func24 rfl Tryz.ntmps24 J J ?_
  have hsz := hv.toVB.szl (by omega)
  have hz := hsz.n hN
  have hgd := hsz.g hN
  refine ai ?_
  refine aa ?_
  (refine aV J J J J J J ?_; intro g2)
  (refine aV J J J J J J ?_; intro g3)
  repeat' (first | refine ai ?_ | refine aa ?_ | refine ab ?_ | refine ag ?_ | (refine aG af J J J J J J ?_; intro g4) | ((refine' am rfl ?_ J J ?_); rotate_left; first | exact ak af J J J J | exact ae af 2 J J J J J))
  by_cases hcl : v.c.cl = true
  · have hp : aH v.c f = (v.c, 20) := by unfold aH; rw [if_pos hcl]
    refine aB rfl hcl ?_
    repeat' (first | refine ai ?_ | refine aa ?_ | refine ab ?_ | refine aA ?_ | refine au ?_ | refine ag ?_ | ((refine' am rfl ?_ J J ?_); rotate_left; first | exact ak af J J J J | exact ae af 2 J J J J J) | refine aj af 0 J J J J J J J J J J J J ?_)
    (refine aC af (fun _ => 0) J J ⟨J, trivial⟩ rfl fun w1 hm => ⟨v, ?_, ?_, OutN.same hN hm.below⟩)
    · rw [hp]
    · rw [hp]; rfl
  refine ar rfl (eq_false_of_ne_true hcl) ?_
  obtain ⟨er, her⟩ : ∃ x, jL v.c f = x := ⟨_, rfl⟩
  repeat' (first | refine ai ?_ | refine aa ?_ | refine ab ?_ | refine ay ?_ | refine ag ?_ | ((refine' am rfl ?_ J J ?_); rotate_left; first | exact ak af J J J J | exact aq af J J J J J J | exact ae af 1 J J J J J | exact ae af 2 J J J J J) | refine aK rfl (av J J J J ⟨J, J, trivial⟩ rfl (by kernel_rfl)) (fun w hm => Ej v f er her w hfd (hg.below hm.below)) J J ?_)
  by_cases he : er = 0
  rotate_left
  · have hp : aH v.c f = (kR v.c, er) := by unfold aH; rw [if_neg hcl, her, if_pos he]
    rw [hp]
    refine aB rfl (by simpa using he) ?_
    repeat' (first | refine ai ?_ | refine aa ?_ | ((refine' am rfl ?_ J J ?_); rotate_left; exact ae af 2 J J J J J))
    refine eU (σ := NV) (fun s F => s.c = kR v.c ∧ ∀ b, F b → A b ∨ w.heap.size ≤ b) (fun s => .agg ⟨NC s⟩) (fun s F w => NOk F w s) rfl (av J J J J ⟨J, trivial⟩ rfl (by kernel_rfl)) (fun w1 hm => (vw v w1 (hN.lt.below hm.below) hz hgd).mono fun e w2 ⟨s, h1, h2, h3⟩ => by obtain ⟨F, h4, h5⟩ := tQ hm h3; exact ⟨s, F, ⟨h1, h4⟩, h2, h5⟩) J J ?_
    rintro ⟨c1, x1, xc1, kv1, o1, oc1, p1, pc1⟩ F ⟨hc1, hF⟩
    dsimp only at hc1
    repeat' (first | refine ab ?_ | refine aA ?_ | refine au ?_ | refine ag ?_ | ((refine' am rfl ?_ J J ?_); rotate_left; exact ak af J J J J) | refine aj af 1 J J J J J J J J J J J J ?_)
    (refine aC af (fun _ => 1) J J ⟨J, trivial⟩ rfl fun w1 hm => ⟨⟨c1, x1, xc1, kv1, o1, oc1, p1, pc1⟩, hc1, rfl, qO (hm.2.get (i := 0) rfl).2.1 hF hm.below⟩)
  · subst he
    have hp : aH v.c f = (lR v.c f, 0) := by unfold aH; rw [if_neg hcl, her, if_neg (by simp)]
    rw [hp]
    refine ar J J ?_
    repeat' (first | refine ai ?_ | refine aa ?_ | refine ab ?_ | refine ay ?_ | ((refine' am rfl ?_ J J ?_); rotate_left; exact ae af 2 J J J J J))
    refine eC (σ := NV) (fun s => s.c = v.c ∧ s.kv.map (·.k) = v.kv.map (·.k)) (fun s => .agg ⟨NC s⟩) (fun s => EN s) rfl (av J J J J ⟨J, trivial⟩ rfl (by kernel_rfl)) (fun w1 hm => hY v w1 (hN.below hm.below) hz) J J ?_
    rintro ⟨c1, x1, xc1, kv1, o1, oc1, p1, pc1⟩ ⟨hc1, hkm⟩
    dsimp only at hc1 hkm
    subst hc1
    dsimp only [EN, NC, List.cons_append, List.nil_append]
    refine fV (fun w1 hm => Ab hm) (fun hcap => ?_)
    refine de (fun w1 hm => hm.perm (wZ [_, _, _] (kv1.flatMap EK) [_, _, _])) ?_
    dsimp only [List.cons_append, List.nil_append]
    repeat' (first | refine ai ?_ | refine aa ?_ | refine ab ?_ | refine ag ?_ | (refine aG af J J J J J J ?_; intro g7) | ((refine' am rfl ?_ J J ?_); rotate_left; exact ae af 5 J J J J J) | refine aj af 0 J J J J J J J J J J J J ?_)
    refine de (fun w1 hm => (hm.perm (wZ [_, _, _, _] [_, _, _] (kv1.flatMap EK))).perm (Ew _ _ _ _ _)) ?_
    refine bz (σ := Value × NV × (Nat → Prop)) (fun r => r.2.1.c = lR v.c f ∧ r.2.1.c.ks = r.2.1.kv.map (·.k) ∧ ∀ b, r.2.2 b → w.heap.size ≤ b) (fun r => r.1) (fun r => Ex g7 r.2.2 r.2.1 _) rfl (av J J J J ⟨J, J, trivial⟩ rfl (by kernel_rfl)) (fun w1 hM => (xR g7 ⟨v.c, x1, xc1, kv1, o1, oc1, p1, pc1⟩ f w1 hv hms (by dsimp only; rw [hkm, hN.eq]) hcap (eq_false_of_ne_true hcl) her hfd hg hM).mono fun e w' ⟨r, h1, h2, h3⟩ => ⟨r, h1, h2, h3⟩) J J ?_
    rintro ⟨rv, v2, F2⟩ ⟨q1, q2, q3⟩
    dsimp only at q1 q2 q3 ⊢
    repeat' (first | refine ai ?_ | refine aa ?_ | refine ab ?_ | refine aA ?_ | refine ag ?_ | ((refine' am rfl ?_ J J ?_); rotate_left; first | exact ak af J J J J | exact ae af 2 J J J J J) | refine aj af 4 J J J J J J J J J J J J ?_)
    (refine aC af (fun _ => 4) J J ⟨J, trivial⟩ rfl fun w1 hm => ⟨v2, q1, rfl, ⟨⟨?_, ?_, ?_, q2, ?_⟩, hm.below⟩⟩)
    · exact (Rws.own bi (hm.2.get (i := 1) rfl)).mono fun _ => .inr
    · exact (Rws.own fh (hm.2.get (i := 0) rfl)).mono fun _ => .inr
    · exact (hm.2.get (i := 3) rfl).2.1.1.mono fun b hb => .inr (q3 b hb)
    · exact fun u hu => ((hm.2.get (i := 3) rfl).2.1.2 u hu).mono fun b hb => .inr (q3 b hb)
end Go.Proofs.YthiocbcokfondaaGreatDoor.Y
