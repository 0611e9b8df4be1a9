/- The law ConnDelivers: begins, move. -/
import Derived.Test.YthiocbcokfondaaGreatDoorQCn25
import Derived.Test.YthiocbcokfondaaGreatDoorQBunDl
namespace Go.Proofs.YthiocbcokfondaaGreatDoor.Y
open Go.RowKit
structure PV where
  c : NV
  s : NV
  up : List ByteArray
  dn : List ByteArray
  gS : List ByteArray
  gC : List ByteArray
  u : Option Addr
  uc : Nat
  d : Option Addr
  dc : Nat
  gs : Option Addr
  gsc : Nat
  gc : Option Addr
  gcc : Nat
  fine : Bool
def PC (p : PV) : List Value := [.int .i64 p.c.c.sd, .int .i64 p.c.c.nx, .int .i64 p.c.c.la, .int .i64 p.c.c.aw, .int .i64 p.c.c.sz, .int .i64 p.c.c.sw.size, .int .i64 p.c.c.sw.left, .int .i64 p.c.c.sw.held, .int .i64 p.c.c.rw.size, .int .i64 p.c.c.rw.left, .int .i64 p.c.c.rw.held, .slice p.c.x p.c.kv.length p.c.xc, .slice p.c.o p.c.c.ou.length p.c.oc, .slice p.c.p p.c.c.pg.length p.c.pc, .bool p.c.c.cl, .int .i64 p.s.c.sd, .int .i64 p.s.c.nx, .int .i64 p.s.c.la, .int .i64 p.s.c.aw, .int .i64 p.s.c.sz, .int .i64 p.s.c.sw.size, .int .i64 p.s.c.sw.left, .int .i64 p.s.c.sw.held, .int .i64 p.s.c.rw.size, .int .i64 p.s.c.rw.left, .int .i64 p.s.c.rw.held, .slice p.s.x p.s.kv.length p.s.xc, .slice p.s.o p.s.c.ou.length p.s.oc, .slice p.s.p p.s.c.pg.length p.s.pc, .bool p.s.c.cl, .int .i64 1, .slice p.u p.up.length p.uc, .slice p.d p.dn.length p.dc, .slice p.gs p.gS.length p.gsc, .slice p.gc p.gC.length p.gcc, .bool p.fine]
def dy (p : PV) : MP := ⟨p.c.c, p.s.c, p.up, p.dn, p.gS, p.gC, p.fine⟩
abbrev uq (Fc Fs : Nat → Prop) (p : PV) (M : List Ent) : List Ent := .own p.u p.uc 9 1 p.up.length (p.up.flatMap sC) :: .own p.d p.dc 9 1 p.dn.length (p.dn.flatMap sC) :: .own p.gs p.gsc 9 1 p.gS.length (p.gS.flatMap sC) :: .own p.gc p.gcc 9 1 p.gC.length (p.gC.flatMap sC) :: .rep Fc (fun w => NOk Fc w p.c) :: .rep Fs (fun w => NOk Fs w p.s) :: M
theorem Ds {c : NL} (h : VN c) (hm : cu c ≤ 400000000) {A : Nat → Prop} {w : World} {v : NV} (hc : v.c = c) (hN : NOk A w v) : yS v ∧ Cc v := by
  subst hc
  have hs := h.toVB.szl (by omega)
  exact ⟨hs.n hN, hs.g hN⟩
theorem Ck {c : NL} (h : VN c) : ∀ f ∈ c.ou, f.data.size < 4294967281 := fun f hf => by have := (gI (h.ou f hf)).1; omega
structure cL where
  j : Nat
  y : NV
  F : Nat → Prop
  b : Bool
structure Fq (l : List aY) (y0 : NL) (b0 : Bool) (q : cL) : Prop where
  j : q.j ≤ l.length
  eq : lC l y0 b0 = lC (l.drop q.j) q.y.c q.b
  v : VN q.y.c
  m : cu q.y.c ≤ 100000000 + 2 * q.j
attribute [local irreducible] Calls
set_option maxRecDepth 100000 in
set_option maxHeartbeats 8000000 in
theorem fS {A B : Nat → Prop} (x : Option Addr) (a : List ByteArray) (xc : Nat) (y : Option Addr) (b r : List ByteArray) (yc : Nat) (w : World) (ha : Rws A w 1 sC x a) (hb : Rws B w 1 sC y b) (hp : b = a ++ r) (hz : b.length ≤ 1000000000) : Calls Tryz.prog 18 #[.slice x a.length xc, .slice y b.length yc] w fun e w' => e = .returned (.bool true) ∧ Below w.heap.size w w' := by
  refine aQ Tryz.func18 rfl Tryz.ntmps18 J J ?_
  have hle : a.length ≤ b.length := by rw [hp, List.length_append]; omega
  repeat' (first | refine ai ?_ | refine aa ?_ | refine ab ?_ | refine ag ?_ | ((refine' am rfl ?_ J J ?_); rotate_left; first | exact ak af J J J J | exact aq af J J J J J J | exact bh af J J J J J J J))
  refine ar rfl (decide_eq_false (by omega)) ?_
  repeat' (first | refine ai ?_ | refine aa ?_ | refine ab ?_ | refine ay ?_ | refine aJ ?_ | refine ag ?_ | ((refine' am rfl ?_ J J ?_); rotate_left; first | exact ak af J J J J | exact bh af J J J J J J J))
  refine cK (σ := Nat) (fun p => p ≤ a.length) (fun p => [(13, [], .int .i64 ((p : Nat) : Int)), (12, [], .int .i64 ((a.length : Nat) : Int)), (0, [], .slice x a.length xc), (1, [], .slice y b.length yc)]) (fun _ => []) (fun p => a.length - p) 0 [] (Nat.zero_le _) ⟨J, J, J, J, trivial⟩ rfl ?_
  intro j hj0
  by_cases hj : j < a.length
  · have hj2 : j < b.length := by omega
    obtain ⟨s, hs⟩ : ∃ s, a[j]? = some s := ⟨a[j], List.getElem?_eq_getElem hj⟩
    have hs2 : b[j]? = some s := by rw [hp, List.getElem?_append_left hj]; exact hs
    obtain ⟨b1, o1, hx1, _, _, hr1⟩ := ha (by omega)
    obtain ⟨b2, o2, hx2, _, _, hr2⟩ := hb (by omega)
    have hca : w.cell? ⟨b1, o1 + j * 1, none⟩ = some (.string s) := hr1 j s hs 0 _ rfl
    have hcb : w.cell? ⟨b2, o2 + j * 1, none⟩ = some (.string s) := hr2 j s hs2 0 _ rfl
    rw [hx1, hx2]
    repeat' (first | refine ai ?_ | refine aa ?_ | refine ab ?_ | refine ag ?_ | ((refine' am rfl ?_ J J ?_); rotate_left; exact aq af J J J J J J))
    refine aB rfl (decide_eq_true (by omega)) ?_
    repeat' (first | refine ai ?_ | refine aa ?_ | refine ab ?_ | refine ay ?_ | refine aJ ?_ | refine ag ?_ | ((refine' am rfl ?_ J J ?_); rotate_left; exact ak af J J J J))
    refine aU aD rfl (by kernel_rfl) ?_
    iterate 2 (((refine' dg rfl ?_ J J J ?_); rotate_left; exact ak af J J J J))
    ((refine' dg rfl ?_ J J J ?_); rotate_left; exact cm af (m := 1) j J J J J J J J J (fun _ => rfl) (fun _ => hj))
    ((refine' dg rfl ?_ J J J ?_); rotate_left; exact eH af (v := .string s) J J J J J (fun _ => hca))
    iterate 2 (((refine' dg rfl ?_ J J J ?_); rotate_left; exact ak af J J J J))
    ((refine' dg rfl ?_ J J J ?_); rotate_left; exact cm af (m := 1) j J J J J J J J J (fun _ => rfl) (fun _ => hj2))
    ((refine' dg rfl ?_ J J J ?_); rotate_left; exact eH af (v := .string s) J J J J J (fun _ => hcb))
    repeat' (first | refine ab ?_ | refine ag ?_ | refine bH ?_ | ((refine' dg rfl ?_ J J J ?_); rotate_left; exact aq af J J J J J J))
    refine ar rfl (by simp) ?_
    repeat' (first | refine aa ?_ | refine ab ?_ | refine ay ?_ | refine ax ?_ | refine ag ?_ | ((refine' am rfl ?_ J J ?_); rotate_left; first | exact bN J J J J J (by omega) | exact ak af J J J J))
    refine fU (M' := []) (fun w h => h) ?_
    rw [← hx1, ← hx2]
    exact bA (j + 1) [] (by omega) (show a.length - (j + 1) < a.length - j by omega) ⟨J, J, J, J, trivial⟩ rfl
  · have hjl : j = a.length := by omega
    repeat' (first | refine ai ?_ | refine aa ?_ | refine ab ?_ | refine ag ?_ | ((refine' am rfl ?_ J J ?_); rotate_left; exact aq af J J J J J J))
    refine ar rfl (decide_eq_false (by omega)) ?_
    repeat' (first | refine ai ?_ | refine aa ?_ | refine ab ?_ | refine aA ?_ | refine bq ?_ | refine aN ?_ | refine aT ?_ | refine ag ?_ | ((refine' am rfl ?_ J J ?_); rotate_left; exact ak af J J J J))
    refine aC af (fun _ => 0) J J trivial rfl fun w hm => ⟨?_, hm.below⟩
    rfl
set_option maxRecDepth 100000 in
set_option maxHeartbeats 32000000 in
theorem xU {w0 : World} {M : List Ent} (p : PV) (Fc Fs : Nat → Prop) (k : Int) (msg : ByteArray) (w : World) (hvc : VN p.c.c) (hvs : VN p.s.c) (hmc : cu p.c.c ≤ 100000000) (hms : cu p.s.c ≤ 100000000) (hl1 : p.up.length ≤ 1000000) (hl2 : p.dn.length ≤ 1000000) (hl3 : p.gS.length ≤ 1000000) (hl4 : p.gC.length ≤ 1000000) (hg : MLen w0) (hM : Mem w0 w (.own p.u p.uc 9 1 p.up.length (p.up.flatMap sC) :: .own p.d p.dc 9 1 p.dn.length (p.dn.flatMap sC) :: .own p.gs p.gsc 9 1 p.gS.length (p.gS.flatMap sC) :: .own p.gc p.gcc 9 1 p.gC.length (p.gC.flatMap sC) :: .rep Fc (fun w => NOk Fc w p.c) :: .rep Fs (fun w => NOk Fs w p.s) :: M)) : Calls Tryz.prog 17 #[.agg #[.int .i64 p.c.c.sd, .int .i64 p.c.c.nx, .int .i64 p.c.c.la, .int .i64 p.c.c.aw, .int .i64 p.c.c.sz, .int .i64 p.c.c.sw.size, .int .i64 p.c.c.sw.left, .int .i64 p.c.c.sw.held, .int .i64 p.c.c.rw.size, .int .i64 p.c.c.rw.left, .int .i64 p.c.c.rw.held, .slice p.c.x p.c.kv.length p.c.xc, .slice p.c.o p.c.c.ou.length p.c.oc, .slice p.c.p p.c.c.pg.length p.c.pc, .bool p.c.c.cl, .int .i64 p.s.c.sd, .int .i64 p.s.c.nx, .int .i64 p.s.c.la, .int .i64 p.s.c.aw, .int .i64 p.s.c.sz, .int .i64 p.s.c.sw.size, .int .i64 p.s.c.sw.left, .int .i64 p.s.c.sw.held, .int .i64 p.s.c.rw.size, .int .i64 p.s.c.rw.left, .int .i64 p.s.c.rw.held, .slice p.s.x p.s.kv.length p.s.xc, .slice p.s.o p.s.c.ou.length p.s.oc, .slice p.s.p p.s.c.pg.length p.s.pc, .bool p.s.c.cl, .int .i64 1, .slice p.u p.up.length p.uc, .slice p.d p.dn.length p.dc, .slice p.gs p.gS.length p.gsc, .slice p.gc p.gC.length p.gcc, .bool p.fine], .agg #[.int .i64 k, .string msg]] w fun e w' => ∃ r : PV × (Nat → Prop) × (Nat → Prop), dy r.1 = dX (dy p) k msg ∧ e = .returned (.agg ⟨PC r.1⟩) ∧ Mem w0 w' (uq r.2.1 r.2.2 r.1 M) := by
  refine cj hM Tryz.func17 rfl Tryz.ntmps17 J J ?_
  refine ai ?_
  refine aa ?_
  (refine aV J J J J J J ?_; intro g2)
  (refine aV J J J J J J ?_; intro g3)
  repeat' (first | refine ai ?_ | refine aa ?_ | refine ab ?_ | refine aJ ?_ | refine ag ?_ | (refine aG af J J J J J J ?_; intro g4) | ((refine' am rfl ?_ J J ?_); rotate_left; first | exact ak af J J J J | exact aq af J J J J J J | exact ae af 1 J J J J J))
  by_cases hk0 : k = 0
  · skip
    refine aB rfl (by simpa using hk0) ?_
    repeat' (first | refine ai ?_ | refine aa ?_ | ((refine' am rfl ?_ J J ?_); rotate_left; first | exact ak af J J J J | exact ae af 1 J J J J J | exact ae af 2 J J J J J))
    refine eU (σ := NV) (fun s _ => s.c = (dL p.c.c 1 msg).1) (fun s => .tuple ⟨[.agg ⟨NC s⟩, .int .i64 (dL p.c.c 1 msg).2]⟩) (fun s F w => NOk F w s) rfl (av J J J J ⟨J, J, J, trivial⟩ rfl (by kernel_rfl)) (fun w1 hm => (ka (A := Fc) p.c 1 msg w1 (hm.2.get (i := 7) rfl).2.1 (Ds hvc (by omega) rfl (hm.2.get (i := 7) rfl).2.1).1 (Ds hvc (by omega) rfl (hm.2.get (i := 7) rfl).2.1).2 (hg.below hm.below)).mono fun e w2 ⟨s, h1, h2, h3⟩ => by
      obtain ⟨F, hF⟩ := kb hm (fun b hb => dM hm.2 (i := 7) rfl b hb) h3
      exact ⟨s, F, h1, h2, hF⟩) J J ?_
    rintro ⟨c1, x1, xc1, kv1, o1, oc1, p1, pc1⟩ F hc1
    dsimp only at hc1
    repeat' (first | refine ai ?_ | refine aa ?_ | refine ab ?_ | refine ag ?_ | (refine aG af J J J J J J ?_; intro g5) | ((refine' am rfl ?_ J J ?_); rotate_left; first | exact ak af J J J J | exact aq af J J J J J J) | refine aj af 0 J J J J J J J J J J J J ?_)
    by_cases he : (dL p.c.c 1 msg).2 = 0
    · refine aB rfl (by simpa using he) ?_
      repeat' (first | refine ai ?_ | refine aa ?_ | refine ab ?_ | refine aA ?_ | refine ax ?_ | refine ag ?_ | (refine di af J J J ⟨J, trivial⟩ J J J J J J J J ?_; intro g) | (refine ce af 6 0 J J J J J J J J J (fun _ _ => rfl) qo J J (by unfold maxLen; omega) (by omega) J J ?_; intro sa sc) | ((refine' am rfl ?_ J J ?_); rotate_left; first | exact ak af J J J J | exact ae af 1 J J J J J | exact ae af 3 J J J J J | exact ae af 4 J J J J J | exact ae af 5 J J J J J) | refine aj af 3 J J J J J J J J J J J J ?_ | refine aj af 5 J J J J J J J J J J J J ?_)
      (refine aC af (fun _ => 3) J J ⟨J, trivial⟩ rfl fun w1 hm => ⟨({ p with c := ⟨c1, x1, xc1, kv1, o1, oc1, p1, pc1⟩, up := p.up ++ [msg], u := sa, uc := sc }, F, Fs), ?_, ?_, ?_⟩)
      · unfold dX dy
        rw [if_pos hk0]
        unfold uu
        dsimp only
        rw [if_pos he, hc1]
      · simp only [PC, List.length_append, List.length_singleton]
      · have h1 := (hm.mask [false, false, true, false, false, false, true, true, true, true, false, true] rfl).perm ((List.perm_middle (l₁ := [_, _, _, _])).symm)
        unfold uq
        simp only [List.length_append, List.length_singleton, List.flatMap_append, List.flatMap_singleton]
        exact h1
    · refine ar rfl (by simpa using he) ?_
      repeat' (first | refine ai ?_ | refine aa ?_ | refine ab ?_ | refine aA ?_ | refine ay ?_ | refine ax ?_ | refine ag ?_ | ((refine' am rfl ?_ J J ?_); rotate_left; first | exact ak af J J J J | exact ae af 0 J J J J J | exact ae af 4 J J J J J) | refine aj af 2 J J J J J J J J J J J J ?_ | refine aj af 4 J J J J J J J J J J J J ?_)
      (refine aC af (fun _ => 2) J J ⟨J, trivial⟩ rfl fun w1 hm => ⟨({ p with c := ⟨c1, x1, xc1, kv1, o1, oc1, p1, pc1⟩ }, F, Fs), ?_, rfl, ?_⟩)
      · unfold dX dy
        rw [if_pos hk0]
        unfold uu
        dsimp only
        rw [if_neg he, hc1]
      · exact (hm.mask [false, true, false, false, false, true, true, true, true, false, true] rfl).perm ((List.perm_middle (l₁ := [_, _, _, _])).symm)
  by_cases hk1 : k = 1
  · skip
    refine ar rfl (by simpa using hk0) ?_
    repeat' (first | refine ai ?_ | refine aa ?_ | refine ab ?_ | refine ag ?_ | ((refine' am rfl ?_ J J ?_); rotate_left; first | exact ak af J J J J | exact aq af J J J J J J))
    refine aB rfl (by simpa using hk1) ?_
    repeat' (first | refine ai ?_ | refine aa ?_ | ((refine' am rfl ?_ J J ?_); rotate_left; first | exact ak af J J J J | exact ae af 1 J J J J J | exact ae af 2 J J J J J))
    refine eU (σ := NV) (fun s _ => s.c = (dL p.s.c 1 msg).1) (fun s => .tuple ⟨[.agg ⟨NC s⟩, .int .i64 (dL p.s.c 1 msg).2]⟩) (fun s F w => NOk F w s) rfl (av J J J J ⟨J, J, J, trivial⟩ rfl (by kernel_rfl)) (fun w1 hm => (ka (A := Fs) p.s 1 msg w1 (hm.2.get (i := 8) rfl).2.1 (Ds hvs (by omega) rfl (hm.2.get (i := 8) rfl).2.1).1 (Ds hvs (by omega) rfl (hm.2.get (i := 8) rfl).2.1).2 (hg.below hm.below)).mono fun e w2 ⟨s, h1, h2, h3⟩ => by
      obtain ⟨F, hF⟩ := kb hm (fun b hb => dM hm.2 (i := 8) rfl b hb) h3
      exact ⟨s, F, h1, h2, hF⟩) J J ?_
    rintro ⟨c1, x1, xc1, kv1, o1, oc1, p1, pc1⟩ F hc1
    dsimp only at hc1
    repeat' (first | refine ai ?_ | refine aa ?_ | refine ab ?_ | refine ag ?_ | (refine aG af J J J J J J ?_; intro g5) | ((refine' am rfl ?_ J J ?_); rotate_left; first | exact ak af J J J J | exact aq af J J J J J J) | refine aj af 0 J J J J J J J J J J J J ?_)
    by_cases he : (dL p.s.c 1 msg).2 = 0
    · refine aB rfl (by simpa using he) ?_
      repeat' (first | refine ai ?_ | refine aa ?_ | refine ab ?_ | refine aA ?_ | refine ax ?_ | refine ag ?_ | (refine di af J J J ⟨J, trivial⟩ J J J J J J J J ?_; intro g) | (refine ce af 7 0 J J J J J J J J J (fun _ _ => rfl) qo J J (by unfold maxLen; omega) (by omega) J J ?_; intro sa sc) | ((refine' am rfl ?_ J J ?_); rotate_left; first | exact ak af J J J J | exact ae af 1 J J J J J | exact ae af 3 J J J J J | exact ae af 4 J J J J J | exact ae af 5 J J J J J) | refine aj af 3 J J J J J J J J J J J J ?_ | refine aj af 5 J J J J J J J J J J J J ?_)
      (refine aC af (fun _ => 3) J J ⟨J, trivial⟩ rfl fun w1 hm => ⟨({ p with s := ⟨c1, x1, xc1, kv1, o1, oc1, p1, pc1⟩, dn := p.dn ++ [msg], d := sa, dc := sc }, Fc, F), ?_, ?_, ?_⟩)
      · unfold dX dy
        rw [if_neg hk0, if_pos hk1]
        unfold Ao
        dsimp only
        rw [if_pos he, hc1]
      · simp only [PC, List.length_append, List.length_singleton]
      · have h1 := (hm.mask [false, false, true, false, false, false, true, true, true, true, true, false] rfl).perm ((List.perm_middle (l₁ := [_, _, _, _, _])).symm)
        unfold uq
        simp only [List.length_append, List.length_singleton, List.flatMap_append, List.flatMap_singleton]
        exact h1
    · refine ar rfl (by simpa using he) ?_
      repeat' (first | refine ai ?_ | refine aa ?_ | refine ab ?_ | refine aA ?_ | refine ay ?_ | refine ax ?_ | refine ag ?_ | ((refine' am rfl ?_ J J ?_); rotate_left; first | exact ak af J J J J | exact ae af 0 J J J J J | exact ae af 4 J J J J J) | refine aj af 2 J J J J J J J J J J J J ?_ | refine aj af 4 J J J J J J J J J J J J ?_)
      (refine aC af (fun _ => 2) J J ⟨J, trivial⟩ rfl fun w1 hm => ⟨({ p with s := ⟨c1, x1, xc1, kv1, o1, oc1, p1, pc1⟩ }, Fc, F), ?_, rfl, ?_⟩)
      · unfold dX dy
        rw [if_neg hk0, if_pos hk1]
        unfold Ao
        dsimp only
        rw [if_neg he, hc1]
      · exact (hm.mask [false, true, false, false, false, true, true, true, true, true, false] rfl).perm ((List.perm_middle (l₁ := [_, _, _, _, _])).symm)
  by_cases hk2 : k = 2
  · skip
    refine ar rfl (by simpa using hk0) ?_
    repeat' (first | refine ai ?_ | refine aa ?_ | refine ab ?_ | refine ag ?_ | ((refine' am rfl ?_ J J ?_); rotate_left; first | exact ak af J J J J | exact aq af J J J J J J))
    refine ar rfl (by simpa using hk1) ?_
    repeat' (first | refine ai ?_ | refine aa ?_ | refine ab ?_ | refine ag ?_ | ((refine' am rfl ?_ J J ?_); rotate_left; first | exact ak af J J J J | exact aq af J J J J J J))
    refine aB rfl (by simpa using hk2) ?_
    repeat' (first | refine ai ?_ | refine aa ?_ | ((refine' am rfl ?_ J J ?_); rotate_left; first | exact ak af J J J J | exact ae af 2 J J J J J))
    refine eU (σ := NV × (Option Addr × Nat)) (fun s _ => s.1.c = (jF p.c.c).1) (fun s => .tuple ⟨[.agg ⟨NC s.1⟩, .slice s.2.1 p.c.c.ou.length s.2.2]⟩) (fun s F w => NOk F w s.1 ∧ Rws F w 4 fC s.2.1 p.c.c.ou) rfl (av J J J J ⟨J, trivial⟩ rfl (by kernel_rfl)) (fun w1 hm => (lx (A := Fc) p.c w1 (hm.2.get (i := 7) rfl).2.1 (Ds hvc (by omega) rfl (hm.2.get (i := 7) rfl).2.1).1).mono fun e w2 ⟨v', pp, h1, h2, h3, h4⟩ => ⟨(v', pp), _, h1, h2, Mem.out hm (A := Fc) (fun b hb => dM hm.2 (i := 7) rfl b hb) h3.2 (fun F w => NOk F w v' ∧ Rws F w 4 fC pp.1 p.c.c.ou) ⟨h3.1.lt, (h4.mono fun _ => .inr).lt⟩ (fun F w3 w4 hk h => ⟨h.1.agree hk, h.2.agree hk⟩)⟩) J J ?_
    rintro ⟨⟨c1, x1, xc1, kv1, o1, oc1, p1, pc1⟩, la, lc⟩ F hc1
    dsimp only at hc1
    repeat' (first | refine ai ?_ | refine aa ?_ | refine ab ?_ | refine aJ ?_ | refine ag ?_ | (refine aG af J J J J J J ?_; intro g9) | ((refine' am rfl ?_ J J ?_); rotate_left; first | exact ak af J J J J | exact ae af 0 J J J J J | exact bh af J J J J J J J) | refine aj af 0 J J J J J J J J J J J J ?_ | refine aj af 4 J J J J J J J J J J J J ?_)
    have hln : p.c.c.ou.length ≤ 100000000 := by have h9 := hmc; unfold cu at h9; omega
    refine cK (σ := cL) (Fq p.c.c.ou p.s.c p.fine) (fun q => [(87, [], .int .i64 ((q.j : Nat) : Int)), (86, [], .int .i64 ((p.c.c.ou.length : Nat) : Int)), (85, [], .slice la p.c.c.ou.length lc), (2, [], .pointer (some ⟨g2, 0, none⟩)), (4, [], .pointer (some ⟨g4, 0, none⟩))]) (fun q => .rep F (fun w => NOk F w ⟨c1, x1, xc1, kv1, o1, oc1, p1, pc1⟩ ∧ Rws F w 4 fC la p.c.c.ou) :: .cl g4 53 [.int .i64 0, .int .i64 0, .int .i64 0, .int .i64 0, .int .i64 0, .int .i64 0, .int .i64 0, .int .i64 0, .int .i64 0, .int .i64 0, .int .i64 0, .slice none 0 0, .slice none 0 0, .slice none 0 0, .bool false, .int .i64 0, .int .i64 0, .int .i64 0, .int .i64 0, .int .i64 0, .int .i64 0, .int .i64 0, .int .i64 0, .int .i64 0, .int .i64 0, .int .i64 0, .slice none 0 0, .slice none 0 0, .slice none 0 0, .bool false, .int .i64 0, .slice none 0 0, .slice none 0 0, .slice none 0 0, .slice none 0 0, .bool false] :: .cl g2 53 [.int .i64 (⟨c1, x1, xc1, kv1, o1, oc1, p1, pc1⟩ : NV).c.sd, .int .i64 (⟨c1, x1, xc1, kv1, o1, oc1, p1, pc1⟩ : NV).c.nx, .int .i64 (⟨c1, x1, xc1, kv1, o1, oc1, p1, pc1⟩ : NV).c.la, .int .i64 (⟨c1, x1, xc1, kv1, o1, oc1, p1, pc1⟩ : NV).c.aw, .int .i64 (⟨c1, x1, xc1, kv1, o1, oc1, p1, pc1⟩ : NV).c.sz, .int .i64 (⟨c1, x1, xc1, kv1, o1, oc1, p1, pc1⟩ : NV).c.sw.size, .int .i64 (⟨c1, x1, xc1, kv1, o1, oc1, p1, pc1⟩ : NV).c.sw.left, .int .i64 (⟨c1, x1, xc1, kv1, o1, oc1, p1, pc1⟩ : NV).c.sw.held, .int .i64 (⟨c1, x1, xc1, kv1, o1, oc1, p1, pc1⟩ : NV).c.rw.size, .int .i64 (⟨c1, x1, xc1, kv1, o1, oc1, p1, pc1⟩ : NV).c.rw.left, .int .i64 (⟨c1, x1, xc1, kv1, o1, oc1, p1, pc1⟩ : NV).c.rw.held, .slice (⟨c1, x1, xc1, kv1, o1, oc1, p1, pc1⟩ : NV).x (⟨c1, x1, xc1, kv1, o1, oc1, p1, pc1⟩ : NV).kv.length (⟨c1, x1, xc1, kv1, o1, oc1, p1, pc1⟩ : NV).xc, .slice (⟨c1, x1, xc1, kv1, o1, oc1, p1, pc1⟩ : NV).o (⟨c1, x1, xc1, kv1, o1, oc1, p1, pc1⟩ : NV).c.ou.length (⟨c1, x1, xc1, kv1, o1, oc1, p1, pc1⟩ : NV).oc, .slice (⟨c1, x1, xc1, kv1, o1, oc1, p1, pc1⟩ : NV).p (⟨c1, x1, xc1, kv1, o1, oc1, p1, pc1⟩ : NV).c.pg.length (⟨c1, x1, xc1, kv1, o1, oc1, p1, pc1⟩ : NV).pc, .bool (⟨c1, x1, xc1, kv1, o1, oc1, p1, pc1⟩ : NV).c.cl, .int .i64 q.y.c.sd, .int .i64 q.y.c.nx, .int .i64 q.y.c.la, .int .i64 q.y.c.aw, .int .i64 q.y.c.sz, .int .i64 q.y.c.sw.size, .int .i64 q.y.c.sw.left, .int .i64 q.y.c.sw.held, .int .i64 q.y.c.rw.size, .int .i64 q.y.c.rw.left, .int .i64 q.y.c.rw.held, .slice q.y.x q.y.kv.length q.y.xc, .slice q.y.o q.y.c.ou.length q.y.oc, .slice q.y.p q.y.c.pg.length q.y.pc, .bool q.y.c.cl, .int .i64 1, .slice p.u p.up.length p.uc, .slice p.d p.dn.length p.dc, .slice p.gs p.gS.length p.gsc, .slice p.gc p.gC.length p.gcc, .bool q.b] :: .own p.u p.uc 9 1 p.up.length (p.up.flatMap sC) :: .own p.d p.dc 9 1 p.dn.length (p.dn.flatMap sC) :: .own p.gs p.gsc 9 1 p.gS.length (p.gS.flatMap sC) :: .own p.gc p.gcc 9 1 p.gC.length (p.gC.flatMap sC) :: .rep q.F (fun w => NOk q.F w q.y) :: M) (fun q => p.c.c.ou.length - q.j) ⟨0, p.s, Fs, p.fine⟩ [false, true, true, false, true, true, true, true, true, false, true] ⟨Nat.zero_le _, rfl, hvs, Nat.le_add_right_of_le hms⟩ ⟨J, J, J, J, J, trivial⟩ rfl ?_
    intro q hI
    have hj0 := hI.j
    by_cases hj : q.j < p.c.c.ou.length
    · obtain ⟨f, hf⟩ : ∃ f, p.c.c.ou[q.j]? = some f := ⟨p.c.c.ou[q.j], List.getElem?_eq_getElem hj⟩
      have hfd := Ck hvc f (List.mem_of_getElem? hf)
      have hqm := hI.m
      have hfe := hI.eq
      rw [eJ hf, lC] at hfe
      refine ai ?_
      refine aa ?_
      refine fV (p := ∃ b off, la = some ⟨b, off, none⟩ ∧ ∀ w, (NOk F w ⟨c1, x1, xc1, kv1, o1, oc1, p1, pc1⟩ ∧ Rws F w 4 fC la p.c.c.ou) → w.rangeAt b (off + q.j * 4) (fC f)) (fun w hM => ?_) ?_
      · obtain ⟨_, hS, _⟩ := hM.2.get (i := 0) rfl
        obtain ⟨b, off, hx, hh⟩ := nv hS.2 (by omega)
        exact ⟨b, off, hx, fun w2 h2 => hh w2 h2.2 q.j f hf⟩
      rintro ⟨yl, ol, hla, hr⟩
      rw [hla]
      rw [hla] at hr
      repeat' (first | refine ai ?_ | refine ab ?_ | refine ag ?_ | ((refine' am rfl ?_ J J ?_); rotate_left; exact aq af J J J J J J))
      refine aB rfl (decide_eq_true (by omega)) ?_
      repeat' (first | refine ai ?_ | refine aa ?_ | refine ab ?_ | refine ay ?_ | refine aJ ?_ | refine ag ?_ | (refine aG af J J J J J J ?_; intro g12) | ((refine' am rfl ?_ J J ?_); rotate_left; first | exact cm af (m := 4) q.j J J J J J J J J (fun _ => rfl) (fun _ => hj) | exact nt af 0 (cs := fC f) J J J J J J (fun _ w hp => hr w hp) | exact ak af J J J J | exact ae af 0 J J J J J | exact ae af 3 J J J J J) | refine aj af 0 J J J J J J J J J J J J ?_)
      refine eU (σ := NV) (fun s _ => s.c = (aH q.y.c f).1) (fun s => .tuple ⟨[.agg ⟨NC s⟩, .int .i64 (aH q.y.c f).2]⟩) (fun s F w => NOk F w s) rfl (av J J J J ⟨J, J, trivial⟩ rfl (by kernel_rfl)) (fun w1 hm => (qU (A := q.F) q.y f w1 (hm.2.get (i := 8) rfl).2.1 hI.v (by omega) hfd (hg.below hm.below)).mono fun e w2 ⟨s, h1, h2, h3⟩ => by
        obtain ⟨F, hF⟩ := kb hm (fun b hb => dM hm.2 (i := 8) rfl b hb) h3
        exact ⟨s, F, h1, h2, hF⟩) J J ?_
      rintro ⟨c2, x2, xc2, kv2, o2, oc2, p2, pc2⟩ F2 hc2
      dsimp only at hc2
      repeat' (first | refine ai ?_ | refine aa ?_ | refine ab ?_ | refine ax ?_ | refine ag ?_ | (refine aG af J J J J J J ?_; intro g13) | ((refine' am rfl ?_ J J ?_); rotate_left; first | exact bN J J J J J (by omega) | exact ak af J J J J | exact aq af J J J J J J | exact bK J J J J J | exact ae af 0 J J J J J | exact ae af 5 J J J J J) | refine aj af 0 J J J J J J J J J J J J ?_ | refine aj af 5 J J J J J J J J J J J J ?_)
      have hmf := qR hI.v f
      refine fU (M' := .rep F (fun w => NOk F w ⟨c1, x1, xc1, kv1, o1, oc1, p1, pc1⟩ ∧ Rws F w 4 fC la p.c.c.ou) :: .cl g4 53 [.int .i64 0, .int .i64 0, .int .i64 0, .int .i64 0, .int .i64 0, .int .i64 0, .int .i64 0, .int .i64 0, .int .i64 0, .int .i64 0, .int .i64 0, .slice none 0 0, .slice none 0 0, .slice none 0 0, .bool false, .int .i64 0, .int .i64 0, .int .i64 0, .int .i64 0, .int .i64 0, .int .i64 0, .int .i64 0, .int .i64 0, .int .i64 0, .int .i64 0, .int .i64 0, .slice none 0 0, .slice none 0 0, .slice none 0 0, .bool false, .int .i64 0, .slice none 0 0, .slice none 0 0, .slice none 0 0, .slice none 0 0, .bool false] :: .cl g2 53 [.int .i64 (⟨c1, x1, xc1, kv1, o1, oc1, p1, pc1⟩ : NV).c.sd, .int .i64 (⟨c1, x1, xc1, kv1, o1, oc1, p1, pc1⟩ : NV).c.nx, .int .i64 (⟨c1, x1, xc1, kv1, o1, oc1, p1, pc1⟩ : NV).c.la, .int .i64 (⟨c1, x1, xc1, kv1, o1, oc1, p1, pc1⟩ : NV).c.aw, .int .i64 (⟨c1, x1, xc1, kv1, o1, oc1, p1, pc1⟩ : NV).c.sz, .int .i64 (⟨c1, x1, xc1, kv1, o1, oc1, p1, pc1⟩ : NV).c.sw.size, .int .i64 (⟨c1, x1, xc1, kv1, o1, oc1, p1, pc1⟩ : NV).c.sw.left, .int .i64 (⟨c1, x1, xc1, kv1, o1, oc1, p1, pc1⟩ : NV).c.sw.held, .int .i64 (⟨c1, x1, xc1, kv1, o1, oc1, p1, pc1⟩ : NV).c.rw.size, .int .i64 (⟨c1, x1, xc1, kv1, o1, oc1, p1, pc1⟩ : NV).c.rw.left, .int .i64 (⟨c1, x1, xc1, kv1, o1, oc1, p1, pc1⟩ : NV).c.rw.held, .slice (⟨c1, x1, xc1, kv1, o1, oc1, p1, pc1⟩ : NV).x (⟨c1, x1, xc1, kv1, o1, oc1, p1, pc1⟩ : NV).kv.length (⟨c1, x1, xc1, kv1, o1, oc1, p1, pc1⟩ : NV).xc, .slice (⟨c1, x1, xc1, kv1, o1, oc1, p1, pc1⟩ : NV).o (⟨c1, x1, xc1, kv1, o1, oc1, p1, pc1⟩ : NV).c.ou.length (⟨c1, x1, xc1, kv1, o1, oc1, p1, pc1⟩ : NV).oc, .slice (⟨c1, x1, xc1, kv1, o1, oc1, p1, pc1⟩ : NV).p (⟨c1, x1, xc1, kv1, o1, oc1, p1, pc1⟩ : NV).c.pg.length (⟨c1, x1, xc1, kv1, o1, oc1, p1, pc1⟩ : NV).pc, .bool (⟨c1, x1, xc1, kv1, o1, oc1, p1, pc1⟩ : NV).c.cl, .int .i64 (⟨q.j + 1, ⟨c2, x2, xc2, kv2, o2, oc2, p2, pc2⟩, F2, q.b && ((aH q.y.c f).2 == 0)⟩ : cL).y.c.sd, .int .i64 (⟨q.j + 1, ⟨c2, x2, xc2, kv2, o2, oc2, p2, pc2⟩, F2, q.b && ((aH q.y.c f).2 == 0)⟩ : cL).y.c.nx, .int .i64 (⟨q.j + 1, ⟨c2, x2, xc2, kv2, o2, oc2, p2, pc2⟩, F2, q.b && ((aH q.y.c f).2 == 0)⟩ : cL).y.c.la, .int .i64 (⟨q.j + 1, ⟨c2, x2, xc2, kv2, o2, oc2, p2, pc2⟩, F2, q.b && ((aH q.y.c f).2 == 0)⟩ : cL).y.c.aw, .int .i64 (⟨q.j + 1, ⟨c2, x2, xc2, kv2, o2, oc2, p2, pc2⟩, F2, q.b && ((aH q.y.c f).2 == 0)⟩ : cL).y.c.sz, .int .i64 (⟨q.j + 1, ⟨c2, x2, xc2, kv2, o2, oc2, p2, pc2⟩, F2, q.b && ((aH q.y.c f).2 == 0)⟩ : cL).y.c.sw.size, .int .i64 (⟨q.j + 1, ⟨c2, x2, xc2, kv2, o2, oc2, p2, pc2⟩, F2, q.b && ((aH q.y.c f).2 == 0)⟩ : cL).y.c.sw.left, .int .i64 (⟨q.j + 1, ⟨c2, x2, xc2, kv2, o2, oc2, p2, pc2⟩, F2, q.b && ((aH q.y.c f).2 == 0)⟩ : cL).y.c.sw.held, .int .i64 (⟨q.j + 1, ⟨c2, x2, xc2, kv2, o2, oc2, p2, pc2⟩, F2, q.b && ((aH q.y.c f).2 == 0)⟩ : cL).y.c.rw.size, .int .i64 (⟨q.j + 1, ⟨c2, x2, xc2, kv2, o2, oc2, p2, pc2⟩, F2, q.b && ((aH q.y.c f).2 == 0)⟩ : cL).y.c.rw.left, .int .i64 (⟨q.j + 1, ⟨c2, x2, xc2, kv2, o2, oc2, p2, pc2⟩, F2, q.b && ((aH q.y.c f).2 == 0)⟩ : cL).y.c.rw.held, .slice (⟨q.j + 1, ⟨c2, x2, xc2, kv2, o2, oc2, p2, pc2⟩, F2, q.b && ((aH q.y.c f).2 == 0)⟩ : cL).y.x (⟨q.j + 1, ⟨c2, x2, xc2, kv2, o2, oc2, p2, pc2⟩, F2, q.b && ((aH q.y.c f).2 == 0)⟩ : cL).y.kv.length (⟨q.j + 1, ⟨c2, x2, xc2, kv2, o2, oc2, p2, pc2⟩, F2, q.b && ((aH q.y.c f).2 == 0)⟩ : cL).y.xc, .slice (⟨q.j + 1, ⟨c2, x2, xc2, kv2, o2, oc2, p2, pc2⟩, F2, q.b && ((aH q.y.c f).2 == 0)⟩ : cL).y.o (⟨q.j + 1, ⟨c2, x2, xc2, kv2, o2, oc2, p2, pc2⟩, F2, q.b && ((aH q.y.c f).2 == 0)⟩ : cL).y.c.ou.length (⟨q.j + 1, ⟨c2, x2, xc2, kv2, o2, oc2, p2, pc2⟩, F2, q.b && ((aH q.y.c f).2 == 0)⟩ : cL).y.oc, .slice (⟨q.j + 1, ⟨c2, x2, xc2, kv2, o2, oc2, p2, pc2⟩, F2, q.b && ((aH q.y.c f).2 == 0)⟩ : cL).y.p (⟨q.j + 1, ⟨c2, x2, xc2, kv2, o2, oc2, p2, pc2⟩, F2, q.b && ((aH q.y.c f).2 == 0)⟩ : cL).y.c.pg.length (⟨q.j + 1, ⟨c2, x2, xc2, kv2, o2, oc2, p2, pc2⟩, F2, q.b && ((aH q.y.c f).2 == 0)⟩ : cL).y.pc, .bool (⟨q.j + 1, ⟨c2, x2, xc2, kv2, o2, oc2, p2, pc2⟩, F2, q.b && ((aH q.y.c f).2 == 0)⟩ : cL).y.c.cl, .int .i64 1, .slice p.u p.up.length p.uc, .slice p.d p.dn.length p.dc, .slice p.gs p.gS.length p.gsc, .slice p.gc p.gC.length p.gcc, .bool (⟨q.j + 1, ⟨c2, x2, xc2, kv2, o2, oc2, p2, pc2⟩, F2, q.b && ((aH q.y.c f).2 == 0)⟩ : cL).b] :: .own p.u p.uc 9 1 p.up.length (p.up.flatMap sC) :: .own p.d p.dc 9 1 p.dn.length (p.dn.flatMap sC) :: .own p.gs p.gsc 9 1 p.gS.length (p.gS.flatMap sC) :: .own p.gc p.gcc 9 1 p.gC.length (p.gC.flatMap sC) :: .rep (⟨q.j + 1, ⟨c2, x2, xc2, kv2, o2, oc2, p2, pc2⟩, F2, q.b && ((aH q.y.c f).2 == 0)⟩ : cL).F (fun w => NOk (⟨q.j + 1, ⟨c2, x2, xc2, kv2, o2, oc2, p2, pc2⟩, F2, q.b && ((aH q.y.c f).2 == 0)⟩ : cL).F w (⟨q.j + 1, ⟨c2, x2, xc2, kv2, o2, oc2, p2, pc2⟩, F2, q.b && ((aH q.y.c f).2 == 0)⟩ : cL).y) :: M) (fun w hM => ?_) ?_
      · have h1 := hM.mask [false, true, false, true, true, true, true, true, true, true, false] rfl
        rw [← hla] at h1
        exact h1.perm (List.perm_middle (l₁ := [_, _, _, _, _, _, _])).symm
      · refine fU (M' := .rep F (fun w => NOk F w ⟨c1, x1, xc1, kv1, o1, oc1, p1, pc1⟩ ∧ Rws F w 4 fC la p.c.c.ou) :: .cl g4 53 [.int .i64 0, .int .i64 0, .int .i64 0, .int .i64 0, .int .i64 0, .int .i64 0, .int .i64 0, .int .i64 0, .int .i64 0, .int .i64 0, .int .i64 0, .slice none 0 0, .slice none 0 0, .slice none 0 0, .bool false, .int .i64 0, .int .i64 0, .int .i64 0, .int .i64 0, .int .i64 0, .int .i64 0, .int .i64 0, .int .i64 0, .int .i64 0, .int .i64 0, .int .i64 0, .slice none 0 0, .slice none 0 0, .slice none 0 0, .bool false, .int .i64 0, .slice none 0 0, .slice none 0 0, .slice none 0 0, .slice none 0 0, .bool false] :: .cl g2 53 [.int .i64 (⟨c1, x1, xc1, kv1, o1, oc1, p1, pc1⟩ : NV).c.sd, .int .i64 (⟨c1, x1, xc1, kv1, o1, oc1, p1, pc1⟩ : NV).c.nx, .int .i64 (⟨c1, x1, xc1, kv1, o1, oc1, p1, pc1⟩ : NV).c.la, .int .i64 (⟨c1, x1, xc1, kv1, o1, oc1, p1, pc1⟩ : NV).c.aw, .int .i64 (⟨c1, x1, xc1, kv1, o1, oc1, p1, pc1⟩ : NV).c.sz, .int .i64 (⟨c1, x1, xc1, kv1, o1, oc1, p1, pc1⟩ : NV).c.sw.size, .int .i64 (⟨c1, x1, xc1, kv1, o1, oc1, p1, pc1⟩ : NV).c.sw.left, .int .i64 (⟨c1, x1, xc1, kv1, o1, oc1, p1, pc1⟩ : NV).c.sw.held, .int .i64 (⟨c1, x1, xc1, kv1, o1, oc1, p1, pc1⟩ : NV).c.rw.size, .int .i64 (⟨c1, x1, xc1, kv1, o1, oc1, p1, pc1⟩ : NV).c.rw.left, .int .i64 (⟨c1, x1, xc1, kv1, o1, oc1, p1, pc1⟩ : NV).c.rw.held, .slice (⟨c1, x1, xc1, kv1, o1, oc1, p1, pc1⟩ : NV).x (⟨c1, x1, xc1, kv1, o1, oc1, p1, pc1⟩ : NV).kv.length (⟨c1, x1, xc1, kv1, o1, oc1, p1, pc1⟩ : NV).xc, .slice (⟨c1, x1, xc1, kv1, o1, oc1, p1, pc1⟩ : NV).o (⟨c1, x1, xc1, kv1, o1, oc1, p1, pc1⟩ : NV).c.ou.length (⟨c1, x1, xc1, kv1, o1, oc1, p1, pc1⟩ : NV).oc, .slice (⟨c1, x1, xc1, kv1, o1, oc1, p1, pc1⟩ : NV).p (⟨c1, x1, xc1, kv1, o1, oc1, p1, pc1⟩ : NV).c.pg.length (⟨c1, x1, xc1, kv1, o1, oc1, p1, pc1⟩ : NV).pc, .bool (⟨c1, x1, xc1, kv1, o1, oc1, p1, pc1⟩ : NV).c.cl, .int .i64 (⟨q.j + 1, ⟨c2, x2, xc2, kv2, o2, oc2, p2, pc2⟩, F2, q.b && ((aH q.y.c f).2 == 0)⟩ : cL).y.c.sd, .int .i64 (⟨q.j + 1, ⟨c2, x2, xc2, kv2, o2, oc2, p2, pc2⟩, F2, q.b && ((aH q.y.c f).2 == 0)⟩ : cL).y.c.nx, .int .i64 (⟨q.j + 1, ⟨c2, x2, xc2, kv2, o2, oc2, p2, pc2⟩, F2, q.b && ((aH q.y.c f).2 == 0)⟩ : cL).y.c.la, .int .i64 (⟨q.j + 1, ⟨c2, x2, xc2, kv2, o2, oc2, p2, pc2⟩, F2, q.b && ((aH q.y.c f).2 == 0)⟩ : cL).y.c.aw, .int .i64 (⟨q.j + 1, ⟨c2, x2, xc2, kv2, o2, oc2, p2, pc2⟩, F2, q.b && ((aH q.y.c f).2 == 0)⟩ : cL).y.c.sz, .int .i64 (⟨q.j + 1, ⟨c2, x2, xc2, kv2, o2, oc2, p2, pc2⟩, F2, q.b && ((aH q.y.c f).2 == 0)⟩ : cL).y.c.sw.size, .int .i64 (⟨q.j + 1, ⟨c2, x2, xc2, kv2, o2, oc2, p2, pc2⟩, F2, q.b && ((aH q.y.c f).2 == 0)⟩ : cL).y.c.sw.left, .int .i64 (⟨q.j + 1, ⟨c2, x2, xc2, kv2, o2, oc2, p2, pc2⟩, F2, q.b && ((aH q.y.c f).2 == 0)⟩ : cL).y.c.sw.held, .int .i64 (⟨q.j + 1, ⟨c2, x2, xc2, kv2, o2, oc2, p2, pc2⟩, F2, q.b && ((aH q.y.c f).2 == 0)⟩ : cL).y.c.rw.size, .int .i64 (⟨q.j + 1, ⟨c2, x2, xc2, kv2, o2, oc2, p2, pc2⟩, F2, q.b && ((aH q.y.c f).2 == 0)⟩ : cL).y.c.rw.left, .int .i64 (⟨q.j + 1, ⟨c2, x2, xc2, kv2, o2, oc2, p2, pc2⟩, F2, q.b && ((aH q.y.c f).2 == 0)⟩ : cL).y.c.rw.held, .slice (⟨q.j + 1, ⟨c2, x2, xc2, kv2, o2, oc2, p2, pc2⟩, F2, q.b && ((aH q.y.c f).2 == 0)⟩ : cL).y.x (⟨q.j + 1, ⟨c2, x2, xc2, kv2, o2, oc2, p2, pc2⟩, F2, q.b && ((aH q.y.c f).2 == 0)⟩ : cL).y.kv.length (⟨q.j + 1, ⟨c2, x2, xc2, kv2, o2, oc2, p2, pc2⟩, F2, q.b && ((aH q.y.c f).2 == 0)⟩ : cL).y.xc, .slice (⟨q.j + 1, ⟨c2, x2, xc2, kv2, o2, oc2, p2, pc2⟩, F2, q.b && ((aH q.y.c f).2 == 0)⟩ : cL).y.o (⟨q.j + 1, ⟨c2, x2, xc2, kv2, o2, oc2, p2, pc2⟩, F2, q.b && ((aH q.y.c f).2 == 0)⟩ : cL).y.c.ou.length (⟨q.j + 1, ⟨c2, x2, xc2, kv2, o2, oc2, p2, pc2⟩, F2, q.b && ((aH q.y.c f).2 == 0)⟩ : cL).y.oc, .slice (⟨q.j + 1, ⟨c2, x2, xc2, kv2, o2, oc2, p2, pc2⟩, F2, q.b && ((aH q.y.c f).2 == 0)⟩ : cL).y.p (⟨q.j + 1, ⟨c2, x2, xc2, kv2, o2, oc2, p2, pc2⟩, F2, q.b && ((aH q.y.c f).2 == 0)⟩ : cL).y.c.pg.length (⟨q.j + 1, ⟨c2, x2, xc2, kv2, o2, oc2, p2, pc2⟩, F2, q.b && ((aH q.y.c f).2 == 0)⟩ : cL).y.pc, .bool (⟨q.j + 1, ⟨c2, x2, xc2, kv2, o2, oc2, p2, pc2⟩, F2, q.b && ((aH q.y.c f).2 == 0)⟩ : cL).y.c.cl, .int .i64 1, .slice p.u p.up.length p.uc, .slice p.d p.dn.length p.dc, .slice p.gs p.gS.length p.gsc, .slice p.gc p.gC.length p.gcc, .bool (⟨q.j + 1, ⟨c2, x2, xc2, kv2, o2, oc2, p2, pc2⟩, F2, q.b && ((aH q.y.c f).2 == 0)⟩ : cL).b] :: .own p.u p.uc 9 1 p.up.length (p.up.flatMap sC) :: .own p.d p.dc 9 1 p.dn.length (p.dn.flatMap sC) :: .own p.gs p.gsc 9 1 p.gS.length (p.gS.flatMap sC) :: .own p.gc p.gcc 9 1 p.gC.length (p.gC.flatMap sC) :: .rep (⟨q.j + 1, ⟨c2, x2, xc2, kv2, o2, oc2, p2, pc2⟩, F2, q.b && ((aH q.y.c f).2 == 0)⟩ : cL).F (fun w => NOk (⟨q.j + 1, ⟨c2, x2, xc2, kv2, o2, oc2, p2, pc2⟩, F2, q.b && ((aH q.y.c f).2 == 0)⟩ : cL).F w (⟨q.j + 1, ⟨c2, x2, xc2, kv2, o2, oc2, p2, pc2⟩, F2, q.b && ((aH q.y.c f).2 == 0)⟩ : cL).y) :: M) (fun w hM => hM) ?_
        rw [← hla]
        refine bA (⟨q.j + 1, ⟨c2, x2, xc2, kv2, o2, oc2, p2, pc2⟩, F2, q.b && ((aH q.y.c f).2 == 0)⟩ : cL) [] ⟨hj, by rw [hfe, ← hc2]; rfl, by show VN c2; rw [hc2]; exact hI.v.feed f, by show cu c2 ≤ _; rw [hc2]; dsimp only; omega⟩ (show p.c.c.ou.length - (q.j + 1) < p.c.c.ou.length - q.j by omega) ⟨J, J, J, J, J, trivial⟩ rfl
    · have hjl : q.j = p.c.c.ou.length := by omega
      repeat' (first | refine ai ?_ | refine aa ?_ | refine ab ?_ | refine ag ?_ | ((refine' am rfl ?_ J J ?_); rotate_left; exact aq af J J J J J J))
      refine ar rfl (decide_eq_false (by omega)) ?_
      repeat' (first | refine ai ?_ | refine aa ?_ | refine ab ?_ | refine aA ?_ | refine bq ?_ | refine aN ?_ | refine ax ?_ | refine aT ?_ | refine ag ?_ | ((refine' am rfl ?_ J J ?_); rotate_left; exact ae af 2 J J J J J) | refine aj af 1 J J J J J J J J J J J J ?_)
      (refine aC af (fun _ => 1) J J ⟨J, trivial⟩ rfl fun w1 hm => ⟨({ p with c := ⟨c1, x1, xc1, kv1, o1, oc1, p1, pc1⟩, s := q.y, fine := q.b }, F, q.F), ?_, rfl, ?_⟩)
      · have hfe := hI.eq
        rw [hjl, List.drop_length, lC] at hfe
        unfold dX dy
        rw [if_neg hk0, if_neg hk1, if_pos hk2]
        unfold lD
        dsimp only
        rw [hfe, hc1]
      · exact ((hm.mask [true, false, false, true, true, true, true, true] rfl).repTo (fun w h => h.1) (fun w1 w2 hk h => h.agree hk)).perm ((List.perm_middle (l₁ := [_, _, _, _])).symm)
  by_cases hk3 : k = 3
  · skip
    refine ar rfl (by simpa using hk0) ?_
    repeat' (first | refine ai ?_ | refine aa ?_ | refine ab ?_ | refine ag ?_ | ((refine' am rfl ?_ J J ?_); rotate_left; first | exact ak af J J J J | exact aq af J J J J J J))
    refine ar rfl (by simpa using hk1) ?_
    repeat' (first | refine ai ?_ | refine aa ?_ | refine ab ?_ | refine ag ?_ | ((refine' am rfl ?_ J J ?_); rotate_left; first | exact ak af J J J J | exact aq af J J J J J J))
    refine ar rfl (by simpa using hk2) ?_
    repeat' (first | refine ai ?_ | refine aa ?_ | refine ab ?_ | refine ag ?_ | ((refine' am rfl ?_ J J ?_); rotate_left; first | exact ak af J J J J | exact aq af J J J J J J))
    refine aB rfl (by simpa using hk3) ?_
    repeat' (first | refine ai ?_ | refine aa ?_ | ((refine' am rfl ?_ J J ?_); rotate_left; first | exact ak af J J J J | exact ae af 2 J J J J J))
    refine eU (σ := NV × (Option Addr × Nat)) (fun s _ => s.1.c = (jF p.s.c).1) (fun s => .tuple ⟨[.agg ⟨NC s.1⟩, .slice s.2.1 p.s.c.ou.length s.2.2]⟩) (fun s F w => NOk F w s.1 ∧ Rws F w 4 fC s.2.1 p.s.c.ou) rfl (av J J J J ⟨J, trivial⟩ rfl (by kernel_rfl)) (fun w1 hm => (lx (A := Fs) p.s w1 (hm.2.get (i := 8) rfl).2.1 (Ds hvs (by omega) rfl (hm.2.get (i := 8) rfl).2.1).1).mono fun e w2 ⟨v', pp, h1, h2, h3, h4⟩ => ⟨(v', pp), _, h1, h2, Mem.out hm (A := Fs) (fun b hb => dM hm.2 (i := 8) rfl b hb) h3.2 (fun F w => NOk F w v' ∧ Rws F w 4 fC pp.1 p.s.c.ou) ⟨h3.1.lt, (h4.mono fun _ => .inr).lt⟩ (fun F w3 w4 hk h => ⟨h.1.agree hk, h.2.agree hk⟩)⟩) J J ?_
    rintro ⟨⟨c1, x1, xc1, kv1, o1, oc1, p1, pc1⟩, la, lc⟩ F hc1
    dsimp only at hc1
    repeat' (first | refine ai ?_ | refine aa ?_ | refine ab ?_ | refine aJ ?_ | refine ag ?_ | (refine aG af J J J J J J ?_; intro g9) | ((refine' am rfl ?_ J J ?_); rotate_left; first | exact ak af J J J J | exact ae af 0 J J J J J | exact bh af J J J J J J J) | refine aj af 0 J J J J J J J J J J J J ?_ | refine aj af 4 J J J J J J J J J J J J ?_)
    have hln : p.s.c.ou.length ≤ 100000000 := by have h9 := hms; unfold cu at h9; omega
    refine cK (σ := cL) (Fq p.s.c.ou p.c.c p.fine) (fun q => [(120, [], .int .i64 ((q.j : Nat) : Int)), (119, [], .int .i64 ((p.s.c.ou.length : Nat) : Int)), (118, [], .slice la p.s.c.ou.length lc), (2, [], .pointer (some ⟨g2, 0, none⟩)), (4, [], .pointer (some ⟨g4, 0, none⟩))]) (fun q => .rep F (fun w => NOk F w ⟨c1, x1, xc1, kv1, o1, oc1, p1, pc1⟩ ∧ Rws F w 4 fC la p.s.c.ou) :: .cl g4 53 [.int .i64 0, .int .i64 0, .int .i64 0, .int .i64 0, .int .i64 0, .int .i64 0, .int .i64 0, .int .i64 0, .int .i64 0, .int .i64 0, .int .i64 0, .slice none 0 0, .slice none 0 0, .slice none 0 0, .bool false, .int .i64 0, .int .i64 0, .int .i64 0, .int .i64 0, .int .i64 0, .int .i64 0, .int .i64 0, .int .i64 0, .int .i64 0, .int .i64 0, .int .i64 0, .slice none 0 0, .slice none 0 0, .slice none 0 0, .bool false, .int .i64 0, .slice none 0 0, .slice none 0 0, .slice none 0 0, .slice none 0 0, .bool false] :: .cl g2 53 [.int .i64 q.y.c.sd, .int .i64 q.y.c.nx, .int .i64 q.y.c.la, .int .i64 q.y.c.aw, .int .i64 q.y.c.sz, .int .i64 q.y.c.sw.size, .int .i64 q.y.c.sw.left, .int .i64 q.y.c.sw.held, .int .i64 q.y.c.rw.size, .int .i64 q.y.c.rw.left, .int .i64 q.y.c.rw.held, .slice q.y.x q.y.kv.length q.y.xc, .slice q.y.o q.y.c.ou.length q.y.oc, .slice q.y.p q.y.c.pg.length q.y.pc, .bool q.y.c.cl, .int .i64 (⟨c1, x1, xc1, kv1, o1, oc1, p1, pc1⟩ : NV).c.sd, .int .i64 (⟨c1, x1, xc1, kv1, o1, oc1, p1, pc1⟩ : NV).c.nx, .int .i64 (⟨c1, x1, xc1, kv1, o1, oc1, p1, pc1⟩ : NV).c.la, .int .i64 (⟨c1, x1, xc1, kv1, o1, oc1, p1, pc1⟩ : NV).c.aw, .int .i64 (⟨c1, x1, xc1, kv1, o1, oc1, p1, pc1⟩ : NV).c.sz, .int .i64 (⟨c1, x1, xc1, kv1, o1, oc1, p1, pc1⟩ : NV).c.sw.size, .int .i64 (⟨c1, x1, xc1, kv1, o1, oc1, p1, pc1⟩ : NV).c.sw.left, .int .i64 (⟨c1, x1, xc1, kv1, o1, oc1, p1, pc1⟩ : NV).c.sw.held, .int .i64 (⟨c1, x1, xc1, kv1, o1, oc1, p1, pc1⟩ : NV).c.rw.size, .int .i64 (⟨c1, x1, xc1, kv1, o1, oc1, p1, pc1⟩ : NV).c.rw.left, .int .i64 (⟨c1, x1, xc1, kv1, o1, oc1, p1, pc1⟩ : NV).c.rw.held, .slice (⟨c1, x1, xc1, kv1, o1, oc1, p1, pc1⟩ : NV).x (⟨c1, x1, xc1, kv1, o1, oc1, p1, pc1⟩ : NV).kv.length (⟨c1, x1, xc1, kv1, o1, oc1, p1, pc1⟩ : NV).xc, .slice (⟨c1, x1, xc1, kv1, o1, oc1, p1, pc1⟩ : NV).o (⟨c1, x1, xc1, kv1, o1, oc1, p1, pc1⟩ : NV).c.ou.length (⟨c1, x1, xc1, kv1, o1, oc1, p1, pc1⟩ : NV).oc, .slice (⟨c1, x1, xc1, kv1, o1, oc1, p1, pc1⟩ : NV).p (⟨c1, x1, xc1, kv1, o1, oc1, p1, pc1⟩ : NV).c.pg.length (⟨c1, x1, xc1, kv1, o1, oc1, p1, pc1⟩ : NV).pc, .bool (⟨c1, x1, xc1, kv1, o1, oc1, p1, pc1⟩ : NV).c.cl, .int .i64 1, .slice p.u p.up.length p.uc, .slice p.d p.dn.length p.dc, .slice p.gs p.gS.length p.gsc, .slice p.gc p.gC.length p.gcc, .bool q.b] :: .own p.u p.uc 9 1 p.up.length (p.up.flatMap sC) :: .own p.d p.dc 9 1 p.dn.length (p.dn.flatMap sC) :: .own p.gs p.gsc 9 1 p.gS.length (p.gS.flatMap sC) :: .own p.gc p.gcc 9 1 p.gC.length (p.gC.flatMap sC) :: .rep q.F (fun w => NOk q.F w q.y) :: M) (fun q => p.s.c.ou.length - q.j) ⟨0, p.c, Fc, p.fine⟩ [false, true, true, false, true, true, true, true, true, true, false] ⟨Nat.zero_le _, rfl, hvc, Nat.le_add_right_of_le hmc⟩ ⟨J, J, J, J, J, trivial⟩ rfl ?_
    intro q hI
    have hj0 := hI.j
    by_cases hj : q.j < p.s.c.ou.length
    · obtain ⟨f, hf⟩ : ∃ f, p.s.c.ou[q.j]? = some f := ⟨p.s.c.ou[q.j], List.getElem?_eq_getElem hj⟩
      have hfd := Ck hvs f (List.mem_of_getElem? hf)
      have hqm := hI.m
      have hfe := hI.eq
      rw [eJ hf, lC] at hfe
      refine ai ?_
      refine aa ?_
      refine fV (p := ∃ b off, la = some ⟨b, off, none⟩ ∧ ∀ w, (NOk F w ⟨c1, x1, xc1, kv1, o1, oc1, p1, pc1⟩ ∧ Rws F w 4 fC la p.s.c.ou) → w.rangeAt b (off + q.j * 4) (fC f)) (fun w hM => ?_) ?_
      · obtain ⟨_, hS, _⟩ := hM.2.get (i := 0) rfl
        obtain ⟨b, off, hx, hh⟩ := nv hS.2 (by omega)
        exact ⟨b, off, hx, fun w2 h2 => hh w2 h2.2 q.j f hf⟩
      rintro ⟨yl, ol, hla, hr⟩
      rw [hla]
      rw [hla] at hr
      repeat' (first | refine ai ?_ | refine ab ?_ | refine ag ?_ | ((refine' am rfl ?_ J J ?_); rotate_left; exact aq af J J J J J J))
      refine aB rfl (decide_eq_true (by omega)) ?_
      repeat' (first | refine ai ?_ | refine aa ?_ | refine ab ?_ | refine ay ?_ | refine aJ ?_ | refine ag ?_ | (refine aG af J J J J J J ?_; intro g12) | ((refine' am rfl ?_ J J ?_); rotate_left; first | exact cm af (m := 4) q.j J J J J J J J J (fun _ => rfl) (fun _ => hj) | exact nt af 0 (cs := fC f) J J J J J J (fun _ w hp => hr w hp) | exact ak af J J J J | exact ae af 0 J J J J J | exact ae af 3 J J J J J) | refine aj af 0 J J J J J J J J J J J J ?_)
      refine eU (σ := NV) (fun s _ => s.c = (aH q.y.c f).1) (fun s => .tuple ⟨[.agg ⟨NC s⟩, .int .i64 (aH q.y.c f).2]⟩) (fun s F w => NOk F w s) rfl (av J J J J ⟨J, J, trivial⟩ rfl (by kernel_rfl)) (fun w1 hm => (qU (A := q.F) q.y f w1 (hm.2.get (i := 8) rfl).2.1 hI.v (by omega) hfd (hg.below hm.below)).mono fun e w2 ⟨s, h1, h2, h3⟩ => by
        obtain ⟨F, hF⟩ := kb hm (fun b hb => dM hm.2 (i := 8) rfl b hb) h3
        exact ⟨s, F, h1, h2, hF⟩) J J ?_
      rintro ⟨c2, x2, xc2, kv2, o2, oc2, p2, pc2⟩ F2 hc2
      dsimp only at hc2
      repeat' (first | refine ai ?_ | refine aa ?_ | refine ab ?_ | refine ax ?_ | refine ag ?_ | (refine aG af J J J J J J ?_; intro g13) | ((refine' am rfl ?_ J J ?_); rotate_left; first | exact bN J J J J J (by omega) | exact ak af J J J J | exact aq af J J J J J J | exact bK J J J J J | exact ae af 0 J J J J J | exact ae af 5 J J J J J) | refine aj af 0 J J J J J J J J J J J J ?_ | refine aj af 5 J J J J J J J J J J J J ?_)
      have hmf := qR hI.v f
      refine fU (M' := .rep F (fun w => NOk F w ⟨c1, x1, xc1, kv1, o1, oc1, p1, pc1⟩ ∧ Rws F w 4 fC la p.s.c.ou) :: .cl g4 53 [.int .i64 0, .int .i64 0, .int .i64 0, .int .i64 0, .int .i64 0, .int .i64 0, .int .i64 0, .int .i64 0, .int .i64 0, .int .i64 0, .int .i64 0, .slice none 0 0, .slice none 0 0, .slice none 0 0, .bool false, .int .i64 0, .int .i64 0, .int .i64 0, .int .i64 0, .int .i64 0, .int .i64 0, .int .i64 0, .int .i64 0, .int .i64 0, .int .i64 0, .int .i64 0, .slice none 0 0, .slice none 0 0, .slice none 0 0, .bool false, .int .i64 0, .slice none 0 0, .slice none 0 0, .slice none 0 0, .slice none 0 0, .bool false] :: .cl g2 53 [.int .i64 (⟨q.j + 1, ⟨c2, x2, xc2, kv2, o2, oc2, p2, pc2⟩, F2, q.b && ((aH q.y.c f).2 == 0)⟩ : cL).y.c.sd, .int .i64 (⟨q.j + 1, ⟨c2, x2, xc2, kv2, o2, oc2, p2, pc2⟩, F2, q.b && ((aH q.y.c f).2 == 0)⟩ : cL).y.c.nx, .int .i64 (⟨q.j + 1, ⟨c2, x2, xc2, kv2, o2, oc2, p2, pc2⟩, F2, q.b && ((aH q.y.c f).2 == 0)⟩ : cL).y.c.la, .int .i64 (⟨q.j + 1, ⟨c2, x2, xc2, kv2, o2, oc2, p2, pc2⟩, F2, q.b && ((aH q.y.c f).2 == 0)⟩ : cL).y.c.aw, .int .i64 (⟨q.j + 1, ⟨c2, x2, xc2, kv2, o2, oc2, p2, pc2⟩, F2, q.b && ((aH q.y.c f).2 == 0)⟩ : cL).y.c.sz, .int .i64 (⟨q.j + 1, ⟨c2, x2, xc2, kv2, o2, oc2, p2, pc2⟩, F2, q.b && ((aH q.y.c f).2 == 0)⟩ : cL).y.c.sw.size, .int .i64 (⟨q.j + 1, ⟨c2, x2, xc2, kv2, o2, oc2, p2, pc2⟩, F2, q.b && ((aH q.y.c f).2 == 0)⟩ : cL).y.c.sw.left, .int .i64 (⟨q.j + 1, ⟨c2, x2, xc2, kv2, o2, oc2, p2, pc2⟩, F2, q.b && ((aH q.y.c f).2 == 0)⟩ : cL).y.c.sw.held, .int .i64 (⟨q.j + 1, ⟨c2, x2, xc2, kv2, o2, oc2, p2, pc2⟩, F2, q.b && ((aH q.y.c f).2 == 0)⟩ : cL).y.c.rw.size, .int .i64 (⟨q.j + 1, ⟨c2, x2, xc2, kv2, o2, oc2, p2, pc2⟩, F2, q.b && ((aH q.y.c f).2 == 0)⟩ : cL).y.c.rw.left, .int .i64 (⟨q.j + 1, ⟨c2, x2, xc2, kv2, o2, oc2, p2, pc2⟩, F2, q.b && ((aH q.y.c f).2 == 0)⟩ : cL).y.c.rw.held, .slice (⟨q.j + 1, ⟨c2, x2, xc2, kv2, o2, oc2, p2, pc2⟩, F2, q.b && ((aH q.y.c f).2 == 0)⟩ : cL).y.x (⟨q.j + 1, ⟨c2, x2, xc2, kv2, o2, oc2, p2, pc2⟩, F2, q.b && ((aH q.y.c f).2 == 0)⟩ : cL).y.kv.length (⟨q.j + 1, ⟨c2, x2, xc2, kv2, o2, oc2, p2, pc2⟩, F2, q.b && ((aH q.y.c f).2 == 0)⟩ : cL).y.xc, .slice (⟨q.j + 1, ⟨c2, x2, xc2, kv2, o2, oc2, p2, pc2⟩, F2, q.b && ((aH q.y.c f).2 == 0)⟩ : cL).y.o (⟨q.j + 1, ⟨c2, x2, xc2, kv2, o2, oc2, p2, pc2⟩, F2, q.b && ((aH q.y.c f).2 == 0)⟩ : cL).y.c.ou.length (⟨q.j + 1, ⟨c2, x2, xc2, kv2, o2, oc2, p2, pc2⟩, F2, q.b && ((aH q.y.c f).2 == 0)⟩ : cL).y.oc, .slice (⟨q.j + 1, ⟨c2, x2, xc2, kv2, o2, oc2, p2, pc2⟩, F2, q.b && ((aH q.y.c f).2 == 0)⟩ : cL).y.p (⟨q.j + 1, ⟨c2, x2, xc2, kv2, o2, oc2, p2, pc2⟩, F2, q.b && ((aH q.y.c f).2 == 0)⟩ : cL).y.c.pg.length (⟨q.j + 1, ⟨c2, x2, xc2, kv2, o2, oc2, p2, pc2⟩, F2, q.b && ((aH q.y.c f).2 == 0)⟩ : cL).y.pc, .bool (⟨q.j + 1, ⟨c2, x2, xc2, kv2, o2, oc2, p2, pc2⟩, F2, q.b && ((aH q.y.c f).2 == 0)⟩ : cL).y.c.cl, .int .i64 (⟨c1, x1, xc1, kv1, o1, oc1, p1, pc1⟩ : NV).c.sd, .int .i64 (⟨c1, x1, xc1, kv1, o1, oc1, p1, pc1⟩ : NV).c.nx, .int .i64 (⟨c1, x1, xc1, kv1, o1, oc1, p1, pc1⟩ : NV).c.la, .int .i64 (⟨c1, x1, xc1, kv1, o1, oc1, p1, pc1⟩ : NV).c.aw, .int .i64 (⟨c1, x1, xc1, kv1, o1, oc1, p1, pc1⟩ : NV).c.sz, .int .i64 (⟨c1, x1, xc1, kv1, o1, oc1, p1, pc1⟩ : NV).c.sw.size, .int .i64 (⟨c1, x1, xc1, kv1, o1, oc1, p1, pc1⟩ : NV).c.sw.left, .int .i64 (⟨c1, x1, xc1, kv1, o1, oc1, p1, pc1⟩ : NV).c.sw.held, .int .i64 (⟨c1, x1, xc1, kv1, o1, oc1, p1, pc1⟩ : NV).c.rw.size, .int .i64 (⟨c1, x1, xc1, kv1, o1, oc1, p1, pc1⟩ : NV).c.rw.left, .int .i64 (⟨c1, x1, xc1, kv1, o1, oc1, p1, pc1⟩ : NV).c.rw.held, .slice (⟨c1, x1, xc1, kv1, o1, oc1, p1, pc1⟩ : NV).x (⟨c1, x1, xc1, kv1, o1, oc1, p1, pc1⟩ : NV).kv.length (⟨c1, x1, xc1, kv1, o1, oc1, p1, pc1⟩ : NV).xc, .slice (⟨c1, x1, xc1, kv1, o1, oc1, p1, pc1⟩ : NV).o (⟨c1, x1, xc1, kv1, o1, oc1, p1, pc1⟩ : NV).c.ou.length (⟨c1, x1, xc1, kv1, o1, oc1, p1, pc1⟩ : NV).oc, .slice (⟨c1, x1, xc1, kv1, o1, oc1, p1, pc1⟩ : NV).p (⟨c1, x1, xc1, kv1, o1, oc1, p1, pc1⟩ : NV).c.pg.length (⟨c1, x1, xc1, kv1, o1, oc1, p1, pc1⟩ : NV).pc, .bool (⟨c1, x1, xc1, kv1, o1, oc1, p1, pc1⟩ : NV).c.cl, .int .i64 1, .slice p.u p.up.length p.uc, .slice p.d p.dn.length p.dc, .slice p.gs p.gS.length p.gsc, .slice p.gc p.gC.length p.gcc, .bool (⟨q.j + 1, ⟨c2, x2, xc2, kv2, o2, oc2, p2, pc2⟩, F2, q.b && ((aH q.y.c f).2 == 0)⟩ : cL).b] :: .own p.u p.uc 9 1 p.up.length (p.up.flatMap sC) :: .own p.d p.dc 9 1 p.dn.length (p.dn.flatMap sC) :: .own p.gs p.gsc 9 1 p.gS.length (p.gS.flatMap sC) :: .own p.gc p.gcc 9 1 p.gC.length (p.gC.flatMap sC) :: .rep (⟨q.j + 1, ⟨c2, x2, xc2, kv2, o2, oc2, p2, pc2⟩, F2, q.b && ((aH q.y.c f).2 == 0)⟩ : cL).F (fun w => NOk (⟨q.j + 1, ⟨c2, x2, xc2, kv2, o2, oc2, p2, pc2⟩, F2, q.b && ((aH q.y.c f).2 == 0)⟩ : cL).F w (⟨q.j + 1, ⟨c2, x2, xc2, kv2, o2, oc2, p2, pc2⟩, F2, q.b && ((aH q.y.c f).2 == 0)⟩ : cL).y) :: M) (fun w hM => ?_) ?_
      · have h1 := hM.mask [false, true, false, true, true, true, true, true, true, true, false] rfl
        rw [← hla] at h1
        exact h1.perm (List.perm_middle (l₁ := [_, _, _, _, _, _, _])).symm
      · refine fU (M' := .rep F (fun w => NOk F w ⟨c1, x1, xc1, kv1, o1, oc1, p1, pc1⟩ ∧ Rws F w 4 fC la p.s.c.ou) :: .cl g4 53 [.int .i64 0, .int .i64 0, .int .i64 0, .int .i64 0, .int .i64 0, .int .i64 0, .int .i64 0, .int .i64 0, .int .i64 0, .int .i64 0, .int .i64 0, .slice none 0 0, .slice none 0 0, .slice none 0 0, .bool false, .int .i64 0, .int .i64 0, .int .i64 0, .int .i64 0, .int .i64 0, .int .i64 0, .int .i64 0, .int .i64 0, .int .i64 0, .int .i64 0, .int .i64 0, .slice none 0 0, .slice none 0 0, .slice none 0 0, .bool false, .int .i64 0, .slice none 0 0, .slice none 0 0, .slice none 0 0, .slice none 0 0, .bool false] :: .cl g2 53 [.int .i64 (⟨q.j + 1, ⟨c2, x2, xc2, kv2, o2, oc2, p2, pc2⟩, F2, q.b && ((aH q.y.c f).2 == 0)⟩ : cL).y.c.sd, .int .i64 (⟨q.j + 1, ⟨c2, x2, xc2, kv2, o2, oc2, p2, pc2⟩, F2, q.b && ((aH q.y.c f).2 == 0)⟩ : cL).y.c.nx, .int .i64 (⟨q.j + 1, ⟨c2, x2, xc2, kv2, o2, oc2, p2, pc2⟩, F2, q.b && ((aH q.y.c f).2 == 0)⟩ : cL).y.c.la, .int .i64 (⟨q.j + 1, ⟨c2, x2, xc2, kv2, o2, oc2, p2, pc2⟩, F2, q.b && ((aH q.y.c f).2 == 0)⟩ : cL).y.c.aw, .int .i64 (⟨q.j + 1, ⟨c2, x2, xc2, kv2, o2, oc2, p2, pc2⟩, F2, q.b && ((aH q.y.c f).2 == 0)⟩ : cL).y.c.sz, .int .i64 (⟨q.j + 1, ⟨c2, x2, xc2, kv2, o2, oc2, p2, pc2⟩, F2, q.b && ((aH q.y.c f).2 == 0)⟩ : cL).y.c.sw.size, .int .i64 (⟨q.j + 1, ⟨c2, x2, xc2, kv2, o2, oc2, p2, pc2⟩, F2, q.b && ((aH q.y.c f).2 == 0)⟩ : cL).y.c.sw.left, .int .i64 (⟨q.j + 1, ⟨c2, x2, xc2, kv2, o2, oc2, p2, pc2⟩, F2, q.b && ((aH q.y.c f).2 == 0)⟩ : cL).y.c.sw.held, .int .i64 (⟨q.j + 1, ⟨c2, x2, xc2, kv2, o2, oc2, p2, pc2⟩, F2, q.b && ((aH q.y.c f).2 == 0)⟩ : cL).y.c.rw.size, .int .i64 (⟨q.j + 1, ⟨c2, x2, xc2, kv2, o2, oc2, p2, pc2⟩, F2, q.b && ((aH q.y.c f).2 == 0)⟩ : cL).y.c.rw.left, .int .i64 (⟨q.j + 1, ⟨c2, x2, xc2, kv2, o2, oc2, p2, pc2⟩, F2, q.b && ((aH q.y.c f).2 == 0)⟩ : cL).y.c.rw.held, .slice (⟨q.j + 1, ⟨c2, x2, xc2, kv2, o2, oc2, p2, pc2⟩, F2, q.b && ((aH q.y.c f).2 == 0)⟩ : cL).y.x (⟨q.j + 1, ⟨c2, x2, xc2, kv2, o2, oc2, p2, pc2⟩, F2, q.b && ((aH q.y.c f).2 == 0)⟩ : cL).y.kv.length (⟨q.j + 1, ⟨c2, x2, xc2, kv2, o2, oc2, p2, pc2⟩, F2, q.b && ((aH q.y.c f).2 == 0)⟩ : cL).y.xc, .slice (⟨q.j + 1, ⟨c2, x2, xc2, kv2, o2, oc2, p2, pc2⟩, F2, q.b && ((aH q.y.c f).2 == 0)⟩ : cL).y.o (⟨q.j + 1, ⟨c2, x2, xc2, kv2, o2, oc2, p2, pc2⟩, F2, q.b && ((aH q.y.c f).2 == 0)⟩ : cL).y.c.ou.length (⟨q.j + 1, ⟨c2, x2, xc2, kv2, o2, oc2, p2, pc2⟩, F2, q.b && ((aH q.y.c f).2 == 0)⟩ : cL).y.oc, .slice (⟨q.j + 1, ⟨c2, x2, xc2, kv2, o2, oc2, p2, pc2⟩, F2, q.b && ((aH q.y.c f).2 == 0)⟩ : cL).y.p (⟨q.j + 1, ⟨c2, x2, xc2, kv2, o2, oc2, p2, pc2⟩, F2, q.b && ((aH q.y.c f).2 == 0)⟩ : cL).y.c.pg.length (⟨q.j + 1, ⟨c2, x2, xc2, kv2, o2, oc2, p2, pc2⟩, F2, q.b && ((aH q.y.c f).2 == 0)⟩ : cL).y.pc, .bool (⟨q.j + 1, ⟨c2, x2, xc2, kv2, o2, oc2, p2, pc2⟩, F2, q.b && ((aH q.y.c f).2 == 0)⟩ : cL).y.c.cl, .int .i64 (⟨c1, x1, xc1, kv1, o1, oc1, p1, pc1⟩ : NV).c.sd, .int .i64 (⟨c1, x1, xc1, kv1, o1, oc1, p1, pc1⟩ : NV).c.nx, .int .i64 (⟨c1, x1, xc1, kv1, o1, oc1, p1, pc1⟩ : NV).c.la, .int .i64 (⟨c1, x1, xc1, kv1, o1, oc1, p1, pc1⟩ : NV).c.aw, .int .i64 (⟨c1, x1, xc1, kv1, o1, oc1, p1, pc1⟩ : NV).c.sz, .int .i64 (⟨c1, x1, xc1, kv1, o1, oc1, p1, pc1⟩ : NV).c.sw.size, .int .i64 (⟨c1, x1, xc1, kv1, o1, oc1, p1, pc1⟩ : NV).c.sw.left, .int .i64 (⟨c1, x1, xc1, kv1, o1, oc1, p1, pc1⟩ : NV).c.sw.held, .int .i64 (⟨c1, x1, xc1, kv1, o1, oc1, p1, pc1⟩ : NV).c.rw.size, .int .i64 (⟨c1, x1, xc1, kv1, o1, oc1, p1, pc1⟩ : NV).c.rw.left, .int .i64 (⟨c1, x1, xc1, kv1, o1, oc1, p1, pc1⟩ : NV).c.rw.held, .slice (⟨c1, x1, xc1, kv1, o1, oc1, p1, pc1⟩ : NV).x (⟨c1, x1, xc1, kv1, o1, oc1, p1, pc1⟩ : NV).kv.length (⟨c1, x1, xc1, kv1, o1, oc1, p1, pc1⟩ : NV).xc, .slice (⟨c1, x1, xc1, kv1, o1, oc1, p1, pc1⟩ : NV).o (⟨c1, x1, xc1, kv1, o1, oc1, p1, pc1⟩ : NV).c.ou.length (⟨c1, x1, xc1, kv1, o1, oc1, p1, pc1⟩ : NV).oc, .slice (⟨c1, x1, xc1, kv1, o1, oc1, p1, pc1⟩ : NV).p (⟨c1, x1, xc1, kv1, o1, oc1, p1, pc1⟩ : NV).c.pg.length (⟨c1, x1, xc1, kv1, o1, oc1, p1, pc1⟩ : NV).pc, .bool (⟨c1, x1, xc1, kv1, o1, oc1, p1, pc1⟩ : NV).c.cl, .int .i64 1, .slice p.u p.up.length p.uc, .slice p.d p.dn.length p.dc, .slice p.gs p.gS.length p.gsc, .slice p.gc p.gC.length p.gcc, .bool (⟨q.j + 1, ⟨c2, x2, xc2, kv2, o2, oc2, p2, pc2⟩, F2, q.b && ((aH q.y.c f).2 == 0)⟩ : cL).b] :: .own p.u p.uc 9 1 p.up.length (p.up.flatMap sC) :: .own p.d p.dc 9 1 p.dn.length (p.dn.flatMap sC) :: .own p.gs p.gsc 9 1 p.gS.length (p.gS.flatMap sC) :: .own p.gc p.gcc 9 1 p.gC.length (p.gC.flatMap sC) :: .rep (⟨q.j + 1, ⟨c2, x2, xc2, kv2, o2, oc2, p2, pc2⟩, F2, q.b && ((aH q.y.c f).2 == 0)⟩ : cL).F (fun w => NOk (⟨q.j + 1, ⟨c2, x2, xc2, kv2, o2, oc2, p2, pc2⟩, F2, q.b && ((aH q.y.c f).2 == 0)⟩ : cL).F w (⟨q.j + 1, ⟨c2, x2, xc2, kv2, o2, oc2, p2, pc2⟩, F2, q.b && ((aH q.y.c f).2 == 0)⟩ : cL).y) :: M) (fun w hM => hM) ?_
        rw [← hla]
        refine bA (⟨q.j + 1, ⟨c2, x2, xc2, kv2, o2, oc2, p2, pc2⟩, F2, q.b && ((aH q.y.c f).2 == 0)⟩ : cL) [] ⟨hj, by rw [hfe, ← hc2]; rfl, by show VN c2; rw [hc2]; exact hI.v.feed f, by show cu c2 ≤ _; rw [hc2]; dsimp only; omega⟩ (show p.s.c.ou.length - (q.j + 1) < p.s.c.ou.length - q.j by omega) ⟨J, J, J, J, J, trivial⟩ rfl
    · have hjl : q.j = p.s.c.ou.length := by omega
      repeat' (first | refine ai ?_ | refine aa ?_ | refine ab ?_ | refine ag ?_ | ((refine' am rfl ?_ J J ?_); rotate_left; exact aq af J J J J J J))
      refine ar rfl (decide_eq_false (by omega)) ?_
      repeat' (first | refine ai ?_ | refine aa ?_ | refine ab ?_ | refine aA ?_ | refine bq ?_ | refine aN ?_ | refine ax ?_ | refine aT ?_ | refine ag ?_ | ((refine' am rfl ?_ J J ?_); rotate_left; exact ae af 2 J J J J J) | refine aj af 1 J J J J J J J J J J J J ?_)
      (refine aC af (fun _ => 1) J J ⟨J, trivial⟩ rfl fun w1 hm => ⟨({ p with s := ⟨c1, x1, xc1, kv1, o1, oc1, p1, pc1⟩, c := q.y, fine := q.b }, q.F, F), ?_, rfl, ?_⟩)
      · have hfe := hI.eq
        rw [hjl, List.drop_length, lC] at hfe
        unfold dX dy
        rw [if_neg hk0, if_neg hk1, if_neg hk2, if_pos hk3]
        unfold nO
        dsimp only
        rw [hfe, hc1]
      · exact ((hm.mask [true, false, false, true, true, true, true, true] rfl).repTo (fun w h => h.1) (fun w1 w2 hk h => h.agree hk)).perm ((List.perm_middle (l₁ := [_, _, _, _, _])).symm)
  by_cases hk4 : k = 4
  · skip
    refine ar rfl (by simpa using hk0) ?_
    repeat' (first | refine ai ?_ | refine aa ?_ | refine ab ?_ | refine ag ?_ | ((refine' am rfl ?_ J J ?_); rotate_left; first | exact ak af J J J J | exact aq af J J J J J J))
    refine ar rfl (by simpa using hk1) ?_
    repeat' (first | refine ai ?_ | refine aa ?_ | refine ab ?_ | refine ag ?_ | ((refine' am rfl ?_ J J ?_); rotate_left; first | exact ak af J J J J | exact aq af J J J J J J))
    refine ar rfl (by simpa using hk2) ?_
    repeat' (first | refine ai ?_ | refine aa ?_ | refine ab ?_ | refine ag ?_ | ((refine' am rfl ?_ J J ?_); rotate_left; first | exact ak af J J J J | exact aq af J J J J J J))
    refine ar rfl (by simpa using hk3) ?_
    repeat' (first | refine ai ?_ | refine aa ?_ | refine ab ?_ | refine ag ?_ | ((refine' am rfl ?_ J J ?_); rotate_left; first | exact ak af J J J J | exact aq af J J J J J J))
    refine aB rfl (by simpa using hk4) ?_
    repeat' (first | refine ai ?_ | refine aa ?_ | ((refine' am rfl ?_ J J ?_); rotate_left; first | exact ak af J J J J | exact ae af 2 J J J J J))
    refine eU (σ := NV) (fun s _ => s.c = (bY p.s.c 1).1) (fun s => .tuple ⟨[.agg ⟨NC s⟩, .string (bY p.s.c 1).2.1, .bool (bY p.s.c 1).2.2]⟩) (fun s F w => NOk F w s) rfl (av J J J J ⟨J, J, trivial⟩ rfl (by kernel_rfl)) (fun w1 hm => (qS (A := Fs) p.s 1 w1 (hm.2.get (i := 8) rfl).2.1 hvs (by omega)).mono fun e w2 ⟨s, h1, h2, h3⟩ => by
      obtain ⟨F, hF⟩ := kb hm (fun b hb => dM hm.2 (i := 8) rfl b hb) h3
      exact ⟨s, F, h1, h2, hF⟩) J J ?_
    rintro ⟨c1, x1, xc1, kv1, o1, oc1, p1, pc1⟩ F hc1
    dsimp only at hc1
    repeat' (first | refine ai ?_ | refine aa ?_ | refine ab ?_ | refine ag ?_ | (refine aG af J J J J J J ?_; intro g5) | ((refine' am rfl ?_ J J ?_); rotate_left; exact ak af J J J J) | refine aj af 0 J J J J J J J J J J J J ?_)
    by_cases he : (bY p.s.c 1).2.2 = true
    · refine aB rfl he ?_
      repeat' (first | refine ai ?_ | refine aa ?_ | refine ab ?_ | refine aA ?_ | refine ax ?_ | refine ag ?_ | (refine di af J J J ⟨J, trivial⟩ J J J J J J J J ?_; intro g) | (refine ce af 8 0 J J J J J J J J J (fun _ _ => rfl) qo J J (by unfold maxLen; omega) (by omega) J J ?_; intro sa sc) | ((refine' am rfl ?_ J J ?_); rotate_left; first | exact ak af J J J J | exact ae af 1 J J J J J | exact ae af 4 J J J J J | exact ae af 5 J J J J J) | refine aj af 3 J J J J J J J J J J J J ?_ | refine aj af 5 J J J J J J J J J J J J ?_)
      (refine aC af (fun _ => 3) J J ⟨J, trivial⟩ rfl fun w1 hm => ⟨({ p with s := ⟨c1, x1, xc1, kv1, o1, oc1, p1, pc1⟩, gS := p.gS ++ [(bY p.s.c 1).2.1], gs := sa, gsc := sc }, Fc, F), ?_, ?_, ?_⟩)
      · unfold dX dy
        rw [if_neg hk0, if_neg hk1, if_neg hk2, if_neg hk3, if_pos hk4]
        unfold pQ
        dsimp only
        rw [if_pos he, hc1]
      · simp only [PC, List.length_append, List.length_singleton]
      · have h1 := (hm.mask [false, false, true, false, false, false, true, true, true, true, true, false] rfl).perm ((List.perm_middle (l₁ := [_, _, _, _, _])).symm)
        unfold uq
        simp only [List.length_append, List.length_singleton, List.flatMap_append, List.flatMap_singleton]
        exact h1
    · refine ar rfl (eq_false_of_ne_true he) ?_
      repeat' (first | refine ai ?_ | refine aa ?_ | refine ab ?_ | refine aA ?_ | refine ay ?_ | refine ax ?_ | refine ag ?_ | ((refine' am rfl ?_ J J ?_); rotate_left; first | exact ak af J J J J | exact ae af 0 J J J J J | exact ae af 4 J J J J J) | refine aj af 2 J J J J J J J J J J J J ?_ | refine aj af 4 J J J J J J J J J J J J ?_)
      (refine aC af (fun _ => 2) J J ⟨J, trivial⟩ rfl fun w1 hm => ⟨({ p with s := ⟨c1, x1, xc1, kv1, o1, oc1, p1, pc1⟩ }, Fc, F), ?_, rfl, ?_⟩)
      · unfold dX dy
        rw [if_neg hk0, if_neg hk1, if_neg hk2, if_neg hk3, if_pos hk4]
        unfold pQ
        dsimp only
        rw [if_neg he, hc1]
      · exact (hm.mask [false, true, false, false, false, true, true, true, true, true, false] rfl).perm ((List.perm_middle (l₁ := [_, _, _, _, _])).symm)
  by_cases hk5 : k = 5
  · skip
    refine ar rfl (by simpa using hk0) ?_
    repeat' (first | refine ai ?_ | refine aa ?_ | refine ab ?_ | refine ag ?_ | ((refine' am rfl ?_ J J ?_); rotate_left; first | exact ak af J J J J | exact aq af J J J J J J))
    refine ar rfl (by simpa using hk1) ?_
    repeat' (first | refine ai ?_ | refine aa ?_ | refine ab ?_ | refine ag ?_ | ((refine' am rfl ?_ J J ?_); rotate_left; first | exact ak af J J J J | exact aq af J J J J J J))
    refine ar rfl (by simpa using hk2) ?_
    repeat' (first | refine ai ?_ | refine aa ?_ | refine ab ?_ | refine ag ?_ | ((refine' am rfl ?_ J J ?_); rotate_left; first | exact ak af J J J J | exact aq af J J J J J J))
    refine ar rfl (by simpa using hk3) ?_
    repeat' (first | refine ai ?_ | refine aa ?_ | refine ab ?_ | refine ag ?_ | ((refine' am rfl ?_ J J ?_); rotate_left; first | exact ak af J J J J | exact aq af J J J J J J))
    refine ar rfl (by simpa using hk4) ?_
    repeat' (first | refine ai ?_ | refine aa ?_ | refine ab ?_ | refine ag ?_ | ((refine' am rfl ?_ J J ?_); rotate_left; first | exact ak af J J J J | exact aq af J J J J J J))
    refine aB rfl (by simpa using hk5) ?_
    repeat' (first | refine ai ?_ | refine aa ?_ | ((refine' am rfl ?_ J J ?_); rotate_left; first | exact ak af J J J J | exact ae af 2 J J J J J))
    refine eU (σ := NV) (fun s _ => s.c = (bY p.c.c 1).1) (fun s => .tuple ⟨[.agg ⟨NC s⟩, .string (bY p.c.c 1).2.1, .bool (bY p.c.c 1).2.2]⟩) (fun s F w => NOk F w s) rfl (av J J J J ⟨J, J, trivial⟩ rfl (by kernel_rfl)) (fun w1 hm => (qS (A := Fc) p.c 1 w1 (hm.2.get (i := 7) rfl).2.1 hvc (by omega)).mono fun e w2 ⟨s, h1, h2, h3⟩ => by
      obtain ⟨F, hF⟩ := kb hm (fun b hb => dM hm.2 (i := 7) rfl b hb) h3
      exact ⟨s, F, h1, h2, hF⟩) J J ?_
    rintro ⟨c1, x1, xc1, kv1, o1, oc1, p1, pc1⟩ F hc1
    dsimp only at hc1
    repeat' (first | refine ai ?_ | refine aa ?_ | refine ab ?_ | refine ag ?_ | (refine aG af J J J J J J ?_; intro g5) | ((refine' am rfl ?_ J J ?_); rotate_left; exact ak af J J J J) | refine aj af 0 J J J J J J J J J J J J ?_)
    by_cases he : (bY p.c.c 1).2.2 = true
    · refine aB rfl he ?_
      repeat' (first | refine ai ?_ | refine aa ?_ | refine ab ?_ | refine aA ?_ | refine ax ?_ | refine ag ?_ | (refine di af J J J ⟨J, trivial⟩ J J J J J J J J ?_; intro g) | (refine ce af 9 0 J J J J J J J J J (fun _ _ => rfl) qo J J (by unfold maxLen; omega) (by omega) J J ?_; intro sa sc) | ((refine' am rfl ?_ J J ?_); rotate_left; first | exact ak af J J J J | exact ae af 1 J J J J J | exact ae af 4 J J J J J | exact ae af 5 J J J J J) | refine aj af 3 J J J J J J J J J J J J ?_ | refine aj af 5 J J J J J J J J J J J J ?_)
      (refine aC af (fun _ => 3) J J ⟨J, trivial⟩ rfl fun w1 hm => ⟨({ p with c := ⟨c1, x1, xc1, kv1, o1, oc1, p1, pc1⟩, gC := p.gC ++ [(bY p.c.c 1).2.1], gc := sa, gcc := sc }, F, Fs), ?_, ?_, ?_⟩)
      · unfold dX dy
        rw [if_neg hk0, if_neg hk1, if_neg hk2, if_neg hk3, if_neg hk4, if_pos hk5]
        unfold sg
        dsimp only
        rw [if_pos he, hc1]
      · simp only [PC, List.length_append, List.length_singleton]
      · have h1 := (hm.mask [false, false, true, false, false, false, true, true, true, true, false, true] rfl).perm ((List.perm_middle (l₁ := [_, _, _, _])).symm)
        unfold uq
        simp only [List.length_append, List.length_singleton, List.flatMap_append, List.flatMap_singleton]
        exact h1
    · refine ar rfl (eq_false_of_ne_true he) ?_
      repeat' (first | refine ai ?_ | refine aa ?_ | refine ab ?_ | refine aA ?_ | refine ay ?_ | refine ax ?_ | refine ag ?_ | ((refine' am rfl ?_ J J ?_); rotate_left; first | exact ak af J J J J | exact ae af 0 J J J J J | exact ae af 4 J J J J J) | refine aj af 2 J J J J J J J J J J J J ?_ | refine aj af 4 J J J J J J J J J J J J ?_)
      (refine aC af (fun _ => 2) J J ⟨J, trivial⟩ rfl fun w1 hm => ⟨({ p with c := ⟨c1, x1, xc1, kv1, o1, oc1, p1, pc1⟩ }, F, Fs), ?_, rfl, ?_⟩)
      · unfold dX dy
        rw [if_neg hk0, if_neg hk1, if_neg hk2, if_neg hk3, if_neg hk4, if_pos hk5]
        unfold sg
        dsimp only
        rw [if_neg he, hc1]
      · exact (hm.mask [false, true, false, false, false, true, true, true, true, false, true] rfl).perm ((List.perm_middle (l₁ := [_, _, _, _])).symm)
  refine ar rfl (by simpa using hk0) ?_
  repeat' (first | refine ai ?_ | refine aa ?_ | refine ab ?_ | refine ag ?_ | ((refine' am rfl ?_ J J ?_); rotate_left; first | exact ak af J J J J | exact aq af J J J J J J))
  refine ar rfl (by simpa using hk1) ?_
  repeat' (first | refine ai ?_ | refine aa ?_ | refine ab ?_ | refine ag ?_ | ((refine' am rfl ?_ J J ?_); rotate_left; first | exact ak af J J J J | exact aq af J J J J J J))
  refine ar rfl (by simpa using hk2) ?_
  repeat' (first | refine ai ?_ | refine aa ?_ | refine ab ?_ | refine ag ?_ | ((refine' am rfl ?_ J J ?_); rotate_left; first | exact ak af J J J J | exact aq af J J J J J J))
  refine ar rfl (by simpa using hk3) ?_
  repeat' (first | refine ai ?_ | refine aa ?_ | refine ab ?_ | refine ag ?_ | ((refine' am rfl ?_ J J ?_); rotate_left; first | exact ak af J J J J | exact aq af J J J J J J))
  refine ar rfl (by simpa using hk4) ?_
  repeat' (first | refine ai ?_ | refine aa ?_ | refine ab ?_ | refine ag ?_ | ((refine' am rfl ?_ J J ?_); rotate_left; first | exact ak af J J J J | exact aq af J J J J J J))
  refine ar rfl (by simpa using hk5) ?_
  repeat' (first | refine ai ?_ | refine aa ?_ | refine ab ?_ | refine aA ?_ | refine ay ?_ | refine ax ?_ | refine ag ?_ | ((refine' am rfl ?_ J J ?_); rotate_left; exact ae af 2 J J J J J) | refine aj af 0 J J J J J J J J J J J J ?_)
  (refine aC af (fun _ => 0) J J ⟨J, trivial⟩ rfl fun w1 hm => ⟨(p, Fc, Fs), ?_, rfl, ?_⟩)
  · unfold dX
    rw [if_neg hk0, if_neg hk1, if_neg hk2, if_neg hk3, if_neg hk4, if_neg hk5]
  · exact hm.mask [false, false, false, true, true, true, true, true, true] rfl
end Go.Proofs.YthiocbcokfondaaGreatDoor.Y
