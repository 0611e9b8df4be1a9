/- The law ConnOnce, walked. -/
import Derived.Test.YthiocbcokfondaaGreatDoorOCn28
import Derived.Test.YthiocbcokfondaaGreatDoorOBunQ
import Derived.Test.YthiocbcokfondaaGreatDoorOBunX
namespace Go.Proofs.YthiocbcokfondaaGreatDoor.Y
open Go.RowKit
theorem OpOk.old {A B : Nat → Prop} {w w1 : World} {o : vi} {hx : Option Addr} (h : OpOk A w o hx) (hb : Below w.heap.size w w1) : OpOk (fun b => B b ∨ b < w.heap.size) w1 o hx :=
 ⟨h.ms, h.hd, h.hl, (h.hR.lt.below hb).mono fun _ h => .inr h.2, h.fd, h.tt⟩
theorem x8 {F O : Nat → Prop} {w1 w2 : World} {s : NV} {x : Option Addr} {l : List bc} (h : OutN F w1 w2 s) (h4 : Rws (fun b => w1.heap.size ≤ b) w2 4 fC x l) (hO : ∀ b, F b → O b) : ∃ Fs : Nat → Prop, ∃ g : Nat → Prop, MemL w1.heap.size w2 [.rep Fs (fun w => NOk Fs w s ∧ Rws Fs w 4 fC x l)] ∧ (∀ f ∈ [Ent.rep Fs (fun w => NOk Fs w s ∧ Rws Fs w 4 fC x l)], ∀ b, f.mut b → g b) ∧ (∀ f ∈ [Ent.rep Fs (fun w => NOk Fs w s ∧ Rws Fs w 4 fC x l)], ∀ b, f.foot b → g b ∨ O b) ∧ (∀ b, g b → w1.heap.size ≤ b ∧ b < w2.heap.size) ∧ ∀ b, Fs b → F b ∨ w1.heap.size ≤ b := by
 refine ⟨fun b => (F b ∨ w1.heap.size ≤ b) ∧ b < w2.heap.size, fun b => w1.heap.size ≤ b ∧ b < w2.heap.size, ⟨⟨fun _ h => h.2, ⟨h.1.lt, h4.lt.mono fun b hb => ⟨.inr hb.1, hb.2⟩⟩, fun w3 w4 hk h => ⟨h.1.agree hk, h.2.agree hk⟩⟩, fun f hf => (by cases hf), trivial⟩, fun f hf b hm => ?_, fun f hf b hm => ?_, fun _ h => h, fun b hb => hb.1⟩
 · obtain rfl := List.mem_singleton.1 hf
   exact hm.elim
 · obtain rfl := List.mem_singleton.1 hf
   have hm' : (F b ∨ w1.heap.size ≤ b) ∧ b < w2.heap.size := hm
   rcases hm'.1 with h | h
   · exact .inr (hO b h)
   · exact .inl ⟨h, hm'.2⟩
theorem Mem.addRepO {w0 w : World} {M : List Ent} (h : Mem w0 w M) (p : World → Prop) (hp : ∀ w, p w) : Mem w0 w (.rep (fun _ => False) p :: M) :=
 ⟨h.1, ⟨fun _ h => h.elim, hp w, fun _ w2 _ _ => hp w2⟩, fun _ _ _ => ⟨fun hm => hm.elim, fun _ hf => hf.elim⟩, h.2⟩
structure OS where
 i : Nat
 v : NV
 F : Nat → Prop
attribute [local irreducible] Calls
set_option maxRecDepth 100000 in
set_option maxHeartbeats 32000000 in
theorem CI {A : Nat → Prop} (sd sz : Int) (x : Option Addr) (l : List (vi × Option Addr × Nat)) (cap : Nat) (w : World) (hR : Rws A w 14 (fun o => Ci o.1 o.2.1 o.2.2) x l) (hO : ∀ o ∈ l, OpOk A w o.1 o.2.1) (hlz : l.length ≤ 1000000000) (hg : MLen w) : Calls Tryz.prog 6 #[.int .i64 sd, .int .i64 sz, .slice x l.length cap] w fun e w' => e = .returned (.bool true) ∧ Below w.heap.size w w' := by
 refine aI Tryz.func6 rfl Tryz.ntmps6 J J ?_
 repeat' (first | refine ai ?_ | refine aa ?_ | refine ab ?_ | refine ag ?_ | ((refine' ap rfl ?_ J J ?_); rotate_left; exact ak af J J J J))
 refine aH (v := .tuple ⟨[.agg ⟨NC (eL (fQ sd sz).1)⟩, .int .i64 (fQ sd sz).2]⟩) rfl (au J J J J ⟨J, J, trivial⟩ rfl (by kernel_rfl)) (fun w1 hm => (rA sd sz w1).mono fun e w2 h => ⟨h.1, h.2⟩) J J ?_
 repeat' (first | refine ai ?_ | refine aa ?_ | refine ab ?_ | refine ag ?_ | (refine aD af J J J J J J ?_; intro g7) | ((refine' ap rfl ?_ J J ?_); rotate_left; first | exact ak af J J J J | exact aq af J J J J J J) | refine aj af 0 J J J J J J J J J J J J ?_)
 by_cases he : (fQ sd sz).2 = 0
 rotate_left
 · refine aA rfl (by simpa using he) ?_
   repeat' (first | refine ai ?_ | refine aa ?_ | refine ab ?_ | refine ax ?_ | refine ar ?_ | refine ag ?_ | ((refine' ap rfl ?_ J J ?_); rotate_left; exact ak af J J J J) | refine aH rfl (au J J J J trivial rfl (by kernel_rfl)) (fun w hm => tY w (hg.below hm.below)) J J ?_)
   refine ay af (fun _ => 0) J J trivial rfl fun w hm => ⟨?_, hm.below⟩
   rfl
 refine am rfl (by simpa using he) ?_
 repeat' (first | refine ai ?_ | refine aa ?_ | refine ab ?_ | refine az ?_ | refine aM ?_ | refine ag ?_ | ((refine' ap rfl ?_ J J ?_); rotate_left; exact ak af J J J J))
 obtain ⟨cn, hcn⟩ : ∃ c, (fQ sd sz).1 = c := ⟨_, rfl⟩
 have hvn : VN cn := by rw [← hcn]; exact VN.new he
 have hmn : bH cn ≤ 0 := by rw [← hcn]; unfold fQ; split <;> exact Nat.le_refl _
 have hmt : ∀ w, NOk (fun _ => False) w (eL cn) := fun w => by rw [← hcn]; unfold fQ; split <;> exact mB J J J
 rw [hcn]
 refine yV (M' := [.cl g7 28 [.int .i64 (eL cn).c.sd, .int .i64 (eL cn).c.nx, .int .i64 (eL cn).c.la, .int .i64 (eL cn).c.aw, .int .i64 (eL cn).c.sz, .int .i64 (eL cn).c.sw.size, .int .i64 (eL cn).c.sw.left, .int .i64 (eL cn).c.sw.held, .int .i64 (eL cn).c.rw.size, .int .i64 (eL cn).c.rw.left, .int .i64 (eL cn).c.rw.held, .slice (eL cn).x (eL cn).kv.length (eL cn).xc, .slice (eL cn).o (eL cn).c.ou.length (eL cn).oc, .slice (eL cn).p (eL cn).c.pg.length (eL cn).pc, .bool (eL cn).c.cl], .rep (fun _ => False) (fun w => NOk (fun _ => False) w (eL cn))]) (fun w1 hM => (hM.addRepO (fun w => NOk (fun _ => False) w (eL cn)) hmt).perm (List.Perm.swap _ _ _)) ?_
 refine dg (σ := OS) (fun q => q.i ≤ l.length ∧ q.i ≤ 40 ∧ VN q.v.c ∧ bH q.v.c ≤ 2 * q.i) (fun q => [(9, [], .int .i64 ((q.i : Nat) : Int)), (7, [], .pointer (some ⟨g7, 0, none⟩)), (2, [], .slice x l.length cap)]) (fun q => [.cl g7 28 [.int .i64 q.v.c.sd, .int .i64 q.v.c.nx, .int .i64 q.v.c.la, .int .i64 q.v.c.aw, .int .i64 q.v.c.sz, .int .i64 q.v.c.sw.size, .int .i64 q.v.c.sw.left, .int .i64 q.v.c.sw.held, .int .i64 q.v.c.rw.size, .int .i64 q.v.c.rw.left, .int .i64 q.v.c.rw.held, .slice q.v.x q.v.kv.length q.v.xc, .slice q.v.o q.v.c.ou.length q.v.oc, .slice q.v.p q.v.c.pg.length q.v.pc, .bool q.v.c.cl], .rep q.F (fun w => NOk q.F w q.v)]) (fun q => l.length - q.i) ⟨0, eL cn, fun _ => False⟩ [] ⟨Nat.zero_le _, Nat.zero_le _, hvn, hmn⟩ ⟨J, J, J, trivial⟩ rfl ?_
 rintro ⟨i, ⟨c0, x0, xc0, kv0, o0, oc0, p0, pc0⟩, F0⟩ ⟨hi1, hi2, hv, hms⟩
 dsimp only at hi1 hi2 hv hms
 refine k9 (p := c0.ks = kv0.map (·.k)) (fun w1 hM => (hM.2.get (i := 1) rfl).2.1.eq) fun heq0 => ?_
 by_cases hj : i < l.length ∧ i < 40
 · obtain ⟨s, hs⟩ : ∃ s, l[i]? = some s := ⟨l[i], List.getElem?_eq_getElem hj.1⟩
   have hkl0 : kv0.length ≤ 1000000000 := by
    have e : c0.ks.length = kv0.length := by rw [heq0, List.length_map]
    have h9 := hms
    unfold bH at h9
    omega
   obtain ⟨b, off, hx, _, _, hr⟩ := hR (by omega)
   subst hx
   have hj1 := hj.1
   have hrow : w.rangeAt b (off + i * 14) (Ci s.1 s.2.1 s.2.2) := hr i s hs
   repeat' (first | refine ai ?_ | refine aa ?_ | refine ab ?_ | refine ag ?_ | ((refine' ap rfl ?_ J J ?_); rotate_left; first | exact ak af J J J J | exact aq af J J J J J J | exact bY J J J J J | exact bp af J J J J J J J))
   refine aA rfl (by simp only [Bool.and_eq_true, decide_eq_true_eq]; omega) ?_
   repeat' (first | refine ai ?_ | refine ab ?_ | refine az ?_ | refine aM ?_)
   refine jA (fun b => F0 b ∨ b < w.heap.size) 11 [45, 10, 11] [39, 46, 47] [47] (fun w1 hm b hb => ⟨hb.elim (fun h => (hm.2.get (i := 1) rfl).1 b h) (fun h => Nat.lt_of_lt_of_le h hm.1.size), fun f hf => hb.elim (fun h => ga hm.2 (i := 1) rfl b h f hf) (fun h => jW hm h hf)⟩) aC rfl (by kernel_rfl) ?_
   iterate 4 (((refine' rh rfl ?_ J J J ?_); rotate_left; first | exact bX af (m := 14) i J J J J J J J J (fun _ => rfl) (fun _ => hj1) | exact ak af J J J J | exact ae af 0 J J J J J))
   ((refine' rh rfl ?_ J J J ?_); rotate_left; exact cx af (cs := Ci s.1 s.2.1 s.2.2) J J J J J (fun _ => hrow))
   refine lX (σ := (NV × (Option Addr × Nat)) × (Nat → Prop)) (fun r => r.1.1.c = cS (⟨c0, x0, xc0, kv0, o0, oc0, p0, pc0⟩ : NV).c s.1) (fun r => .tuple #[.agg ⟨NC r.1.1⟩, .agg ⟨CH (cW (⟨c0, x0, xc0, kv0, o0, oc0, p0, pc0⟩ : NV).c s.1) r.1.2⟩]) (fun r => [.rep r.2 (fun w => NOk r.2 w r.1.1 ∧ Rws r.2 w 4 fC r.1.2.1 (cW (⟨c0, x0, xc0, kv0, o0, oc0, p0, pc0⟩ : NV).c s.1).outs)]) rfl (au J J J J ⟨J, J, trivial⟩ rfl (by kernel_rfl)) (fun w1 hm => (vK (A := fun b => F0 b ∨ b < w.heap.size) (⟨c0, x0, xc0, kv0, o0, oc0, p0, pc0⟩ : NV) s.1 s.2.1 s.2.2 w1 ((hm.2.get (i := 1) rfl).2.1.mono fun _ h => .inl h) hv (Nat.le_trans hms (by omega)) ((hO s (List.mem_of_getElem? hs)).old hm.below) (hg.below hm.below)).mono fun e w2 ⟨v', p, h1, h2, h3, h4⟩ => by
    obtain ⟨Fs, g, k1, k2, k3, k4, k5⟩ := x8 (O := fun b => F0 b ∨ b < w.heap.size) h3 h4 (fun b hb => hb)
    exact ⟨⟨((v', p), Fs), g, h1, h2, k1, k2, k3, k4⟩, h3.2⟩) J J J J J ?_
   refine rk 5 J J J J J J J (by kernel_rfl) ?_
   refine gC 6 0 (m := 2) J J (fun x ⟨s, _, e⟩ => ⟨_, e, rfl⟩) J J J J J J (by kernel_rfl) ?_
   refine gC 6 1 (m := 2) J J (fun x ⟨s, _, e⟩ => ⟨_, e, rfl⟩) J J J J J J (by kernel_rfl) ?_
   iterate 2 refine uR af J J J J J J J J ?_
   refine pZ ?_
   refine rg ?_
   rintro ⟨⟨⟨c1, x1, xc1, kv1, o1, oc1, p1, pc1⟩, la, lc⟩, F1⟩ h1
   dsimp only at h1
   refine iY _ J J ?_
   refine iY (.agg ⟨NC ⟨c1, x1, xc1, kv1, o1, oc1, p1, pc1⟩⟩) J J ?_
   refine iY (.agg ⟨CH (cW (⟨c0, x0, xc0, kv0, o0, oc0, p0, pc0⟩ : NV).c s.1) (la, lc)⟩) J J ?_
   refine rg ?_
   rintro gA -
   refine rg ?_
   rintro gB -
   refine sV ?_
   dsimp only [List.cons_append, List.nil_append]
   repeat' (first | refine ai ?_ | refine aa ?_ | refine ab ?_ | refine aM ?_ | refine ag ?_ | ((refine' ap rfl ?_ J J ?_); rotate_left; first | exact ak af J J J J | exact ae af 3 J J J J J | exact bp af J J J J J J J) | refine aj af 0 J J J J J J J J J J J J ?_ | refine aj af 1 J J J J J J J J J J J J ?_)
   have hv1 : VN c1 := by rw [h1]; exact hv.step s.1
   have hms1 : bH c1 ≤ 2 * (i + 1) := by rw [h1]; have := vj hv s.1; omega
   have hkp : Kp c0.ks c1.ks := by rw [h1]; exact zu hv s.1
   refine dg (σ := Nat) (fun j => j ≤ kv0.length) (fun j => [(51, [], .int .i64 ((j : Nat) : Int)), (50, [], .int .i64 ((kv0.length : Nat) : Int)), (49, [], .slice x0 kv0.length xc0), (10, [], .pointer (some ⟨gA, 0, none⟩)), (7, [], .pointer (some ⟨g7, 0, none⟩)), (9, [], .int .i64 ((i : Nat) : Int)), (2, [], .slice (some ⟨b, off, none⟩) l.length cap)]) (fun _ => [.cl gA 28 [.int .i64 (⟨c1, x1, xc1, kv1, o1, oc1, p1, pc1⟩ : NV).c.sd, .int .i64 (⟨c1, x1, xc1, kv1, o1, oc1, p1, pc1⟩ : NV).c.nx, .int .i64 (⟨c1, x1, xc1, kv1, o1, oc1, p1, pc1⟩ : NV).c.la, .int .i64 (⟨c1, x1, xc1, kv1, o1, oc1, p1, pc1⟩ : NV).c.aw, .int .i64 (⟨c1, x1, xc1, kv1, o1, oc1, p1, pc1⟩ : NV).c.sz, .int .i64 (⟨c1, x1, xc1, kv1, o1, oc1, p1, pc1⟩ : NV).c.sw.size, .int .i64 (⟨c1, x1, xc1, kv1, o1, oc1, p1, pc1⟩ : NV).c.sw.left, .int .i64 (⟨c1, x1, xc1, kv1, o1, oc1, p1, pc1⟩ : NV).c.sw.held, .int .i64 (⟨c1, x1, xc1, kv1, o1, oc1, p1, pc1⟩ : NV).c.rw.size, .int .i64 (⟨c1, x1, xc1, kv1, o1, oc1, p1, pc1⟩ : NV).c.rw.left, .int .i64 (⟨c1, x1, xc1, kv1, o1, oc1, p1, pc1⟩ : NV).c.rw.held, .slice (⟨c1, x1, xc1, kv1, o1, oc1, p1, pc1⟩ : NV).x (⟨c1, x1, xc1, kv1, o1, oc1, p1, pc1⟩ : NV).kv.length (⟨c1, x1, xc1, kv1, o1, oc1, p1, pc1⟩ : NV).xc, .slice (⟨c1, x1, xc1, kv1, o1, oc1, p1, pc1⟩ : NV).o (⟨c1, x1, xc1, kv1, o1, oc1, p1, pc1⟩ : NV).c.ou.length (⟨c1, x1, xc1, kv1, o1, oc1, p1, pc1⟩ : NV).oc, .slice (⟨c1, x1, xc1, kv1, o1, oc1, p1, pc1⟩ : NV).p (⟨c1, x1, xc1, kv1, o1, oc1, p1, pc1⟩ : NV).c.pg.length (⟨c1, x1, xc1, kv1, o1, oc1, p1, pc1⟩ : NV).pc, .bool (⟨c1, x1, xc1, kv1, o1, oc1, p1, pc1⟩ : NV).c.cl], .rep F1 (fun w => NOk F1 w (⟨c1, x1, xc1, kv1, o1, oc1, p1, pc1⟩ : NV) ∧ Rws F1 w 4 fC la (cW c0 s.1).outs), .cl g7 28 [.int .i64 (⟨c0, x0, xc0, kv0, o0, oc0, p0, pc0⟩ : NV).c.sd, .int .i64 (⟨c0, x0, xc0, kv0, o0, oc0, p0, pc0⟩ : NV).c.nx, .int .i64 (⟨c0, x0, xc0, kv0, o0, oc0, p0, pc0⟩ : NV).c.la, .int .i64 (⟨c0, x0, xc0, kv0, o0, oc0, p0, pc0⟩ : NV).c.aw, .int .i64 (⟨c0, x0, xc0, kv0, o0, oc0, p0, pc0⟩ : NV).c.sz, .int .i64 (⟨c0, x0, xc0, kv0, o0, oc0, p0, pc0⟩ : NV).c.sw.size, .int .i64 (⟨c0, x0, xc0, kv0, o0, oc0, p0, pc0⟩ : NV).c.sw.left, .int .i64 (⟨c0, x0, xc0, kv0, o0, oc0, p0, pc0⟩ : NV).c.sw.held, .int .i64 (⟨c0, x0, xc0, kv0, o0, oc0, p0, pc0⟩ : NV).c.rw.size, .int .i64 (⟨c0, x0, xc0, kv0, o0, oc0, p0, pc0⟩ : NV).c.rw.left, .int .i64 (⟨c0, x0, xc0, kv0, o0, oc0, p0, pc0⟩ : NV).c.rw.held, .slice (⟨c0, x0, xc0, kv0, o0, oc0, p0, pc0⟩ : NV).x (⟨c0, x0, xc0, kv0, o0, oc0, p0, pc0⟩ : NV).kv.length (⟨c0, x0, xc0, kv0, o0, oc0, p0, pc0⟩ : NV).xc, .slice (⟨c0, x0, xc0, kv0, o0, oc0, p0, pc0⟩ : NV).o (⟨c0, x0, xc0, kv0, o0, oc0, p0, pc0⟩ : NV).c.ou.length (⟨c0, x0, xc0, kv0, o0, oc0, p0, pc0⟩ : NV).oc, .slice (⟨c0, x0, xc0, kv0, o0, oc0, p0, pc0⟩ : NV).p (⟨c0, x0, xc0, kv0, o0, oc0, p0, pc0⟩ : NV).c.pg.length (⟨c0, x0, xc0, kv0, o0, oc0, p0, pc0⟩ : NV).pc, .bool (⟨c0, x0, xc0, kv0, o0, oc0, p0, pc0⟩ : NV).c.cl], .rep F0 (fun w => NOk F0 w (⟨c0, x0, xc0, kv0, o0, oc0, p0, pc0⟩ : NV))]) (fun j => kv0.length - j) 0 [false, true, true, true, true] (Nat.zero_le _) ⟨J, J, J, J, J, J, J, trivial⟩ rfl ?_
   intro j hj0
   by_cases hjk : j < kv0.length
   · obtain ⟨u, hu⟩ : ∃ u, kv0[j]? = some u := ⟨kv0[j], List.getElem?_eq_getElem hjk⟩
     have hum : u.k ∈ c0.ks := by rw [heq0]; exact List.mem_map_of_mem (List.mem_of_getElem? hu)
     have hon := zv hv1 hkp hum
     refine k9 (p := ∃ b off, x0 = some ⟨b, off, none⟩ ∧ ∀ w, NOk F0 w (⟨c0, x0, xc0, kv0, o0, oc0, p0, pc0⟩ : NV) → w.rangeAt b (off + j * 22) (KC u)) (fun w1 hM => ?_) ?_
     · obtain ⟨b, off, hx, hh⟩ := mv (hM.2.get (i := 3) rfl).2.1.ks (show 0 < kv0.length by omega)
       exact ⟨b, off, hx, fun w2 h2 => hh w2 h2.ks j u hu⟩
     rintro ⟨bl, ol, hlx, hrw⟩
     subst hlx
     repeat' (first | refine ai ?_ | refine aa ?_ | refine ab ?_ | refine ag ?_ | ((refine' ap rfl ?_ J J ?_); rotate_left; exact aq af J J J J J J))
     refine aA rfl (decide_eq_true (by omega)) ?_
     repeat' (first | refine ai ?_ | refine aa ?_ | refine ab ?_ | refine az ?_ | refine aM ?_ | refine ag ?_ | (refine aD af J J J J J J ?_; intro g13) | ((refine' ap rfl ?_ J J ?_); rotate_left; first | exact bX af (m := 22) j J J J J J J J J (fun _ => rfl) (fun _ => hjk) | exact mr af 3 (cs := KC u) J J J J J J (fun _ w h => hrw w h) | exact ak af J J J J | exact ae af 0 J J J J J | exact ae af 1 J J J J J) | refine aj af 0 J J J J J J J J J J J J ?_)
     refine bA (σ := KV) (fun y => y.k = (gN c1 u.k.st.id).1) (fun y => .tuple #[.agg ⟨KC y⟩, .bool (gN c1 u.k.st.id).2]) (fun _ => _) rfl (au J J J J ⟨J, J, trivial⟩ rfl (by kernel_rfl)) (fun w1 hM => (oY (A := F1) (⟨c1, x1, xc1, kv1, o1, oc1, p1, pc1⟩ : NV) u.k.st.id w1 (hM.2.get (i := 2) rfl).2.1.1 ((hv1.toVB.szl (Nat.le_trans hms1 (by omega))).n (hM.2.get (i := 2) rfl).2.1.1)).mono fun e w' ⟨y, h1, h2, h3, h4⟩ => ⟨y, h1, h2, hM.keep h4⟩) J J ?_
     rintro y hy
     rw [← hy] at hon
     repeat' (first | refine ai ?_ | refine aa ?_ | refine ab ?_ | refine ag ?_ | (refine aD af J J J J J J ?_; intro g14) | ((refine' ap rfl ?_ J J ?_); rotate_left; first | exact fN af fO J J J J J J (by kernel_rfl) | exact ak af J J J J | exact bN J J J J J | exact bY J J J J J | exact ae af 0 J J J J J | exact ae af 1 J J J J J) | refine aj af 0 J J J J J J J J J J J J ?_)
     refine am rfl ?_ ?_
     · unfold xK at hon
       have e : (!(y.k.st.code == u.k.st.code && (y.k.st.text.toList == u.k.st.text.toList && true))) = (y.k.st.code != u.k.st.code || !(y.k.st.text.toList == u.k.st.text.toList)) := by rw [Bool.and_true, Bool.not_and]; rfl
       rw [e]
       exact (Bool.not_eq_true' _).mp hon
     repeat' (first | refine aa ?_ | refine ab ?_ | refine az ?_ | refine aB ?_ | refine ag ?_ | ((refine' ap rfl ?_ J J ?_); rotate_left; first | exact cr J J J J J (by omega) | exact ak af J J J J))
     exact bP (j + 1) [false, false, true, true, true, true] hjk (show kv0.length - (j + 1) < kv0.length - j by omega) ⟨J, J, J, J, J, J, J, trivial⟩ rfl
   · have hjl : j = kv0.length := by omega
     repeat' (first | refine ai ?_ | refine aa ?_ | refine ab ?_ | refine ag ?_ | ((refine' ap rfl ?_ J J ?_); rotate_left; exact aq af J J J J J J))
     refine am rfl (decide_eq_false (by omega)) ?_
     repeat' (first | refine aa ?_ | refine ab ?_ | refine bK ?_ | refine aO ?_ | refine aB ?_ | refine aU ?_ | refine ag ?_ | ((refine' ap rfl ?_ J J ?_); rotate_left; first | exact cr J J J J J (by omega) | exact ak af J J J J | exact ae af 0 J J J J J) | refine aj af 2 J J J J J J J J J J J J ?_)
     refine jU (M' := [.cl g7 28 [.int .i64 (⟨c1, x1, xc1, kv1, o1, oc1, p1, pc1⟩ : NV).c.sd, .int .i64 (⟨c1, x1, xc1, kv1, o1, oc1, p1, pc1⟩ : NV).c.nx, .int .i64 (⟨c1, x1, xc1, kv1, o1, oc1, p1, pc1⟩ : NV).c.la, .int .i64 (⟨c1, x1, xc1, kv1, o1, oc1, p1, pc1⟩ : NV).c.aw, .int .i64 (⟨c1, x1, xc1, kv1, o1, oc1, p1, pc1⟩ : NV).c.sz, .int .i64 (⟨c1, x1, xc1, kv1, o1, oc1, p1, pc1⟩ : NV).c.sw.size, .int .i64 (⟨c1, x1, xc1, kv1, o1, oc1, p1, pc1⟩ : NV).c.sw.left, .int .i64 (⟨c1, x1, xc1, kv1, o1, oc1, p1, pc1⟩ : NV).c.sw.held, .int .i64 (⟨c1, x1, xc1, kv1, o1, oc1, p1, pc1⟩ : NV).c.rw.size, .int .i64 (⟨c1, x1, xc1, kv1, o1, oc1, p1, pc1⟩ : NV).c.rw.left, .int .i64 (⟨c1, x1, xc1, kv1, o1, oc1, p1, pc1⟩ : NV).c.rw.held, .slice (⟨c1, x1, xc1, kv1, o1, oc1, p1, pc1⟩ : NV).x (⟨c1, x1, xc1, kv1, o1, oc1, p1, pc1⟩ : NV).kv.length (⟨c1, x1, xc1, kv1, o1, oc1, p1, pc1⟩ : NV).xc, .slice (⟨c1, x1, xc1, kv1, o1, oc1, p1, pc1⟩ : NV).o (⟨c1, x1, xc1, kv1, o1, oc1, p1, pc1⟩ : NV).c.ou.length (⟨c1, x1, xc1, kv1, o1, oc1, p1, pc1⟩ : NV).oc, .slice (⟨c1, x1, xc1, kv1, o1, oc1, p1, pc1⟩ : NV).p (⟨c1, x1, xc1, kv1, o1, oc1, p1, pc1⟩ : NV).c.pg.length (⟨c1, x1, xc1, kv1, o1, oc1, p1, pc1⟩ : NV).pc, .bool (⟨c1, x1, xc1, kv1, o1, oc1, p1, pc1⟩ : NV).c.cl], .rep F1 (fun w => NOk F1 w (⟨c1, x1, xc1, kv1, o1, oc1, p1, pc1⟩ : NV))]) (fun w1 hM => ((hM.mask [false, true, true, false] rfl).repTo (fun w h => h.1) (fun w1 w2 hk h => h.agree hk)).perm (List.Perm.swap _ _ _)) ?_
     exact bP (⟨i + 1, (⟨c1, x1, xc1, kv1, o1, oc1, p1, pc1⟩ : NV), F1⟩ : OS) [] ⟨by dsimp only; omega, by dsimp only; omega, hv1, hms1⟩ (show l.length - (i + 1) < l.length - i by omega) ⟨J, J, J, trivial⟩ rfl
 · have hvc : VN (eU c0) := hv.close
   have hmc : bH (eU c0) ≤ 400000000 := Nat.le_trans (kJ c0) (Nat.le_trans hms (by omega))
   obtain ⟨hf1, hf2, hf3, hf4⟩ := vn hv
   repeat' (first | refine ai ?_ | refine aa ?_ | refine ab ?_ | refine ag ?_ | ((refine' ap rfl ?_ J J ?_); rotate_left; first | exact ak af J J J J | exact aq af J J J J J J | exact bY J J J J J | exact bp af J J J J J J J))
   refine am rfl (by
    by_cases h9 : i < l.length
    · have : ¬ i < 40 := fun h => hj ⟨h9, h⟩
      simp only [Bool.and_eq_false_iff, decide_eq_false_iff_not]; omega
    · simp only [Bool.and_eq_false_iff, decide_eq_false_iff_not]; omega) ?_
   repeat' (first | refine ai ?_ | refine aa ?_ | refine ab ?_ | refine bK ?_ | refine aO ?_ | refine aU ?_ | ((refine' ap rfl ?_ J J ?_); rotate_left; exact ae af 0 J J J J J))
   refine cK (σ := NV) (fun s _ => s.c = (eU c0)) (fun s => .agg ⟨NC s⟩) (fun s F w => NOk F w s) rfl (au J J J J ⟨J, trivial⟩ rfl (by kernel_rfl)) (fun w1 hm => (kK (A := F0) (⟨c0, x0, xc0, kv0, o0, oc0, p0, pc0⟩ : NV) w1 (hm.2.get (i := 1) rfl).2.1 ((hv.toVB.szl (Nat.le_trans hms (by omega))).n (hm.2.get (i := 1) rfl).2.1) ((hv.toVB.szl (Nat.le_trans hms (by omega))).g (hm.2.get (i := 1) rfl).2.1)).mono fun e w2 ⟨s, h1, h2, h3⟩ => by
    obtain ⟨F, hF⟩ := qb hm (fun b hb => ga hm.2 (i := 1) rfl b hb) h3
    exact ⟨s, F, h1, h2, hF⟩) J J ?_
   rintro ⟨c2, x2, xc2, kv2, o2, oc2, p2, pc2⟩ F2 hc2
   dsimp only at hc2
   rw [← hc2] at hf1 hf2 hf3 hf4 hvc hmc
   repeat' (first | refine ai ?_ | refine aa ?_ | refine ab ?_ | refine aM ?_ | refine ag ?_ | ((refine' ap rfl ?_ J J ?_); rotate_left; first | exact ak af J J J J | exact ae af 1 J J J J J | exact bp af J J J J J J J) | refine aj af 1 J J J J J J J J J J J J ?_)
   refine k9 (p := c2.ks = kv2.map (·.k)) (fun w1 hM => (hM.2.get (i := 0) rfl).2.1.eq) fun heq2 => ?_
   have hkl2 : kv2.length ≤ 1000000000 := by
    have e : c2.ks.length = kv2.length := by rw [heq2, List.length_map]
    have h9 := hmc
    unfold bH at h9
    omega
   refine dg (σ := Nat) (fun j => j ≤ kv2.length) (fun j => [(101, [], .int .i64 ((j : Nat) : Int)), (100, [], .int .i64 ((kv2.length : Nat) : Int)), (99, [], .slice x2 kv2.length xc2), (7, [], .pointer (some ⟨g7, 0, none⟩))]) (fun _ => [.rep F2 (fun w => NOk F2 w (⟨c2, x2, xc2, kv2, o2, oc2, p2, pc2⟩ : NV)), .cl g7 28 [.int .i64 (⟨c2, x2, xc2, kv2, o2, oc2, p2, pc2⟩ : NV).c.sd, .int .i64 (⟨c2, x2, xc2, kv2, o2, oc2, p2, pc2⟩ : NV).c.nx, .int .i64 (⟨c2, x2, xc2, kv2, o2, oc2, p2, pc2⟩ : NV).c.la, .int .i64 (⟨c2, x2, xc2, kv2, o2, oc2, p2, pc2⟩ : NV).c.aw, .int .i64 (⟨c2, x2, xc2, kv2, o2, oc2, p2, pc2⟩ : NV).c.sz, .int .i64 (⟨c2, x2, xc2, kv2, o2, oc2, p2, pc2⟩ : NV).c.sw.size, .int .i64 (⟨c2, x2, xc2, kv2, o2, oc2, p2, pc2⟩ : NV).c.sw.left, .int .i64 (⟨c2, x2, xc2, kv2, o2, oc2, p2, pc2⟩ : NV).c.sw.held, .int .i64 (⟨c2, x2, xc2, kv2, o2, oc2, p2, pc2⟩ : NV).c.rw.size, .int .i64 (⟨c2, x2, xc2, kv2, o2, oc2, p2, pc2⟩ : NV).c.rw.left, .int .i64 (⟨c2, x2, xc2, kv2, o2, oc2, p2, pc2⟩ : NV).c.rw.held, .slice (⟨c2, x2, xc2, kv2, o2, oc2, p2, pc2⟩ : NV).x (⟨c2, x2, xc2, kv2, o2, oc2, p2, pc2⟩ : NV).kv.length (⟨c2, x2, xc2, kv2, o2, oc2, p2, pc2⟩ : NV).xc, .slice (⟨c2, x2, xc2, kv2, o2, oc2, p2, pc2⟩ : NV).o (⟨c2, x2, xc2, kv2, o2, oc2, p2, pc2⟩ : NV).c.ou.length (⟨c2, x2, xc2, kv2, o2, oc2, p2, pc2⟩ : NV).oc, .slice (⟨c2, x2, xc2, kv2, o2, oc2, p2, pc2⟩ : NV).p (⟨c2, x2, xc2, kv2, o2, oc2, p2, pc2⟩ : NV).c.pg.length (⟨c2, x2, xc2, kv2, o2, oc2, p2, pc2⟩ : NV).pc, .bool (⟨c2, x2, xc2, kv2, o2, oc2, p2, pc2⟩ : NV).c.cl]]) (fun j => kv2.length - j) 0 [true, true, false] (Nat.zero_le _) ⟨J, J, J, J, trivial⟩ rfl ?_
   intro j hj0
   by_cases hjk : j < kv2.length
   · obtain ⟨u, hu⟩ : ∃ u, kv2[j]? = some u := ⟨kv2[j], List.getElem?_eq_getElem hjk⟩
     have hdn := hf3 u.k (by rw [heq2]; exact List.mem_map_of_mem (List.mem_of_getElem? hu))
     refine k9 (p := ∃ b off, x2 = some ⟨b, off, none⟩ ∧ ∀ w, NOk F2 w (⟨c2, x2, xc2, kv2, o2, oc2, p2, pc2⟩ : NV) → w.rangeAt b (off + j * 22) (KC u)) (fun w1 hM => ?_) ?_
     · obtain ⟨b, off, hx, hh⟩ := mv (hM.2.get (i := 0) rfl).2.1.ks (show 0 < kv2.length by omega)
       exact ⟨b, off, hx, fun w2 h2 => hh w2 h2.ks j u hu⟩
     rintro ⟨bl, ol, hlx, hrw⟩
     subst hlx
     repeat' (first | refine ai ?_ | refine aa ?_ | refine ab ?_ | refine ag ?_ | ((refine' ap rfl ?_ J J ?_); rotate_left; exact aq af J J J J J J))
     refine aA rfl (decide_eq_true (by omega)) ?_
     repeat' (first | refine ai ?_ | refine aa ?_ | refine ab ?_ | refine az ?_ | refine aM ?_ | refine ag ?_ | (refine aD af J J J J J J ?_; intro g17) | ((refine' ap rfl ?_ J J ?_); rotate_left; first | exact bX af (m := 22) j J J J J J J J J (fun _ => rfl) (fun _ => hjk) | exact mr af 0 (cs := KC u) J J J J J J (fun _ w h => hrw w h) | exact ak af J J J J | exact ae af 0 J J J J J) | refine aj af 0 J J J J J J J J J J J J ?_)
     refine am rfl (by rw [hdn]; rfl) ?_
     repeat' (first | refine aa ?_ | refine ab ?_ | refine az ?_ | refine aB ?_ | refine ag ?_ | ((refine' ap rfl ?_ J J ?_); rotate_left; first | exact cr J J J J J (by omega) | exact ak af J J J J))
     exact bP (j + 1) [false, true, true] hjk (show kv2.length - (j + 1) < kv2.length - j by omega) ⟨J, J, J, J, trivial⟩ rfl
   · have hjl : j = kv2.length := by omega
     repeat' (first | refine ai ?_ | refine aa ?_ | refine ab ?_ | refine ag ?_ | ((refine' ap rfl ?_ J J ?_); rotate_left; exact aq af J J J J J J))
     refine am rfl (decide_eq_false (by omega)) ?_
     repeat' (first | refine ai ?_ | refine aa ?_ | refine ab ?_ | refine bK ?_ | refine aO ?_ | refine aU ?_ | ((refine' ap rfl ?_ J J ?_); rotate_left; first | exact ae af 1 J J J J J | exact av af J J ⟨J, trivial⟩ J J J))
     refine cK (σ := NV) (fun s _ => s.c = (dG c2 (⟨7, 0, 0, emptyB⟩ : bc)).1) (fun s => .tuple ⟨[.agg ⟨NC s⟩, .int .i64 (dG c2 (⟨7, 0, 0, emptyB⟩ : bc)).2]⟩) (fun s F w => NOk F w s) rfl (au J J J J ⟨J, J, trivial⟩ rfl (by kernel_rfl)) (fun w1 hm => (pf (A := F2) (⟨c2, x2, xc2, kv2, o2, oc2, p2, pc2⟩ : NV) (⟨7, 0, 0, emptyB⟩ : bc) w1 (hm.2.get (i := 0) rfl).2.1 hvc hmc (show (0 : Nat) < 4294967281 by decide) (hg.below hm.below)).mono fun e w2 ⟨s, h1, h2, h3⟩ => by
      obtain ⟨F, hF⟩ := qb hm (fun b hb => ga hm.2 (i := 0) rfl b hb) h3
      exact ⟨s, F, h1, h2, hF⟩) J J ?_
     rintro ⟨c3, x3, xc3, kv3, o3, oc3, p3, pc3⟩ F3 hc3
     dsimp only at hc3
     repeat' (first | refine ai ?_ | refine aa ?_ | refine ab ?_ | refine ax ?_ | refine ag ?_ | (refine aD af J J J J J J ?_; intro g18) | ((refine' ap rfl ?_ J J ?_); rotate_left; first | exact ak af J J J J | exact aq af J J J J J J | exact bY J J J J J | exact ae af 3 J J J J J | exact bp af J J J J J J J) | refine aH rfl (au J J J J trivial rfl (by kernel_rfl)) (fun w hm => tY w (hg.below hm.below)) J J ?_ | refine aj af 0 J J J J J J J J J J J J ?_)
     refine ay af (fun _ => 0) J J trivial rfl fun w hm => ⟨?_, hm.below⟩
     show Ending.returned (Value.bool (c2.cl && ((c2.ou.length : Nat) : Int) == 0 && (dG c2 (⟨7, 0, 0, emptyB⟩ : bc)).2 == 20 && true)) = _
     rw [hf1, hf2, hf4]
     rfl
end Go.Proofs.YthiocbcokfondaaGreatDoor.Y
