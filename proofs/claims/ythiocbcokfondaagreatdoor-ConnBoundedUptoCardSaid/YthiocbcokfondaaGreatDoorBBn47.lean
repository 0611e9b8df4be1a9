/- The law ConnBounded, walked. -/
import Derived.Test.YthiocbcokfondaaGreatDoorBOn47
namespace Go.Proofs.YthiocbcokfondaaGreatDoor.Y
open Go.RowKit
structure BS where
 i : Nat
 v : NV
 F : Nat → Prop
 sent : Int
 cred : Int
theorem zF {o : sj} {hx : Option Addr} {hc j : Nat} {x : Value} (h : (fC o.f)[j]? = some x) : (B7 o hx hc)[8 + j]? = some x := by
 match j, h with
 | 0, h => exact h
 | 1, h => exact h
 | 2, h => exact h
 | 3, h => exact h
theorem sr {c : NL} (h : VN c) : 0 ≤ cQ c := by
 unfold cQ
 have h1 := cU c.ou
 have h2 := bi.1 h.sw
 omega
attribute [local irreducible] Calls
set_option maxRecDepth 100000 in
set_option maxHeartbeats 32000000 in
theorem Cm {A : Nat → Prop} (sd sz : Int) (x : Option Addr) (l : List (sj × Option Addr × Nat)) (cap : Nat) (w : World) (hR : Rws A w 14 (fun o => B7 o.1 o.2.1 o.2.2) x l) (hO : ∀ o ∈ l, OpOk A w o.1 o.2.1) (hlz : l.length ≤ 1000000000) (hg : MLen w) : Calls Tryz.prog 7 #[.int .i64 sd, .int .i64 sz, .slice x l.length cap] w fun e w' => e = .returned (.bool true) ∧ Below w.heap.size w w' := by
 refine aI Tryz.func7 rfl Tryz.ntmps7 J J ?_
 repeat' (first | refine ai ?_ | refine aa ?_ | refine ab ?_ | refine ag ?_ | ((refine' ap rfl ?_ J J ?_); rotate_left; exact ak af J J J J))
 refine aH (v := .tuple ⟨[.agg ⟨NC (eQ (eZ sd sz).1)⟩, .int .i64 (eZ sd sz).2]⟩) rfl (av J J J J ⟨J, J, trivial⟩ rfl (by kernel_rfl)) (fun w1 hm => (rL sd sz w1).mono fun e w2 h => ⟨h.1, h.2⟩) J J ?_
 repeat' (first | refine ai ?_ | refine aa ?_ | refine ab ?_ | refine ag ?_ | (refine aD af J J J J J J ?_; intro g7) | ((refine' ap rfl ?_ J J ?_); rotate_left; first | exact ak af J J J J | exact aq af J J J J J J) | refine aj af 0 J J J J J J J J J J J J ?_)
 by_cases he : (eZ sd sz).2 = 0
 rotate_left
 · refine aB rfl (by simpa using he) ?_
   repeat' (first | refine ai ?_ | refine aa ?_ | refine ab ?_ | refine az ?_ | refine ar ?_ | refine ag ?_ | ((refine' ap rfl ?_ J J ?_); rotate_left; exact ak af J J J J) | refine aH rfl (av J J J J trivial rfl (by kernel_rfl)) (fun w hm => uf w (hg.below hm.below)) J J ?_)
   refine aA af (fun _ => 0) J J trivial rfl fun w hm => ⟨?_, hm.below⟩
   rfl
 refine am rfl (by simpa using he) ?_
 repeat' (first | refine ai ?_ | refine aa ?_ | refine ab ?_ | refine ay ?_ | refine aM ?_ | refine ag ?_ | ((refine' ap rfl ?_ J J ?_); rotate_left; exact ak af J J J J))
 obtain ⟨hpn, hsz1, hsz2⟩ := xS he
 obtain ⟨cn, hcn⟩ : ∃ c, (eZ sd sz).1 = c := ⟨_, rfl⟩
 have hvn : VN cn := by rw [← hcn]; exact VN.new he
 have hmn : bM cn ≤ 0 := by rw [← hcn]; unfold eZ; split <;> exact Nat.le_refl _
 have hmt : ∀ w, NOk (fun _ => False) w (eQ cn) := fun w => by rw [← hcn]; unfold eZ; split <;> exact mK J J J
 rw [hcn] at hpn
 rw [hcn]
 refine pX (M' := [.cl g7 28 [.int .i64 (eQ cn).c.sd, .int .i64 (eQ cn).c.nx, .int .i64 (eQ cn).c.la, .int .i64 (eQ cn).c.aw, .int .i64 (eQ cn).c.sz, .int .i64 (eQ cn).c.sw.size, .int .i64 (eQ cn).c.sw.left, .int .i64 (eQ cn).c.sw.held, .int .i64 (eQ cn).c.rw.size, .int .i64 (eQ cn).c.rw.left, .int .i64 (eQ cn).c.rw.held, .slice (eQ cn).x (eQ cn).kv.length (eQ cn).xc, .slice (eQ cn).o (eQ cn).c.ou.length (eQ cn).oc, .slice (eQ cn).p (eQ cn).c.pg.length (eQ cn).pc, .bool (eQ cn).c.cl], .rep (fun _ => False) (fun w => NOk (fun _ => False) w (eQ cn))]) (fun w1 hM => (hM.addRepO (fun w => NOk (fun _ => False) w (eQ cn)) hmt).perm (List.Perm.swap _ _ _)) ?_
 refine dd (σ := BS) (fun q => q.i ≤ l.length ∧ q.i ≤ 40 ∧ VN q.v.c ∧ bM q.v.c ≤ 2 * q.i ∧ 0 ≤ q.sent ∧ q.sent + cQ q.v.c ≤ q.cred ∧ q.cred ≤ 1048576 * ((q.i : Nat) + 1 : Int)) (fun q => [(11, [], .int .i64 ((q.i : Nat) : Int)), (9, [], .int .i64 q.sent), (10, [], .int .i64 q.cred), (7, [], .pointer (some ⟨g7, 0, none⟩)), (2, [], .slice x l.length cap)]) (fun q => [.cl g7 28 [.int .i64 q.v.c.sd, .int .i64 q.v.c.nx, .int .i64 q.v.c.la, .int .i64 q.v.c.aw, .int .i64 q.v.c.sz, .int .i64 q.v.c.sw.size, .int .i64 q.v.c.sw.left, .int .i64 q.v.c.sw.held, .int .i64 q.v.c.rw.size, .int .i64 q.v.c.rw.left, .int .i64 q.v.c.rw.held, .slice q.v.x q.v.kv.length q.v.xc, .slice q.v.o q.v.c.ou.length q.v.oc, .slice q.v.p q.v.c.pg.length q.v.pc, .bool q.v.c.cl], .rep q.F (fun w => NOk q.F w q.v)]) (fun q => l.length - q.i) ⟨0, eQ cn, fun _ => False, 0, sz⟩ [] ⟨Nat.zero_le _, Nat.zero_le _, hvn, hmn, Int.le_refl _, by show 0 + cQ cn ≤ sz; omega, by show sz ≤ 1048576 * (((0 : Nat) : Int) + 1); omega⟩ ⟨J, J, J, J, J, trivial⟩ rfl ?_
 rintro ⟨i, ⟨c0, x0, xc0, kv0, o0, oc0, p0, pc0⟩, F0, sent, cred⟩ ⟨hi1, hi2, hv, hms, hs0, hsc, hcb⟩
 dsimp only at hi1 hi2 hv hms hs0 hsc hcb
 have hpp := sr hv
 by_cases hj : i < l.length ∧ i < 40
 · obtain ⟨s, hs⟩ : ∃ s, l[i]? = some s := ⟨l[i], List.getElem?_eq_getElem hj.1⟩
   obtain ⟨b, off, hx, _, _, hr⟩ := hR (by omega)
   subst hx
   have hj1 := hj.1
   have hrow : w.rangeAt b (off + i * 14) (B7 s.1 s.2.1 s.2.2) := hr i s hs
   have hrowF : w.rangeAt b (off + i * 14 + 8) (fC s.1.f) := fun j x hx => by rw [Nat.add_assoc]; exact hrow (8 + j) x (zF hx)
   have hck : w.cell? ⟨b, off + i * 14, none⟩ = some (.int .i64 s.1.kind) := hr i s hs 0 _ rfl
   repeat' (first | refine ai ?_ | refine aa ?_ | refine ab ?_ | refine ag ?_ | ((refine' ap rfl ?_ J J ?_); rotate_left; first | exact ak af J J J J | exact aq af J J J J J J | exact bV J J J J J | exact bo af J J J J J J J))
   refine aB rfl (by simp only [Bool.and_eq_true, decide_eq_true_eq]; omega) ?_
   repeat' (first | refine ai ?_ | refine ab ?_ | refine ay ?_ | refine aM ?_)
   refine jJ (fun b => F0 b ∨ b < w.heap.size) 11 [48, 12, 13] [42, 49, 50] [50] (fun w1 hm b hb => ⟨hb.elim (fun h => (hm.2.get (i := 1) rfl).1 b h) (fun h => Nat.lt_of_lt_of_le h hm.1.size), fun f hf => hb.elim (fun h => iM hm.2 (i := 1) rfl b h f hf) (fun h => j4 hm h hf)⟩) aC rfl (by kernel_rfl) ?_
   iterate 4 (((refine' rC rfl ?_ J J J ?_); rotate_left; first | exact bO af (m := 14) i J J J J J J J J (fun _ => rfl) (fun _ => hj1) | exact ak af J J J J | exact ae af 0 J J J J J))
   ((refine' rC rfl ?_ J J J ?_); rotate_left; exact co af (cs := B7 s.1 s.2.1 s.2.2) J J J J J (fun _ => hrow))
   refine l9 (σ := (NV × (Option Addr × Nat)) × (Nat → Prop)) (fun r => r.1.1.c = cG c0 s.1) (fun r => .tuple #[.agg ⟨NC r.1.1⟩, .agg ⟨CL (cc c0 s.1) r.1.2⟩]) (fun r => [.rep r.2 (fun w => NOk r.2 w r.1.1 ∧ Rws r.2 w 4 fC r.1.2.1 (cc c0 s.1).outs)]) rfl (av J J J J ⟨J, J, trivial⟩ rfl (by kernel_rfl)) (fun w1 hm => (vU (A := fun b => F0 b ∨ b < w.heap.size) (⟨c0, x0, xc0, kv0, o0, oc0, p0, pc0⟩ : NV) s.1 s.2.1 s.2.2 w1 ((hm.2.get (i := 1) rfl).2.1.mono fun _ h => .inl h) hv (Nat.le_trans hms (by omega)) ((hO s (List.mem_of_getElem? hs)).old hm.below) (hg.below hm.below)).mono fun e w2 ⟨v', p, h1, h2, h3, h4⟩ => by
    obtain ⟨Fs, g, k1, k2, k3, k4, k5⟩ := yf (O := fun b => F0 b ∨ b < w.heap.size) h3 h4 (fun b hb => hb)
    exact ⟨⟨((v', p), Fs), g, h1, h2, k1, k2, k3, k4⟩, h3.2⟩) J J J J J ?_
   refine rE 5 J J J J J J J (by kernel_rfl) ?_
   refine gI 6 0 (m := 2) J J (fun x ⟨s, _, e⟩ => ⟨_, e, rfl⟩) J J J J J J (by kernel_rfl) ?_
   refine gI 6 1 (m := 2) J J (fun x ⟨s, _, e⟩ => ⟨_, e, rfl⟩) J J J J J J (by kernel_rfl) ?_
   iterate 2 refine u4 af J J J J J J J J ?_
   refine qg ?_
   refine rB ?_
   rintro ⟨⟨⟨c1, x1, xc1, kv1, o1, oc1, p1, pc1⟩, la, lc⟩, F1⟩ h1
   dsimp only at h1
   refine jg _ J J ?_
   refine jg (.agg ⟨NC ⟨c1, x1, xc1, kv1, o1, oc1, p1, pc1⟩⟩) J J ?_
   refine jg (.agg ⟨CL (cc c0 s.1) (la, lc)⟩) J J ?_
   refine rB ?_
   rintro gA -
   refine rB ?_
   rintro gB -
   refine te ?_
   dsimp only [List.cons_append, List.nil_append]
   have hv1 : VN c1 := by rw [h1]; exact hv.step s.1
   have hms1 : bM c1 ≤ 2 * (i + 1) := by rw [h1]; have := vu hv s.1; omega
   obtain ⟨hp1, hp2, hp3⟩ := vz hv s.1
   rw [← h1] at hp1
   have hpp1 := sr hv1
   have hol : (cc c0 s.1).outs.length ≤ 1000000000 := by
    by_cases h7 : s.1.kind = 7
    · rw [(zZ h7).2]
      show c0.ou.length ≤ 1000000000
      have h9 := hms
      unfold bM at h9
      omega
    · rw [n5 h7]
      exact Nat.zero_le _
   have hnil : s.1.kind ≠ 7 → (cc c0 s.1).outs = [] := n5
   obtain ⟨R, hRR⟩ : ∃ x, cc c0 s.1 = x := ⟨_, rfl⟩
   rw [hRR] at hp1 hp2 hp3 hnil hol ⊢
   have hfo := cU R.outs
   repeat' (first | refine ai ?_ | refine aa ?_ | refine ab ?_ | refine ag ?_ | (refine aD af J J J J J J ?_; intro g14) | ((refine' ap rfl ?_ J J ?_); rotate_left; first | exact bO af (m := 14) i J J J J J J J J (fun _ => rfl) (fun _ => hj1) | exact co af (cs := fC s.1.f) J J J J J (fun _ => hrowF) | exact fi af (v := .int .i64 s.1.kind) J J J J J (fun _ => hck) | exact ak af J J J J | exact aq af J J J J J J | exact bV J J J J J | exact ae af 0 J J J J J | exact ae af 1 J J J J J) | refine aj af 0 J J J J J J J J J J J J ?_ | refine aj af 1 J J J J J J J J J J J J ?_)
   by_cases hb : s.1.kind = 6 ∧ R.e = 0 ∧ s.1.f.kind = 6 ∧ s.1.f.strm = 0
   · have hbr : iq s.1 R.e = s.1.f.num := by unfold iq fq; rw [if_pos hb.1, if_pos hb.2]
     rw [hbr] at hp1 hp2 hp3
     refine aB rfl (by obtain ⟨a, b, c, d⟩ := hb; rw [a, b, c, d]; rfl) ?_
     repeat' (first | refine ai ?_ | refine aa ?_ | refine ab ?_ | refine aM ?_ | refine ag ?_ | ((refine' ap rfl ?_ J J ?_); rotate_left; first | exact bU J J J J J (by omega) | exact ak af J J J J | exact ae af 0 J J J J J | exact ae af 1 J J J J J | exact ae af 2 J J J J J | exact bo af J J J J J J J) | refine aj af 4 J J J J J J J J J J J J ?_)
     obtain ⟨cr, hcr⟩ : ∃ x, cred + s.1.f.num = x := ⟨_, rfl⟩
     rw [hcr]
     have hcr2 : cr ≤ cred + 1048576 ∧ sent + (aX R.outs + cQ c1) ≤ cr := by omega
     repeat' (first | refine ai ?_ | refine aa ?_ | refine ab ?_ | refine az ?_ | refine ay ?_ | refine aM ?_ | refine bF ?_ | refine ar ?_ | refine aO ?_ | refine ax ?_ | refine aW ?_ | refine aS ?_ | refine cF rfl ?_ | refine aU aC rfl (by kernel_rfl) ?_ | refine ag ?_ | refine bP ?_ | (refine cO ?_; intro g) | ((first | refine' ap rfl ?_ J J ?_ | refine' dJ rfl ?_ J J J ?_); rotate_left; first | exact ak af J J J J | exact aq af J J J J J J | exact bN J J J J J | exact bV J J J J J | exact ae af 0 J J J J J | exact ae af 1 J J J J J | exact ae af 2 J J J J J | exact ae af 3 J J J J J | exact ae af 4 J J J J J | exact ae af 5 J J J J J | exact ae af 6 J J J J J | exact ae af 7 J J J J J | exact ff af fN J J J J J J (by kernel_rfl) | exact fW af fN J J J J J J (by kernel_rfl) | exact bo af J J J J J J J | exact fc J J J J J | exact fV J J J J J | exact jn J J J J J J J | exact au af J J trivial J J J | exact au af J J ⟨J, trivial⟩ J J J | exact au af J J ⟨J, J, trivial⟩ J J J | exact au af J J ⟨J, J, J, trivial⟩ J J J | exact au af J J ⟨J, J, J, J, trivial⟩ J J J | exact au af J J ⟨J, J, J, J, J, trivial⟩ J J J | exact au af J J ⟨J, J, J, J, J, J, trivial⟩ J J J | exact au af J J ⟨J, J, J, J, J, J, J, trivial⟩ J J J | exact au af J J ⟨J, J, J, J, J, J, J, J, trivial⟩ J J J) | (refine aR J J J J J J ?_; intro g) | (refine aD af J J J J J J ?_; intro g) | refine ci af J J J J J J ?_ | refine fX J J J J J J ?_ | refine aj af 0 J J J J J J J J J J J J ?_ | refine aj af 1 J J J J J J J J J J J J ?_ | refine aj af 2 J J J J J J J J J J J J ?_ | refine aj af 3 J J J J J J J J J J J J ?_ | refine aj af 4 J J J J J J J J J J J J ?_ | refine aj af 5 J J J J J J J J J J J J ?_ | refine aj af 6 J J J J J J J J J J J J ?_ | refine aj af 7 J J J J J J J J J J J J ?_)
     refine pX (M' := [.rep F1 (fun w => NOk F1 w (⟨c1, x1, xc1, kv1, o1, oc1, p1, pc1⟩ : NV) ∧ Rws F1 w 4 fC la R.outs), .cl g7 28 [.int .i64 (⟨c1, x1, xc1, kv1, o1, oc1, p1, pc1⟩ : NV).c.sd, .int .i64 (⟨c1, x1, xc1, kv1, o1, oc1, p1, pc1⟩ : NV).c.nx, .int .i64 (⟨c1, x1, xc1, kv1, o1, oc1, p1, pc1⟩ : NV).c.la, .int .i64 (⟨c1, x1, xc1, kv1, o1, oc1, p1, pc1⟩ : NV).c.aw, .int .i64 (⟨c1, x1, xc1, kv1, o1, oc1, p1, pc1⟩ : NV).c.sz, .int .i64 (⟨c1, x1, xc1, kv1, o1, oc1, p1, pc1⟩ : NV).c.sw.size, .int .i64 (⟨c1, x1, xc1, kv1, o1, oc1, p1, pc1⟩ : NV).c.sw.left, .int .i64 (⟨c1, x1, xc1, kv1, o1, oc1, p1, pc1⟩ : NV).c.sw.held, .int .i64 (⟨c1, x1, xc1, kv1, o1, oc1, p1, pc1⟩ : NV).c.rw.size, .int .i64 (⟨c1, x1, xc1, kv1, o1, oc1, p1, pc1⟩ : NV).c.rw.left, .int .i64 (⟨c1, x1, xc1, kv1, o1, oc1, p1, pc1⟩ : NV).c.rw.held, .slice (⟨c1, x1, xc1, kv1, o1, oc1, p1, pc1⟩ : NV).x (⟨c1, x1, xc1, kv1, o1, oc1, p1, pc1⟩ : NV).kv.length (⟨c1, x1, xc1, kv1, o1, oc1, p1, pc1⟩ : NV).xc, .slice (⟨c1, x1, xc1, kv1, o1, oc1, p1, pc1⟩ : NV).o (⟨c1, x1, xc1, kv1, o1, oc1, p1, pc1⟩ : NV).c.ou.length (⟨c1, x1, xc1, kv1, o1, oc1, p1, pc1⟩ : NV).oc, .slice (⟨c1, x1, xc1, kv1, o1, oc1, p1, pc1⟩ : NV).p (⟨c1, x1, xc1, kv1, o1, oc1, p1, pc1⟩ : NV).c.pg.length (⟨c1, x1, xc1, kv1, o1, oc1, p1, pc1⟩ : NV).pc, .bool (⟨c1, x1, xc1, kv1, o1, oc1, p1, pc1⟩ : NV).c.cl]]) (fun w1 hM => hM.mask [false, false, false, true, true, false] rfl) ?_
     refine dd (σ := Nat) (fun j => j ≤ R.outs.length) (fun j => [(86, [], .int .i64 ((j : Nat) : Int)), (85, [], .int .i64 ((R.outs.length : Nat) : Int)), (84, [], .slice la R.outs.length lc), (9, [], .int .i64 (sent + aX (R.outs.take j))), (10, [], .int .i64 cr), (15, [], .int .i64 sent), (11, [], .int .i64 ((i : Nat) : Int)), (7, [], .pointer (some ⟨g7, 0, none⟩)), (2, [], .slice (some ⟨b, off, none⟩) l.length cap)]) (fun _ => [.rep F1 (fun w => NOk F1 w (⟨c1, x1, xc1, kv1, o1, oc1, p1, pc1⟩ : NV) ∧ Rws F1 w 4 fC la R.outs), .cl g7 28 [.int .i64 (⟨c1, x1, xc1, kv1, o1, oc1, p1, pc1⟩ : NV).c.sd, .int .i64 (⟨c1, x1, xc1, kv1, o1, oc1, p1, pc1⟩ : NV).c.nx, .int .i64 (⟨c1, x1, xc1, kv1, o1, oc1, p1, pc1⟩ : NV).c.la, .int .i64 (⟨c1, x1, xc1, kv1, o1, oc1, p1, pc1⟩ : NV).c.aw, .int .i64 (⟨c1, x1, xc1, kv1, o1, oc1, p1, pc1⟩ : NV).c.sz, .int .i64 (⟨c1, x1, xc1, kv1, o1, oc1, p1, pc1⟩ : NV).c.sw.size, .int .i64 (⟨c1, x1, xc1, kv1, o1, oc1, p1, pc1⟩ : NV).c.sw.left, .int .i64 (⟨c1, x1, xc1, kv1, o1, oc1, p1, pc1⟩ : NV).c.sw.held, .int .i64 (⟨c1, x1, xc1, kv1, o1, oc1, p1, pc1⟩ : NV).c.rw.size, .int .i64 (⟨c1, x1, xc1, kv1, o1, oc1, p1, pc1⟩ : NV).c.rw.left, .int .i64 (⟨c1, x1, xc1, kv1, o1, oc1, p1, pc1⟩ : NV).c.rw.held, .slice (⟨c1, x1, xc1, kv1, o1, oc1, p1, pc1⟩ : NV).x (⟨c1, x1, xc1, kv1, o1, oc1, p1, pc1⟩ : NV).kv.length (⟨c1, x1, xc1, kv1, o1, oc1, p1, pc1⟩ : NV).xc, .slice (⟨c1, x1, xc1, kv1, o1, oc1, p1, pc1⟩ : NV).o (⟨c1, x1, xc1, kv1, o1, oc1, p1, pc1⟩ : NV).c.ou.length (⟨c1, x1, xc1, kv1, o1, oc1, p1, pc1⟩ : NV).oc, .slice (⟨c1, x1, xc1, kv1, o1, oc1, p1, pc1⟩ : NV).p (⟨c1, x1, xc1, kv1, o1, oc1, p1, pc1⟩ : NV).c.pg.length (⟨c1, x1, xc1, kv1, o1, oc1, p1, pc1⟩ : NV).pc, .bool (⟨c1, x1, xc1, kv1, o1, oc1, p1, pc1⟩ : NV).c.cl]]) (fun j => R.outs.length - j) 0 [] (Nat.zero_le _) ⟨rfl, rfl, rfl, (by rw [List.take_zero, cq, Int.add_zero]; rfl), rfl, rfl, rfl, rfl, rfl, trivial⟩ rfl ?_
     intro j hj0
     by_cases hjk : j < R.outs.length
     · obtain ⟨g, hgj⟩ : ∃ g, R.outs[j]? = some g := ⟨R.outs[j], List.getElem?_eq_getElem hjk⟩
       have htk : aX (R.outs.take (j + 1)) = aX (R.outs.take j) + bz g := by rw [List.take_add_one, hgj]; exact eo _ g
       have hle : aX (R.outs.take (j + 1)) ≤ aX R.outs := by
        have e : aX R.outs = aX (R.outs.take (j + 1)) + aX (R.outs.drop (j + 1)) := by rw [← gL, List.take_append_drop]
        have := cU (R.outs.drop (j + 1))
        omega
       have hp0 := cU (R.outs.take j)
       refine mD (p := ∃ b off, la = some ⟨b, off, none⟩ ∧ ∀ w, (NOk F1 w (⟨c1, x1, xc1, kv1, o1, oc1, p1, pc1⟩ : NV) ∧ Rws F1 w 4 fC la R.outs) → w.rangeAt b (off + j * 4) (fC g)) (fun w1 hM => ?_) ?_
       · obtain ⟨b, off, hx, hh⟩ := lr (hM.2.get (i := 0) rfl).2.1.2 (show 0 < R.outs.length by omega)
         exact ⟨b, off, hx, fun w2 h2 => hh w2 h2.2 j g hgj⟩
       rintro ⟨bl, ol, hlx, hrw⟩
       subst hlx
       repeat' (first | refine ai ?_ | refine aa ?_ | refine ab ?_ | refine ag ?_ | ((refine' ap rfl ?_ J J ?_); rotate_left; exact aq af J J J J J J))
       refine aB rfl (decide_eq_true (by omega)) ?_
       repeat' (first | refine ai ?_ | refine aa ?_ | refine ab ?_ | refine ay ?_ | refine aM ?_ | refine ag ?_ | (refine aD af J J J J J J ?_; intro g17) | ((refine' ap rfl ?_ J J ?_); rotate_left; first | exact bO af (m := 4) j J J J J J J J J (fun _ => rfl) (fun _ => hjk) | exact lp af 0 (cs := fC g) J J J J J J (fun _ w h => hrw w h) | exact ak af J J J J | exact aq af J J J J J J | exact ae af 0 J J J J J) | refine aj af 0 J J J J J J J J J J J J ?_)
       by_cases hk2 : g.kind = 2
       · obtain ⟨n, hn⟩ : ∃ n, aT g.data = n := ⟨_, rfl⟩
         have hfc : bz g = n := by unfold bz; rw [if_pos hk2, hn]
         have hn0 : 0 ≤ n := by have := dj g.data; omega
         refine aB rfl (by simpa using hk2) ?_
         repeat' (first | refine aa ?_ | refine ab ?_ | refine ax ?_ | refine ag ?_ | ((refine' ap rfl ?_ J J ?_); rotate_left; first | exact bU J J J J J (by omega) | exact ak af J J J J | exact ae af 0 J J J J J) | refine aH rfl (av J J J J ⟨J, trivial⟩ rfl (by kernel_rfl)) (fun w hm => pz g.data n hn w) J J ?_)
         rw [show sent + aX (R.outs.take j) + n = sent + aX (R.outs.take (j + 1)) by rw [htk, hfc]; omega]
         exact bC (j + 1) [false, true, true] hjk (show R.outs.length - (j + 1) < R.outs.length - j by omega) ⟨J, J, J, J, J, J, J, J, J, trivial⟩ rfl
       · have hfc : bz g = 0 := lD hk2
         refine am rfl (by simpa using hk2) ?_
         repeat' (first | refine aa ?_ | refine ab ?_ | refine ay ?_ | refine ax ?_ | refine ag ?_ | ((refine' ap rfl ?_ J J ?_); rotate_left; first | exact bU J J J J J (by omega) | exact ak af J J J J))
         rw [show aX (R.outs.take j) = aX (R.outs.take (j + 1)) by rw [htk, hfc]; omega]
         exact bC (j + 1) [false, true, true] hjk (show R.outs.length - (j + 1) < R.outs.length - j by omega) ⟨J, J, J, J, J, J, J, J, J, trivial⟩ rfl
     · have hjl : j = R.outs.length := by omega
       have htk : R.outs.take j = R.outs := by rw [hjl, List.take_length]
       rw [htk]
       repeat' (first | refine ai ?_ | refine aa ?_ | refine ab ?_ | refine ag ?_ | ((refine' ap rfl ?_ J J ?_); rotate_left; exact aq af J J J J J J))
       refine am rfl (decide_eq_false (by omega)) ?_
       repeat' (first | refine ai ?_ | refine aa ?_ | refine ab ?_ | refine bF ?_ | refine aO ?_ | refine aS ?_ | refine ag ?_ | ((refine' ap rfl ?_ J J ?_); rotate_left; first | exact bO af (m := 14) i J J J J J J J J (fun _ => rfl) (fun _ => hj1) | exact fi af (v := .int .i64 s.1.kind) J J J J J (fun _ => hck) | exact ak af J J J J | exact aq af J J J J J J | exact bN J J J J J | exact bV J J J J J))
       refine am rfl ?_ ?_
       · rw [decide_eq_false (show ¬ cr < sent + aX R.outs by omega), Bool.false_or]
         by_cases hk7 : s.1.kind = 7
         · rw [hk7]; simp
         · have e0 : R.outs = [] := hnil hk7
           rw [e0, cq, decide_eq_false (show ¬ sent < sent + 0 by omega), Bool.false_and]
       repeat' (first | refine aa ?_ | refine ab ?_ | refine ay ?_ | refine ax ?_ | refine ag ?_ | ((refine' ap rfl ?_ J J ?_); rotate_left; first | exact bU J J J J J (by omega) | exact ak af J J J J))
       refine je (M' := [.cl g7 28 [.int .i64 (⟨c1, x1, xc1, kv1, o1, oc1, p1, pc1⟩ : NV).c.sd, .int .i64 (⟨c1, x1, xc1, kv1, o1, oc1, p1, pc1⟩ : NV).c.nx, .int .i64 (⟨c1, x1, xc1, kv1, o1, oc1, p1, pc1⟩ : NV).c.la, .int .i64 (⟨c1, x1, xc1, kv1, o1, oc1, p1, pc1⟩ : NV).c.aw, .int .i64 (⟨c1, x1, xc1, kv1, o1, oc1, p1, pc1⟩ : NV).c.sz, .int .i64 (⟨c1, x1, xc1, kv1, o1, oc1, p1, pc1⟩ : NV).c.sw.size, .int .i64 (⟨c1, x1, xc1, kv1, o1, oc1, p1, pc1⟩ : NV).c.sw.left, .int .i64 (⟨c1, x1, xc1, kv1, o1, oc1, p1, pc1⟩ : NV).c.sw.held, .int .i64 (⟨c1, x1, xc1, kv1, o1, oc1, p1, pc1⟩ : NV).c.rw.size, .int .i64 (⟨c1, x1, xc1, kv1, o1, oc1, p1, pc1⟩ : NV).c.rw.left, .int .i64 (⟨c1, x1, xc1, kv1, o1, oc1, p1, pc1⟩ : NV).c.rw.held, .slice (⟨c1, x1, xc1, kv1, o1, oc1, p1, pc1⟩ : NV).x (⟨c1, x1, xc1, kv1, o1, oc1, p1, pc1⟩ : NV).kv.length (⟨c1, x1, xc1, kv1, o1, oc1, p1, pc1⟩ : NV).xc, .slice (⟨c1, x1, xc1, kv1, o1, oc1, p1, pc1⟩ : NV).o (⟨c1, x1, xc1, kv1, o1, oc1, p1, pc1⟩ : NV).c.ou.length (⟨c1, x1, xc1, kv1, o1, oc1, p1, pc1⟩ : NV).oc, .slice (⟨c1, x1, xc1, kv1, o1, oc1, p1, pc1⟩ : NV).p (⟨c1, x1, xc1, kv1, o1, oc1, p1, pc1⟩ : NV).c.pg.length (⟨c1, x1, xc1, kv1, o1, oc1, p1, pc1⟩ : NV).pc, .bool (⟨c1, x1, xc1, kv1, o1, oc1, p1, pc1⟩ : NV).c.cl], .rep F1 (fun w => NOk F1 w (⟨c1, x1, xc1, kv1, o1, oc1, p1, pc1⟩ : NV))]) (fun w1 hM => (hM.repTo (fun w h => h.1) (fun w1 w2 hk h => h.agree hk)).perm (List.Perm.swap _ _ _)) ?_
       exact bC (⟨i + 1, (⟨c1, x1, xc1, kv1, o1, oc1, p1, pc1⟩ : NV), F1, sent + aX R.outs, cr⟩ : BS) [] ⟨by dsimp only; omega, by dsimp only; omega, hv1, hms1, by dsimp only; omega, by dsimp only; omega, by dsimp only; omega⟩ (show l.length - (i + 1) < l.length - i by omega) ⟨J, J, J, J, J, trivial⟩ rfl
   · have hbr : iq s.1 R.e = 0 := by
      unfold iq fq
      by_cases h6 : s.1.kind = 6
      · rw [if_pos h6, if_neg (fun h => hb ⟨h6, h⟩)]
      · rw [if_neg h6]
     rw [hbr] at hp1 hp2 hp3
     refine am rfl (by
      cases e1 : (s.1.kind == 6) with
      | false => rfl
      | true =>
       cases e2 : (R.e == 0) with
       | false => rfl
       | true =>
        cases e3 : (s.1.f.kind == 6) with
        | false => rfl
        | true =>
         cases e4 : (s.1.f.strm == 0) with
         | false => rfl
         | true => exact absurd ⟨by simpa using e1, by simpa using e2, by simpa using e3, by simpa using e4⟩ hb) ?_
     have hcr2 : cred ≤ cred + 1048576 ∧ sent + (aX R.outs + cQ c1) ≤ cred := by omega
     repeat' (first | refine ai ?_ | refine aa ?_ | refine ab ?_ | refine ay ?_ | refine aM ?_ | refine ag ?_ | ((refine' ap rfl ?_ J J ?_); rotate_left; first | exact ak af J J J J | exact ae af 1 J J J J J | exact ae af 2 J J J J J | exact bo af J J J J J J J) | refine aj af 4 J J J J J J J J J J J J ?_)
     refine pX (M' := [.rep F1 (fun w => NOk F1 w (⟨c1, x1, xc1, kv1, o1, oc1, p1, pc1⟩ : NV) ∧ Rws F1 w 4 fC la R.outs), .cl g7 28 [.int .i64 (⟨c1, x1, xc1, kv1, o1, oc1, p1, pc1⟩ : NV).c.sd, .int .i64 (⟨c1, x1, xc1, kv1, o1, oc1, p1, pc1⟩ : NV).c.nx, .int .i64 (⟨c1, x1, xc1, kv1, o1, oc1, p1, pc1⟩ : NV).c.la, .int .i64 (⟨c1, x1, xc1, kv1, o1, oc1, p1, pc1⟩ : NV).c.aw, .int .i64 (⟨c1, x1, xc1, kv1, o1, oc1, p1, pc1⟩ : NV).c.sz, .int .i64 (⟨c1, x1, xc1, kv1, o1, oc1, p1, pc1⟩ : NV).c.sw.size, .int .i64 (⟨c1, x1, xc1, kv1, o1, oc1, p1, pc1⟩ : NV).c.sw.left, .int .i64 (⟨c1, x1, xc1, kv1, o1, oc1, p1, pc1⟩ : NV).c.sw.held, .int .i64 (⟨c1, x1, xc1, kv1, o1, oc1, p1, pc1⟩ : NV).c.rw.size, .int .i64 (⟨c1, x1, xc1, kv1, o1, oc1, p1, pc1⟩ : NV).c.rw.left, .int .i64 (⟨c1, x1, xc1, kv1, o1, oc1, p1, pc1⟩ : NV).c.rw.held, .slice (⟨c1, x1, xc1, kv1, o1, oc1, p1, pc1⟩ : NV).x (⟨c1, x1, xc1, kv1, o1, oc1, p1, pc1⟩ : NV).kv.length (⟨c1, x1, xc1, kv1, o1, oc1, p1, pc1⟩ : NV).xc, .slice (⟨c1, x1, xc1, kv1, o1, oc1, p1, pc1⟩ : NV).o (⟨c1, x1, xc1, kv1, o1, oc1, p1, pc1⟩ : NV).c.ou.length (⟨c1, x1, xc1, kv1, o1, oc1, p1, pc1⟩ : NV).oc, .slice (⟨c1, x1, xc1, kv1, o1, oc1, p1, pc1⟩ : NV).p (⟨c1, x1, xc1, kv1, o1, oc1, p1, pc1⟩ : NV).c.pg.length (⟨c1, x1, xc1, kv1, o1, oc1, p1, pc1⟩ : NV).pc, .bool (⟨c1, x1, xc1, kv1, o1, oc1, p1, pc1⟩ : NV).c.cl]]) (fun w1 hM => hM.mask [false, false, false, true, true, false] rfl) ?_
     refine dd (σ := Nat) (fun j => j ≤ R.outs.length) (fun j => [(86, [], .int .i64 ((j : Nat) : Int)), (85, [], .int .i64 ((R.outs.length : Nat) : Int)), (84, [], .slice la R.outs.length lc), (9, [], .int .i64 (sent + aX (R.outs.take j))), (10, [], .int .i64 cred), (15, [], .int .i64 sent), (11, [], .int .i64 ((i : Nat) : Int)), (7, [], .pointer (some ⟨g7, 0, none⟩)), (2, [], .slice (some ⟨b, off, none⟩) l.length cap)]) (fun _ => [.rep F1 (fun w => NOk F1 w (⟨c1, x1, xc1, kv1, o1, oc1, p1, pc1⟩ : NV) ∧ Rws F1 w 4 fC la R.outs), .cl g7 28 [.int .i64 (⟨c1, x1, xc1, kv1, o1, oc1, p1, pc1⟩ : NV).c.sd, .int .i64 (⟨c1, x1, xc1, kv1, o1, oc1, p1, pc1⟩ : NV).c.nx, .int .i64 (⟨c1, x1, xc1, kv1, o1, oc1, p1, pc1⟩ : NV).c.la, .int .i64 (⟨c1, x1, xc1, kv1, o1, oc1, p1, pc1⟩ : NV).c.aw, .int .i64 (⟨c1, x1, xc1, kv1, o1, oc1, p1, pc1⟩ : NV).c.sz, .int .i64 (⟨c1, x1, xc1, kv1, o1, oc1, p1, pc1⟩ : NV).c.sw.size, .int .i64 (⟨c1, x1, xc1, kv1, o1, oc1, p1, pc1⟩ : NV).c.sw.left, .int .i64 (⟨c1, x1, xc1, kv1, o1, oc1, p1, pc1⟩ : NV).c.sw.held, .int .i64 (⟨c1, x1, xc1, kv1, o1, oc1, p1, pc1⟩ : NV).c.rw.size, .int .i64 (⟨c1, x1, xc1, kv1, o1, oc1, p1, pc1⟩ : NV).c.rw.left, .int .i64 (⟨c1, x1, xc1, kv1, o1, oc1, p1, pc1⟩ : NV).c.rw.held, .slice (⟨c1, x1, xc1, kv1, o1, oc1, p1, pc1⟩ : NV).x (⟨c1, x1, xc1, kv1, o1, oc1, p1, pc1⟩ : NV).kv.length (⟨c1, x1, xc1, kv1, o1, oc1, p1, pc1⟩ : NV).xc, .slice (⟨c1, x1, xc1, kv1, o1, oc1, p1, pc1⟩ : NV).o (⟨c1, x1, xc1, kv1, o1, oc1, p1, pc1⟩ : NV).c.ou.length (⟨c1, x1, xc1, kv1, o1, oc1, p1, pc1⟩ : NV).oc, .slice (⟨c1, x1, xc1, kv1, o1, oc1, p1, pc1⟩ : NV).p (⟨c1, x1, xc1, kv1, o1, oc1, p1, pc1⟩ : NV).c.pg.length (⟨c1, x1, xc1, kv1, o1, oc1, p1, pc1⟩ : NV).pc, .bool (⟨c1, x1, xc1, kv1, o1, oc1, p1, pc1⟩ : NV).c.cl]]) (fun j => R.outs.length - j) 0 [] (Nat.zero_le _) ⟨rfl, rfl, rfl, (by rw [List.take_zero, cq, Int.add_zero]; rfl), rfl, rfl, rfl, rfl, rfl, trivial⟩ rfl ?_
     intro j hj0
     by_cases hjk : j < R.outs.length
     · obtain ⟨g, hgj⟩ : ∃ g, R.outs[j]? = some g := ⟨R.outs[j], List.getElem?_eq_getElem hjk⟩
       have htk : aX (R.outs.take (j + 1)) = aX (R.outs.take j) + bz g := by rw [List.take_add_one, hgj]; exact eo _ g
       have hle : aX (R.outs.take (j + 1)) ≤ aX R.outs := by
        have e : aX R.outs = aX (R.outs.take (j + 1)) + aX (R.outs.drop (j + 1)) := by rw [← gL, List.take_append_drop]
        have := cU (R.outs.drop (j + 1))
        omega
       have hp0 := cU (R.outs.take j)
       refine mD (p := ∃ b off, la = some ⟨b, off, none⟩ ∧ ∀ w, (NOk F1 w (⟨c1, x1, xc1, kv1, o1, oc1, p1, pc1⟩ : NV) ∧ Rws F1 w 4 fC la R.outs) → w.rangeAt b (off + j * 4) (fC g)) (fun w1 hM => ?_) ?_
       · obtain ⟨b, off, hx, hh⟩ := lr (hM.2.get (i := 0) rfl).2.1.2 (show 0 < R.outs.length by omega)
         exact ⟨b, off, hx, fun w2 h2 => hh w2 h2.2 j g hgj⟩
       rintro ⟨bl, ol, hlx, hrw⟩
       subst hlx
       repeat' (first | refine ai ?_ | refine aa ?_ | refine ab ?_ | refine ag ?_ | ((refine' ap rfl ?_ J J ?_); rotate_left; exact aq af J J J J J J))
       refine aB rfl (decide_eq_true (by omega)) ?_
       repeat' (first | refine ai ?_ | refine aa ?_ | refine ab ?_ | refine ay ?_ | refine aM ?_ | refine ag ?_ | (refine aD af J J J J J J ?_; intro g17) | ((refine' ap rfl ?_ J J ?_); rotate_left; first | exact bO af (m := 4) j J J J J J J J J (fun _ => rfl) (fun _ => hjk) | exact lp af 0 (cs := fC g) J J J J J J (fun _ w h => hrw w h) | exact ak af J J J J | exact aq af J J J J J J | exact ae af 0 J J J J J) | refine aj af 0 J J J J J J J J J J J J ?_)
       by_cases hk2 : g.kind = 2
       · obtain ⟨n, hn⟩ : ∃ n, aT g.data = n := ⟨_, rfl⟩
         have hfc : bz g = n := by unfold bz; rw [if_pos hk2, hn]
         have hn0 : 0 ≤ n := by have := dj g.data; omega
         refine aB rfl (by simpa using hk2) ?_
         repeat' (first | refine aa ?_ | refine ab ?_ | refine ax ?_ | refine ag ?_ | ((refine' ap rfl ?_ J J ?_); rotate_left; first | exact bU J J J J J (by omega) | exact ak af J J J J | exact ae af 0 J J J J J) | refine aH rfl (av J J J J ⟨J, trivial⟩ rfl (by kernel_rfl)) (fun w hm => pz g.data n hn w) J J ?_)
         rw [show sent + aX (R.outs.take j) + n = sent + aX (R.outs.take (j + 1)) by rw [htk, hfc]; omega]
         exact bC (j + 1) [false, true, true] hjk (show R.outs.length - (j + 1) < R.outs.length - j by omega) ⟨J, J, J, J, J, J, J, J, J, trivial⟩ rfl
       · have hfc : bz g = 0 := lD hk2
         refine am rfl (by simpa using hk2) ?_
         repeat' (first | refine aa ?_ | refine ab ?_ | refine ay ?_ | refine ax ?_ | refine ag ?_ | ((refine' ap rfl ?_ J J ?_); rotate_left; first | exact bU J J J J J (by omega) | exact ak af J J J J))
         rw [show aX (R.outs.take j) = aX (R.outs.take (j + 1)) by rw [htk, hfc]; omega]
         exact bC (j + 1) [false, true, true] hjk (show R.outs.length - (j + 1) < R.outs.length - j by omega) ⟨J, J, J, J, J, J, J, J, J, trivial⟩ rfl
     · have hjl : j = R.outs.length := by omega
       have htk : R.outs.take j = R.outs := by rw [hjl, List.take_length]
       rw [htk]
       repeat' (first | refine ai ?_ | refine aa ?_ | refine ab ?_ | refine ag ?_ | ((refine' ap rfl ?_ J J ?_); rotate_left; exact aq af J J J J J J))
       refine am rfl (decide_eq_false (by omega)) ?_
       repeat' (first | refine ai ?_ | refine aa ?_ | refine ab ?_ | refine bF ?_ | refine aO ?_ | refine aS ?_ | refine ag ?_ | ((refine' ap rfl ?_ J J ?_); rotate_left; first | exact bO af (m := 14) i J J J J J J J J (fun _ => rfl) (fun _ => hj1) | exact fi af (v := .int .i64 s.1.kind) J J J J J (fun _ => hck) | exact ak af J J J J | exact aq af J J J J J J | exact bN J J J J J | exact bV J J J J J))
       refine am rfl ?_ ?_
       · rw [decide_eq_false (show ¬ cred < sent + aX R.outs by omega), Bool.false_or]
         by_cases hk7 : s.1.kind = 7
         · rw [hk7]; simp
         · have e0 : R.outs = [] := hnil hk7
           rw [e0, cq, decide_eq_false (show ¬ sent < sent + 0 by omega), Bool.false_and]
       repeat' (first | refine aa ?_ | refine ab ?_ | refine ay ?_ | refine ax ?_ | refine ag ?_ | ((refine' ap rfl ?_ J J ?_); rotate_left; first | exact bU J J J J J (by omega) | exact ak af J J J J))
       refine je (M' := [.cl g7 28 [.int .i64 (⟨c1, x1, xc1, kv1, o1, oc1, p1, pc1⟩ : NV).c.sd, .int .i64 (⟨c1, x1, xc1, kv1, o1, oc1, p1, pc1⟩ : NV).c.nx, .int .i64 (⟨c1, x1, xc1, kv1, o1, oc1, p1, pc1⟩ : NV).c.la, .int .i64 (⟨c1, x1, xc1, kv1, o1, oc1, p1, pc1⟩ : NV).c.aw, .int .i64 (⟨c1, x1, xc1, kv1, o1, oc1, p1, pc1⟩ : NV).c.sz, .int .i64 (⟨c1, x1, xc1, kv1, o1, oc1, p1, pc1⟩ : NV).c.sw.size, .int .i64 (⟨c1, x1, xc1, kv1, o1, oc1, p1, pc1⟩ : NV).c.sw.left, .int .i64 (⟨c1, x1, xc1, kv1, o1, oc1, p1, pc1⟩ : NV).c.sw.held, .int .i64 (⟨c1, x1, xc1, kv1, o1, oc1, p1, pc1⟩ : NV).c.rw.size, .int .i64 (⟨c1, x1, xc1, kv1, o1, oc1, p1, pc1⟩ : NV).c.rw.left, .int .i64 (⟨c1, x1, xc1, kv1, o1, oc1, p1, pc1⟩ : NV).c.rw.held, .slice (⟨c1, x1, xc1, kv1, o1, oc1, p1, pc1⟩ : NV).x (⟨c1, x1, xc1, kv1, o1, oc1, p1, pc1⟩ : NV).kv.length (⟨c1, x1, xc1, kv1, o1, oc1, p1, pc1⟩ : NV).xc, .slice (⟨c1, x1, xc1, kv1, o1, oc1, p1, pc1⟩ : NV).o (⟨c1, x1, xc1, kv1, o1, oc1, p1, pc1⟩ : NV).c.ou.length (⟨c1, x1, xc1, kv1, o1, oc1, p1, pc1⟩ : NV).oc, .slice (⟨c1, x1, xc1, kv1, o1, oc1, p1, pc1⟩ : NV).p (⟨c1, x1, xc1, kv1, o1, oc1, p1, pc1⟩ : NV).c.pg.length (⟨c1, x1, xc1, kv1, o1, oc1, p1, pc1⟩ : NV).pc, .bool (⟨c1, x1, xc1, kv1, o1, oc1, p1, pc1⟩ : NV).c.cl], .rep F1 (fun w => NOk F1 w (⟨c1, x1, xc1, kv1, o1, oc1, p1, pc1⟩ : NV))]) (fun w1 hM => (hM.repTo (fun w h => h.1) (fun w1 w2 hk h => h.agree hk)).perm (List.Perm.swap _ _ _)) ?_
       exact bC (⟨i + 1, (⟨c1, x1, xc1, kv1, o1, oc1, p1, pc1⟩ : NV), F1, sent + aX R.outs, cred⟩ : BS) [] ⟨by dsimp only; omega, by dsimp only; omega, hv1, hms1, by dsimp only; omega, by dsimp only; omega, by dsimp only; omega⟩ (show l.length - (i + 1) < l.length - i by omega) ⟨J, J, J, J, J, trivial⟩ rfl
 · have hol : c0.ou.length ≤ 1000000000 := by
    have h9 := hms
    unfold bM at h9
    omega
   have hpd : aX c0.ou ≤ cQ c0 := by
    unfold cQ
    have := bi.1 hv.sw
    omega
   have hfo := cU c0.ou
   repeat' (first | refine ai ?_ | refine aa ?_ | refine ab ?_ | refine ag ?_ | ((refine' ap rfl ?_ J J ?_); rotate_left; first | exact ak af J J J J | exact aq af J J J J J J | exact bV J J J J J | exact bo af J J J J J J J))
   refine am rfl (by
    by_cases h9 : i < l.length
    · have : ¬ i < 40 := fun h => hj ⟨h9, h⟩
      simp only [Bool.and_eq_false_iff, decide_eq_false_iff_not]; omega
    · simp only [Bool.and_eq_false_iff, decide_eq_false_iff_not]; omega) ?_
   repeat' (first | refine ai ?_ | refine aa ?_ | refine ab ?_ | refine bF ?_ | refine aO ?_ | refine aS ?_ | ((refine' ap rfl ?_ J J ?_); rotate_left; exact ae af 0 J J J J J))
   refine cY (σ := NV × (Option Addr × Nat)) (fun s _ => s.1.c = (iF c0).1) (fun s => .tuple ⟨[.agg ⟨NC s.1⟩, .slice s.2.1 c0.ou.length s.2.2]⟩) (fun s F w => NOk F w s.1 ∧ Rws F w 4 fC s.2.1 c0.ou) rfl (av J J J J ⟨J, trivial⟩ rfl (by kernel_rfl)) (fun w1 hm => (kL (A := F0) (⟨c0, x0, xc0, kv0, o0, oc0, p0, pc0⟩ : NV) w1 (hm.2.get (i := 1) rfl).2.1 ((hv.toVB.szl (Nat.le_trans hms (by omega))).n (hm.2.get (i := 1) rfl).2.1)).mono fun e w2 ⟨v', pp, h1, h2, h3, h4⟩ => ⟨(v', pp), _, h1, h2, Mem.out hm (A := F0) (fun b hb => iM hm.2 (i := 1) rfl b hb) h3.2 (fun F w => NOk F w v' ∧ Rws F w 4 fC pp.1 c0.ou) ⟨h3.1.lt, (h4.mono fun _ => .inr).lt⟩ (fun F w3 w4 hk h => ⟨h.1.agree hk, h.2.agree hk⟩)⟩) J J ?_
   rintro ⟨⟨c2, x2, xc2, kv2, o2, oc2, p2, pc2⟩, la, lc⟩ F2 hc2
   dsimp only at hc2
   repeat' (first | refine ai ?_ | refine aa ?_ | refine ab ?_ | refine aM ?_ | refine ag ?_ | (refine aD af J J J J J J ?_; intro g18) | ((refine' ap rfl ?_ J J ?_); rotate_left; first | exact ak af J J J J | exact bo af J J J J J J J) | refine aj af 0 J J J J J J J J J J J J ?_)
   refine dd (σ := Nat) (fun j => j ≤ c0.ou.length) (fun j => [(122, [], .int .i64 ((j : Nat) : Int)), (121, [], .int .i64 ((c0.ou.length : Nat) : Int)), (120, [], .slice la c0.ou.length lc), (9, [], .int .i64 (sent + aX (c0.ou.take j))), (10, [], .int .i64 cred)]) (fun _ => [.rep F2 (fun w => NOk F2 w (⟨c2, x2, xc2, kv2, o2, oc2, p2, pc2⟩ : NV) ∧ Rws F2 w 4 fC la c0.ou)]) (fun j => c0.ou.length - j) 0 [false, true, false, false] (Nat.zero_le _) ⟨rfl, rfl, rfl, (by rw [List.take_zero, cq, Int.add_zero]; rfl), rfl, trivial⟩ rfl ?_
   intro j hj0
   by_cases hjk : j < c0.ou.length
   · obtain ⟨g, hgj⟩ : ∃ g, c0.ou[j]? = some g := ⟨c0.ou[j], List.getElem?_eq_getElem hjk⟩
     have htk : aX (c0.ou.take (j + 1)) = aX (c0.ou.take j) + bz g := by rw [List.take_add_one, hgj]; exact eo _ g
     have hle : aX (c0.ou.take (j + 1)) ≤ aX c0.ou := by
      have e : aX c0.ou = aX (c0.ou.take (j + 1)) + aX (c0.ou.drop (j + 1)) := by rw [← gL, List.take_append_drop]
      have := cU (c0.ou.drop (j + 1))
      omega
     have hp0 := cU (c0.ou.take j)
     refine mD (p := ∃ b off, la = some ⟨b, off, none⟩ ∧ ∀ w, (NOk F2 w (⟨c2, x2, xc2, kv2, o2, oc2, p2, pc2⟩ : NV) ∧ Rws F2 w 4 fC la c0.ou) → w.rangeAt b (off + j * 4) (fC g)) (fun w1 hM => ?_) ?_
     · obtain ⟨b, off, hx, hh⟩ := lr (hM.2.get (i := 0) rfl).2.1.2 (show 0 < c0.ou.length by omega)
       exact ⟨b, off, hx, fun w2 h2 => hh w2 h2.2 j g hgj⟩
     rintro ⟨bl, ol, hlx, hrw⟩
     subst hlx
     repeat' (first | refine ai ?_ | refine aa ?_ | refine ab ?_ | refine ag ?_ | ((refine' ap rfl ?_ J J ?_); rotate_left; exact aq af J J J J J J))
     refine aB rfl (decide_eq_true (by omega)) ?_
     repeat' (first | refine ai ?_ | refine aa ?_ | refine ab ?_ | refine ay ?_ | refine aM ?_ | refine ag ?_ | (refine aD af J J J J J J ?_; intro g17) | ((refine' ap rfl ?_ J J ?_); rotate_left; first | exact bO af (m := 4) j J J J J J J J J (fun _ => rfl) (fun _ => hjk) | exact lp af 0 (cs := fC g) J J J J J J (fun _ w h => hrw w h) | exact ak af J J J J | exact aq af J J J J J J | exact ae af 0 J J J J J) | refine aj af 0 J J J J J J J J J J J J ?_)
     by_cases hk2 : g.kind = 2
     · obtain ⟨n, hn⟩ : ∃ n, aT g.data = n := ⟨_, rfl⟩
       have hfc : bz g = n := by unfold bz; rw [if_pos hk2, hn]
       have hn0 : 0 ≤ n := by have := dj g.data; omega
       refine aB rfl (by simpa using hk2) ?_
       repeat' (first | refine aa ?_ | refine ab ?_ | refine ax ?_ | refine ag ?_ | ((refine' ap rfl ?_ J J ?_); rotate_left; first | exact bU J J J J J (by omega) | exact ak af J J J J | exact ae af 0 J J J J J) | refine aH rfl (av J J J J ⟨J, trivial⟩ rfl (by kernel_rfl)) (fun w hm => pz g.data n hn w) J J ?_)
       rw [show sent + aX (c0.ou.take j) + n = sent + aX (c0.ou.take (j + 1)) by rw [htk, hfc]; omega]
       exact bC (j + 1) [false, true] hjk (show c0.ou.length - (j + 1) < c0.ou.length - j by omega) ⟨J, J, J, J, J, trivial⟩ rfl
     · have hfc : bz g = 0 := lD hk2
       refine am rfl (by simpa using hk2) ?_
       repeat' (first | refine aa ?_ | refine ab ?_ | refine ay ?_ | refine ax ?_ | refine ag ?_ | ((refine' ap rfl ?_ J J ?_); rotate_left; first | exact bU J J J J J (by omega) | exact ak af J J J J))
       rw [show aX (c0.ou.take j) = aX (c0.ou.take (j + 1)) by rw [htk, hfc]; omega]
       exact bC (j + 1) [false, true] hjk (show c0.ou.length - (j + 1) < c0.ou.length - j by omega) ⟨J, J, J, J, J, trivial⟩ rfl
   · have hjl : j = c0.ou.length := by omega
     have htk : c0.ou.take j = c0.ou := by rw [hjl, List.take_length]
     rw [htk]
     repeat' (first | refine ai ?_ | refine aa ?_ | refine ab ?_ | refine ag ?_ | ((refine' ap rfl ?_ J J ?_); rotate_left; exact aq af J J J J J J))
     refine am rfl (decide_eq_false (by omega)) ?_
     repeat' (first | refine ai ?_ | refine aa ?_ | refine ab ?_ | refine az ?_ | refine bF ?_ | refine aO ?_ | refine aS ?_ | refine ag ?_ | ((refine' ap rfl ?_ J J ?_); rotate_left; first | exact ak af J J J J | exact aq af J J J J J J | exact bV J J J J J) | refine aH rfl (av J J J J trivial rfl (by kernel_rfl)) (fun w hm => uf w (hg.below hm.below)) J J ?_)
     refine aA af (fun _ => 0) J J trivial rfl fun w hm => ⟨?_, hm.below⟩
     rw [decide_eq_true (show sent + aX c0.ou ≤ cred by omega)]
     rfl
end Go.Proofs.YthiocbcokfondaaGreatDoor.Y
