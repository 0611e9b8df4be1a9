/- ClientRuns, walked. -/
import Derived.Test.YtmdkfbmpenohiaaGreatDoorBunM
namespace Go.Proofs.YtmdkfbmpenohiaaGreatDoor.Y
open Go.RowKit
structure zU where
  i : Nat
  v : CV
  F : Nat → Prop
  u : CV
  G : Nat → Prop
structure RI (b : BG) (n : Nat) (p : zU) : Prop where
  le : p.i ≤ n
  li : LI b p.i p.v.c
  i40 : p.i ≤ 40
  eq : p.u.c = p.v.c
  wf : eE p.u
attribute [local irreducible] Calls
set_option maxRecDepth 100000 in
set_option maxHeartbeats 32000000 in
theorem zD (b : BG) (x : Option Addr) (cap : Nat) (l : List OV) (w : World) (hB : Rws (fun _ => True) w 6 bC b.x b.l) (hbl : b.l.length ≤ 1048576) (hO : yR 1048576 w x l) (hg : MLen w) : Calls Tryz.prog 3 #[.agg #[.slice b.x b.l.length b.xc, .int .i64 b.ra, .int .i64 b.rb, .int .i64 b.rc, .int .i64 b.rk, .int .i64 b.tk, .int .i64 b.mo, .int .i64 b.gn], .slice x l.length cap] w fun e w' => e = .returned (.bool true) ∧ Below w.heap.size w w' := by
  obtain ⟨hs1, hs2⟩ := xN b
  refine aD Tryz.func3 rfl Tryz.ntmps3 J J ?_
  repeat' (first | refine ag ?_ | refine aa ?_ | refine ab ?_ | refine ae ?_ | (refine aT J J J J J J ?_; intro g2) | ((refine' ak rfl ?_ J J ?_); rotate_left; first | exact ai af J J J J | exact ah af 0 J J J J J))
  refine bE (σ := CV) (fun s _ => s.c = (nT b).1) (fun s => .tuple ⟨[.agg ⟨CC s⟩, .int .i64 (nT b).2]⟩) (fun s F w => COk F w s) rfl (ay J J J J ⟨J, J, J, trivial⟩ rfl (by kernel_rfl)) (fun w1 hm => wq b w w1 hm hB hbl) J J ?_
  rintro ⟨c0, b0, bc0, x0, xc0, qv0⟩ F0 hc0
  dsimp only at hc0
  repeat' (first | refine ag ?_ | refine aa ?_ | refine ab ?_ | refine ae ?_ | (refine aF af J J J J J J ?_; intro g5) | ((refine' ak rfl ?_ J J ?_); rotate_left; first | exact ai af J J J J | exact ah af 2 J J J J J) | refine aj af 0 J J J J J J J J J J J J ?_)
  refine bE (σ := CV) (fun s _ => s.c = (nT b).1 ∧ eE s) (fun s => .tuple ⟨[.agg ⟨CC s⟩, .int .i64 (nT b).2]⟩) (fun s F w => COk F w s) rfl (ay J J J J ⟨J, J, J, trivial⟩ rfl (by kernel_rfl)) (fun w1 hm => ux b w w1 hm hB hbl) J J ?_
  rintro ⟨d0, e0, ec0, y0, yc0, rv0⟩ G0 ⟨hd0, hw0⟩
  dsimp only at hd0
  repeat' (first | refine ag ?_ | refine aa ?_ | refine ab ?_ | refine ae ?_ | (refine aF af J J J J J J ?_; intro g7) | ((refine' ak rfl ?_ J J ?_); rotate_left; first | exact ai af J J J J | exact aq af J J J J J J | exact bp J J J J J | exact ah af 0 J J J J J | exact ah af 2 J J J J J) | refine aG rfl (ay J J J J ⟨J, J, trivial⟩ rfl (by kernel_rfl)) (fun w hm => uA ⟨c0, b0, bc0, x0, xc0, qv0⟩ ⟨d0, e0, ec0, y0, yc0, rv0⟩ w (hm.2.get (i := 3) rfl).2.1 (hm.2.get (i := 1) rfl).2.1 (hc0.trans hd0.symm) (by show c0.bs.length ≤ _; rw [hc0]; omega) (by show c0.qs.length ≤ _; rw [hc0, hs2]; exact Nat.zero_le _) (by show ∀ q ∈ c0.qs, _; rw [hc0, hs2]; intro q hq; cases hq)) J J ?_ | refine aj af 0 J J J J J J J J J J J J ?_)
  refine am rfl (by simp) ?_
  repeat' (first | refine ag ?_ | refine aa ?_ | refine ab ?_ | refine au ?_ | refine ae ?_ | ((refine' ak rfl ?_ J J ?_); rotate_left; first | exact ai af J J J J | exact aq af J J J J J J))
  by_cases he : (nT b).2 = 0
  · obtain ⟨hL0, ht0, hq0, hb0⟩ := LI.new he
    rw [← hc0] at hL0
    refine am rfl (by rw [he]; rfl) ?_
    repeat' (first | refine ag ?_ | refine aa ?_ | refine ab ?_ | refine au ?_ | refine aE ?_ | refine ae ?_ | ((refine' ak rfl ?_ J J ?_); rotate_left; exact ai af J J J J))
    refine bF (σ := zU) (RI b l.length) (fun p => [(9, [], .int .i64 ((p.i : Nat) : Int)), (1, [], .slice x l.length cap), (2, [], .pointer (some ⟨g2, 0, none⟩)), (5, [], .pointer (some ⟨g5, 0, none⟩)), (7, [], .pointer (some ⟨g7, 0, none⟩))]) (fun p => [.cl g7 32 (CC p.u), .rep p.G (fun w => COk p.G w p.u), .cl g5 32 (CC p.v), .rep p.F (fun w => COk p.F w p.v), .cl g2 28 (GC b)]) (fun p => l.length - p.i) ⟨0, ⟨c0, b0, bc0, x0, xc0, qv0⟩, F0, ⟨d0, e0, ec0, y0, yc0, rv0⟩, G0⟩ [] ⟨Nat.zero_le _, hL0, show 0 ≤ 40 by decide, hd0.trans hc0.symm, hw0⟩ ⟨J, J, J, J, J, trivial⟩ rfl ?_
    rintro ⟨i, ⟨c, bb, bc, xx, xc, qv⟩, F, ⟨c', dd, dc, yy, yc, rv⟩, FG⟩ ⟨hle, hI, hi40, hcu, hwf⟩
    dsimp only at hle hI hi40 hcu hwf ⊢
    have hcv : c = c' := hcu.symm
    clear hcu
    subst hcv
    have hlq := hI.lq (by omega)
    have hzz := hI.zz (by omega)
    have haz := hI.az (by omega)
    repeat' (first | refine ag ?_ | refine aa ?_ | refine ab ?_ | refine ae ?_ | ((refine' ak rfl ?_ J J ?_); rotate_left; first | exact ai af J J J J | exact aq af J J J J J J | exact bx J J J J J | exact aO af J J J J J J J))
    by_cases hi' : i < l.length ∧ i < 40
    · obtain ⟨hi, h40⟩ := hi'
      obtain ⟨o, ho⟩ : ∃ o, l[i]? = some o := ⟨_, List.getElem?_eq_getElem hi⟩
      obtain ⟨bo, off, hx, hrows⟩ := hO.rows (by omega)
      have hrow : w.rangeAt bo (off + i * 23) (OC o) := hrows i o ho
      obtain ⟨hQ, hS, htx⟩ := hO.ok o (List.mem_of_getElem? ho)
      obtain ⟨hI1, n1, hmv⟩ := hI.step o hS
      refine aw rfl (by simp; omega) ?_
      repeat' (first | refine ag ?_ | refine ab ?_ | refine au ?_ | refine aE ?_)
      refine kx (fun b' => F b' ∨ b' < w.heap.size) 11 [62, 10, 11] [56, 63, 64] [64] (wS (i := 3) rfl) aK rfl (by kernel_rfl) ?_
      iterate 5 (((refine' wJ rfl ?_ J J J ?_); rotate_left; first | exact b7 af (m := 23) i rfl hx J J J J J J J (fun _ => rfl) (fun _ => hi) | exact a7 af (cs := OC o) J J J J J (fun _ => hrow) | exact ai af J J J J | exact ah af 2 J J J J J))
      refine mR (σ := SV × (Nat → Prop)) (fun s => (s.1.c.c = (aX c o.d).1 ∧ s.1.l.map (·.q) = (aX c o.d).2.qs)) (fun s => .tuple ⟨[.agg ⟨CC s.1.c⟩, .agg ⟨RC s.1 (aX c o.d).2⟩]⟩) (fun s => [.rep s.2 (fun w => StOk s.2 w s.1 (aX c o.d).2.ids)]) rfl (ay J J J J ⟨J, J, trivial⟩ rfl (by kernel_rfl)) (fun w1 hm => uw ⟨c, bb, bc, xx, xc, qv⟩ o (hm.2.get (i := 3) rfl).2.1 hQ hm.below hg hI.ok hlq hzz haz (hS.szq (Nat.le_refl _)) (hS.hd (Nat.le_refl _)) (Nat.le_trans htx (by decide))) J J J J J ?_
      refine oY 5 J J J J J J J (by kernel_rfl) ?_
      refine jz 6 0 (m := 2) J J (fun x ⟨s, _, e⟩ => ⟨_, e, rfl⟩) J J J J J J (by kernel_rfl) ?_
      refine jz 6 1 (m := 2) J J (fun x ⟨s, _, e⟩ => ⟨_, e, rfl⟩) J J J J J J (by kernel_rfl) ?_
      refine iG af J J J J J J J J ?_
      refine iG af J J J J J J J J ?_
      refine q9 ?_
      refine mQ ?_
      rintro ⟨⟨⟨c1, bb1, bc1, xx1, xc1, qv1⟩, l1, la1, lc1, ia1, ic1⟩, F1⟩ ⟨hc1, hl1⟩
      dsimp only at hc1 hl1
      refine j8 _ J J ?_
      refine j8 (.agg ⟨CC ⟨c1, bb1, bc1, xx1, xc1, qv1⟩⟩) J J ?_
      refine j8 (.agg ⟨RC ⟨⟨c1, bb1, bc1, xx1, xc1, qv1⟩, l1, la1, lc1, ia1, ic1⟩ (aX c o.d).2⟩) J J ?_
      refine mQ ?_
      rintro g10 -
      refine mQ ?_
      rintro g11 -
      refine ub ?_
      dsimp only [List.cons_append, List.nil_append]
      repeat' (first | refine ag ?_ | refine ab ?_ | refine ae ?_ | refine aj af 0 J J J J J J J J J J J J ?_ | refine aj af 1 J J J J J J J J J J J J ?_)
      refine kx (fun b' => FG b' ∨ b' < w.heap.size) 11 [71, 12, 13] [65, 72, 73] [73] (wS (i := 4) rfl) aK rfl (by kernel_rfl) ?_
      iterate 5 (((refine' wJ rfl ?_ J J J ?_); rotate_left; first | exact b7 af (m := 23) i rfl hx J J J J J J J (fun _ => rfl) (fun _ => hi) | exact a7 af (cs := OC o) J J J J J (fun _ => hrow) | exact ai af J J J J | exact ah af 3 J J J J J))
      refine mR (σ := SV × (Nat → Prop)) (fun s => ((s.1.c.c = (aX c o.d).1 ∧ s.1.l.map (·.q) = (aX c o.d).2.qs) ∧ eE s.1.c)) (fun s => .tuple ⟨[.agg ⟨CC s.1.c⟩, .agg ⟨RC s.1 (aX c o.d).2⟩]⟩) (fun s => [.rep s.2 (fun w => StOk s.2 w s.1 (aX c o.d).2.ids)]) rfl (ay J J J J ⟨J, J, trivial⟩ rfl (by kernel_rfl)) (fun w1 hm => sw ⟨c, dd, dc, yy, yc, rv⟩ o (hm.2.get (i := 4) rfl).2.1 hwf hQ hm.below hI.ok hlq haz (hS.szq (Nat.le_refl _)) (hS.hd (Nat.le_refl _)) (Nat.le_trans htx (by decide))) J J J J J ?_
      refine oY 5 J J J J J J J (by kernel_rfl) ?_
      refine jz 6 0 (m := 2) J J (fun x ⟨s, _, e⟩ => ⟨_, e, rfl⟩) J J J J J J (by kernel_rfl) ?_
      refine jz 6 1 (m := 2) J J (fun x ⟨s, _, e⟩ => ⟨_, e, rfl⟩) J J J J J J (by kernel_rfl) ?_
      refine iG af J J J J J J J J ?_
      refine iG af J J J J J J J J ?_
      refine q9 ?_
      refine mQ ?_
      rintro ⟨⟨⟨c2, bb2, bc2, xx2, xc2, qv2⟩, l2, la2, lc2, ia2, ic2⟩, F2⟩ ⟨⟨hc2, hl2⟩, hwf2⟩
      dsimp only at hc2 hl2
      refine j8 _ J J ?_
      refine j8 (.agg ⟨CC ⟨c2, bb2, bc2, xx2, xc2, qv2⟩⟩) J J ?_
      refine j8 (.agg ⟨RC ⟨⟨c2, bb2, bc2, xx2, xc2, qv2⟩, l2, la2, lc2, ia2, ic2⟩ (aX c o.d).2⟩) J J ?_
      refine mQ ?_
      rintro g12 -
      refine mQ ?_
      rintro g13 -
      refine ub ?_
      dsimp only [List.cons_append, List.nil_append]
      repeat' (first | refine ag ?_ | refine ab ?_ | refine ae ?_ | refine aj af 0 J J J J J J J J J J J J ?_ | refine aj af 1 J J J J J J J J J J J J ?_)
      have hcc : c1 = c2 := hc1.trans hc2.symm
      subst hcc
      rw [← hc1] at hI1
      have hlq1 := hI1.lq (by omega)
      have hzz1 := hI1.zz (by omega)
      obtain ⟨hr1, hr2, hr3⟩ := pw o.d hzz
      have hb1 := (gH hI1.ok.cb).1
      have hll : l1.length = (aX c o.d).2.qs.length := by rw [← hl1, List.length_map]
      have hlz : ∀ u ∈ l1, eP u.q := fun u hu => hr1 _ (by rw [← hl1]; exact List.mem_map_of_mem hu)
      refine pi 23 [91, 93] [(94, [91, 93])] aK rfl (by kernel_rfl) ?_
      iterate 2 (((refine' mS rfl ?_ J J J ?_); rotate_left; first | exact ah af 0 J J J J J | exact ah af 3 J J J J J))
      refine lK rfl (ay J J J J ⟨J, J, trivial⟩ rfl (by kernel_rfl)) (fun w1 hm => pt (A := F1) (A' := F2) ⟨⟨c1, bb1, bc1, xx1, xc1, qv1⟩, l1, la1, lc1, ia1, ic1⟩ ⟨⟨c1, bb2, bc2, xx2, xc2, qv2⟩, l2, la2, lc2, ia2, ic2⟩ (aX c o.d).2 w1 (hm.2.get (i := 5) rfl).2.1.qs (hm.2.get (i := 2) rfl).2.1.qs (hl1.trans hl2.symm) (hm.2.get (i := 5) rfl).2.1.ok (hm.2.get (i := 2) rfl).2.1.ok hlz (by show l1.length ≤ _; omega) (hm.2.get (i := 5) rfl).2.1.is (hm.2.get (i := 2) rfl).2.1.is (by omega)) J J J ?_
      iterate 4 (((refine' mS rfl ?_ J J J ?_); rotate_left; first | exact ai af J J J J | exact ah af 1 J J J J J | exact ah af 4 J J J J J))
      refine lK rfl (ay J J J J ⟨J, J, trivial⟩ rfl (by kernel_rfl)) (fun w1 hm => uA (A := F1) (A2 := F2) ⟨c1, bb1, bc1, xx1, xc1, qv1⟩ ⟨c1, bb2, bc2, xx2, xc2, qv2⟩ w1 (hm.2.get (i := 5) rfl).2.1.cl (hm.2.get (i := 2) rfl).2.1.cl rfl (by show c1.bs.length ≤ _; omega) hlq1 hzz1) J J J ?_
      iterate 4 (((refine' mS rfl ?_ J J J ?_); rotate_left; first | exact ai af J J J J | exact bp J J J J J | exact ah af 4 J J J J J))
      refine lK rfl (ay J J J J ⟨J, trivial⟩ rfl (by kernel_rfl)) (fun w1 hm => uz (A := F1) ⟨c1, bb1, bc1, xx1, xc1, qv1⟩ w1 (hm.2.get (i := 5) rfl).2.1.cl hI1.ok hlq1 hzz1) J J J ?_
      iterate 4 (((refine' mS rfl ?_ J J J ?_); rotate_left; first | exact ai af J J J J | exact bp J J J J J | exact ah af 4 J J J J J))
      refine mT (σ := Option Addr × Nat) (fun _ => True) (fun s => .slice s.1 (bQ c1.qs).length s.2) (fun s => [.own s.1 s.2 3 1 (bQ c1.qs).length ((bQ c1.qs).flatMap iC)]) rfl (by simp [aL]) (ay J J J J ⟨J, trivial⟩ rfl (by kernel_rfl)) (fun w1 hm => (ny ⟨c1, bb1, bc1, xx1, xc1, qv1⟩ w1 (hm.2.get (i := 5) rfl).2.1.cl (by rw [← COk.lenq (v := ⟨c1, bb1, bc1, xx1, xc1, qv1⟩) (hm.2.get (i := 5) rfl).2.1.cl]; show c1.qs.length ≤ _; omega)).mono fun e w2 h => lz h) J J J J J ?_
      ((refine' mS rfl ?_ J J J ?_); rotate_left; exact ah af 4 J J J J J)
      refine mT (σ := Option Addr × Nat) (fun _ => True) (fun s => .slice s.1 (bQ c1.qs).length s.2) (fun s => [.own s.1 s.2 3 1 (bQ c1.qs).length ((bQ c1.qs).flatMap iC)]) rfl (by simp [aL]) (ay J J J J ⟨J, trivial⟩ rfl (by kernel_rfl)) (fun w1 hm => (lM ⟨c1, bb1, bc1, xx1, xc1, qv1⟩ w1 (hm.2.get (i := 5) rfl).2.1.cl (by rw [← COk.lenq (v := ⟨c1, bb1, bc1, xx1, xc1, qv1⟩) (hm.2.get (i := 5) rfl).2.1.cl]; show c1.qs.length ≤ _; omega)).mono fun e w2 h => lz h) J J J J J ?_
      refine wa (v := .bool true) [(17, ⟨91, Option Addr × Nat, fun _ => True, fun s => .slice s.1 (bQ c1.qs).length s.2, fun s => [.own s.1 s.2 3 1 (bQ c1.qs).length ((bQ c1.qs).flatMap iC)]⟩), (19, ⟨93, Option Addr × Nat, fun _ => True, fun s => .slice s.1 (bQ c1.qs).length s.2, fun s => [.own s.1 s.2 3 1 (bQ c1.qs).length ((bQ c1.qs).flatMap iC)]⟩)] rfl (yG (fun (p1 p2 : Option Addr × Nat) => [.slice p1.1 (bQ c1.qs).length p1.2, .slice p2.1 (bQ c1.qs).length p2.2]) (fun s1 s2 => ay J J J J ⟨J, J, trivial⟩ rfl (by kernel_rfl)) (fun s1 s2 w1 _ _ hm h1 h2 => ?_)) J J J J J ?_ ?_ ?_
      · have hal := jr c1.qs
        exact lL _ _ _ _ (bQ c1.qs) w1 (Rws.own nw h1.1) (Rws.own nw h2.1) (by omega)
      · intro p hp
        rcases List.mem_cons.1 hp with rfl | hp
        · exact List.mem_cons_of_mem _ (List.mem_cons_self ..)
        · obtain rfl := List.mem_singleton.1 hp
          exact List.mem_cons_self ..
      · show ([91, 93] : List Nat).Nodup
        decide
      iterate 2 (((refine' mS rfl ?_ J J J ?_); rotate_left; first | exact ai af J J J J | exact bp J J J J J))
      refine v8 ?_
      intro s1 _ s2 _
      repeat' (first | refine ab ?_ | refine ae ?_)
      refine am rfl (by simp) ?_
      repeat' (first | refine ag ?_ | refine aa ?_ | refine ab ?_ | refine au ?_ | refine ax ?_ | refine ae ?_ | ((refine' ak rfl ?_ J J ?_); rotate_left; first | exact a6 J J J J J (by omega) | exact ai af J J J J | exact ah af 3 J J J J J | exact ah af 6 J J J J J) | refine aj af 8 J J J J J J J J J J J J ?_ | refine aj af 10 J J J J J J J J J J J J ?_)
      refine kE (M' := [.cl g7 32 (CC ⟨c1, bb2, bc2, xx2, xc2, qv2⟩), .rep F2 (fun w => COk F2 w ⟨c1, bb2, bc2, xx2, xc2, qv2⟩), .cl g5 32 (CC ⟨c1, bb1, bc1, xx1, xc1, qv1⟩), .rep F1 (fun w => COk F1 w ⟨c1, bb1, bc1, xx1, xc1, qv1⟩), .cl g2 28 (GC b)]) (fun w3 hM => ?_) ?_
      · have k1 := hM.mask [false, false, false, false, true, false, false, true, true, false, true, false, true] rfl
        have k2 := k1.repTo (p' := fun w => COk F2 w ⟨c1, bb2, bc2, xx2, xc2, qv2⟩) (fun _ h => h.cl) (fun _ _ hk h => h.agree hk)
        have k3 := (k2.perm (List.Perm.swap _ _ _)).repTo (p' := fun w => COk F1 w ⟨c1, bb1, bc1, xx1, xc1, qv1⟩) (fun _ h => h.cl) (fun _ _ hk h => h.agree hk)
        exact k3.perm ((p3 _ _ _ _).trans ((List.Perm.swap _ _ _).trans (List.Perm.cons _ (List.Perm.cons _ (List.Perm.swap _ _ _)))))
      · refine aR ⟨i + 1, ⟨c1, bb1, bc1, xx1, xc1, qv1⟩, F1, ⟨c1, bb2, bc2, xx2, xc2, qv2⟩, F2⟩ [] ⟨hi, hI1, show i + 1 ≤ 40 by omega, rfl, hwf2⟩ (show l.length - (i + 1) < l.length - i by omega) ⟨J, J, J, J, J, trivial⟩ rfl
    · have hle40 : ¬ (i < l.length ∧ i < 40) := hi'
      refine am rfl (by simp; omega) ?_
      repeat' (first | refine ag ?_ | refine aa ?_ | refine ab ?_ | refine aA ?_ | refine a8 ?_ | refine aH ?_ | refine aN ?_ | refine ae ?_ | ((refine' ak rfl ?_ J J ?_); rotate_left; exact ai af J J J J) | refine aG rfl (ay J J J J trivial rfl (by kernel_rfl)) (fun w hm => kL w (hg.below hm.below)) J J ?_)
      refine aB af (fun _ => 0) J J trivial rfl fun w hm => ⟨?_, hm.below⟩
      rfl
  · refine aw rfl (by simpa using he) ?_
    repeat' (first | refine ag ?_ | refine aa ?_ | refine ab ?_ | refine aA ?_ | refine ar ?_ | refine ae ?_ | ((refine' ak rfl ?_ J J ?_); rotate_left; exact ai af J J J J) | refine aG rfl (ay J J J J trivial rfl (by kernel_rfl)) (fun w hm => kL w (hg.below hm.below)) J J ?_)
    refine aB af (fun _ => 0) J J trivial rfl fun w hm => ⟨?_, hm.below⟩
    rfl
end Go.Proofs.YtmdkfbmpenohiaaGreatDoor.Y
