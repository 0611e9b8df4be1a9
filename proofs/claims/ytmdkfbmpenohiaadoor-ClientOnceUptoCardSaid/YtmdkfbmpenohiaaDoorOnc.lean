/- ClientOnce, walked. -/
import Derived.Test.YtmdkfbmpenohiaaDoorEnd
namespace Go.Proofs.YtmdkfbmpenohiaaDoor.Y
open Go.RowKit
structure OZ where
  i : Nat
  v : CV
  F : Nat → Prop
theorem pr3 (x a b : Ent) (R : List Ent) : (x :: a :: b :: R).Perm (a :: b :: x :: R) := (List.Perm.swap a x _).trans (List.Perm.cons a (List.Perm.swap b x _))
theorem drop_one {α : Type} {l : List α} {j : Nat} {v : α} (h : l[j]? = some v) : l.drop j = v :: l.drop (j + 1) := by
  obtain ⟨hj, rfl⟩ := List.getElem?_eq_some_iff.1 h
  exact List.drop_eq_getElem_cons hj
set_option maxRecDepth 100000 in
set_option maxHeartbeats 32000000 in
theorem once53 (b : BG) (x : Option Addr) (cap : Nat) (l : List OV) (w : World) (hB : Rws (fun _ => True) w 6 bC b.x b.l) (hbl : b.l.length ≤ 1048576) (hO : OpsK 1048576 w x l) (hg : MLen w) : Calls Tryd.prog 4 #[.agg #[.slice b.x b.l.length b.xc, .int .i64 b.ra, .int .i64 b.rb, .int .i64 b.rc, .int .i64 b.rk, .int .i64 b.tk, .int .i64 b.mo, .int .i64 b.gn], .slice x l.length cap] w fun e w' => e = .returned (.bool true) ∧ Below w.heap.size w w' := by
  refine sx_enter Tryd.func4 rfl Tryd.ntmps4 rfl rfl ?_
  repeat' (first | refine sc_seq ?_ | refine sc_region ?_ | refine sq_then ?_ | refine sx_nil ?_ | (refine sx_box rfl rfl rfl rfl rfl rfl ?_; intro g2) | ((refine' sx_v rfl ?_ rfl rfl ?_); rotate_left; first | exact vo_un tok rfl rfl rfl rfl | exact vo_load tok 0 rfl rfl rfl rfl rfl))
  refine sx_callP (σ := CV) (fun s _ => s.c = (bgL b).1) (fun s => .tuple ⟨[.agg ⟨CC s⟩, .int .i64 (bgL b).2]⟩) (fun s F w => COk F w s) rfl (callOp rfl rfl rfl rfl ⟨rfl, rfl, rfl, trivial⟩ rfl (by kernel_rfl)) (fun w1 hm => new_out b w w1 hm hB hbl) rfl rfl ?_
  rintro ⟨c0, b0, bc0, x0, xc0, qv0⟩ F0 hc0
  dsimp only at hc0
  repeat' (first | refine sc_seq ?_ | refine sc_region ?_ | refine sq_then ?_ | refine sx_nil ?_ | (refine sx_alloc tok rfl rfl rfl rfl rfl rfl ?_; intro g5) | ((refine' sx_v rfl ?_ rfl rfl ?_); rotate_left; first | exact vo_un tok rfl rfl rfl rfl | exact vo_bin tok rfl rfl rfl rfl rfl rfl) | refine sx_store tok 0 rfl rfl rfl rfl rfl rfl rfl rfl rfl rfl rfl rfl ?_)
  by_cases he : (bgL b).2 = 0
  · obtain ⟨hL0, ht0, hq0, hb0⟩ := LI.new he
    rw [← hc0] at hL0
    refine sc_false rfl (by rw [he]; rfl) ?_
    repeat' (first | refine sc_seq ?_ | refine sc_region ?_ | refine sq_then ?_ | refine sc_skip ?_ | refine sc_block ?_ | refine sx_nil ?_ | ((refine' sx_v rfl ?_ rfl rfl ?_); rotate_left; exact vo_un tok rfl rfl rfl rfl))
    refine sc_loop (σ := OZ) (fun p => p.i ≤ l.length ∧ p.i ≤ 40 ∧ LI b p.i p.v.c) (fun p => [(7, [], .int .i64 ((p.i : Nat) : Int)), (1, [], .slice x l.length cap), (2, [], .pointer (some ⟨g2, 0, none⟩)), (5, [], .pointer (some ⟨g5, 0, none⟩))]) (fun p => [.cl g5 29 (CC p.v), .rep p.F (fun w => COk p.F w p.v), .cl g2 47 (GC b)]) (fun p => l.length - p.i) ⟨0, ⟨c0, b0, bc0, x0, xc0, qv0⟩, F0⟩ [] ⟨Nat.zero_le _, show 0 ≤ 40 by decide, hL0⟩ ⟨rfl, rfl, rfl, rfl, trivial⟩ rfl ?_
    rintro ⟨i, ⟨c, bb, bc, xx, xc, qv⟩, F⟩ ⟨hle, hi40, hI⟩
    dsimp only at hle hI hi40 ⊢
    have hlq := hI.lq (by omega)
    have hzz := hI.zz (by omega)
    have haz := hI.az (by omega)
    repeat' (first | refine sc_seq ?_ | refine sc_region ?_ | refine sq_then ?_ | refine sx_nil ?_ | ((refine' sx_v rfl ?_ rfl rfl ?_); rotate_left; first | exact vo_un tok rfl rfl rfl rfl | exact vo_bin tok rfl rfl rfl rfl rfl rfl | exact vo_and rfl rfl rfl rfl rfl | exact vo_len tok rfl rfl rfl rfl rfl rfl rfl))
    by_cases hi' : i < l.length ∧ i < 40
    · obtain ⟨hi, h40⟩ := hi'
      obtain ⟨o, ho⟩ : ∃ o, l[i]? = some o := ⟨_, List.getElem?_eq_getElem hi⟩
      obtain ⟨bo, off, hx, hrows⟩ := hO.rows (by omega)
      have hrow : w.rangeAt bo (off + i * 23) (OC o) := hrows i o ho
      obtain ⟨hQ, hS, htx⟩ := hO.ok o (List.mem_of_getElem? ho)
      obtain ⟨hI1, n1, hmv⟩ := hI.step o hS
      have hkp := hmv.keeps hI.ok
      refine sc_true rfl (by simp; omega) ?_
      repeat' (first | refine sc_seq ?_ | refine sq_then ?_ | refine sc_skip ?_ | refine sc_block ?_)
      refine sc_regionVK (fun b' => F b' ∨ b' < w.heap.size) 11 [51, 8, 9] [45, 52, 53] [53] (keepO (i := 1) rfl) follows_any rfl (by kernel_rfl) ?_
      iterate 5 (((refine' srv_v rfl ?_ rfl rfl rfl ?_); rotate_left; first | exact vo_ixaH tok (m := 23) i rfl hx rfl rfl rfl rfl rfl rfl rfl (fun _ => rfl) (fun _ => hi) | exact vo_oldrowC tok (cs := OC o) rfl rfl rfl rfl rfl (fun _ => hrow) | exact vo_un tok rfl rfl rfl rfl | exact vo_load tok 0 rfl rfl rfl rfl rfl))
      refine srv_callE (σ := SV × (Nat → Prop)) (fun s => s.1.c.c = (stepL c o.d).1 ∧ s.1.l.map (·.q) = (stepL c o.d).2.qs) (fun s => .tuple ⟨[.agg ⟨CC s.1.c⟩, .agg ⟨RC s.1 (stepL c o.d).2⟩]⟩) (fun s => [.rep s.2 (fun w => StOk s.2 w s.1 (stepL c o.d).2.ids)]) rfl (callOp rfl rfl rfl rfl ⟨rfl, rfl, trivial⟩ rfl (by kernel_rfl)) (fun w1 hm => step_out ⟨c, bb, bc, xx, xc, qv⟩ o (hm.2.get (i := 1) rfl).2.1 hQ hm.below hg hI.ok hlq hzz haz (hS.szq (Nat.le_refl _)) (hS.hd (Nat.le_refl _)) (Nat.le_trans htx (by decide))) rfl rfl rfl rfl rfl ?_
      refine srv_move 5 rfl rfl rfl rfl rfl rfl rfl (by kernel_rfl) ?_
      refine srv_part 6 0 (m := 2) rfl rfl (fun x ⟨s, _, e⟩ => ⟨_, e, rfl⟩) rfl rfl rfl rfl rfl rfl (by kernel_rfl) ?_
      refine srv_part 6 1 (m := 2) rfl rfl (fun x ⟨s, _, e⟩ => ⟨_, e, rfl⟩) rfl rfl rfl rfl rfl rfl (by kernel_rfl) ?_
      refine srv_alloc tok rfl rfl rfl rfl rfl rfl rfl rfl ?_
      refine srv_alloc tok rfl rfl rfl rfl rfl rfl rfl rfl ?_
      refine srv_nil ?_
      refine tv_ex ?_
      rintro ⟨⟨⟨c1, bb1, bc1, xx1, xc1, qv1⟩, l1, la1, lc1, ia1, ic1⟩, F1⟩ ⟨hc1, hl1⟩
      dsimp only at hc1 hl1
      refine tv_der _ rfl rfl ?_
      refine tv_der (.agg ⟨CC ⟨c1, bb1, bc1, xx1, xc1, qv1⟩⟩) rfl rfl ?_
      refine tv_der (.agg ⟨RC ⟨⟨c1, bb1, bc1, xx1, xc1, qv1⟩, l1, la1, lc1, ia1, ic1⟩ (stepL c o.d).2⟩) rfl rfl ?_
      refine tv_ex ?_
      rintro g8 -
      refine tv_ex ?_
      rintro g9 -
      refine tv_nil ?_
      dsimp only [List.cons_append, List.nil_append]
      rw [← hc1] at hI1 hkp
      repeat' (first | refine sc_seq ?_ | refine sc_region ?_ | refine sq_then ?_ | refine sx_nil ?_ | ((refine' sx_v rfl ?_ rfl rfl ?_); rotate_left; first | exact vo_un tok rfl rfl rfl rfl | exact vo_load tok 1 rfl rfl rfl rfl rfl | exact vo_load tok 3 rfl rfl rfl rfl rfl) | refine sx_call rfl (callOp rfl rfl rfl rfl ⟨rfl, rfl, trivial⟩ rfl (by kernel_rfl)) (fun w hm => (ends_any ⟨c, bb, bc, xx, xc, qv⟩ ⟨c1, bb1, bc1, xx1, xc1, qv1⟩ w (hm.2.get (i := 4) rfl).2.1 (hm.2.get (i := 2) rfl).2.1.cl (by rw [← COk.lenq (hm.2.get (i := 4) rfl).2.1]; exact Nat.le_trans (hI.lq (by omega)) (by decide)) (by rw [← COk.lenq (hm.2.get (i := 2) rfl).2.1.cl]; exact Nat.le_trans (hI1.lq (by omega)) (by decide)) (szq_of (hm.2.get (i := 2) rfl).2.1.cl (hI1.zz (by omega))) hI1.ok hkp)) rfl rfl ?_ | refine sx_store tok 0 rfl rfl rfl rfl rfl rfl rfl rfl rfl rfl rfl rfl ?_ | refine sx_store tok 1 rfl rfl rfl rfl rfl rfl rfl rfl rfl rfl rfl rfl ?_)
      refine sc_false rfl rfl ?_
      repeat' (first | refine sc_region ?_ | refine sq_then ?_ | refine sc_skip ?_ | refine sq_blk_normal ?_ | refine sx_nil ?_ | ((refine' sx_v rfl ?_ rfl rfl ?_); rotate_left; first | exact vo_add rfl rfl rfl rfl rfl (by omega) | exact vo_un tok rfl rfl rfl rfl | exact vo_load tok 1 rfl rfl rfl rfl rfl) | refine sx_store tok 3 rfl rfl rfl rfl rfl rfl rfl rfl rfl rfl rfl rfl ?_)
      refine sq_conv (M' := [.cl g5 29 (CC ⟨c1, bb1, bc1, xx1, xc1, qv1⟩), .rep F1 (fun w => COk F1 w ⟨c1, bb1, bc1, xx1, xc1, qv1⟩), .cl g2 47 (GC b)]) (fun w1 hm => ((hm.mask [false, false, true, true, false, true] rfl).repTo (fun _ h => h.cl) (fun _ _ hk h => h.agree hk)).perm (List.Perm.swap _ _ _)) ?_
      refine sq_again ⟨i + 1, ⟨c1, bb1, bc1, xx1, xc1, qv1⟩, F1⟩ [] ⟨hi, h40, hI1⟩ (show l.length - (i + 1) < l.length - i by omega) ⟨rfl, rfl, rfl, rfl, trivial⟩ rfl
    refine sc_false rfl (by simp; omega) ?_
    have hal := actL_len c.qs
    have hsz := hI.sz.1
    repeat' (first | refine sc_seq ?_ | refine sc_region ?_ | refine sq_then ?_ | refine sc_exit ?_ | refine sq_pass_exit ?_ | refine sq_blk_hit ?_ | ((refine' sx_v rfl ?_ rfl rfl ?_); rotate_left; exact vo_load tok 0 rfl rfl rfl rfl rfl))
    refine sx_callM (σ := Option Addr × Nat) (fun _ => True) (fun p => .slice p.1 (actL c.qs).length p.2) (fun p => [.own p.1 p.2 3 1 (actL c.qs).length ((actL c.qs).flatMap iC)]) rfl (callOp rfl rfl rfl rfl ⟨rfl, trivial⟩ rfl (by kernel_rfl)) (fun w1 hm => act_any (A := F) ⟨c, bb, bc, xx, xc, qv⟩ w1 (hm.2.get (i := 1) rfl).2.1 (by rw [← COk.lenq (hm.2.get (i := 1) rfl).2.1]; exact Nat.le_trans hlq (by decide))) rfl rfl ?_
    rintro ⟨pa, pc⟩ -
    dsimp only [List.cons_append, List.nil_append]
    repeat' (first | refine sq_then ?_ | refine sc_block ?_ | refine sx_nil ?_ | ((refine' sx_v rfl ?_ rfl rfl ?_); rotate_left; first | exact vo_un tok rfl rfl rfl rfl | exact vo_len tok rfl rfl rfl rfl rfl rfl rfl))
    refine sc_loop (σ := OZ) (fun p => p.i ≤ (actL c.qs).length ∧ LI b i p.v.c ∧ P1 ((actL c.qs).drop p.i) p.v.c) (fun p => [(62, [], .int .i64 ((p.i : Nat) : Int)), (61, [], .int .i64 (((actL c.qs).length : Nat) : Int)), (60, [], .slice pa (actL c.qs).length pc), (2, [], .pointer (some ⟨g2, 0, none⟩)), (5, [], .pointer (some ⟨g5, 0, none⟩))]) (fun p => [.own pa pc 3 1 (actL c.qs).length ((actL c.qs).flatMap iC), .cl g5 29 (CC p.v), .rep p.F (fun w => COk p.F w p.v), .cl g2 47 (GC b)]) (fun p => (actL c.qs).length - p.i) ⟨0, ⟨c, bb, bc, xx, xc, qv⟩, F⟩ [] ⟨Nat.zero_le _, hI, P1.start hI.ok⟩ ⟨rfl, rfl, rfl, rfl, rfl, trivial⟩ rfl ?_
    rintro ⟨j, ⟨c2, bb2, bc2, xx2, xc2, qv2⟩, F2⟩ ⟨hj0, hI2, hP⟩
    dsimp only at hj0 hI2 hP ⊢
    by_cases hj : j < (actL c.qs).length
    · obtain ⟨id, hid⟩ : ∃ id, (actL c.qs)[j]? = some id := ⟨_, List.getElem?_eq_getElem hj⟩
      rw [drop_one hid] at hP
      refine sc_own 0 rfl (by omega) ?_
      rintro gx rfl
      repeat' (first | refine sc_seq ?_ | refine sc_region ?_ | refine sq_then ?_ | refine sx_nil ?_ | ((refine' sx_v rfl ?_ rfl rfl ?_); rotate_left; exact vo_bin tok rfl rfl rfl rfl rfl rfl))
      refine sc_true rfl (by simp; omega) ?_
      repeat' (first | refine sc_seq ?_ | refine sc_region ?_ | refine sq_then ?_ | refine sc_skip ?_ | refine sc_block ?_ | refine sx_nil ?_ | ((refine' sx_v rfl ?_ rfl rfl ?_); rotate_left; first | exact vo_ixa tok (m := 1) j rfl rfl rfl rfl rfl rfl rfl rfl (fun _ => rfl) (fun _ => hj) | exact vo_ocell tok 0 (v := .int .i64 id) rfl rfl rfl rfl rfl rfl (fun _ => by rw [Nat.zero_add]; exact flat_get iC_len hid (k := 0) rfl) | exact vo_un tok rfl rfl rfl rfl | exact vo_load tok 1 rfl rfl rfl rfl rfl))
      refine sx_callM (σ := QV) (fun s => s.q = (findL c2 id).1) (fun s => .tuple ⟨[.agg ⟨QC s⟩, .bool (findL c2 id).2]⟩) EQ rfl (callOp rfl rfl rfl rfl ⟨rfl, rfl, trivial⟩ rfl (by kernel_rfl)) (fun w1 hm => findC_any (A := F2) ⟨c2, bb2, bc2, xx2, xc2, qv2⟩ id w1 (hm.2.get (i := 2) rfl).2.1 (by rw [← COk.lenq (hm.2.get (i := 2) rfl).2.1]; exact Nat.le_trans (hI2.lq (by omega)) (by decide)) (szq_of (hm.2.get (i := 2) rfl).2.1 (hI2.zz (by omega)))) rfl rfl ?_
      rintro ⟨q1, m1, mc1, s1, sc1, a1, ac1⟩ h1
      dsimp only at h1
      dsimp only [EQ, List.cons_append, List.nil_append]
      repeat' (first | refine sc_seq ?_ | refine sc_region ?_ | refine sq_then ?_ | refine sx_nil ?_ | (refine sx_alloc tok rfl rfl rfl rfl rfl rfl ?_; intro g12) | ((refine' sx_v rfl ?_ rfl rfl ?_); rotate_left; first | exact vo_un tok rfl rfl rfl rfl | exact vo_bin tok rfl rfl rfl rfl rfl rfl | exact vo_load tok 0 rfl rfl rfl rfl rfl) | refine sx_store tok 0 rfl rfl rfl rfl rfl rfl rfl rfl rfl rfl rfl rfl ?_)
      by_cases hb : q1.bk.size = 0
      · refine sc_false rfl (by show (!(q1.bk.toList == (⟨#[]⟩ : ByteArray).toList)) = false; rw [emp_eq]; simpa using hb) ?_
        repeat' (first | refine sc_region ?_ | refine sq_then ?_ | refine sc_skip ?_ | refine sq_blk_normal ?_ | refine sx_nil ?_ | ((refine' sx_v rfl ?_ rfl rfl ?_); rotate_left; first | exact vo_add rfl rfl rfl rfl rfl (by omega) | exact vo_un tok rfl rfl rfl rfl))
        refine sq_again ⟨j + 1, ⟨c2, bb2, bc2, xx2, xc2, qv2⟩, F2⟩ [false, false, false, false, true, true, true, true] ⟨hj, hI2, hP.idle (by rw [← h1]; exact hb)⟩ (show (actL c.qs).length - (j + 1) < (actL c.qs).length - j by omega) ⟨rfl, rfl, rfl, rfl, rfl, trivial⟩ rfl
      · obtain ⟨he0, hP1⟩ := hP.busy (by rw [← h1]; exact hb)
        refine sc_true rfl (by show (!(q1.bk.toList == (⟨#[]⟩ : ByteArray).toList)) = true; rw [emp_eq]; simpa using hb) ?_
        repeat' (first | refine sc_seq ?_ | refine sc_region ?_ | ((refine' sx_v rfl ?_ rfl rfl ?_); rotate_left; first | exact vo_un tok rfl rfl rfl rfl | exact vo_load tok 5 rfl rfl rfl rfl rfl | exact vo_build tok rfl rfl ⟨rfl, trivial⟩ rfl rfl rfl))
        refine sx_callP (σ := CV) (fun s _ => s.c = (endX c2 id).1) (fun s => .tuple ⟨[.agg ⟨CC s⟩, .int .i64 (endX c2 id).2]⟩) (fun s F w => COk F w s) rfl (callOp rfl rfl rfl rfl ⟨rfl, rfl, rfl, rfl, rfl, trivial⟩ rfl (by kernel_rfl)) (fun w1 hm => end_out ⟨c2, bb2, bc2, xx2, xc2, qv2⟩ id hm (hm.2.get (i := 6) rfl).2.1 (rep_apart hm.2 (i := 6) rfl) hI2 (by omega)) rfl rfl ?_
        rintro ⟨c4, bb4, bc4, xx4, xc4, qv4⟩ F4 hF4
        dsimp only at hF4
        have hI4 := hI2.mv (endX_mv hI2.ok id)
        rw [← hF4] at hP1 hI4
        repeat' (first | refine sc_seq ?_ | refine sc_region ?_ | refine sq_then ?_ | refine sx_nil ?_ | ((refine' sx_v rfl ?_ rfl rfl ?_); rotate_left; first | exact vo_un tok rfl rfl rfl rfl | exact vo_bin tok rfl rfl rfl rfl rfl rfl) | refine sx_store tok 6 rfl rfl rfl rfl rfl rfl rfl rfl rfl rfl rfl rfl ?_)
        refine sc_false rfl (by rw [he0]; rfl) ?_
        repeat' (first | refine sc_region ?_ | refine sq_then ?_ | refine sc_skip ?_ | refine sq_blk_normal ?_ | refine sx_nil ?_ | ((refine' sx_v rfl ?_ rfl rfl ?_); rotate_left; first | exact vo_add rfl rfl rfl rfl rfl (by omega) | exact vo_un tok rfl rfl rfl rfl))
        refine sq_conv (M' := [.own (some ⟨gx, 0, none⟩) pc 3 1 (actL c.qs).length ((actL c.qs).flatMap iC), .cl g5 29 (CC ⟨c4, bb4, bc4, xx4, xc4, qv4⟩), .rep F4 (fun w => COk F4 w ⟨c4, bb4, bc4, xx4, xc4, qv4⟩), .cl g2 47 (GC b)]) (fun w1 hm => (hm.mask [true, false, false, false, false, true, true, false, true] rfl).perm (pr3 _ _ _ _)) ?_
        refine sq_again ⟨j + 1, ⟨c4, bb4, bc4, xx4, xc4, qv4⟩, F4⟩ [] ⟨hj, hI4, hP1⟩ (show (actL c.qs).length - (j + 1) < (actL c.qs).length - j by omega) ⟨rfl, rfl, rfl, rfl, rfl, trivial⟩ rfl
    have hjl : j = (actL c.qs).length := by omega
    rw [hjl, List.drop_length] at hP
    have hR0 := RN.zero hP
    refine sc_conv (M' := [.own pa pc 3 1 (actL c.qs).length ((actL c.qs).flatMap iC), .cl g5 29 (CC (⟨c2, bb2, bc2, xx2, xc2, qv2⟩ : CV)), .rep F2 (fun w => COk F2 w (⟨c2, bb2, bc2, xx2, xc2, qv2⟩ : CV)), .cl g2 47 (GC b)]) (fun w hM => hM) ?_
    repeat' (first | refine sc_seq ?_ | refine sc_region ?_ | refine sq_then ?_ | refine sx_nil ?_ | ((refine' sx_v rfl ?_ rfl rfl ?_); rotate_left; exact vo_bin tok rfl rfl rfl rfl rfl rfl))
    refine sc_false rfl (by simp; omega) ?_
    repeat' (first | refine sc_seq ?_ | refine sc_region ?_ | refine sq_then ?_ | refine sc_block ?_ | refine sc_exit ?_ | refine sq_pass_exit ?_ | refine sq_blk_hit ?_ | refine sx_nil ?_ | ((refine' sx_v rfl ?_ rfl rfl ?_); rotate_left; exact vo_un tok rfl rfl rfl rfl))
    have hra := rchk_rng hI2.ok.re
    rw [hI2.ra] at hra
    refine sc_loop (σ := OZ) (fun p => LI b i p.v.c ∧ RN (p.i : Int) p.v.c ∧ (p.i : Int) ≤ b.ra) (fun p => [(14, [], .int .i64 ((p.i : Nat) : Int)), (2, [], .pointer (some ⟨g2, 0, none⟩)), (5, [], .pointer (some ⟨g5, 0, none⟩))]) (fun p => [.cl g5 29 (CC p.v), .rep p.F (fun w => COk p.F w p.v), .cl g2 47 (GC b)]) (fun p => 10 - p.i) ⟨0, ⟨c2, bb2, bc2, xx2, xc2, qv2⟩, F2⟩ [false, true, true, true] ⟨hI2, hR0, by show (0 : Int) ≤ b.ra; omega⟩ ⟨rfl, rfl, rfl, trivial⟩ rfl ?_
    rintro ⟨k, ⟨c3, bb3, bc3, xx3, xc3, qv3⟩, F3⟩ ⟨hI3, hR3, hk3⟩
    dsimp only at hI3 hR3 hk3 ⊢
    repeat' (first | refine sc_seq ?_ | refine sc_region ?_ | refine sq_then ?_ | refine sx_nil ?_ | ((refine' sx_v rfl ?_ rfl rfl ?_); rotate_left; first | exact vo_un tok rfl rfl rfl rfl | exact vo_bin tok rfl rfl rfl rfl rfl rfl | exact vo_and rfl rfl rfl rfl rfl | exact vo_load tok 2 rfl rfl rfl rfl rfl))
    by_cases hk : (k : Int) < b.ra
    · refine sc_true rfl (by simp; omega) ?_
      have hIx := hI3.mv (expi_mv hI3.ok 1099511627776)
      obtain ⟨hRx, hpx⟩ := exp_rn hR3 1099511627776
      have hpx' : ∀ x ∈ (expiL c3 1099511627776).1.qs, x.dn = true ∨ passL x 1099511627776 = false := hpx
      have hIs := hIx.mv (start_mv (expiL c3 1099511627776).1 1099511627776)
      have hREs := start_re hRx hpx'
      have hKx := (expi_mv hI3.ok 1099511627776).keeps hI3.ok
      have hKs := hKx.trans ((start_mv (expiL c3 1099511627776).1 1099511627776).keeps hIx.ok)
      repeat' (first | refine sc_seq ?_ | refine sc_region ?_ | refine sq_then ?_ | refine sc_skip ?_ | refine sc_block ?_ | ((refine' sx_v rfl ?_ rfl rfl ?_); rotate_left; exact vo_load tok 0 rfl rfl rfl rfl rfl))
      refine sx_callP (σ := CV × (Option Addr × Nat)) (fun s _ => s.1.c = (expiL c3 1099511627776).1) (fun s => .tuple ⟨[.agg ⟨CC s.1⟩, .slice s.2.1 (expiL c3 1099511627776).2.length s.2.2]⟩) (fun s F w => COk F w s.1) rfl (callOp rfl rfl rfl rfl ⟨rfl, rfl, trivial⟩ rfl (by kernel_rfl)) (fun w1 hm => exp_out ⟨c3, bb3, bc3, xx3, xc3, qv3⟩ hm (hm.2.get (i := 1) rfl).2.1 (rep_apart hm.2 (i := 1) rfl) hI3 (by omega)) rfl rfl ?_
      rintro ⟨⟨c4, bb4, bc4, xx4, xc4, qv4⟩, ⟨ea, ec⟩⟩ F4 hc4
      dsimp only at hc4
      rw [← hc4] at hIx hRx hpx' hIs hREs hKs
      repeat' (first | refine sc_seq ?_ | refine sc_region ?_ | refine sq_then ?_ | refine sx_nil ?_ | (refine sx_alloc tok rfl rfl rfl rfl rfl rfl ?_; intro g15) | ((refine' sx_v rfl ?_ rfl rfl ?_); rotate_left; first | exact vo_un tok rfl rfl rfl rfl | exact vo_load tok 0 rfl rfl rfl rfl rfl) | refine sx_store tok 0 rfl rfl rfl rfl rfl rfl rfl rfl rfl rfl rfl rfl ?_)
      refine sx_callP (σ := CV × List QV × (Option Addr × Nat)) (fun s _ => s.1.c = (startL c4 1099511627776).1 ∧ s.2.1.map (·.q) = (startL c4 1099511627776).2) (fun s => .tuple ⟨[.agg ⟨CC s.1⟩, .slice s.2.2.1 s.2.1.length s.2.2.2]⟩) (fun s F w => SOk F w s) rfl (callOp rfl rfl rfl rfl ⟨rfl, rfl, trivial⟩ rfl (by kernel_rfl)) (fun w1 hm => sta_out ⟨c4, bb4, bc4, xx4, xc4, qv4⟩ hm (hm.2.get (i := 1) rfl).2.1 (rep_apart hm.2 (i := 1) rfl) hIx (by omega)) rfl rfl ?_
      rintro ⟨⟨c5, bb5, bc5, xx5, xc5, qv5⟩, l5, ⟨la5, lc5⟩⟩ F5 ⟨hc5, hl5⟩
      dsimp only at hc5 hl5
      rw [← hc5, ← hl5] at hREs
      rw [← hc5] at hIs hKs
      have hl5' : l5.length ≤ 40 := by
        have h9 := start_out (clk 1099511627776) c4.mo c4.gn c4.qs c4.bs c4.tk
        have h8 := hIx.sz.1
        rw [← List.length_map (f := (·.q)), hl5]
        exact Nat.le_trans h9 (by omega)
      repeat' (first | refine sc_seq ?_ | refine sc_region ?_ | refine sq_then ?_ | refine sc_block ?_ | refine sx_nil ?_ | ((refine' sx_v rfl ?_ rfl rfl ?_); rotate_left; first | exact vo_un tok rfl rfl rfl rfl | exact vo_len tok rfl rfl rfl rfl rfl rfl rfl) | refine sx_store tok 1 rfl rfl rfl rfl rfl rfl rfl rfl rfl rfl rfl rfl ?_)
      refine sc_conv (M' := [.rep F5 (fun w => SOk F5 w (⟨c5, bb5, bc5, xx5, xc5, qv5⟩, l5, (la5, lc5))), .cl g15 29 (CC ⟨c5, bb5, bc5, xx5, xc5, qv5⟩), .rep F5 (fun w => COk F5 w ⟨c5, bb5, bc5, xx5, xc5, qv5⟩), .rep F4 (fun w => COk F4 w ⟨c4, bb4, bc4, xx4, xc4, qv4⟩), .cl g5 29 (CC ⟨c3, bb3, bc3, xx3, xc3, qv3⟩), .rep F3 (fun w => COk F3 w ⟨c3, bb3, bc3, xx3, xc3, qv3⟩), .cl g2 47 (GC b)]) (fun w1 hm => (hm.repDup (p' := fun w => COk F5 w ⟨c5, bb5, bc5, xx5, xc5, qv5⟩) (fun _ h => h.1) (fun _ _ hk h => h.agree hk)).perm (pr3 _ _ _ _)) ?_
      refine sc_loop (σ := OZ) (fun p => p.i ≤ l5.length ∧ LI b i p.v.c ∧ RE (k : Int) ((l5.map (·.q)).drop p.i) p.v.c ∧ Keeps c3 p.v.c) (fun p => [(108, [], .int .i64 ((p.i : Nat) : Int)), (107, [], .int .i64 ((l5.length : Nat) : Int)), (106, [], .slice la5 l5.length lc5), (15, [], .pointer (some ⟨g15, 0, none⟩)), (14, [], .int .i64 ((k : Nat) : Int)), (2, [], .pointer (some ⟨g2, 0, none⟩)), (5, [], .pointer (some ⟨g5, 0, none⟩))]) (fun p => [.rep F5 (fun w => SOk F5 w (⟨c5, bb5, bc5, xx5, xc5, qv5⟩, l5, (la5, lc5))), .cl g15 29 (CC p.v), .rep p.F (fun w => COk p.F w p.v), .cl g5 29 (CC ⟨c3, bb3, bc3, xx3, xc3, qv3⟩), .rep F3 (fun w => COk F3 w ⟨c3, bb3, bc3, xx3, xc3, qv3⟩), .cl g2 47 (GC b)]) (fun p => l5.length - p.i) ⟨0, ⟨c5, bb5, bc5, xx5, xc5, qv5⟩, F5⟩ [true, true, true, false, true, true, true] ⟨Nat.zero_le _, hIs, hREs, hKs⟩ ⟨rfl, rfl, rfl, rfl, rfl, rfl, rfl, trivial⟩ rfl ?_
      rintro ⟨j, ⟨c6, bb6, bc6, xx6, xc6, qv6⟩, F6⟩ ⟨hj0, hI6, hRE6, hK6⟩
      dsimp only at hj0 hI6 hRE6 hK6 ⊢
      by_cases hj : j < l5.length
      · obtain ⟨u, hu⟩ : ∃ u, l5[j]? = some u := ⟨_, List.getElem?_eq_getElem hj⟩
        have huq : (l5.map (·.q))[j]? = some u.q := by rw [List.getElem?_map, hu]; rfl
        rw [drop_one huq] at hRE6
        have hatt := hRE6.att u.q (List.mem_cons_self ..)
        rw [hI6.ra] at hatt
        obtain ⟨he0, hRE7⟩ := hRE6.next
        have hI7 := hI6.mv (endX_mv hI6.ok u.q.id)
        have hK7 := hK6.trans ((endX_mv hI6.ok u.q.id).keeps hI6.ok)
        refine sc_fact (p := ∃ bl ol, la5 = some ⟨bl, ol, none⟩ ∧ ∀ w', Rws F5 w' 15 QC la5 l5 → ∀ (j : Nat) (v : QV), l5[j]? = some v → w'.rangeAt bl (ol + j * 15) (QC v)) (fun w1 hm => rws_fix (hm.2.get (i := 0) rfl).2.1.2.1 (by show 0 < l5.length; omega)) ?_
        rintro ⟨bl, ol, hlx, hlrows⟩
        repeat' (first | refine sc_seq ?_ | refine sc_region ?_ | refine sq_then ?_ | refine sx_nil ?_ | ((refine' sx_v rfl ?_ rfl rfl ?_); rotate_left; exact vo_bin tok rfl rfl rfl rfl rfl rfl))
        refine sc_true rfl (by simp; omega) ?_
        repeat' (first | refine sc_seq ?_ | refine sc_region ?_ | refine sq_then ?_ | refine sc_skip ?_ | refine sc_block ?_ | refine sx_nil ?_ | (refine sx_alloc tok rfl rfl rfl rfl rfl rfl ?_; intro g19) | ((refine' sx_v rfl ?_ rfl rfl ?_); rotate_left; first | exact vo_ixaH tok (m := 15) j rfl hlx rfl rfl rfl rfl rfl rfl rfl (fun _ => rfl) (fun _ => hj) | exact vo_rrow tok 0 (cs := QC u) rfl rfl rfl rfl rfl rfl (fun _ w hp => hlrows w hp.2.1 j u hu) | exact vo_un tok rfl rfl rfl rfl | exact vo_bin tok rfl rfl rfl rfl rfl rfl | exact vo_load tok 0 rfl rfl rfl rfl rfl | exact vo_load tok 6 rfl rfl rfl rfl rfl) | refine sx_store tok 0 rfl rfl rfl rfl rfl rfl rfl rfl rfl rfl rfl rfl ?_)
        refine sc_false rfl (by simp; omega) ?_
        repeat' (first | refine sc_seq ?_ | refine sc_region ?_ | refine sq_then ?_ | refine sc_skip ?_ | ((refine' sx_v rfl ?_ rfl rfl ?_); rotate_left; first | exact vo_un tok rfl rfl rfl rfl | exact vo_load tok 0 rfl rfl rfl rfl rfl | exact vo_load tok 2 rfl rfl rfl rfl rfl | exact vo_build tok rfl rfl ⟨rfl, trivial⟩ rfl rfl rfl))
        refine sx_callP (σ := CV) (fun s _ => s.c = (endX c6 u.q.id).1) (fun s => .tuple ⟨[.agg ⟨CC s⟩, .int .i64 (endX c6 u.q.id).2]⟩) (fun s F w => COk F w s) rfl (callOp rfl rfl rfl rfl ⟨rfl, rfl, rfl, rfl, rfl, trivial⟩ rfl (by kernel_rfl)) (fun w1 hm => end_out ⟨c6, bb6, bc6, xx6, xc6, qv6⟩ u.q.id hm (hm.2.get (i := 3) rfl).2.1 (rep_apart hm.2 (i := 3) rfl) hI6 (by omega)) rfl rfl ?_
        rintro ⟨c7, bb7, bc7, xx7, xc7, qv7⟩ F7 hF7
        dsimp only at hF7
        rw [← hF7] at hRE7 hI7 hK7
        repeat' (first | refine sc_seq ?_ | refine sc_region ?_ | refine sq_then ?_ | refine sx_nil ?_ | ((refine' sx_v rfl ?_ rfl rfl ?_); rotate_left; first | exact vo_un tok rfl rfl rfl rfl | exact vo_bin tok rfl rfl rfl rfl rfl rfl) | refine sx_store tok 3 rfl rfl rfl rfl rfl rfl rfl rfl rfl rfl rfl rfl ?_)
        refine sc_false rfl (by rw [he0]; rfl) ?_
        repeat' (first | refine sc_region ?_ | refine sq_then ?_ | refine sc_skip ?_ | refine sq_blk_normal ?_ | refine sx_nil ?_ | ((refine' sx_v rfl ?_ rfl rfl ?_); rotate_left; first | exact vo_add rfl rfl rfl rfl rfl (by omega) | exact vo_un tok rfl rfl rfl rfl))
        refine sq_conv (M' := [.rep F5 (fun w => SOk F5 w (⟨c5, bb5, bc5, xx5, xc5, qv5⟩, l5, (la5, lc5))), .cl g15 29 (CC ⟨c7, bb7, bc7, xx7, xc7, qv7⟩), .rep F7 (fun w => COk F7 w ⟨c7, bb7, bc7, xx7, xc7, qv7⟩), .cl g5 29 (CC ⟨c3, bb3, bc3, xx3, xc3, qv3⟩), .rep F3 (fun w => COk F3 w ⟨c3, bb3, bc3, xx3, xc3, qv3⟩), .cl g2 47 (GC b)]) (fun w1 hm => (hm.mask [true, false, true, true, false, true, true, true] rfl).perm (pr3 _ _ _ _)) ?_
        refine sq_again ⟨j + 1, ⟨c7, bb7, bc7, xx7, xc7, qv7⟩, F7⟩ [] ⟨hj, hI7, hRE7, hK7⟩ (show l5.length - (j + 1) < l5.length - j by omega) ⟨rfl, rfl, rfl, rfl, rfl, rfl, rfl, trivial⟩ rfl
      · have hjl : j = l5.length := by omega
        have hml : (l5.map (·.q)).length = l5.length := List.length_map _
        rw [hjl, ← hml, List.drop_length] at hRE6
        have hR6 := hRE6.done
        repeat' (first | refine sc_seq ?_ | refine sc_region ?_ | refine sq_then ?_ | refine sx_nil ?_ | ((refine' sx_v rfl ?_ rfl rfl ?_); rotate_left; exact vo_bin tok rfl rfl rfl rfl rfl rfl))
        refine sc_false rfl (by simp; omega) ?_
        repeat' (first | refine sc_seq ?_ | refine sc_region ?_ | refine sq_then ?_ | refine sc_exit ?_ | refine sq_pass_exit ?_ | refine sq_blk_hit ?_ | refine sx_nil ?_ | ((refine' sx_v rfl ?_ rfl rfl ?_); rotate_left; first | exact vo_un tok rfl rfl rfl rfl | exact vo_load tok 1 rfl rfl rfl rfl rfl | exact vo_load tok 3 rfl rfl rfl rfl rfl) | refine sx_call rfl (callOp rfl rfl rfl rfl ⟨rfl, rfl, trivial⟩ rfl (by kernel_rfl)) (fun w hm => (ends_any ⟨c3, bb3, bc3, xx3, xc3, qv3⟩ ⟨c6, bb6, bc6, xx6, xc6, qv6⟩ w (hm.2.get (i := 4) rfl).2.1 (hm.2.get (i := 2) rfl).2.1 (by rw [← COk.lenq (hm.2.get (i := 4) rfl).2.1]; exact Nat.le_trans (hI3.lq (by omega)) (by decide)) (by rw [← COk.lenq (hm.2.get (i := 2) rfl).2.1]; exact Nat.le_trans (hI6.lq (by omega)) (by decide)) (szq_of (hm.2.get (i := 2) rfl).2.1 (hI6.zz (by omega))) hI6.ok hK6)) rfl rfl ?_)
        refine sc_false rfl rfl ?_
        repeat' (first | refine sc_region ?_ | refine sq_then ?_ | refine sc_skip ?_ | refine sq_blk_normal ?_ | refine sx_nil ?_ | ((refine' sx_v rfl ?_ rfl rfl ?_); rotate_left; first | exact vo_add rfl rfl rfl rfl rfl (by omega) | exact vo_un tok rfl rfl rfl rfl | exact vo_load tok 1 rfl rfl rfl rfl rfl) | refine sx_store tok 3 rfl rfl rfl rfl rfl rfl rfl rfl rfl rfl rfl rfl ?_)
        refine sq_conv (M' := [.cl g5 29 (CC ⟨c6, bb6, bc6, xx6, xc6, qv6⟩), .rep F6 (fun w => COk F6 w ⟨c6, bb6, bc6, xx6, xc6, qv6⟩), .cl g2 47 (GC b)]) (fun w1 hm => (hm.mask [false, false, true, true, false, true] rfl).perm (List.Perm.swap _ _ _)) ?_
        refine sq_again ⟨k + 1, ⟨c6, bb6, bc6, xx6, xc6, qv6⟩, F6⟩ [] ⟨hI6, hR6, by show ((k + 1 : Nat) : Int) ≤ b.ra; omega⟩ (show 10 - (k + 1) < 10 - k by omega) ⟨rfl, rfl, rfl, trivial⟩ rfl
    have hke : (k : Int) = c3.ra := by rw [hI3.ra]; omega
    rw [hke] at hR3
    obtain ⟨hall, hact⟩ := hR3.done
    rw [hI3.ra] at hall
    refine sc_false rfl (by simp; omega) ?_
    repeat' (first | refine sc_seq ?_ | refine sc_region ?_ | refine sq_then ?_ | refine sc_block ?_ | refine sc_exit ?_ | refine sq_pass_exit ?_ | refine sq_blk_hit ?_ | refine sx_nil ?_ | ((refine' sx_v rfl ?_ rfl rfl ?_); rotate_left; first | exact vo_un tok rfl rfl rfl rfl | exact vo_load tok 0 rfl rfl rfl rfl rfl | exact vo_len tok rfl rfl rfl rfl rfl rfl rfl))
    refine sc_fact (p := c3.qs = qv3.map (·.q)) (fun w1 hm => (hm.2.get (i := 1) rfl).2.1.eq) ?_
    intro hqm
    have hq3 : qv3.length ≤ 40 := by rw [← List.length_map (f := (·.q)), ← hqm]; exact Nat.le_trans hI3.sz.1 hi40
    refine sc_loop (σ := Nat × Unit) (fun p => p.1 ≤ qv3.length) (fun p => [(137, [], .int .i64 ((p.1 : Nat) : Int)), (136, [], .int .i64 ((qv3.length : Nat) : Int)), (135, [], .slice xx3 qv3.length xc3), (2, [], .pointer (some ⟨g2, 0, none⟩)), (5, [], .pointer (some ⟨g5, 0, none⟩))]) (fun _ => [.cl g5 29 (CC ⟨c3, bb3, bc3, xx3, xc3, qv3⟩), .rep F3 (fun w => COk F3 w ⟨c3, bb3, bc3, xx3, xc3, qv3⟩), .cl g2 47 (GC b)]) (fun p => qv3.length - p.1) (0, ()) [] (Nat.zero_le _) ⟨rfl, rfl, rfl, rfl, rfl, trivial⟩ rfl ?_
    rintro ⟨j, ⟨⟩⟩ hj0
    dsimp only at hj0 ⊢
    by_cases hj : j < qv3.length
    · obtain ⟨u, hu⟩ : ∃ u, qv3[j]? = some u := ⟨_, List.getElem?_eq_getElem hj⟩
      obtain ⟨hd1, hd2⟩ := hall u.q (by rw [hqm]; exact List.mem_map_of_mem (List.mem_of_getElem? hu))
      refine sc_fact (p := ∃ bl ol, xx3 = some ⟨bl, ol, none⟩ ∧ ∀ w', Rws F3 w' 15 QC xx3 qv3 → ∀ (j : Nat) (v : QV), qv3[j]? = some v → w'.rangeAt bl (ol + j * 15) (QC v)) (fun w1 hm => rws_fix (hm.2.get (i := 1) rfl).2.1.qs (by show 0 < qv3.length; omega)) ?_
      rintro ⟨ql, oq, hqx, hqrows⟩
      repeat' (first | refine sc_seq ?_ | refine sc_region ?_ | refine sq_then ?_ | refine sx_nil ?_ | ((refine' sx_v rfl ?_ rfl rfl ?_); rotate_left; exact vo_bin tok rfl rfl rfl rfl rfl rfl))
      refine sc_true rfl (by simp; omega) ?_
      repeat' (first | refine sc_seq ?_ | refine sc_region ?_ | refine sq_then ?_ | refine sc_skip ?_ | refine sc_block ?_ | refine sx_nil ?_ | (refine sx_alloc tok rfl rfl rfl rfl rfl rfl ?_; intro g21) | ((refine' sx_v rfl ?_ rfl rfl ?_); rotate_left; first | exact vo_ixaH tok (m := 15) j rfl hqx rfl rfl rfl rfl rfl rfl rfl (fun _ => rfl) (fun _ => hj) | exact vo_rrow tok 1 (cs := QC u) rfl rfl rfl rfl rfl rfl (fun _ w hp => hqrows w hp.qs j u hu) | exact vo_un tok rfl rfl rfl rfl | exact vo_bin tok rfl rfl rfl rfl rfl rfl | exact vo_or rfl rfl rfl rfl rfl | exact vo_load tok 0 rfl rfl rfl rfl rfl | exact vo_load tok 3 rfl rfl rfl rfl rfl) | refine sx_store tok 0 rfl rfl rfl rfl rfl rfl rfl rfl rfl rfl rfl rfl ?_)
      refine sc_false rfl (by rw [hd1]; simp; omega) ?_
      repeat' (first | refine sc_region ?_ | refine sq_then ?_ | refine sc_skip ?_ | refine sq_blk_normal ?_ | refine sx_nil ?_ | ((refine' sx_v rfl ?_ rfl rfl ?_); rotate_left; first | exact vo_add rfl rfl rfl rfl rfl (by omega) | exact vo_un tok rfl rfl rfl rfl))
      refine sq_again (j + 1, ()) [false, true, true, true] hj (show qv3.length - (j + 1) < qv3.length - j by omega) ⟨rfl, rfl, rfl, rfl, rfl, trivial⟩ rfl
    repeat' (first | refine sc_seq ?_ | refine sc_region ?_ | refine sq_then ?_ | refine sx_nil ?_ | ((refine' sx_v rfl ?_ rfl rfl ?_); rotate_left; exact vo_bin tok rfl rfl rfl rfl rfl rfl))
    refine sc_false rfl (by simp; omega) ?_
    repeat' (first | refine sc_seq ?_ | refine sc_region ?_ | refine sq_then ?_ | refine sc_exit ?_ | refine sq_pass_exit ?_ | refine sq_blk_hit ?_ | ((refine' sx_v rfl ?_ rfl rfl ?_); rotate_left; exact vo_load tok 0 rfl rfl rfl rfl rfl))
    refine sx_callM (σ := Option Addr × Nat) (fun _ => True) (fun p => .slice p.1 (actL c3.qs).length p.2) (fun p => [.own p.1 p.2 3 1 (actL c3.qs).length ((actL c3.qs).flatMap iC)]) rfl (callOp rfl rfl rfl rfl ⟨rfl, trivial⟩ rfl (by kernel_rfl)) (fun w1 hm => act_any (A := F3) ⟨c3, bb3, bc3, xx3, xc3, qv3⟩ w1 (hm.2.get (i := 1) rfl).2.1 (by show qv3.length ≤ _; omega)) rfl rfl ?_
    rintro ⟨pa3, pc3⟩ -
    dsimp only [List.cons_append, List.nil_append]
    repeat' (first | refine sq_then ?_ | refine sc_ret ?_ | refine sx_nil ?_ | ((refine' sx_v rfl ?_ rfl rfl ?_); rotate_left; first | exact vo_un tok rfl rfl rfl rfl | exact vo_bin tok rfl rfl rfl rfl rfl rfl | exact vo_and rfl rfl rfl rfl rfl | exact vo_len tok rfl rfl rfl rfl rfl rfl rfl) | refine sx_call rfl (callOp rfl rfl rfl rfl trivial rfl (by kernel_rfl)) (fun w hm => awake53 w (hg.below hm.below)) rfl rfl ?_)
    refine sq_ret tok (fun _ => 0) rfl rfl trivial rfl fun w hm => ⟨?_, hm.below⟩
    rw [hact]
    rfl
  · refine sc_true rfl (by simpa using he) ?_
    repeat' (first | refine sc_seq ?_ | refine sc_region ?_ | refine sq_then ?_ | refine sc_ret ?_ | refine sq_pass_ret ?_ | refine sx_nil ?_ | ((refine' sx_v rfl ?_ rfl rfl ?_); rotate_left; exact vo_un tok rfl rfl rfl rfl) | refine sx_call rfl (callOp rfl rfl rfl rfl trivial rfl (by kernel_rfl)) (fun w hm => awake53 w (hg.below hm.below)) rfl rfl ?_)
    refine sq_ret tok (fun _ => 0) rfl rfl trivial rfl fun w hm => ⟨?_, hm.below⟩
    rfl
end Go.Proofs.YtmdkfbmpenohiaaDoor.Y
