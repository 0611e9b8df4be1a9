/- ClientBusy, walked. -/
import Derived.Test.YtmdkfbmpenohiaaDoorBud
namespace Go.Proofs.YtmdkfbmpenohiaaDoor.Y
open Go.RowKit
structure LZ where
  i : Nat
  v : CV
  F : Nat → Prop
/-- what the loop keeps. -/
structure ZI (b : BG) (n : Nat) (p : LZ) : Prop where
  le : p.i ≤ n
  li : LI b p.i p.v.c
  i40 : p.i ≤ 40
  bz : BZ p.v.c
theorem cntN_take {l : List QV} {j : Nat} {u : QV} (h : l[j]? = some u) (s : ByteArray) : cntN ((l.take (j + 1)).map (·.q)) s = cntN ((l.take j).map (·.q)) s + if beB u.q.bk s then 1 else 0 := by
  unfold cntN
  rw [take_snoc h, List.map_append, List.countP_append]
  show _ + [u.q].countP _ = _
  rw [List.countP_singleton]
theorem cntN_le (l : List QR) (s : ByteArray) : cntN l s ≤ l.length := List.countP_le_length
set_option maxRecDepth 100000 in
set_option maxHeartbeats 16000000 in
theorem busy53 (b : BG) (x : Option Addr) (cap : Nat) (l : List OV) (w : World) (hB : Rws (fun _ => True) w 6 bC b.x b.l) (hbl : b.l.length ≤ 1048576) (hO : OpsK 1048576 w x l) (hg : MLen w) : Calls Tryd.prog 6 #[.agg #[.slice b.x b.l.length b.xc, .int .i64 b.ra, .int .i64 b.rb, .int .i64 b.rc, .int .i64 b.rk, .int .i64 b.tk, .int .i64 b.mo, .int .i64 b.gn], .slice x l.length cap] w fun e w' => e = .returned (.bool true) ∧ Below w.heap.size w w' := by
  refine sx_enter Tryd.func6 rfl Tryd.ntmps6 rfl rfl ?_
  repeat' (first | refine sc_seq ?_ | refine sc_region ?_ | refine sq_then ?_ | refine sc_block ?_ | refine sx_nil ?_ | (refine sx_box rfl rfl rfl rfl rfl rfl ?_; intro g2) | ((refine' sx_v rfl ?_ rfl rfl ?_); rotate_left; first | exact vo_un tok rfl rfl rfl rfl | exact vo_load tok 0 rfl rfl rfl rfl rfl | exact vo_len tok rfl rfl rfl rfl rfl rfl rfl))
  refine sc_loop (σ := Nat × Unit) (fun p => p.1 ≤ b.l.length ∧ ∀ y ∈ b.l.take p.1, y.bs = 0) (fun p => [(20, [], .int .i64 ((p.1 : Nat) : Int)), (19, [], .int .i64 ((b.l.length : Nat) : Int)), (18, [], .slice b.x b.l.length b.xc), (1, [], .slice x l.length cap), (2, [], .pointer (some ⟨g2, 0, none⟩))]) (fun _ => [.cl g2 47 (GC b)]) (fun p => b.l.length - p.1) (0, ()) [] ⟨Nat.zero_le _, fun y hy => by rw [List.take_zero] at hy; cases hy⟩ ⟨rfl, rfl, rfl, rfl, rfl, trivial⟩ rfl ?_
  rintro ⟨j, ⟨⟩⟩ ⟨hj0, hz0⟩
  dsimp only at hj0 hz0 ⊢
  by_cases hj : j < b.l.length
  · obtain ⟨bv, hbv⟩ : ∃ y, b.l[j]? = some y := ⟨_, List.getElem?_eq_getElem hj⟩
    obtain ⟨bb0, ob, hbx, _, _, hbrows⟩ := hB (by omega)
    have hbrow : w.rangeAt bb0 (ob + j * 6) (bC bv) := hbrows j bv hbv
    repeat' (first | refine sc_seq ?_ | refine sc_region ?_ | refine sq_then ?_ | refine sx_nil ?_ | ((refine' sx_v rfl ?_ rfl rfl ?_); rotate_left; exact vo_bin tok rfl rfl rfl rfl rfl rfl))
    refine sc_true rfl (by simp; omega) ?_
    repeat' (first | refine sc_seq ?_ | refine sc_region ?_ | refine sq_then ?_ | refine sc_skip ?_ | refine sc_block ?_ | refine sx_nil ?_ | (refine sx_alloc tok rfl rfl rfl rfl rfl rfl ?_; intro g6) | ((refine' sx_v rfl ?_ rfl rfl ?_); rotate_left; first | exact vo_ixaH tok (m := 6) j rfl hbx rfl rfl rfl rfl rfl rfl rfl (fun _ => rfl) (fun _ => hj) | exact vo_oldrowC tok (cs := bC bv) rfl rfl rfl rfl rfl (fun _ => hbrow) | exact vo_un tok rfl rfl rfl rfl | exact vo_bin tok rfl rfl rfl rfl rfl rfl | exact vo_load tok 0 rfl rfl rfl rfl rfl) | refine sx_store tok 0 rfl rfl rfl rfl rfl rfl rfl rfl rfl rfl rfl rfl ?_)
    by_cases hb0 : bv.bs = 0
    · refine sc_false rfl (by simpa using hb0) ?_
      repeat' (first | refine sc_region ?_ | refine sq_then ?_ | refine sc_skip ?_ | refine sq_blk_normal ?_ | refine sx_nil ?_ | ((refine' sx_v rfl ?_ rfl rfl ?_); rotate_left; first | exact vo_add rfl rfl rfl rfl rfl (by omega) | exact vo_un tok rfl rfl rfl rfl))
      refine sq_again (j + 1, ()) [false, true] ⟨hj, fun y hy => ?_⟩ (show b.l.length - (j + 1) < b.l.length - j by omega) ⟨rfl, rfl, rfl, rfl, rfl, trivial⟩ rfl
      rw [take_snoc hbv] at hy
      rcases List.mem_append.1 hy with hy | hy
      · exact hz0 y hy
      · obtain rfl := List.mem_singleton.1 hy
        exact hb0
    · refine sc_true rfl (by simpa using hb0) ?_
      repeat' (first | refine sc_seq ?_ | refine sc_region ?_ | refine sq_then ?_ | refine sc_ret ?_ | refine sq_pass_ret ?_ | refine sq_blk_ret ?_ | refine sx_nil ?_ | ((refine' sx_v rfl ?_ rfl rfl ?_); rotate_left; exact vo_un tok rfl rfl rfl rfl) | refine sx_call rfl (callOp rfl rfl rfl rfl trivial rfl (by kernel_rfl)) (fun w hm => awake53 w (hg.below hm.below)) rfl rfl ?_)
      refine sq_ret tok (fun _ => 0) rfl rfl trivial rfl fun w hm => ⟨?_, hm.below⟩
      rfl
  have hjl : j = b.l.length := by omega
  rw [List.take_of_length_le (by omega)] at hz0
  repeat' (first | refine sc_seq ?_ | refine sc_region ?_ | refine sq_then ?_ | refine sx_nil ?_ | ((refine' sx_v rfl ?_ rfl rfl ?_); rotate_left; exact vo_bin tok rfl rfl rfl rfl rfl rfl))
  refine sc_false rfl (by simp; omega) ?_
  repeat' (first | refine sc_seq ?_ | refine sc_region ?_ | refine sq_then ?_ | refine sc_exit ?_ | refine sq_pass_exit ?_ | refine sq_blk_hit ?_ | ((refine' sx_v rfl ?_ rfl rfl ?_); rotate_left; first | exact vo_un tok rfl rfl rfl rfl | exact vo_load tok 0 rfl rfl rfl rfl rfl))
  refine sx_callP (σ := CV) (fun s _ => s.c = (bgL b).1) (fun s => .tuple ⟨[.agg ⟨CC s⟩, .int .i64 (bgL b).2]⟩) (fun s F w => COk F w s) rfl (callOp rfl rfl rfl rfl ⟨rfl, rfl, rfl, trivial⟩ rfl (by kernel_rfl)) (fun w1 hm => new_out b w w1 hm hB hbl) rfl rfl ?_
  rintro ⟨c0, b0, bc0, x0, xc0, qv0⟩ F0 hc0
  dsimp only at hc0
  repeat' (first | refine sc_seq ?_ | refine sc_region ?_ | refine sq_then ?_ | refine sx_nil ?_ | (refine sx_alloc tok rfl rfl rfl rfl rfl rfl ?_; intro g7) | ((refine' sx_v rfl ?_ rfl rfl ?_); rotate_left; first | exact vo_un tok rfl rfl rfl rfl | exact vo_bin tok rfl rfl rfl rfl rfl rfl) | refine sx_store tok 0 rfl rfl rfl rfl rfl rfl rfl rfl rfl rfl rfl rfl ?_)
  by_cases he : (bgL b).2 = 0
  · obtain ⟨hL0, ht0, hq0, hb0⟩ := LI.new he
    rw [← hc0] at hL0 ht0 hq0 hb0
    refine sc_false rfl (by rw [he]; rfl) ?_
    repeat' (first | refine sc_seq ?_ | refine sc_region ?_ | refine sq_then ?_ | refine sc_skip ?_ | refine sc_block ?_ | refine sx_nil ?_ | ((refine' sx_v rfl ?_ rfl rfl ?_); rotate_left; exact vo_un tok rfl rfl rfl rfl))
    refine sc_loop (σ := LZ) (ZI b l.length) (fun p => [(9, [], .int .i64 ((p.i : Nat) : Int)), (1, [], .slice x l.length cap), (2, [], .pointer (some ⟨g2, 0, none⟩)), (7, [], .pointer (some ⟨g7, 0, none⟩))]) (fun p => [.cl g7 29 (CC p.v), .rep p.F (fun w => COk p.F w p.v), .cl g2 47 (GC b)]) (fun p => l.length - p.i) ⟨0, ⟨c0, b0, bc0, x0, xc0, qv0⟩, F0⟩ [] ⟨Nat.zero_le _, hL0, show 0 ≤ 40 by decide, ?_⟩ ⟨rfl, rfl, rfl, rfl, trivial⟩ rfl ?_
    · intro y hy
      have hy' : y ∈ c0.bs := hy
      show y.bs = (cntN c0.qs y.nm : Int)
      rw [hq0]
      exact hz0 y (by rw [hb0] at hy'; exact hy')
    rintro ⟨i, ⟨c, bb, bc, xx, xc, qv⟩, F⟩ ⟨hle, hI, hi40, hbz⟩
    dsimp only at hle hI hi40 hbz ⊢
    have hlq := hI.lq (by omega)
    have hzz := hI.zz (by omega)
    have haz := hI.az (by omega)
    repeat' (first | refine sc_seq ?_ | refine sc_region ?_ | refine sq_then ?_ | refine sx_nil ?_ | ((refine' sx_v rfl ?_ rfl rfl ?_); rotate_left; first | exact vo_un tok rfl rfl rfl rfl | exact vo_bin tok rfl rfl rfl rfl rfl rfl | exact vo_and rfl rfl rfl rfl rfl | exact vo_len tok rfl rfl rfl rfl rfl rfl rfl))
    by_cases hi' : i < l.length ∧ i < 40
    · obtain ⟨hi, h40⟩ := hi'
      obtain ⟨o, ho⟩ : ∃ o, l[i]? = some o := ⟨_, List.getElem?_eq_getElem hi⟩
      obtain ⟨bo, off, hx, hrows⟩ := hO.rows (by omega)
      have hrow : w.rangeAt bo (off + i * 23) (OC o) := hrows i o ho
      obtain ⟨hQ, hS, htx⟩ := hO.ok o (List.mem_of_getElem? ho)
      obtain ⟨hI1, n1, hmv⟩ := hI.step o hS
      have hsz1 := hI1.sz.1
      have hbz1 := hmv.bz hI.ok (by omega) hbz
      refine sc_true rfl (by simp; omega) ?_
      repeat' (first | refine sc_seq ?_ | refine sq_then ?_ | refine sc_skip ?_ | refine sc_block ?_)
      refine sc_regionVK (fun b' => F b' ∨ b' < w.heap.size) 11 [58, 10, 11] [52, 59, 60] [60] (keepO (i := 1) rfl) follows_any rfl (by kernel_rfl) ?_
      iterate 5 (((refine' srv_v rfl ?_ rfl rfl rfl ?_); rotate_left; first | exact vo_ixaH tok (m := 23) i rfl hx rfl rfl rfl rfl rfl rfl rfl (fun _ => rfl) (fun _ => hi) | exact vo_oldrowC tok (cs := OC o) rfl rfl rfl rfl rfl (fun _ => hrow) | exact vo_un tok rfl rfl rfl rfl | exact vo_load tok 0 rfl rfl rfl rfl rfl))
      refine srv_callE (σ := SV × (Nat → Prop)) (fun s => s.1.c.c = (stepL c o.d).1 ∧ s.1.l.map (·.q) = (stepL c o.d).2.qs) (fun s => .tuple ⟨[.agg ⟨CC s.1.c⟩, .agg ⟨RC s.1 (stepL c o.d).2⟩]⟩) (fun s => [.rep s.2 (fun w => StOk s.2 w s.1 (stepL c o.d).2.ids)]) rfl (callOp rfl rfl rfl rfl ⟨rfl, rfl, trivial⟩ rfl (by kernel_rfl)) (fun w1 hm => step_out ⟨c, bb, bc, xx, xc, qv⟩ o (hm.2.get (i := 1) rfl).2.1 hQ hm.below hg hI.ok hlq hzz haz (hS.szq (Nat.le_refl _)) (hS.hd (Nat.le_refl _)) (Nat.le_trans htx (by decide))) rfl rfl rfl rfl rfl ?_
      refine srv_move 5 rfl rfl rfl rfl rfl rfl rfl (by kernel_rfl) ?_
      refine srv_part 6 0 (m := 2) rfl rfl (fun x ⟨s, _, e⟩ => ⟨_, e, rfl⟩) rfl rfl rfl rfl rfl rfl (by kernel_rfl) ?_
      refine srv_part 6 1 (m := 2) rfl rfl (fun x ⟨s, _, e⟩ => ⟨_, e, rfl⟩) rfl rfl rfl rfl rfl rfl (by kernel_rfl) ?_
      refine srv_alloc tok rfl rfl rfl rfl rfl rfl rfl rfl ?_
      refine srv_alloc tok rfl rfl rfl rfl rfl rfl rfl rfl ?_
      refine srv_nil ?_
      refine tv_ex ?_
      rintro ⟨⟨⟨c1, bb1, bc1, xx1, xc1, qv1⟩, l1, la1, lc1, ia1, ic1⟩, F1⟩ ⟨hc1, hl1⟩
      dsimp only at hc1 hl1
      refine tv_der _ rfl rfl ?_
      refine tv_der (.agg ⟨CC ⟨c1, bb1, bc1, xx1, xc1, qv1⟩⟩) rfl rfl ?_
      refine tv_der (.agg ⟨RC ⟨⟨c1, bb1, bc1, xx1, xc1, qv1⟩, l1, la1, lc1, ia1, ic1⟩ (stepL c o.d).2⟩) rfl rfl ?_
      refine tv_ex ?_
      rintro g10 -
      refine tv_ex ?_
      rintro g11 -
      refine tv_nil ?_
      dsimp only [List.cons_append, List.nil_append]
      rw [← hc1] at hI1 hbz1 hsz1
      have hbl1 := (chkB_ok hI1.ok.cb).1
      repeat' (first | refine sc_seq ?_ | refine sc_region ?_ | refine sq_then ?_ | refine sc_block ?_ | refine sx_nil ?_ | ((refine' sx_v rfl ?_ rfl rfl ?_); rotate_left; first | exact vo_un tok rfl rfl rfl rfl | exact vo_load tok 1 rfl rfl rfl rfl rfl | exact vo_load tok 3 rfl rfl rfl rfl rfl | exact vo_len tok rfl rfl rfl rfl rfl rfl rfl) | refine sx_store tok 0 rfl rfl rfl rfl rfl rfl rfl rfl rfl rfl rfl rfl ?_ | refine sx_store tok 1 rfl rfl rfl rfl rfl rfl rfl rfl rfl rfl rfl rfl ?_ | refine sx_store tok 3 rfl rfl rfl rfl rfl rfl rfl rfl rfl rfl rfl rfl ?_)
      refine sc_fact (p := c1.qs = qv1.map (·.q)) (fun w1 hm => (hm.2.get (i := 2) rfl).2.1.cl.eq) ?_
      intro hqm
      have hqlen : qv1.length ≤ 41 := by rw [← List.length_map (f := (·.q)), ← hqm]; omega
      refine sc_loop (σ := Nat × Unit) (fun p => p.1 ≤ c1.bs.length) (fun p => [(65, [], .int .i64 ((p.1 : Nat) : Int)), (64, [], .int .i64 ((c1.bs.length : Nat) : Int)), (63, [], .slice bb1 c1.bs.length bc1), (9, [], .int .i64 ((i : Nat) : Int)), (1, [], .slice x l.length cap), (2, [], .pointer (some ⟨g2, 0, none⟩)), (7, [], .pointer (some ⟨g7, 0, none⟩))]) (fun p => [.rep F1 (fun w => StOk F1 w ⟨⟨c1, bb1, bc1, xx1, xc1, qv1⟩, l1, la1, lc1, ia1, ic1⟩ (stepL c o.d).2.ids), .cl g7 29 (CC ⟨c1, bb1, bc1, xx1, xc1, qv1⟩), .cl g2 47 (GC b)]) (fun p => c1.bs.length - p.1) (0, ()) [false, false, true, true, false, true] (Nat.zero_le _) ⟨rfl, rfl, rfl, rfl, rfl, rfl, rfl, trivial⟩ rfl ?_
      rintro ⟨j, ⟨⟩⟩ hj0
      dsimp only at hj0 ⊢
      by_cases hj : j < c1.bs.length
      · obtain ⟨bv, hbv⟩ : ∃ u, c1.bs[j]? = some u := ⟨_, List.getElem?_eq_getElem hj⟩
        have hcnt := hbz1 bv (List.mem_of_getElem? hbv)
        refine sc_fact (p := ∃ bl ol, bb1 = some ⟨bl, ol, none⟩ ∧ ∀ w', Rws F1 w' 6 bC bb1 c1.bs → ∀ (j : Nat) (v : BV), c1.bs[j]? = some v → w'.rangeAt bl (ol + j * 6) (bC v)) (fun w1 hm => rws_fix (hm.2.get (i := 0) rfl).2.1.cl.bk (by omega)) ?_
        rintro ⟨bl, ol, hbx1, hbrows⟩
        repeat' (first | refine sc_seq ?_ | refine sc_region ?_ | refine sq_then ?_ | refine sx_nil ?_ | ((refine' sx_v rfl ?_ rfl rfl ?_); rotate_left; exact vo_bin tok rfl rfl rfl rfl rfl rfl))
        refine sc_true rfl (by simp; omega) ?_
        repeat' (first | refine sc_seq ?_ | refine sc_region ?_ | refine sq_then ?_ | refine sc_skip ?_ | refine sc_block ?_ | refine sx_nil ?_ | (refine sx_alloc tok rfl rfl rfl rfl rfl rfl ?_; intro g13) | ((refine' sx_v rfl ?_ rfl rfl ?_); rotate_left; first | exact vo_ixaH tok (m := 6) j rfl hbx1 rfl rfl rfl rfl rfl rfl rfl (fun _ => rfl) (fun _ => hj) | exact vo_rrow tok 0 (cs := bC bv) rfl rfl rfl rfl rfl rfl (fun _ w hp => hbrows w hp.cl.bk j bv hbv) | exact vo_un tok rfl rfl rfl rfl | exact vo_load tok 2 rfl rfl rfl rfl rfl | exact vo_len tok rfl rfl rfl rfl rfl rfl rfl) | refine sx_store tok 0 rfl rfl rfl rfl rfl rfl rfl rfl rfl rfl rfl rfl ?_)
        refine sc_loop (σ := Nat × Unit) (fun p => p.1 ≤ qv1.length) (fun p => [(72, [], .int .i64 ((p.1 : Nat) : Int)), (71, [], .int .i64 ((qv1.length : Nat) : Int)), (70, [], .slice xx1 qv1.length xc1), (14, [], .int .i64 ((cntN ((qv1.take p.1).map (·.q)) bv.nm : Nat) : Int)), (13, [], .pointer (some ⟨g13, 0, none⟩)), (65, [], .int .i64 ((j : Nat) : Int)), (64, [], .int .i64 ((c1.bs.length : Nat) : Int)), (63, [], .slice bb1 c1.bs.length bc1), (9, [], .int .i64 ((i : Nat) : Int)), (1, [], .slice x l.length cap), (2, [], .pointer (some ⟨g2, 0, none⟩)), (7, [], .pointer (some ⟨g7, 0, none⟩))]) (fun p => [.cl g13 66 (bC bv), .rep F1 (fun w => StOk F1 w ⟨⟨c1, bb1, bc1, xx1, xc1, qv1⟩, l1, la1, lc1, ia1, ic1⟩ (stepL c o.d).2.ids), .cl g7 29 (CC ⟨c1, bb1, bc1, xx1, xc1, qv1⟩), .cl g2 47 (GC b)]) (fun p => qv1.length - p.1) (0, ()) [] (Nat.zero_le _) ⟨rfl, rfl, rfl, rfl, rfl, rfl, rfl, rfl, rfl, rfl, rfl, rfl, trivial⟩ rfl ?_
        rintro ⟨m, ⟨⟩⟩ hm0
        dsimp only at hm0 ⊢
        by_cases hm1 : m < qv1.length
        · obtain ⟨u, hu⟩ : ∃ u, qv1[m]? = some u := ⟨_, List.getElem?_eq_getElem hm1⟩
          have hct := cntN_take hu bv.nm
          have hcl := cntN_le ((qv1.take m).map (·.q)) bv.nm
          rw [List.length_map, List.length_take] at hcl
          refine sc_fact (p := ∃ bl ol, xx1 = some ⟨bl, ol, none⟩ ∧ ∀ w', Rws F1 w' 15 QC xx1 qv1 → ∀ (j : Nat) (v : QV), qv1[j]? = some v → w'.rangeAt bl (ol + j * 15) (QC v)) (fun w1 hm => rws_fix (hm.2.get (i := 1) rfl).2.1.cl.qs (by show 0 < qv1.length; omega)) ?_
          rintro ⟨ql, oq, hqx, hqrows⟩
          repeat' (first | refine sc_seq ?_ | refine sc_region ?_ | refine sq_then ?_ | refine sx_nil ?_ | ((refine' sx_v rfl ?_ rfl rfl ?_); rotate_left; exact vo_bin tok rfl rfl rfl rfl rfl rfl))
          refine sc_true rfl (by simp; omega) ?_
          repeat' (first | refine sc_seq ?_ | refine sc_region ?_ | refine sq_then ?_ | refine sc_skip ?_ | refine sc_block ?_ | refine sx_nil ?_ | (refine sx_alloc tok rfl rfl rfl rfl rfl rfl ?_; intro g16) | ((refine' sx_v rfl ?_ rfl rfl ?_); rotate_left; first | exact vo_ixaH tok (m := 15) m rfl hqx rfl rfl rfl rfl rfl rfl rfl (fun _ => rfl) (fun _ => hm1) | exact vo_rrow tok 1 (cs := QC u) rfl rfl rfl rfl rfl rfl (fun _ w hp => hqrows w hp.cl.qs m u hu) | exact vo_un tok rfl rfl rfl rfl | exact vo_bin tok rfl rfl rfl rfl rfl rfl | exact vo_load tok 0 rfl rfl rfl rfl rfl | exact vo_load tok 1 rfl rfl rfl rfl rfl) | refine sx_store tok 0 rfl rfl rfl rfl rfl rfl rfl rfl rfl rfl rfl rfl ?_)
          by_cases hbe : beB u.q.bk bv.nm = true
          · refine sc_true rfl hbe ?_
            rw [if_pos hbe] at hct
            repeat' (first | refine sc_region ?_ | refine sq_then ?_ | refine sq_blk_normal ?_ | refine sx_nil ?_ | ((refine' sx_v rfl ?_ rfl rfl ?_); rotate_left; first | exact vo_add rfl rfl rfl rfl rfl (by omega) | exact vo_un tok rfl rfl rfl rfl))
            refine sq_again (m + 1, ()) [false, true, true, true, true] hm1 (show qv1.length - (m + 1) < qv1.length - m by omega) ⟨rfl, rfl, rfl, ?_, rfl, rfl, rfl, rfl, rfl, rfl, rfl, rfl, trivial⟩ rfl
            dsimp only
            rw [hct]
            rfl
          · refine sc_false rfl (show beB u.q.bk bv.nm = false from eq_false_of_ne_true hbe) ?_
            rw [if_neg hbe] at hct
            repeat' (first | refine sc_region ?_ | refine sq_then ?_ | refine sc_skip ?_ | refine sq_blk_normal ?_ | refine sx_nil ?_ | ((refine' sx_v rfl ?_ rfl rfl ?_); rotate_left; first | exact vo_add rfl rfl rfl rfl rfl (by omega) | exact vo_un tok rfl rfl rfl rfl))
            refine sq_again (m + 1, ()) [false, true, true, true, true] hm1 (show qv1.length - (m + 1) < qv1.length - m by omega) ⟨rfl, rfl, rfl, ?_, rfl, rfl, rfl, rfl, rfl, rfl, rfl, rfl, trivial⟩ rfl
            dsimp only
            rw [hct]
            rfl
        · have hml : m = qv1.length := by omega
          subst hml
          rw [List.take_of_length_le (Nat.le_refl _), ← hqm]
          repeat' (first | refine sc_seq ?_ | refine sc_region ?_ | refine sq_then ?_ | refine sx_nil ?_ | ((refine' sx_v rfl ?_ rfl rfl ?_); rotate_left; exact vo_bin tok rfl rfl rfl rfl rfl rfl))
          refine sc_false rfl (by simp) ?_
          repeat' (first | refine sc_seq ?_ | refine sc_region ?_ | refine sq_then ?_ | refine sc_exit ?_ | refine sq_pass_exit ?_ | refine sq_blk_hit ?_ | refine sx_nil ?_ | ((refine' sx_v rfl ?_ rfl rfl ?_); rotate_left; first | exact vo_un tok rfl rfl rfl rfl | exact vo_bin tok rfl rfl rfl rfl rfl rfl | exact vo_load tok 0 rfl rfl rfl rfl rfl))
          refine sc_false rfl (by rw [hcnt]; simp) ?_
          repeat' (first | refine sc_region ?_ | refine sq_then ?_ | refine sc_skip ?_ | refine sq_blk_normal ?_ | refine sx_nil ?_ | ((refine' sx_v rfl ?_ rfl rfl ?_); rotate_left; first | exact vo_add rfl rfl rfl rfl rfl (by omega) | exact vo_un tok rfl rfl rfl rfl))
          refine sq_again (j + 1, ()) [false, true, true, true] hj (show c1.bs.length - (j + 1) < c1.bs.length - j by omega) ⟨rfl, rfl, rfl, rfl, rfl, rfl, rfl, trivial⟩ rfl
      · have hjl : j = c1.bs.length := by omega
        subst hjl
        repeat' (first | refine sc_seq ?_ | refine sc_region ?_ | refine sq_then ?_ | refine sx_nil ?_ | ((refine' sx_v rfl ?_ rfl rfl ?_); rotate_left; exact vo_bin tok rfl rfl rfl rfl rfl rfl))
        refine sc_false rfl (by simp) ?_
        repeat' (first | refine sc_region ?_ | refine sq_then ?_ | refine sc_exit ?_ | refine sq_pass_exit ?_ | refine sq_blk_normal ?_ | refine sq_blk_hit ?_ | refine sx_nil ?_ | ((refine' sx_v rfl ?_ rfl rfl ?_); rotate_left; first | exact vo_add rfl rfl rfl rfl rfl (by omega) | exact vo_un tok rfl rfl rfl rfl))
        refine sq_conv (M' := [.cl g7 29 (CC ⟨c1, bb1, bc1, xx1, xc1, qv1⟩), .rep F1 (fun w => COk F1 w ⟨c1, bb1, bc1, xx1, xc1, qv1⟩), .cl g2 47 (GC b)]) (fun w1 hm => (hm.repTo (fun _ h => h.cl) (fun _ _ hk h => h.agree hk)).perm (List.Perm.swap _ _ _)) ?_
        refine sq_again ⟨i + 1, ⟨c1, bb1, bc1, xx1, xc1, qv1⟩, F1⟩ [] ⟨hi, hI1, h40, hbz1⟩ (show l.length - (i + 1) < l.length - i by omega) ⟨rfl, rfl, rfl, rfl, trivial⟩ rfl
    · refine sc_false rfl (by simp; omega) ?_
      repeat' (first | refine sc_seq ?_ | refine sc_region ?_ | refine sq_then ?_ | refine sc_ret ?_ | refine sc_exit ?_ | refine sq_pass_exit ?_ | refine sq_blk_hit ?_ | refine sx_nil ?_ | ((refine' sx_v rfl ?_ rfl rfl ?_); rotate_left; exact vo_un tok rfl rfl rfl rfl) | refine sx_call rfl (callOp rfl rfl rfl rfl trivial rfl (by kernel_rfl)) (fun w hm => awake53 w (hg.below hm.below)) rfl rfl ?_)
      refine sq_ret tok (fun _ => 0) rfl rfl trivial rfl fun w hm => ⟨?_, hm.below⟩
      rfl
  · refine sc_true rfl (by simpa using he) ?_
    repeat' (first | refine sc_seq ?_ | refine sc_region ?_ | refine sq_then ?_ | refine sc_ret ?_ | refine sq_pass_ret ?_ | refine sx_nil ?_ | ((refine' sx_v rfl ?_ rfl rfl ?_); rotate_left; exact vo_un tok rfl rfl rfl rfl) | refine sx_call rfl (callOp rfl rfl rfl rfl trivial rfl (by kernel_rfl)) (fun w hm => awake53 w (hg.below hm.below)) rfl rfl ?_)
    refine sq_ret tok (fun _ => 0) rfl rfl trivial rfl fun w hm => ⟨?_, hm.below⟩
    rfl
end Go.Proofs.YtmdkfbmpenohiaaDoor.Y
