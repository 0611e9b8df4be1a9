/- ClientBudget, walked. -/
import Derived.Test.YtmdkfbmpenohiaaDoorBunL
namespace Go.Proofs.YtmdkfbmpenohiaaDoor.Y
open Go.RowKit
structure LB where
  i : Nat
  v : CV
  F : Nat → Prop
  fi : Nat
  re : Nat
/-- what the loop keeps. -/
structure BI (b : BG) (n : Nat) (p : LB) : Prop where
  le : p.i ≤ n
  li : LI b p.i p.v.c
  i40 : p.i ≤ 40
  pot : pot p.v.c + 1000 * (p.re : Int) ≤ b.tk + b.gn * (p.fi : Int)
  sm : p.fi + p.re ≤ 40 * p.i
theorem cnt_split (l : List QR) : l.countP isF + l.countP (fun q => !isF q) = l.length := by
  induction l with
  | nil => rfl
  | cons a l ih =>
    rw [List.countP_cons, List.countP_cons, List.length_cons]
    cases isF a <;> simp <;> omega
theorem start_out (now mo gn : Int) : ∀ (r : List QR) (bs : List BV) (tk : Int), (startGo now mo gn r bs tk).out.length ≤ r.length
  | [], _, _ => Nat.le_refl _
  | q :: r, bs, tk => by
    cases h : (if dueL now q = true then pickL now bs else none) with
    | none =>
      rw [startGo_no h]
      have := start_out now mo gn r bs tk
      rw [List.length_cons]
      show (startGo now mo gn r bs tk).out.length ≤ _
      omega
    | some k =>
      rw [startGo_yes h]
      have := start_out now mo gn r (modB begB bs k) (if q.att + 1 = 1 then bfst tk mo gn else tk)
      show (begQ bs k q :: (startGo now mo gn r (modB begB bs k) (if q.att + 1 = 1 then bfst tk mo gn else tk)).out).length ≤ (q :: r).length
      simp only [List.length_cons]
      omega
theorem step_outl (c : CL) (o : OpD) : (stepL c o).2.qs.length ≤ c.qs.length := by
  unfold stepL
  split
  · exact Nat.zero_le _
  split
  · exact start_out _ _ _ _ _ _
  split
  · exact Nat.zero_le _
  split
  · exact Nat.zero_le _
  split
  · exact Nat.zero_le _
  split
  · exact Nat.zero_le _
  split
  · exact Nat.zero_le _
  · exact Nat.zero_le _
theorem bud_fin {tk b1 gn : Int} {fi re : Nat} (h1 : 0 ≤ tk) (h2 : 1000 * (re : Int) ≤ b1 + gn * (fi : Int)) (h3 : fi + re ≤ 1600) (h4 : 0 ≤ b1 ∧ b1 ≤ 1000000) (h5 : 0 ≤ gn ∧ gn ≤ 1000) : (decide (tk < 0) || decide (IntKind.i64.wrap ((re : Int) * 1000) > IntKind.i64.wrap (b1 + IntKind.i64.wrap ((fi : Int) * gn)))) = false := by
  have e0 : (fi : Int) * gn = gn * (fi : Int) := Int.mul_comm _ _
  have h6 : gn * (fi : Int) ≤ 1000 * (fi : Int) := Int.mul_le_mul_of_nonneg_right h5.2 (Int.natCast_nonneg _)
  have h7 : 0 ≤ gn * (fi : Int) := Int.mul_nonneg h5.1 (Int.natCast_nonneg _)
  have e1 : IntKind.i64.wrap ((re : Int) * 1000) = (re : Int) * 1000 := IntWalk.i64_in _ (by omega)
  have e2 : IntKind.i64.wrap ((fi : Int) * gn) = gn * (fi : Int) := by rw [e0]; exact IntWalk.i64_in _ (by omega)
  have e3 : IntKind.i64.wrap (b1 + gn * (fi : Int)) = b1 + gn * (fi : Int) := IntWalk.i64_in _ (by omega)
  rw [e1, e2, e3]
  simp
  omega
set_option maxRecDepth 100000 in
set_option maxHeartbeats 16000000 in
theorem budget53 (b : BG) (x : Option Addr) (cap : Nat) (l : List OV) (w : World) (hB : Rws (fun _ => True) w 6 bC b.x b.l) (hbl : b.l.length ≤ 1048576) (hO : OpsK 1048576 w x l) (hg : MLen w) : Calls Tryd.prog 5 #[.agg #[.slice b.x b.l.length b.xc, .int .i64 b.ra, .int .i64 b.rb, .int .i64 b.rc, .int .i64 b.rk, .int .i64 b.tk, .int .i64 b.mo, .int .i64 b.gn], .slice x l.length cap] w fun e w' => e = .returned (.bool true) ∧ Below w.heap.size w w' := by
  refine sx_enter Tryd.func5 rfl Tryd.ntmps5 rfl rfl ?_
  repeat' (first | refine sc_seq ?_ | refine sc_region ?_ | refine sq_then ?_ | refine sx_nil ?_ | (refine sx_box rfl rfl rfl rfl rfl rfl ?_; intro g2) | ((refine' sx_v rfl ?_ rfl rfl ?_); rotate_left; first | exact vo_un tok rfl rfl rfl rfl | exact vo_load tok 0 rfl rfl rfl rfl rfl))
  refine sx_callP (σ := CV) (fun s _ => s.c = (bgL b).1) (fun s => .tuple ⟨[.agg ⟨CC s⟩, .int .i64 (bgL b).2]⟩) (fun s F w => COk F w s) rfl (callOp rfl rfl rfl rfl ⟨rfl, rfl, rfl, trivial⟩ rfl (by kernel_rfl)) (fun w1 hm => new_out b w w1 hm hB hbl) rfl rfl ?_
  rintro ⟨c0, b0, bc0, x0, xc0, qv0⟩ F0 hc0
  dsimp only at hc0
  repeat' (first | refine sc_seq ?_ | refine sc_region ?_ | refine sq_then ?_ | refine sx_nil ?_ | (refine sx_alloc tok rfl rfl rfl rfl rfl rfl ?_; intro g5) | ((refine' sx_v rfl ?_ rfl rfl ?_); rotate_left; first | exact vo_un tok rfl rfl rfl rfl | exact vo_bin tok rfl rfl rfl rfl rfl rfl) | refine sx_store tok 0 rfl rfl rfl rfl rfl rfl rfl rfl rfl rfl rfl rfl ?_)
  by_cases he : (bgL b).2 = 0
  · obtain ⟨hL0, ht0, hq0, hb0⟩ := LI.new he
    rw [← hc0] at hL0 ht0 hq0 hb0
    refine sc_false rfl (by rw [he]; rfl) ?_
    repeat' (first | refine sc_seq ?_ | refine sc_region ?_ | refine sq_then ?_ | refine sc_skip ?_ | refine sc_block ?_ | refine sx_nil ?_ | ((refine' sx_v rfl ?_ rfl rfl ?_); rotate_left; exact vo_un tok rfl rfl rfl rfl))
    refine sc_loop (σ := LB) (BI b l.length) (fun p => [(9, [], .int .i64 ((p.i : Nat) : Int)), (7, [], .int .i64 ((p.fi : Nat) : Int)), (8, [], .int .i64 ((p.re : Nat) : Int)), (1, [], .slice x l.length cap), (2, [], .pointer (some ⟨g2, 0, none⟩)), (5, [], .pointer (some ⟨g5, 0, none⟩))]) (fun p => [.cl g5 29 (CC p.v), .rep p.F (fun w => COk p.F w p.v), .cl g2 47 (GC b)]) (fun p => l.length - p.i) ⟨0, ⟨c0, b0, bc0, x0, xc0, qv0⟩, F0, 0, 0⟩ [] ⟨Nat.zero_le _, hL0, show 0 ≤ 40 by decide, ?_, Nat.le_refl _⟩ ⟨rfl, rfl, rfl, rfl, rfl, rfl, trivial⟩ rfl ?_
    · unfold Y.pot
      rw [hq0, ht0]
      simp
    rintro ⟨i, ⟨c, bb, bc, xx, xc, qv⟩, F, fi, re⟩ ⟨hle, hI, hi40, hpot, hsm⟩
    dsimp only at hle hI hi40 hpot hsm ⊢
    have hlq := hI.lq (by omega)
    have hzz := hI.zz (by omega)
    have haz := hI.az (by omega)
    repeat' (first | refine sc_seq ?_ | refine sc_region ?_ | refine sq_then ?_ | refine sx_nil ?_ | ((refine' sx_v rfl ?_ rfl rfl ?_); rotate_left; first | exact vo_un tok rfl rfl rfl rfl | exact vo_bin tok rfl rfl rfl rfl rfl rfl | exact vo_and rfl rfl rfl rfl rfl | exact vo_len tok rfl rfl rfl rfl rfl rfl rfl))
    by_cases hi' : i < l.length ∧ i < 40
    · obtain ⟨hi, h40⟩ := hi'
      obtain ⟨o, ho⟩ : ∃ o, l[i]? = some o := ⟨_, List.getElem?_eq_getElem hi⟩
      obtain ⟨bo, off, hx, hrows⟩ := hO.rows (by omega)
      have hrow : w.rangeAt bo (off + i * 23) (OC o) := hrows i o ho
      obtain ⟨hQ, hS, htx⟩ := hO.ok o (List.mem_of_getElem? ho)
      obtain ⟨hI1, n1, hmv⟩ := hI.step o hS
      have hp1 := hmv.pots hI.ok
      have hol := step_outl c o.d
      have hsz := hI.sz.1
      have hsp := cnt_split (stepL c o.d).2.qs
      refine sc_true rfl (by simp; omega) ?_
      repeat' (first | refine sc_seq ?_ | refine sq_then ?_ | refine sc_skip ?_ | refine sc_block ?_)
      refine sc_regionVK (fun b' => F b' ∨ b' < w.heap.size) 11 [43, 10, 11] [37, 44, 45] [45] (keepO (i := 1) rfl) follows_any rfl (by kernel_rfl) ?_
      iterate 5 (((refine' srv_v rfl ?_ rfl rfl rfl ?_); rotate_left; first | exact vo_ixaH tok (m := 23) i rfl hx rfl rfl rfl rfl rfl rfl rfl (fun _ => rfl) (fun _ => hi) | exact vo_oldrowC tok (cs := OC o) rfl rfl rfl rfl rfl (fun _ => hrow) | exact vo_un tok rfl rfl rfl rfl | exact vo_load tok 0 rfl rfl rfl rfl rfl))
      refine srv_callE (σ := SV × (Nat → Prop)) (fun s => s.1.c.c = (stepL c o.d).1 ∧ s.1.l.map (·.q) = (stepL c o.d).2.qs) (fun s => .tuple ⟨[.agg ⟨CC s.1.c⟩, .agg ⟨RC s.1 (stepL c o.d).2⟩]⟩) (fun s => [.rep s.2 (fun w => StOk s.2 w s.1 (stepL c o.d).2.ids)]) rfl (callOp rfl rfl rfl rfl ⟨rfl, rfl, trivial⟩ rfl (by kernel_rfl)) (fun w1 hm => step_out ⟨c, bb, bc, xx, xc, qv⟩ o (hm.2.get (i := 1) rfl).2.1 hQ hm.below hg hI.ok hlq hzz haz (hS.szq (Nat.le_refl _)) (hS.hd (Nat.le_refl _)) (Nat.le_trans htx (by decide))) rfl rfl rfl rfl rfl ?_
      refine srv_move 5 rfl rfl rfl rfl rfl rfl rfl (by kernel_rfl) ?_
      refine srv_part 6 0 (m := 2) rfl rfl (fun x ⟨s, _, e⟩ => ⟨_, e, rfl⟩) rfl rfl rfl rfl rfl rfl (by kernel_rfl) ?_
      refine srv_part 6 1 (m := 2) rfl rfl (fun x ⟨s, _, e⟩ => ⟨_, e, rfl⟩) rfl rfl rfl rfl rfl rfl (by kernel_rfl) ?_
      refine srv_alloc tok rfl rfl rfl rfl rfl rfl rfl rfl ?_
      refine srv_alloc tok rfl rfl rfl rfl rfl rfl rfl rfl ?_
      refine srv_nil ?_
      refine tv_ex ?_
      rintro ⟨⟨⟨c1, bb1, bc1, xx1, xc1, qv1⟩, l1, la1, lc1, ia1, ic1⟩, F1⟩ ⟨hc1, hl1⟩
      dsimp only at hc1 hl1
      refine tv_der _ rfl rfl ?_
      refine tv_der (.agg ⟨CC ⟨c1, bb1, bc1, xx1, xc1, qv1⟩⟩) rfl rfl ?_
      refine tv_der (.agg ⟨RC ⟨⟨c1, bb1, bc1, xx1, xc1, qv1⟩, l1, la1, lc1, ia1, ic1⟩ (stepL c o.d).2⟩) rfl rfl ?_
      refine tv_ex ?_
      rintro g10 -
      refine tv_ex ?_
      rintro g11 -
      refine tv_nil ?_
      dsimp only [List.cons_append, List.nil_append]
      have hl1' : l1.length ≤ 40 := by rw [← List.length_map (f := (·.q)), hl1]; omega
      repeat' (first | refine sc_seq ?_ | refine sc_region ?_ | refine sq_then ?_ | refine sc_block ?_ | refine sx_nil ?_ | ((refine' sx_v rfl ?_ rfl rfl ?_); rotate_left; first | exact vo_un tok rfl rfl rfl rfl | exact vo_load tok 0 rfl rfl rfl rfl rfl | exact vo_load tok 1 rfl rfl rfl rfl rfl | exact vo_len tok rfl rfl rfl rfl rfl rfl rfl) | refine sx_store tok 0 rfl rfl rfl rfl rfl rfl rfl rfl rfl rfl rfl rfl ?_ | refine sx_store tok 1 rfl rfl rfl rfl rfl rfl rfl rfl rfl rfl rfl rfl ?_ | refine sx_store tok 3 rfl rfl rfl rfl rfl rfl rfl rfl rfl rfl rfl rfl ?_)
      refine sc_loop (σ := Nat × Unit) (fun p => p.1 ≤ l1.length) (fun p => [(50, [], .int .i64 ((p.1 : Nat) : Int)), (49, [], .int .i64 ((l1.length : Nat) : Int)), (48, [], .slice la1 l1.length lc1), (7, [], .int .i64 (((fi + ((l1.take p.1).map (·.q)).countP isF) : Nat) : Int)), (8, [], .int .i64 (((re + ((l1.take p.1).map (·.q)).countP (fun q => !isF q)) : Nat) : Int)), (9, [], .int .i64 ((i : Nat) : Int)), (1, [], .slice x l.length cap), (2, [], .pointer (some ⟨g2, 0, none⟩)), (5, [], .pointer (some ⟨g5, 0, none⟩))]) (fun p => [.rep F1 (fun w => StOk F1 w ⟨⟨c1, bb1, bc1, xx1, xc1, qv1⟩, l1, la1, lc1, ia1, ic1⟩ (stepL c o.d).2.ids), .cl g5 29 (CC ⟨c1, bb1, bc1, xx1, xc1, qv1⟩), .cl g2 47 (GC b)]) (fun p => l1.length - p.1) (0, ()) [false, false, true, true, false, true] (Nat.zero_le _) ⟨rfl, rfl, rfl, rfl, rfl, rfl, rfl, rfl, rfl, trivial⟩ rfl ?_
      rintro ⟨j, ⟨⟩⟩ hj0
      dsimp only at hj0 ⊢
      by_cases hj : j < l1.length
      · obtain ⟨u, hu⟩ : ∃ u, l1[j]? = some u := ⟨_, List.getElem?_eq_getElem hj⟩
        have hsn : (l1.take (j + 1)).map (·.q) = (l1.take j).map (·.q) ++ [u.q] := by rw [take_snoc hu, List.map_append]; rfl
        have hb1 : ((l1.take j).map (·.q)).countP isF ≤ 40 := Nat.le_trans List.countP_le_length (by rw [List.length_map, List.length_take]; omega)
        have hb2 : ((l1.take j).map (·.q)).countP (fun q => !isF q) ≤ 40 := Nat.le_trans List.countP_le_length (by rw [List.length_map, List.length_take]; omega)
        refine sc_fact (p := ∃ bl ol, la1 = some ⟨bl, ol, none⟩ ∧ ∀ w', Rws F1 w' 15 QC la1 l1 → ∀ (j : Nat) (v : QV), l1[j]? = some v → w'.rangeAt bl (ol + j * 15) (QC v)) (fun w1 hm => rws_fix (hm.2.get (i := 0) rfl).2.1.qs (by omega)) ?_
        rintro ⟨bl, ol, hlax, hrows1⟩
        repeat' (first | refine sc_seq ?_ | refine sc_region ?_ | refine sq_then ?_ | refine sx_nil ?_ | ((refine' sx_v rfl ?_ rfl rfl ?_); rotate_left; exact vo_bin tok rfl rfl rfl rfl rfl rfl))
        refine sc_true rfl (by simp; omega) ?_
        repeat' (first | refine sc_seq ?_ | refine sc_region ?_ | refine sq_then ?_ | refine sc_skip ?_ | refine sc_block ?_ | refine sx_nil ?_ | (refine sx_alloc tok rfl rfl rfl rfl rfl rfl ?_; intro g13) | ((refine' sx_v rfl ?_ rfl rfl ?_); rotate_left; first | exact vo_ixaH tok (m := 15) j rfl hlax rfl rfl rfl rfl rfl rfl rfl (fun _ => rfl) (fun _ => hj) | exact vo_rrow tok 0 (cs := QC u) rfl rfl rfl rfl rfl rfl (fun _ w hp => hrows1 w hp.qs j u hu) | exact vo_un tok rfl rfl rfl rfl | exact vo_bin tok rfl rfl rfl rfl rfl rfl | exact vo_load tok 0 rfl rfl rfl rfl rfl) | refine sx_store tok 0 rfl rfl rfl rfl rfl rfl rfl rfl rfl rfl rfl rfl ?_)
        by_cases hat : u.q.att = 1
        · refine sc_true rfl (by simpa using hat) ?_
          repeat' (first | refine sc_region ?_ | refine sq_then ?_ | refine sq_blk_normal ?_ | refine sx_nil ?_ | ((refine' sx_v rfl ?_ rfl rfl ?_); rotate_left; first | exact vo_add rfl rfl rfl rfl rfl (by omega) | exact vo_un tok rfl rfl rfl rfl))
          refine sq_again (j + 1, ()) [false, true, true, true] hj (show l1.length - (j + 1) < l1.length - j by omega) ⟨rfl, rfl, rfl, ?_, ?_, rfl, rfl, rfl, rfl, trivial⟩ rfl
          · dsimp only
            rw [hsn, List.countP_append, List.countP_singleton, if_pos (by unfold isF; simpa using hat)]
            rfl
          · dsimp only
            rw [hsn, List.countP_append, List.countP_singleton, if_neg (by unfold isF; simpa using hat)]
            rfl
        · refine sc_false rfl (by simpa using hat) ?_
          repeat' (first | refine sc_region ?_ | refine sq_then ?_ | refine sq_blk_normal ?_ | refine sx_nil ?_ | ((refine' sx_v rfl ?_ rfl rfl ?_); rotate_left; first | exact vo_add rfl rfl rfl rfl rfl (by omega) | exact vo_un tok rfl rfl rfl rfl))
          refine sq_again (j + 1, ()) [false, true, true, true] hj (show l1.length - (j + 1) < l1.length - j by omega) ⟨rfl, rfl, rfl, ?_, ?_, rfl, rfl, rfl, rfl, trivial⟩ rfl
          · dsimp only
            rw [hsn, List.countP_append, List.countP_singleton, if_neg (by unfold isF; simpa using hat)]
            rfl
          · dsimp only
            rw [hsn, List.countP_append, List.countP_singleton, if_pos (by unfold isF; simpa using hat)]
            rfl
      · have hjl : j = l1.length := by omega
        subst hjl
        rw [List.take_of_length_le (Nat.le_refl _), hl1]
        rw [← hc1] at hp1 hI1
        have hbk := bchk_rng hI.ok.bu
        have hbk1 := bchk_rng hI1.ok.bu
        have hgn := hI.gn
        have hpn : 0 ≤ Y.pot c1 - c1.tk := by unfold Y.pot; omega
        have hnew : Y.pot c1 + 1000 * (((re + (stepL c o.d).2.qs.countP (fun q => !isF q)) : Nat) : Int) ≤ b.tk + b.gn * (((fi + (stepL c o.d).2.qs.countP isF) : Nat) : Int) := by
          rw [hgn] at hp1
          have e1 := Int.mul_add b.gn (fi : Int) ((stepL c o.d).2.qs.countP isF : Int)
          push_cast
          omega
        have hsm1 : fi + (stepL c o.d).2.qs.countP isF + (re + (stepL c o.d).2.qs.countP (fun q => !isF q)) ≤ 40 * (i + 1) := by omega
        repeat' (first | refine sc_seq ?_ | refine sc_region ?_ | refine sq_then ?_ | refine sx_nil ?_ | ((refine' sx_v rfl ?_ rfl rfl ?_); rotate_left; exact vo_bin tok rfl rfl rfl rfl rfl rfl))
        refine sc_false rfl (by simp) ?_
        repeat' (first | refine sc_seq ?_ | refine sc_region ?_ | refine sq_then ?_ | refine sc_exit ?_ | refine sq_pass_exit ?_ | refine sq_blk_hit ?_ | refine sx_nil ?_ | ((refine' sx_v rfl ?_ rfl rfl ?_); rotate_left; first | exact vo_un tok rfl rfl rfl rfl | exact vo_bin tok rfl rfl rfl rfl rfl rfl | exact vo_or rfl rfl rfl rfl rfl | exact vo_load tok 1 rfl rfl rfl rfl rfl | exact vo_load tok 2 rfl rfl rfl rfl rfl))
        refine sc_false rfl (bud_fin hbk1.2.1 (by omega) (by omega) (by rw [← ht0] ; exact ⟨(bchk_rng hL0.ok.bu).2.1, Int.le_trans (bchk_rng hL0.ok.bu).2.2.1 (bchk_rng hL0.ok.bu).1⟩) (by rw [← hgn]; omega)) ?_
        repeat' (first | refine sc_region ?_ | refine sq_then ?_ | refine sc_skip ?_ | refine sq_blk_normal ?_ | refine sx_nil ?_ | ((refine' sx_v rfl ?_ rfl rfl ?_); rotate_left; first | exact vo_add rfl rfl rfl rfl rfl (by omega) | exact vo_un tok rfl rfl rfl rfl))
        refine sq_conv (M' := [.cl g5 29 (CC ⟨c1, bb1, bc1, xx1, xc1, qv1⟩), .rep F1 (fun w => COk F1 w ⟨c1, bb1, bc1, xx1, xc1, qv1⟩), .cl g2 47 (GC b)]) (fun w1 hm => (hm.repTo (fun _ h => h.cl) (fun _ _ hk h => h.agree hk)).perm (List.Perm.swap _ _ _)) ?_
        refine sq_again ⟨i + 1, ⟨c1, bb1, bc1, xx1, xc1, qv1⟩, F1, fi + (stepL c o.d).2.qs.countP isF, re + (stepL c o.d).2.qs.countP (fun q => !isF q)⟩ [] ⟨hi, hI1, h40, hnew, hsm1⟩ (show l.length - (i + 1) < l.length - i by omega) ⟨rfl, rfl, rfl, rfl, rfl, rfl, trivial⟩ rfl
    · refine sc_false rfl (by simp; omega) ?_
      repeat' (first | refine sc_seq ?_ | refine sc_region ?_ | refine sq_then ?_ | refine sc_ret ?_ | refine sc_exit ?_ | refine sq_pass_exit ?_ | refine sq_blk_hit ?_ | refine sx_nil ?_ | ((refine' sx_v rfl ?_ rfl rfl ?_); rotate_left; exact vo_un tok rfl rfl rfl rfl) | refine sx_call rfl (callOp rfl rfl rfl rfl trivial rfl (by kernel_rfl)) (fun w hm => awake53 w (hg.below hm.below)) rfl rfl ?_)
      refine sq_ret tok (fun _ => 0) rfl rfl trivial rfl fun w hm => ⟨?_, hm.below⟩
      rfl
  · refine sc_true rfl (by simpa using he) ?_
    repeat' (first | refine sc_seq ?_ | refine sc_region ?_ | refine sq_then ?_ | refine sc_ret ?_ | refine sq_pass_ret ?_ | refine sx_nil ?_ | ((refine' sx_v rfl ?_ rfl rfl ?_); rotate_left; exact vo_un tok rfl rfl rfl rfl) | refine sx_call rfl (callOp rfl rfl rfl rfl trivial rfl (by kernel_rfl)) (fun w hm => awake53 w (hg.below hm.below)) rfl rfl ?_)
    refine sq_ret tok (fun _ => 0) rfl rfl trivial rfl fun w hm => ⟨?_, hm.below⟩
    rfl
end Go.Proofs.YtmdkfbmpenohiaaDoor.Y
