/- client.fresh, Call. -/
import Derived.Test.YtmdkfbmpenohiaaDoorBunC1
import Derived.Test.YtmdkfbmpenohiaaDoorHead3
namespace Go.Proofs.YtmdkfbmpenohiaaDoor.Y
open Go.RowKit
theorem ms_in {A : Nat → Prop} {w : World} {x : Option Addr} {l : List (ByteArray × ByteArray)} (h : Rws A w 2 mC x l) (cap : Nat) : MsIn w (.slice x l.length cap) l := by
  refine ⟨x, cap, rfl, fun hne => ?_⟩
  obtain ⟨b, off, h1, _, h2, h3⟩ := h (List.length_pos_iff.2 hne)
  exact ⟨b, off, h1, h2, fun i hi => ⟨h3 i _ (List.getElem?_eq_getElem hi) 0 _ rfl, h3 i _ (List.getElem?_eq_getElem hi) 1 _ rfl⟩⟩
theorem headW_err (h : HdV) : (headW h).err = headE h := by
  unfold headW
  split
  · rename_i h0; exact h0.symm
  · rfl
theorem head53 {A : Nat → Prop} (v : QV) (e : Int) (w : World) (hg : MLen w) (hm : Rws A w 2 mC v.m v.q.ms) (hz : HdSz v.q.hd) (he : headE v.q.hd = e) : Calls Tryd.prog 63 #[.agg ⟨[.string v.q.sv, .string v.q.mt, .int .i64 v.q.late, .slice v.m v.q.ms.length v.mc]⟩] w fun r w' => r = .returned (.tuple ⟨[.string ⟨(headW v.q.hd).bytes.toArray⟩, .int .i64 e]⟩) ∧ Below w.heap.size w w' := by
  have h := head_any v.q.hd (.slice v.m v.q.ms.length v.mc) w hg (ms_in hm v.mc) hz
  rw [headW_err, he] at h
  exact h
theorem longL_cons (m : ByteArray) (l : List ByteArray) : longL (m :: l) = (decide (16384 < m.size) || longL l) := rfl
theorem otherE (q : QR) : (q.id != 0 || q.att != 0 || !q.bk.toList == (⟨#[]⟩ : ByteArray).toList || q.st != 0 || q.nx != 0 || decide ((q.an.length : Int) > 0) || q.dn || !(q.cd == 0 && (q.tx.toList == (⟨#[]⟩ : ByteArray).toList && true))) = otherL q := by
  unfold otherL
  rw [emp_eq, emp_eq]
  simp only [Bool.and_true, Bool.not_and, bne, Bool.beq_eq_decide_eq, Bool.not_not]
  have h1 : decide ((q.an.length : Int) > 0) = !decide (q.an.length = 0) := by rw [← decide_not]; congr 1; exact propext ⟨fun h => by omega, fun h => by omega⟩
  rw [h1]
  simp only [Bool.or_assoc]
theorem perm_IL (n a b : Int) : permI n a b = permL n a b := rfl
set_option maxRecDepth 100000 in
set_option maxHeartbeats 8000000 in
theorem fresh_any {A : Nat → Prop} (v : CV) (q : QV) (w : World) (hC : COk A w v) (hzq : v.qv.length ≤ 703687441776) (hQ : QOk A w q) (hsz : SzQ q.q) (hg : MLen w) (hhd : HdSz q.q.hd) : Calls Tryd.prog 46 #[.agg #[.slice v.b v.c.bs.length v.bc, .int .i64 v.c.ra, .int .i64 v.c.rb, .int .i64 v.c.rc, .int .i64 v.c.rk, .int .i64 v.c.tk, .int .i64 v.c.mo, .int .i64 v.c.gn, .slice v.x v.qv.length v.xc, .int .i64 v.c.nx], .agg #[.int .i64 q.q.id, .string q.q.sv, .string q.q.mt, .int .i64 q.q.late, .slice q.m q.q.ms.length q.mc, .int .i64 q.q.sh, .slice q.s q.q.mg.length q.sc, .int .i64 q.q.att, .string q.q.bk, .int .i64 q.q.st, .int .i64 q.q.nx, .slice q.a q.q.an.length q.ac, .bool q.q.dn, .int .i64 q.q.cd, .string q.q.tx]] w fun e w' => e = .returned (.int .i64 (freshL v.c q.q)) ∧ Below w.heap.size w w' := by
  obtain ⟨hz1, hz2, hz3⟩ := hsz
  obtain ⟨eh, heh⟩ : ∃ e, headE q.q.hd = e := ⟨_, rfl⟩
  refine sx_enter Tryd.func46 rfl Tryd.ntmps46 rfl rfl ?_
  refine sc_seq ?_
  refine sc_region ?_
  (refine sx_box rfl rfl rfl rfl rfl rfl ?_; intro g2)
  (refine sx_box rfl rfl rfl rfl rfl rfl ?_; intro g3)
  repeat' (first | refine sc_seq ?_ | refine sc_region ?_ | refine sq_then ?_ | refine sx_nil ?_ | ((refine' sx_v rfl ?_ rfl rfl ?_); rotate_left; first | exact vo_un tok rfl rfl rfl rfl | exact vo_bin tok rfl rfl rfl rfl rfl rfl | exact vo_or rfl rfl rfl rfl rfl | exact vo_load tok 0 rfl rfl rfl rfl rfl | exact vo_nes tok eqOK rfl rfl rfl rfl rfl rfl (by kernel_rfl) | exact vo_len tok rfl rfl rfl rfl rfl rfl rfl | exact vo_build tok rfl rfl trivial rfl rfl rfl) | refine sx_call rfl (callOp rfl rfl rfl rfl ⟨rfl, trivial⟩ rfl (by kernel_rfl)) (fun w hm => of_same (counts q.q.sh w)) rfl rfl ?_ | refine sx_call rfl (callOp rfl rfl rfl rfl ⟨rfl, rfl, rfl, trivial⟩ rfl (by kernel_rfl)) (fun w hm => perm_any _ _ _ w) rfl rfl ?_)
  by_cases hA : otherL q.q = true ∨ c2 q.q.sh = 0 ∨ permL q.q.mg.length (c1 q.q.sh) (c2 q.q.sh) = false
  · refine sc_true rfl (by rw [otherE, perm_IL]; rcases hA with h | h | h <;> simp [h]) ?_
    repeat' (first | refine sc_seq ?_ | refine sc_region ?_ | refine sq_then ?_ | refine sc_ret ?_ | refine sq_pass_ret ?_ | refine sx_nil ?_ | ((refine' sx_v rfl ?_ rfl rfl ?_); rotate_left; exact vo_un tok rfl rfl rfl rfl))
    refine sq_ret tok (fun _ => 0) rfl rfl trivial rfl fun w hm => ⟨?_, hm.below⟩
    unfold freshL; rw [if_pos hA]
  · have hf1 : freshL v.c q.q = if headE q.q.hd ≠ 0 then headE q.q.hd else if longL q.q.mg = true then 3 else if 64 ≤ (actL v.c.qs).length ∨ 2147483647 < v.c.nx then 22 else 0 := if_neg hA
    refine sc_false rfl (by rw [otherE, perm_IL]; simp at hA; simp [hA]) ?_
    repeat' (first | refine sc_seq ?_ | refine sc_region ?_ | refine sq_then ?_ | refine sc_skip ?_ | refine sx_nil ?_ | ((refine' sx_v rfl ?_ rfl rfl ?_); rotate_left; first | exact vo_un tok rfl rfl rfl rfl | exact vo_bin tok rfl rfl rfl rfl rfl rfl | exact vo_load tok 0 rfl rfl rfl rfl rfl) | refine sx_call rfl (callOp rfl rfl rfl rfl ⟨rfl, trivial⟩ rfl (by kernel_rfl)) (fun w hm => head53 q eh w (hg.below hm.below) (hQ.1.below hm.below) hhd heh) rfl rfl ?_)
    by_cases he0 : eh = 0
    · refine sc_false rfl (by simpa using he0) ?_
      rw [heh, if_neg (by simpa using he0)] at hf1
      repeat' (first | refine sc_seq ?_ | refine sc_region ?_ | refine sq_then ?_ | refine sc_skip ?_ | refine sc_block ?_ | refine sx_nil ?_ | ((refine' sx_v rfl ?_ rfl rfl ?_); rotate_left; first | exact vo_un tok rfl rfl rfl rfl | exact vo_load tok 0 rfl rfl rfl rfl rfl | exact vo_len tok rfl rfl rfl rfl rfl rfl rfl))
      refine sc_loop (σ := Nat) (fun p => p ≤ q.q.mg.length ∧ longL q.q.mg = longL (q.q.mg.drop p)) (fun p => [(87, [], .int .i64 ((p : Nat) : Int)), (86, [], .int .i64 ((q.q.mg.length : Nat) : Int)), (85, [], .slice q.s q.q.mg.length q.sc), (2, [], .pointer (some ⟨g2, 0, none⟩))]) (fun _ => [.cl g3 37 [.int .i64 q.q.id, .string q.q.sv, .string q.q.mt, .int .i64 q.q.late, .slice q.m q.q.ms.length q.mc, .int .i64 q.q.sh, .slice q.s q.q.mg.length q.sc, .int .i64 q.q.att, .string q.q.bk, .int .i64 q.q.st, .int .i64 q.q.nx, .slice q.a q.q.an.length q.ac, .bool q.q.dn, .int .i64 q.q.cd, .string q.q.tx], .cl g2 29 [.slice v.b v.c.bs.length v.bc, .int .i64 v.c.ra, .int .i64 v.c.rb, .int .i64 v.c.rc, .int .i64 v.c.rk, .int .i64 v.c.tk, .int .i64 v.c.mo, .int .i64 v.c.gn, .slice v.x v.qv.length v.xc, .int .i64 v.c.nx]]) (fun p => q.q.mg.length - p) 0 [true, true] ⟨Nat.zero_le _, rfl⟩ ⟨rfl, rfl, rfl, rfl, trivial⟩ rfl ?_
      rintro j ⟨hj0, hr⟩
      by_cases hj : j < q.q.mg.length
      · obtain ⟨s, hs⟩ : ∃ s, q.q.mg[j]? = some s := ⟨q.q.mg[j], List.getElem?_eq_getElem hj⟩
        obtain ⟨bb, off, hx, _, _, hrows⟩ := hQ.2.1 (by omega)
        have hrow : w.rangeAt bb (off + j * 1) (sC s) := hrows j s hs
        rw [hx]
        rw [drop_at hs, longL_cons] at hr
        repeat' (first | refine sc_seq ?_ | refine sc_region ?_ | refine sq_then ?_ | refine sx_nil ?_ | ((refine' sx_v rfl ?_ rfl rfl ?_); rotate_left; exact vo_bin tok rfl rfl rfl rfl rfl rfl))
        refine sc_true rfl (by simp; omega) ?_
        repeat' (first | refine sc_seq ?_ | refine sc_region ?_ | refine sq_then ?_ | refine sc_skip ?_ | refine sc_block ?_ | refine sx_nil ?_ | ((refine' sx_v rfl ?_ rfl rfl ?_); rotate_left; first | exact vo_ixa tok (m := 1) j rfl rfl rfl rfl rfl rfl rfl rfl (fun _ => rfl) (fun _ => hj) | exact vo_oldC tok (v := .string s) rfl rfl rfl rfl rfl (fun _ => hrow 0 _ rfl) | exact vo_un tok rfl rfl rfl rfl | exact vo_bin tok rfl rfl rfl rfl rfl rfl | exact vo_len tok rfl rfl rfl rfl rfl rfl rfl))
        by_cases hl : 16384 < s.size
        · refine sc_true rfl (by simp; omega) ?_
          repeat' (first | refine sc_seq ?_ | refine sc_region ?_ | refine sq_then ?_ | refine sc_ret ?_ | refine sq_pass_ret ?_ | refine sq_blk_ret ?_ | refine sx_nil ?_ | ((refine' sx_v rfl ?_ rfl rfl ?_); rotate_left; exact vo_un tok rfl rfl rfl rfl))
          refine sq_ret tok (fun _ => 0) rfl rfl trivial rfl fun w hm => ⟨?_, hm.below⟩
          rw [hf1, if_pos (by rw [hr]; simp [hl])]
        · refine sc_false rfl (by simp; omega) ?_
          repeat' (first | refine sc_region ?_ | refine sq_then ?_ | refine sc_skip ?_ | refine sq_blk_normal ?_ | refine sx_nil ?_ | ((refine' sx_v rfl ?_ rfl rfl ?_); rotate_left; first | exact vo_add rfl rfl rfl rfl rfl (by omega) | exact vo_un tok rfl rfl rfl rfl))
          refine sq_again (j + 1) [true, true] ⟨hj, by rw [hr]; simp [hl]⟩ (show q.q.mg.length - (j + 1) < q.q.mg.length - j by omega) ⟨rfl, rfl, rfl, rfl, trivial⟩ rfl
      · rw [List.drop_eq_nil_of_le (by omega)] at hr
        rw [if_neg (by rw [hr]; simp [longL])] at hf1
        repeat' (first | refine sc_seq ?_ | refine sc_region ?_ | refine sq_then ?_ | refine sx_nil ?_ | ((refine' sx_v rfl ?_ rfl rfl ?_); rotate_left; exact vo_bin tok rfl rfl rfl rfl rfl rfl))
        refine sc_false rfl (by simp; omega) ?_
        repeat' (first | refine sc_seq ?_ | refine sc_region ?_ | refine sq_then ?_ | refine sc_exit ?_ | refine sq_pass_exit ?_ | refine sq_blk_hit ?_ | ((refine' sx_v rfl ?_ rfl rfl ?_); rotate_left; exact vo_load tok 1 rfl rfl rfl rfl rfl))
        refine sx_callM (σ := Option Addr × Nat) (fun _ => True) (fun p => .slice p.1 (actL v.c.qs).length p.2) (fun p => [.own p.1 p.2 3 1 (actL v.c.qs).length ((actL v.c.qs).flatMap iC)]) rfl (callOp rfl rfl rfl rfl ⟨rfl, trivial⟩ rfl (by kernel_rfl)) (fun w1 hm => act_any v w1 (hC.below hm.below) hzq) rfl rfl ?_
        rintro ⟨ap, ac⟩ -
        dsimp only [List.cons_append, List.nil_append]
        repeat' (first | refine sq_then ?_ | refine sx_nil ?_ | ((refine' sx_v rfl ?_ rfl rfl ?_); rotate_left; first | exact vo_un tok rfl rfl rfl rfl | exact vo_bin tok rfl rfl rfl rfl rfl rfl | exact vo_or rfl rfl rfl rfl rfl | exact vo_load tok 2 rfl rfl rfl rfl rfl | exact vo_len tok rfl rfl rfl rfl rfl rfl rfl))
        by_cases hfl : 64 ≤ (actL v.c.qs).length ∨ 2147483647 < v.c.nx
        · rw [if_pos hfl] at hf1
          refine sc_true rfl (by simp; omega) ?_
          repeat' (first | refine sc_seq ?_ | refine sc_region ?_ | refine sq_then ?_ | refine sc_ret ?_ | refine sq_pass_ret ?_ | refine sx_nil ?_ | ((refine' sx_v rfl ?_ rfl rfl ?_); rotate_left; exact vo_un tok rfl rfl rfl rfl))
          refine sq_ret tok (fun _ => 0) rfl rfl trivial rfl fun w hm => ⟨?_, hm.below⟩
          rw [hf1]
        · rw [if_neg hfl] at hf1
          refine sc_false rfl (by simp; omega) ?_
          repeat' (first | refine sc_seq ?_ | refine sc_region ?_ | refine sq_then ?_ | refine sc_ret ?_ | refine sc_skip ?_ | refine sx_nil ?_ | ((refine' sx_v rfl ?_ rfl rfl ?_); rotate_left; exact vo_un tok rfl rfl rfl rfl))
          refine sq_ret tok (fun _ => 0) rfl rfl trivial rfl fun w hm => ⟨?_, hm.below⟩
          rw [hf1]
    · refine sc_true rfl (by simpa using he0) ?_
      repeat' (first | refine sc_seq ?_ | refine sc_region ?_ | refine sq_then ?_ | refine sc_ret ?_ | refine sq_pass_ret ?_ | refine sx_nil ?_ | ((refine' sx_v rfl ?_ rfl rfl ?_); rotate_left; exact vo_un tok rfl rfl rfl rfl))
      refine sq_ret tok (fun _ => 0) rfl rfl trivial rfl fun w hm => ⟨?_, hm.below⟩
      rw [hf1, heh, if_pos he0]
end Go.Proofs.YtmdkfbmpenohiaaDoor.Y
