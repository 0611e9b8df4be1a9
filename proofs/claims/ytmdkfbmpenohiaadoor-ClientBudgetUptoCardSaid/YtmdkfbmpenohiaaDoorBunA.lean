/- Texts of this claim merged into one: Budget, Bal. -/
import Derived.Test.YtmdkfbmpenohiaaDoorTabY
import Derived.Test.YtmdkfbmpenohiaaDoorMoreY
/- Budgets. -/
namespace Go.Proofs.YtmdkfbmpenohiaaDoor.Y
open Go.RowKit
def bchk (t m gn : Int) : Int := if m > 1000000 ∨ t < 0 ∨ t > m ∨ gn < 0 ∨ gn > 1000 then 1 else 0
def bfst (t m gn : Int) : Int := if bchk t m gn = 0 then min (t + gn) m else t
def btk (t m gn : Int) : Int := if bchk t m gn = 0 ∧ 1000 ≤ t then t - 1000 else t
def btkE (t m gn : Int) : Int := if bchk t m gn = 0 then (if 1000 ≤ t then 0 else 22) else 1
theorem bchk_rng {t m gn : Int} (h : bchk t m gn = 0) : m ≤ 1000000 ∧ 0 ≤ t ∧ t ≤ m ∧ 0 ≤ gn ∧ gn ≤ 1000 := by
  unfold bchk at h
  split at h
  · omega
  · omega
theorem ret_i64B {a b : Int} (h : a = b) : Ending.returned (.int .i64 a) = Ending.returned (.int .i64 b) := by rw [h]
theorem ret_bud {a b m gn : Int} (h : a = b) : Ending.returned (.agg #[.int .i64 a, .int .i64 m, .int .i64 gn]) = Ending.returned (.agg #[.int .i64 b, .int .i64 m, .int .i64 gn]) := by rw [h]
set_option maxRecDepth 100000 in
set_option maxHeartbeats 4000000 in
theorem bchk_any (t m gn : Int) (w : World) : Calls Tryd.prog 28 #[.agg #[.int .i64 t, .int .i64 m, .int .i64 gn]] w fun e w' => e = .returned (.int .i64 (bchk t m gn)) ∧ Below w.heap.size w w' := by
  refine sx_enter Tryd.func28 rfl Tryd.ntmps28 rfl rfl ?_
  repeat' (first | refine sc_seq ?_ | refine sc_region ?_ | refine sq_then ?_ | refine sc_ret ?_ | refine sc_skip ?_ | refine sc_block ?_ | refine sc_exit ?_ | refine sq_pass_ret ?_ | refine sq_pass_exit ?_ | refine sq_blk_normal ?_ | refine sq_blk_ret ?_ | refine sq_blk_hit ?_ | refine sq_blk_miss rfl ?_ | refine sc_regionD follows_any rfl (by kernel_rfl) ?_ | refine sx_nil ?_ | refine sr_nil0 ?_ | (refine sr_nil1 ?_; intro g) | ((first | refine' sx_v rfl ?_ rfl rfl ?_ | refine' sr_v rfl ?_ rfl rfl rfl ?_); rotate_left; first | exact vo_un tok rfl rfl rfl rfl | exact vo_bin tok rfl rfl rfl rfl rfl rfl | exact vo_or rfl rfl rfl rfl rfl | exact vo_and rfl rfl rfl rfl rfl | exact vo_load tok 0 rfl rfl rfl rfl rfl | exact vo_load tok 1 rfl rfl rfl rfl rfl | exact vo_load tok 2 rfl rfl rfl rfl rfl | exact vo_eqs tok eqOK rfl rfl rfl rfl rfl rfl (by kernel_rfl) | exact vo_nes tok eqOK rfl rfl rfl rfl rfl rfl (by kernel_rfl) | exact vo_len tok rfl rfl rfl rfl rfl rfl rfl | exact vo_max rfl rfl rfl rfl rfl | exact vo_min rfl rfl rfl rfl rfl | exact vo_sh rfl rfl rfl rfl rfl rfl rfl | exact vo_build tok rfl rfl trivial rfl rfl rfl | exact vo_build tok rfl rfl ⟨rfl, trivial⟩ rfl rfl rfl | exact vo_build tok rfl rfl ⟨rfl, rfl, trivial⟩ rfl rfl rfl | exact vo_build tok rfl rfl ⟨rfl, rfl, rfl, trivial⟩ rfl rfl rfl | exact vo_build tok rfl rfl ⟨rfl, rfl, rfl, rfl, trivial⟩ rfl rfl rfl | exact vo_build tok rfl rfl ⟨rfl, rfl, rfl, rfl, rfl, trivial⟩ rfl rfl rfl | exact vo_build tok rfl rfl ⟨rfl, rfl, rfl, rfl, rfl, rfl, trivial⟩ rfl rfl rfl | exact vo_build tok rfl rfl ⟨rfl, rfl, rfl, rfl, rfl, rfl, rfl, trivial⟩ rfl rfl rfl | exact vo_build tok rfl rfl ⟨rfl, rfl, rfl, rfl, rfl, rfl, rfl, rfl, trivial⟩ rfl rfl rfl) | (refine sx_box rfl rfl rfl rfl rfl rfl ?_; intro g) | (refine sx_alloc tok rfl rfl rfl rfl rfl rfl ?_; intro g) | refine sr_alloc tok rfl rfl rfl rfl rfl rfl ?_ | refine sr_box rfl rfl rfl rfl rfl rfl ?_ | refine sx_store tok 0 rfl rfl rfl rfl rfl rfl rfl rfl rfl rfl rfl rfl ?_ | refine sx_store tok 1 rfl rfl rfl rfl rfl rfl rfl rfl rfl rfl rfl rfl ?_ | refine sx_store tok 2 rfl rfl rfl rfl rfl rfl rfl rfl rfl rfl rfl rfl ?_ | (refine sc_cond rfl (fun h => ?_) (fun h => ?_) <;> (try simp at h)))
  all_goals
    refine sq_ret tok (fun _ => 0) rfl rfl trivial rfl fun w hm => ⟨?_, hm.below⟩
    refine ret_i64B ?_
    clear hm
    unfold bchk
    grind
theorem bchkE_any (t m gn e : Int) (he : bchk t m gn = e) (w : World) : Calls Tryd.prog 28 #[.agg #[.int .i64 t, .int .i64 m, .int .i64 gn]] w fun r w' => r = .returned (.int .i64 e) ∧ Below w.heap.size w w' := by
  subst he; exact bchk_any t m gn w
set_option maxRecDepth 100000 in
set_option maxHeartbeats 4000000 in
theorem bfst_any (t m gn : Int) (w : World) : Calls Tryd.prog 43 #[.agg #[.int .i64 t, .int .i64 m, .int .i64 gn]] w fun e w' => e = .returned (.agg #[.int .i64 (bfst t m gn), .int .i64 m, .int .i64 gn]) ∧ Below w.heap.size w w' := by
  obtain ⟨e, he⟩ : ∃ e, bchk t m gn = e := ⟨_, rfl⟩
  refine sx_enter Tryd.func43 rfl Tryd.ntmps43 rfl rfl ?_
  repeat' (first | refine sc_seq ?_ | refine sc_region ?_ | refine sq_then ?_ | refine sx_nil ?_ | ((refine' sx_v rfl ?_ rfl rfl ?_); rotate_left; first | exact vo_bin tok rfl rfl rfl rfl rfl rfl | exact vo_load tok 1 rfl rfl rfl rfl rfl) | refine sx_call rfl (callOp rfl rfl rfl rfl ⟨rfl, trivial⟩ rfl (by kernel_rfl)) (fun w hm => bchkE_any t m gn e he w) rfl rfl ?_ | (refine sx_box rfl rfl rfl rfl rfl rfl ?_; intro g) | (refine sx_alloc tok rfl rfl rfl rfl rfl rfl ?_; intro g))
  by_cases hb0 : e = 0
  · have hb : bchk t m gn = 0 := by rw [he]; exact hb0
    have hr := bchk_rng hb
    subst hb0
    refine sc_false rfl rfl ?_
    repeat' (first | refine sc_seq ?_ | refine sc_region ?_ | refine sq_then ?_ | refine sc_ret ?_ | refine sc_skip ?_ | refine sx_nil ?_ | ((refine' sx_v rfl ?_ rfl rfl ?_); rotate_left; first | exact vo_add rfl rfl rfl rfl rfl (by omega) | exact vo_un tok rfl rfl rfl rfl | exact vo_load tok 1 rfl rfl rfl rfl rfl | exact vo_min rfl rfl rfl rfl rfl) | refine sx_store tok 0 rfl rfl rfl rfl rfl rfl rfl rfl rfl rfl rfl rfl ?_ | refine sx_store tok 1 rfl rfl rfl rfl rfl rfl rfl rfl rfl rfl rfl rfl ?_)
    (refine sq_ret tok (fun _ => 0) rfl rfl ⟨rfl, trivial⟩ rfl fun w hm => ⟨?_, hm.below⟩)
    refine ret_bud ?_
    unfold bfst; rw [if_pos hb]
    clear hm
    split <;> omega
  · have hb : ¬ bchk t m gn = 0 := by rw [he]; exact hb0
    refine sc_true rfl (by simpa using hb0) ?_
    repeat' (first | refine sc_seq ?_ | refine sc_region ?_ | refine sq_then ?_ | refine sc_ret ?_ | refine sq_pass_ret ?_ | refine sx_nil ?_ | ((refine' sx_v rfl ?_ rfl rfl ?_); rotate_left; exact vo_load tok 1 rfl rfl rfl rfl rfl) | refine sx_store tok 0 rfl rfl rfl rfl rfl rfl rfl rfl rfl rfl rfl rfl ?_)
    (refine sq_ret tok (fun _ => 0) rfl rfl ⟨rfl, trivial⟩ rfl fun w hm => ⟨?_, hm.below⟩)
    refine ret_bud ?_
    unfold bfst; rw [if_neg hb]
set_option maxRecDepth 100000 in
set_option maxHeartbeats 4000000 in
theorem btk_any (t m gn : Int) (w : World) : Calls Tryd.prog 57 #[.agg #[.int .i64 t, .int .i64 m, .int .i64 gn]] w fun e w' => e = .returned (.tuple #[.agg #[.int .i64 (btk t m gn), .int .i64 m, .int .i64 gn], .int .i64 (btkE t m gn)]) ∧ Below w.heap.size w w' := by
  obtain ⟨e, he⟩ : ∃ e, bchk t m gn = e := ⟨_, rfl⟩
  refine sx_enter Tryd.func57 rfl Tryd.ntmps57 rfl rfl ?_
  repeat' (first | refine sc_seq ?_ | refine sc_region ?_ | refine sq_then ?_ | refine sx_nil ?_ | ((refine' sx_v rfl ?_ rfl rfl ?_); rotate_left; first | exact vo_un tok rfl rfl rfl rfl | exact vo_bin tok rfl rfl rfl rfl rfl rfl | exact vo_load tok 1 rfl rfl rfl rfl rfl) | refine sx_call rfl (callOp rfl rfl rfl rfl ⟨rfl, trivial⟩ rfl (by kernel_rfl)) (fun w hm => bchkE_any t m gn e he w) rfl rfl ?_ | (refine sx_box rfl rfl rfl rfl rfl rfl ?_; intro g) | (refine sx_alloc tok rfl rfl rfl rfl rfl rfl ?_; intro g))
  by_cases hb0 : e = 0
  · have hb : bchk t m gn = 0 := by rw [he]; exact hb0
    have hr := bchk_rng hb
    subst hb0
    refine sc_false rfl rfl ?_
    by_cases ht : 1000 ≤ t
    · rw [show btk t m gn = t - 1000 from if_pos ⟨hb, ht⟩, show btkE t m gn = 0 from by unfold btkE; rw [if_pos hb, if_pos ht]]
      repeat' (first | refine sc_seq ?_ | refine sc_region ?_ | refine sq_then ?_ | refine sc_skip ?_ | refine sx_nil ?_ | ((refine' sx_v rfl ?_ rfl rfl ?_); rotate_left; first | exact vo_un tok rfl rfl rfl rfl | exact vo_bin tok rfl rfl rfl rfl rfl rfl | exact vo_load tok 1 rfl rfl rfl rfl rfl))
      refine sc_false rfl (by simp; omega) ?_
      repeat' (first | refine sc_seq ?_ | refine sc_region ?_ | refine sq_then ?_ | refine sc_ret ?_ | refine sc_skip ?_ | refine sx_nil ?_ | ((refine' sx_v rfl ?_ rfl rfl ?_); rotate_left; first | exact vo_sub rfl rfl rfl rfl rfl (by omega) | exact vo_un tok rfl rfl rfl rfl | exact vo_load tok 1 rfl rfl rfl rfl rfl) | refine sx_store tok 0 rfl rfl rfl rfl rfl rfl rfl rfl rfl rfl rfl rfl ?_ | refine sx_store tok 1 rfl rfl rfl rfl rfl rfl rfl rfl rfl rfl rfl rfl ?_)
      (refine sq_ret tok (fun _ => 0) rfl rfl ⟨rfl, trivial⟩ rfl fun w hm => ⟨?_, hm.below⟩)
      rfl
    · rw [show btk t m gn = t from if_neg (fun h => ht h.2), show btkE t m gn = 22 from by unfold btkE; rw [if_pos hb, if_neg ht]]
      repeat' (first | refine sc_seq ?_ | refine sc_region ?_ | refine sq_then ?_ | refine sc_skip ?_ | refine sx_nil ?_ | ((refine' sx_v rfl ?_ rfl rfl ?_); rotate_left; first | exact vo_un tok rfl rfl rfl rfl | exact vo_bin tok rfl rfl rfl rfl rfl rfl | exact vo_load tok 1 rfl rfl rfl rfl rfl))
      refine sc_true rfl (by simp; omega) ?_
      repeat' (first | refine sc_seq ?_ | refine sc_region ?_ | refine sq_then ?_ | refine sc_ret ?_ | refine sq_pass_ret ?_ | refine sx_nil ?_ | ((refine' sx_v rfl ?_ rfl rfl ?_); rotate_left; first | exact vo_un tok rfl rfl rfl rfl | exact vo_load tok 1 rfl rfl rfl rfl rfl) | refine sx_store tok 0 rfl rfl rfl rfl rfl rfl rfl rfl rfl rfl rfl rfl ?_)
      (refine sq_ret tok (fun _ => 0) rfl rfl ⟨rfl, trivial⟩ rfl fun w hm => ⟨?_, hm.below⟩)
      rfl
  · have hb : ¬ bchk t m gn = 0 := by rw [he]; exact hb0
    rw [show btk t m gn = t from if_neg (fun h => hb h.1), show btkE t m gn = 1 from if_neg hb]
    refine sc_true rfl (by simpa using hb0) ?_
    repeat' (first | refine sc_seq ?_ | refine sc_region ?_ | refine sq_then ?_ | refine sc_ret ?_ | refine sq_pass_ret ?_ | refine sx_nil ?_ | ((refine' sx_v rfl ?_ rfl rfl ?_); rotate_left; first | exact vo_un tok rfl rfl rfl rfl | exact vo_load tok 1 rfl rfl rfl rfl rfl) | refine sx_store tok 0 rfl rfl rfl rfl rfl rfl rfl rfl rfl rfl rfl rfl ?_)
    (refine sq_ret tok (fun _ => 0) rfl rfl ⟨rfl, trivial⟩ rfl fun w hm => ⟨?_, hm.below⟩)
    rfl
end Go.Proofs.YtmdkfbmpenohiaaDoor.Y

/- Small functions of balance and client. -/
namespace Go.Proofs.YtmdkfbmpenohiaaDoor.Y
open Go.RowKit
def bndI (n k : Int) : Int := min (max n 0) k
def cntB (n : Int) : Bool := decide (0 ≤ n ∧ n ≤ 1000000)
theorem ret_bool53 {a b : Bool} (h : a = b) : Ending.returned (.bool a) = Ending.returned (.bool b) := by rw [h]
set_option maxRecDepth 100000 in
set_option maxHeartbeats 4000000 in
theorem bound_any (n k : Int) (w : World) : Calls Tryd.prog 58 #[.int .i64 n, .int .i64 k] w fun e w' => e = .returned (.int .i64 (bndI n k)) ∧ Below w.heap.size w w' := by
  refine sx_enter Tryd.func58 rfl Tryd.ntmps58 rfl rfl ?_
  repeat' (first | refine sc_seq ?_ | refine sc_region ?_ | refine sq_then ?_ | refine sc_ret ?_ | refine sx_nil ?_ | ((refine' sx_v rfl ?_ rfl rfl ?_); rotate_left; first | exact vo_un tok rfl rfl rfl rfl | exact vo_max rfl rfl rfl rfl rfl | exact vo_min rfl rfl rfl rfl rfl))
  all_goals
    refine sq_ret tok (fun _ => 0) rfl rfl trivial rfl fun w hm => ⟨?_, hm.below⟩
    refine ret_i64B ?_
    clear hm
    unfold bndI
    (repeat' split) <;> omega
set_option maxRecDepth 100000 in
set_option maxHeartbeats 4000000 in
theorem clock_any (n : Int) (w : World) : Calls Tryd.prog 35 #[.int .i64 n] w fun e w' => e = .returned (.int .i64 (bndI n 1099511627776)) ∧ Below w.heap.size w w' := by
  refine sx_enter Tryd.func35 rfl Tryd.ntmps35 rfl rfl ?_
  repeat' (first | refine sc_seq ?_ | refine sc_region ?_ | refine sq_then ?_ | refine sc_ret ?_ | refine sx_nil ?_ | ((refine' sx_v rfl ?_ rfl rfl ?_); rotate_left; first | exact vo_un tok rfl rfl rfl rfl | exact vo_max rfl rfl rfl rfl rfl | exact vo_min rfl rfl rfl rfl rfl))
  all_goals
    refine sq_ret tok (fun _ => 0) rfl rfl trivial rfl fun w hm => ⟨?_, hm.below⟩
    refine ret_i64B ?_
    clear hm
    unfold bndI
    (repeat' split) <;> omega
set_option maxRecDepth 100000 in
set_option maxHeartbeats 4000000 in
theorem count_any53 (n : Int) (w : World) : Calls Tryd.prog 48 #[.int .i64 n] w fun e w' => e = .returned (.bool (cntB n)) ∧ Below w.heap.size w w' := by
  refine sx_enter Tryd.func48 rfl Tryd.ntmps48 rfl rfl ?_
  repeat' (first | refine sc_seq ?_ | refine sc_region ?_ | refine sq_then ?_ | refine sc_ret ?_ | refine sx_nil ?_ | ((refine' sx_v rfl ?_ rfl rfl ?_); rotate_left; first | exact vo_un tok rfl rfl rfl rfl | exact vo_bin tok rfl rfl rfl rfl rfl rfl | exact vo_and rfl rfl rfl rfl rfl))
  all_goals
    refine sq_ret tok (fun _ => 0) rfl rfl trivial rfl fun w hm => ⟨?_, hm.below⟩
    refine ret_bool53 ?_
    clear hm
    unfold cntB
    rw [Bool.eq_iff_iff]
    simp
end Go.Proofs.YtmdkfbmpenohiaaDoor.Y
