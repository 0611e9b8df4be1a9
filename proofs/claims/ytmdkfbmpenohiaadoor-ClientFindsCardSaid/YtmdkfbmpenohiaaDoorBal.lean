/- Small functions of balance and client. -/
import Derived.Test.YtmdkfbmpenohiaaDoorBudget
namespace Go.Proofs.YtmdkfbmpenohiaaDoor.Y
open Go.RowKit
def bndI (n k : Int) : Int := min (max n 0) k
def cntB (n : Int) : Bool := decide (0 ≤ n ∧ n ≤ 1000000)
theorem ret_bool53 {a b : Bool} (h : a = b) : Ending.returned (.bool a) = Ending.returned (.bool b) := by rw [h]
set_option maxRecDepth 100000 in
set_option maxHeartbeats 4000000 in
theorem bound_any (n k : Int) (w : World) : Calls Tryd.prog 58 #[.int .i64 n, .int .i64 k] w fun e w' => e = .returned (.int .i64 (bndI n k)) ∧ Below w.heap.size w w' := by
  refine sx_enter Tryd.func58 rfl Tryd.ntmps58 rfl rfl ?_
  repeat' (first | refine sc_seq ?_ | refine sc_region ?_ | refine sq_then ?_ | refine sc_ret ?_ | refine sc_skip ?_ | refine sc_block ?_ | refine sc_exit ?_ | refine sq_pass_ret ?_ | refine sq_pass_exit ?_ | refine sq_blk_normal ?_ | refine sq_blk_ret ?_ | refine sq_blk_hit ?_ | refine sq_blk_miss rfl ?_ | refine sc_regionD follows_any rfl (by kernel_rfl) ?_ | refine sx_nil ?_ | refine sr_nil0 ?_ | (refine sr_nil1 ?_; intro g) | ((first | refine' sx_v rfl ?_ rfl rfl ?_ | refine' sr_v rfl ?_ rfl rfl rfl ?_); rotate_left; first | exact vo_un tok rfl rfl rfl rfl | exact vo_bin tok rfl rfl rfl rfl rfl rfl | exact vo_or rfl rfl rfl rfl rfl | exact vo_and rfl rfl rfl rfl rfl | exact vo_load tok 0 rfl rfl rfl rfl rfl | exact vo_load tok 1 rfl rfl rfl rfl rfl | exact vo_eqs tok eqOK rfl rfl rfl rfl rfl rfl (by kernel_rfl) | exact vo_nes tok eqOK rfl rfl rfl rfl rfl rfl (by kernel_rfl) | exact vo_len tok rfl rfl rfl rfl rfl rfl rfl | exact vo_max rfl rfl rfl rfl rfl | exact vo_min rfl rfl rfl rfl rfl | exact vo_sh rfl rfl rfl rfl rfl rfl rfl | exact vo_build tok rfl rfl trivial rfl rfl rfl | exact vo_build tok rfl rfl ⟨rfl, trivial⟩ rfl rfl rfl | exact vo_build tok rfl rfl ⟨rfl, rfl, trivial⟩ rfl rfl rfl | exact vo_build tok rfl rfl ⟨rfl, rfl, rfl, trivial⟩ rfl rfl rfl | exact vo_build tok rfl rfl ⟨rfl, rfl, rfl, rfl, trivial⟩ rfl rfl rfl | exact vo_build tok rfl rfl ⟨rfl, rfl, rfl, rfl, rfl, trivial⟩ rfl rfl rfl | exact vo_build tok rfl rfl ⟨rfl, rfl, rfl, rfl, rfl, rfl, trivial⟩ rfl rfl rfl | exact vo_build tok rfl rfl ⟨rfl, rfl, rfl, rfl, rfl, rfl, rfl, trivial⟩ rfl rfl rfl | exact vo_build tok rfl rfl ⟨rfl, rfl, rfl, rfl, rfl, rfl, rfl, rfl, trivial⟩ rfl rfl rfl) | (refine sx_box rfl rfl rfl rfl rfl rfl ?_; intro g) | (refine sx_alloc tok rfl rfl rfl rfl rfl rfl ?_; intro g) | refine sr_alloc tok rfl rfl rfl rfl rfl rfl ?_ | refine sr_box rfl rfl rfl rfl rfl rfl ?_ | refine sx_store tok 0 rfl rfl rfl rfl rfl rfl rfl rfl rfl rfl rfl rfl ?_ | refine sx_store tok 1 rfl rfl rfl rfl rfl rfl rfl rfl rfl rfl rfl rfl ?_ | refine sc_cond rfl (fun h => ?_) (fun h => ?_))
  all_goals
    refine sq_ret tok (fun _ => 0) rfl rfl trivial rfl fun w hm => ⟨?_, hm.below⟩
    refine ret_i64B ?_
    clear hm
    unfold bndI
    (repeat' split) <;> omega
set_option maxRecDepth 100000 in
set_option maxHeartbeats 4000000 in
theorem clock_any (n : Int) (w : World) : Calls Tryd.prog 35 #[.int .i64 n] w fun e w' => e = .returned (.int .i64 (bndI n 1099511627776)) ∧ Below w.heap.size w w' := by
  refine sx_enter Tryd.func35 rfl Tryd.ntmps35 rfl rfl ?_
  repeat' (first | refine sc_seq ?_ | refine sc_region ?_ | refine sq_then ?_ | refine sc_ret ?_ | refine sc_skip ?_ | refine sc_block ?_ | refine sc_exit ?_ | refine sq_pass_ret ?_ | refine sq_pass_exit ?_ | refine sq_blk_normal ?_ | refine sq_blk_ret ?_ | refine sq_blk_hit ?_ | refine sq_blk_miss rfl ?_ | refine sc_regionD follows_any rfl (by kernel_rfl) ?_ | refine sx_nil ?_ | refine sr_nil0 ?_ | (refine sr_nil1 ?_; intro g) | ((first | refine' sx_v rfl ?_ rfl rfl ?_ | refine' sr_v rfl ?_ rfl rfl rfl ?_); rotate_left; first | exact vo_un tok rfl rfl rfl rfl | exact vo_bin tok rfl rfl rfl rfl rfl rfl | exact vo_or rfl rfl rfl rfl rfl | exact vo_and rfl rfl rfl rfl rfl | exact vo_load tok 0 rfl rfl rfl rfl rfl | exact vo_load tok 1 rfl rfl rfl rfl rfl | exact vo_eqs tok eqOK rfl rfl rfl rfl rfl rfl (by kernel_rfl) | exact vo_nes tok eqOK rfl rfl rfl rfl rfl rfl (by kernel_rfl) | exact vo_len tok rfl rfl rfl rfl rfl rfl rfl | exact vo_max rfl rfl rfl rfl rfl | exact vo_min rfl rfl rfl rfl rfl | exact vo_sh rfl rfl rfl rfl rfl rfl rfl | exact vo_build tok rfl rfl trivial rfl rfl rfl | exact vo_build tok rfl rfl ⟨rfl, trivial⟩ rfl rfl rfl | exact vo_build tok rfl rfl ⟨rfl, rfl, trivial⟩ rfl rfl rfl | exact vo_build tok rfl rfl ⟨rfl, rfl, rfl, trivial⟩ rfl rfl rfl | exact vo_build tok rfl rfl ⟨rfl, rfl, rfl, rfl, trivial⟩ rfl rfl rfl | exact vo_build tok rfl rfl ⟨rfl, rfl, rfl, rfl, rfl, trivial⟩ rfl rfl rfl | exact vo_build tok rfl rfl ⟨rfl, rfl, rfl, rfl, rfl, rfl, trivial⟩ rfl rfl rfl | exact vo_build tok rfl rfl ⟨rfl, rfl, rfl, rfl, rfl, rfl, rfl, trivial⟩ rfl rfl rfl | exact vo_build tok rfl rfl ⟨rfl, rfl, rfl, rfl, rfl, rfl, rfl, rfl, trivial⟩ rfl rfl rfl) | (refine sx_box rfl rfl rfl rfl rfl rfl ?_; intro g) | (refine sx_alloc tok rfl rfl rfl rfl rfl rfl ?_; intro g) | refine sr_alloc tok rfl rfl rfl rfl rfl rfl ?_ | refine sr_box rfl rfl rfl rfl rfl rfl ?_ | refine sx_store tok 0 rfl rfl rfl rfl rfl rfl rfl rfl rfl rfl rfl rfl ?_ | refine sx_store tok 1 rfl rfl rfl rfl rfl rfl rfl rfl rfl rfl rfl rfl ?_ | refine sc_cond rfl (fun h => ?_) (fun h => ?_))
  all_goals
    refine sq_ret tok (fun _ => 0) rfl rfl trivial rfl fun w hm => ⟨?_, hm.below⟩
    refine ret_i64B ?_
    clear hm
    unfold bndI
    (repeat' split) <;> omega
set_option maxRecDepth 100000 in
set_option maxHeartbeats 4000000 in
theorem count_any53 (n : Int) (w : World) : Calls Tryd.prog 48 #[.int .i64 n] w fun e w' => e = .returned (.bool (cntB n)) ∧ Below w.heap.size w w' := by
  refine sx_enter Tryd.func48 rfl Tryd.ntmps48 rfl rfl ?_
  repeat' (first | refine sc_seq ?_ | refine sc_region ?_ | refine sq_then ?_ | refine sc_ret ?_ | refine sc_skip ?_ | refine sc_block ?_ | refine sc_exit ?_ | refine sq_pass_ret ?_ | refine sq_pass_exit ?_ | refine sq_blk_normal ?_ | refine sq_blk_ret ?_ | refine sq_blk_hit ?_ | refine sq_blk_miss rfl ?_ | refine sc_regionD follows_any rfl (by kernel_rfl) ?_ | refine sx_nil ?_ | refine sr_nil0 ?_ | (refine sr_nil1 ?_; intro g) | ((first | refine' sx_v rfl ?_ rfl rfl ?_ | refine' sr_v rfl ?_ rfl rfl rfl ?_); rotate_left; first | exact vo_un tok rfl rfl rfl rfl | exact vo_bin tok rfl rfl rfl rfl rfl rfl | exact vo_or rfl rfl rfl rfl rfl | exact vo_and rfl rfl rfl rfl rfl | exact vo_load tok 0 rfl rfl rfl rfl rfl | exact vo_load tok 1 rfl rfl rfl rfl rfl | exact vo_eqs tok eqOK rfl rfl rfl rfl rfl rfl (by kernel_rfl) | exact vo_nes tok eqOK rfl rfl rfl rfl rfl rfl (by kernel_rfl) | exact vo_len tok rfl rfl rfl rfl rfl rfl rfl | exact vo_max rfl rfl rfl rfl rfl | exact vo_min rfl rfl rfl rfl rfl | exact vo_sh rfl rfl rfl rfl rfl rfl rfl | exact vo_build tok rfl rfl trivial rfl rfl rfl | exact vo_build tok rfl rfl ⟨rfl, trivial⟩ rfl rfl rfl | exact vo_build tok rfl rfl ⟨rfl, rfl, trivial⟩ rfl rfl rfl | exact vo_build tok rfl rfl ⟨rfl, rfl, rfl, trivial⟩ rfl rfl rfl | exact vo_build tok rfl rfl ⟨rfl, rfl, rfl, rfl, trivial⟩ rfl rfl rfl | exact vo_build tok rfl rfl ⟨rfl, rfl, rfl, rfl, rfl, trivial⟩ rfl rfl rfl | exact vo_build tok rfl rfl ⟨rfl, rfl, rfl, rfl, rfl, rfl, trivial⟩ rfl rfl rfl | exact vo_build tok rfl rfl ⟨rfl, rfl, rfl, rfl, rfl, rfl, rfl, trivial⟩ rfl rfl rfl | exact vo_build tok rfl rfl ⟨rfl, rfl, rfl, rfl, rfl, rfl, rfl, rfl, trivial⟩ rfl rfl rfl) | (refine sx_box rfl rfl rfl rfl rfl rfl ?_; intro g) | (refine sx_alloc tok rfl rfl rfl rfl rfl rfl ?_; intro g) | refine sr_alloc tok rfl rfl rfl rfl rfl rfl ?_ | refine sr_box rfl rfl rfl rfl rfl rfl ?_ | refine sx_store tok 0 rfl rfl rfl rfl rfl rfl rfl rfl rfl rfl rfl rfl ?_ | refine sx_store tok 1 rfl rfl rfl rfl rfl rfl rfl rfl rfl rfl rfl rfl ?_ | refine sc_cond rfl (fun h => ?_) (fun h => ?_))
  all_goals
    refine sq_ret tok (fun _ => 0) rfl rfl trivial rfl fun w hm => ⟨?_, hm.below⟩
    refine ret_bool53 ?_
    clear hm
    unfold cntB
    rw [Bool.eq_iff_iff]
    simp
end Go.Proofs.YtmdkfbmpenohiaaDoor.Y
