/- Policies of retries. -/
import Derived.Test.YtmdkfbmpenohiaaDoorCliR
import Derived.Laws.BitsLemmas
import Derived.IntWalk
namespace Go.Proofs.YtmdkfbmpenohiaaDoor.Y
open Go.RowKit
theorem and1 (n : Int) : bits .and .i64 n 1 = n % 2 := by
  have h127 : (BitVec.ofInt 64 1).toNat = 2 ^ 1 - 1 := by decide
  have key : (BitVec.ofInt 64 n &&& BitVec.ofInt 64 1).toNat = (n % ((2 ^ 64 : Nat) : Int)).toNat % 2 ^ 1 := by
    rw [BitVec.toNat_and, BitVec.toNat_ofInt, h127, Nat.and_two_pow_sub_one_eq_mod]
  show IntKind.i64.wrap ((BitVec.ofInt 64 n &&& BitVec.ofInt 64 1).toNat : Nat) = n % 2
  rw [key, IntKind.wrap_i64]
  omega
theorem shr1 (k code : Int) (h1 : 1 ≤ code) (h2 : code ≤ 13) : k.fdiv (2 ^ (min (IntKind.u64.wrap code).toNat IntKind.i64.bits)) = k / 2 ^ code.toNat := by
  rw [IntWalk.u64_in code ⟨by omega, by omega⟩, show min code.toNat IntKind.i64.bits = code.toNat by (show min code.toNat 64 = _); omega]
  exact Int.fdiv_eq_ediv_of_nonneg _ (Int.le_of_lt (Int.pow_pos (by decide)))
theorem u64_ge (n : Int) : 0 ≤ IntKind.u64.wrap n := by rw [IntKind.wrap_u64]; omega
def mayI (a b c k t m gn n code : Int) (safe : Bool) : Bool :=
  decide (rchk a b c k = 0) && decide (bchk t m gn = 0) && decide (1 ≤ n) && decide (n < a) && decide (1 ≤ code) && decide (code ≤ 13) && decide ((k / 2 ^ code.toNat) % 2 = 1) && (safe || decide (code = 12)) && decide (1000 ≤ t)
theorem mayL_I (x : CL) (n code : Int) (safe : Bool) : mayL x n code safe = mayI x.ra x.rb x.rc x.rk x.tk x.mo x.gn n code safe := rfl
theorem rchk_rng {a b c k : Int} (h : rchk a b c k = 0) : 1 ≤ a ∧ a ≤ 10 ∧ 1 ≤ b ∧ b ≤ c ∧ c ≤ 1099511627776 ∧ 0 ≤ k ∧ k < 16384 ∧ k % 2 = 0 := by
  unfold rchk at h
  split at h
  · omega
  · omega
theorem ret_boolP {a b : Bool} (h : a = b) : Ending.returned (.bool a) = Ending.returned (.bool b) := by rw [h]
theorem pow_step (b : Int) (i : Nat) : b * 2 ^ (i + 1) = 2 * (b * 2 ^ i) := by rw [Int.pow_succ, ← Int.mul_assoc, Int.mul_comm]
theorem pow_mono (b : Int) (hb : 0 ≤ b) (i j : Nat) (h : i ≤ j) : b * 2 ^ i ≤ b * 2 ^ j := by
  refine Int.mul_le_mul_of_nonneg_left ?_ hb
  obtain ⟨d, rfl⟩ := Nat.exists_eq_add_of_le h
  rw [Int.pow_add]
  have h1 : (0 : Int) < 2 ^ i := Int.pow_pos (by decide)
  have h2 : (0 : Int) < 2 ^ d := Int.pow_pos (by decide)
  have := Int.mul_le_mul_of_nonneg_left (show (1 : Int) ≤ 2 ^ d by omega) (Int.le_of_lt h1)
  simpa using this
set_option maxRecDepth 100000 in
set_option maxHeartbeats 4000000 in
theorem aft53_any (a b : Int) (w : World) : Calls Tryd.prog 55 #[.int .i64 a, .int .i64 b] w fun e w' => e = .returned (.int .i64 (aftL a b)) ∧ Below w.heap.size w w' := by
  refine sx_enter Tryd.func55 rfl Tryd.ntmps55 rfl rfl ?_
  repeat' (first | refine sc_seq ?_ | refine sc_region ?_ | refine sq_then ?_ | refine sc_ret ?_ | refine sx_nil ?_ | ((refine' sx_v rfl ?_ rfl rfl ?_); rotate_left; first | exact vo_add rfl rfl rfl rfl rfl (by omega) | exact vo_un tok rfl rfl rfl rfl | exact vo_max rfl rfl rfl rfl rfl | exact vo_min rfl rfl rfl rfl rfl))
  all_goals
    refine sq_ret tok (fun _ => 0) rfl rfl trivial rfl fun w hm => ⟨?_, hm.below⟩
    refine ret_i64B ?_
    clear hm
    unfold aftL clk bndI
    omega
set_option maxRecDepth 100000 in
set_option maxHeartbeats 4000000 in
theorem rchk_any (a b c k : Int) (w : World) : Calls Tryd.prog 27 #[.agg #[.int .i64 a, .int .i64 b, .int .i64 c, .int .i64 k]] w fun e w' => e = .returned (.int .i64 (rchk a b c k)) ∧ Below w.heap.size w w' := by
  refine sx_enter Tryd.func27 rfl Tryd.ntmps27 rfl rfl ?_
  repeat' (first | refine sc_seq ?_ | refine sc_region ?_ | refine sq_then ?_ | refine sc_ret ?_ | refine sc_skip ?_ | refine sc_block ?_ | refine sc_exit ?_ | refine sq_pass_ret ?_ | refine sq_pass_exit ?_ | refine sq_blk_normal ?_ | refine sq_blk_ret ?_ | refine sq_blk_hit ?_ | refine sq_blk_miss rfl ?_ | refine sc_regionD follows_any rfl (by kernel_rfl) ?_ | refine sx_nil ?_ | refine sr_nil0 ?_ | (refine sr_nil1 ?_; intro g) | ((first | refine' sx_v rfl ?_ rfl rfl ?_ | refine' sr_v rfl ?_ rfl rfl rfl ?_); rotate_left; first | exact vo_un tok rfl rfl rfl rfl | exact vo_bin tok rfl rfl rfl rfl rfl rfl | exact vo_or rfl rfl rfl rfl rfl | exact vo_and rfl rfl rfl rfl rfl | exact vo_load tok 0 rfl rfl rfl rfl rfl | exact vo_load tok 1 rfl rfl rfl rfl rfl | exact vo_eqs tok eqOK rfl rfl rfl rfl rfl rfl (by kernel_rfl) | exact vo_nes tok eqOK rfl rfl rfl rfl rfl rfl (by kernel_rfl) | exact vo_len tok rfl rfl rfl rfl rfl rfl rfl | exact vo_max rfl rfl rfl rfl rfl | exact vo_min rfl rfl rfl rfl rfl | exact vo_sh rfl rfl rfl rfl rfl rfl rfl | exact vo_build tok rfl rfl trivial rfl rfl rfl | exact vo_build tok rfl rfl ⟨rfl, trivial⟩ rfl rfl rfl | exact vo_build tok rfl rfl ⟨rfl, rfl, trivial⟩ rfl rfl rfl | exact vo_build tok rfl rfl ⟨rfl, rfl, rfl, trivial⟩ rfl rfl rfl | exact vo_build tok rfl rfl ⟨rfl, rfl, rfl, rfl, trivial⟩ rfl rfl rfl | exact vo_build tok rfl rfl ⟨rfl, rfl, rfl, rfl, rfl, trivial⟩ rfl rfl rfl | exact vo_build tok rfl rfl ⟨rfl, rfl, rfl, rfl, rfl, rfl, trivial⟩ rfl rfl rfl | exact vo_build tok rfl rfl ⟨rfl, rfl, rfl, rfl, rfl, rfl, rfl, trivial⟩ rfl rfl rfl | exact vo_build tok rfl rfl ⟨rfl, rfl, rfl, rfl, rfl, rfl, rfl, rfl, trivial⟩ rfl rfl rfl) | (refine sx_box rfl rfl rfl rfl rfl rfl ?_; intro g) | (refine sx_alloc tok rfl rfl rfl rfl rfl rfl ?_; intro g) | refine sr_alloc tok rfl rfl rfl rfl rfl rfl ?_ | refine sr_box rfl rfl rfl rfl rfl rfl ?_ | refine sx_store tok 0 rfl rfl rfl rfl rfl rfl rfl rfl rfl rfl rfl rfl ?_ | refine sx_store tok 1 rfl rfl rfl rfl rfl rfl rfl rfl rfl rfl rfl rfl ?_ | (refine sc_cond rfl (fun h => ?_) (fun h => ?_) <;> (try simp at h)))
  all_goals
    refine sq_ret tok (fun _ => 0) rfl rfl trivial rfl fun w hm => ⟨?_, hm.below⟩
    refine ret_i64B ?_
    clear hm
    unfold rchk
    have ha := and1 k
    grind
theorem rchkE_any (a b c k e : Int) (he : rchk a b c k = e) (w : World) : Calls Tryd.prog 27 #[.agg #[.int .i64 a, .int .i64 b, .int .i64 c, .int .i64 k]] w fun r w' => r = .returned (.int .i64 e) ∧ Below w.heap.size w w' := by
  subst he; exact rchk_any a b c k w
set_option maxRecDepth 100000 in
set_option maxHeartbeats 4000000 in
theorem may_any (a b c k t m gn n code : Int) (safe : Bool) (w : World) : Calls Tryd.prog 54 #[.agg #[.int .i64 a, .int .i64 b, .int .i64 c, .int .i64 k], .agg #[.int .i64 t, .int .i64 m, .int .i64 gn], .int .i64 n, .int .i64 code, .bool safe] w fun e w' => e = .returned (.bool (mayI a b c k t m gn n code safe)) ∧ Below w.heap.size w w' := by
  obtain ⟨e1, he1⟩ : ∃ e, rchk a b c k = e := ⟨_, rfl⟩
  obtain ⟨e2, he2⟩ : ∃ e, bchk t m gn = e := ⟨_, rfl⟩
  refine sx_enter Tryd.func54 rfl Tryd.ntmps54 rfl rfl ?_
  repeat' (first | refine sc_seq ?_ | refine sc_region ?_ | refine sq_then ?_ | refine sc_ret ?_ | refine sc_skip ?_ | refine sc_block ?_ | refine sc_exit ?_ | refine sq_pass_ret ?_ | refine sq_pass_exit ?_ | refine sq_blk_normal ?_ | refine sq_blk_ret ?_ | refine sq_blk_hit ?_ | refine sq_blk_miss rfl ?_ | refine sc_regionD follows_any rfl (by kernel_rfl) ?_ | refine sx_nil ?_ | refine sr_nil0 ?_ | (refine sr_nil1 ?_; intro g) | ((first | refine' sx_v rfl ?_ rfl rfl ?_ | refine' sr_v rfl ?_ rfl rfl rfl ?_); rotate_left; first | exact vo_shn rfl rfl rfl rfl rfl rfl (fun _ => u64_ge _) | exact vo_un tok rfl rfl rfl rfl | exact vo_bin tok rfl rfl rfl rfl rfl rfl | exact vo_or rfl rfl rfl rfl rfl | exact vo_and rfl rfl rfl rfl rfl | exact vo_load tok 0 rfl rfl rfl rfl rfl | exact vo_load tok 1 rfl rfl rfl rfl rfl | exact vo_load tok 2 rfl rfl rfl rfl rfl | exact vo_eqs tok eqOK rfl rfl rfl rfl rfl rfl (by kernel_rfl) | exact vo_nes tok eqOK rfl rfl rfl rfl rfl rfl (by kernel_rfl) | exact vo_len tok rfl rfl rfl rfl rfl rfl rfl | exact vo_max rfl rfl rfl rfl rfl | exact vo_min rfl rfl rfl rfl rfl | exact vo_sh rfl rfl rfl rfl rfl rfl rfl | exact vo_build tok rfl rfl trivial rfl rfl rfl | exact vo_build tok rfl rfl ⟨rfl, trivial⟩ rfl rfl rfl | exact vo_build tok rfl rfl ⟨rfl, rfl, trivial⟩ rfl rfl rfl | exact vo_build tok rfl rfl ⟨rfl, rfl, rfl, trivial⟩ rfl rfl rfl | exact vo_build tok rfl rfl ⟨rfl, rfl, rfl, rfl, trivial⟩ rfl rfl rfl | exact vo_build tok rfl rfl ⟨rfl, rfl, rfl, rfl, rfl, trivial⟩ rfl rfl rfl | exact vo_build tok rfl rfl ⟨rfl, rfl, rfl, rfl, rfl, rfl, trivial⟩ rfl rfl rfl | exact vo_build tok rfl rfl ⟨rfl, rfl, rfl, rfl, rfl, rfl, rfl, trivial⟩ rfl rfl rfl | exact vo_build tok rfl rfl ⟨rfl, rfl, rfl, rfl, rfl, rfl, rfl, rfl, trivial⟩ rfl rfl rfl) | refine sx_call rfl (callOp rfl rfl rfl rfl ⟨rfl, trivial⟩ rfl (by kernel_rfl)) (fun w hm => rchkE_any a b c k e1 he1 w) rfl rfl ?_ | refine sr_call rfl (callOp rfl rfl rfl rfl ⟨rfl, trivial⟩ rfl (by kernel_rfl)) rfl (fun w hm => rchkE_any a b c k e1 he1 w) rfl rfl ?_ | refine sx_call rfl (callOp rfl rfl rfl rfl ⟨rfl, trivial⟩ rfl (by kernel_rfl)) (fun w hm => bchkE_any t m gn e2 he2 w) rfl rfl ?_ | refine sr_call rfl (callOp rfl rfl rfl rfl ⟨rfl, trivial⟩ rfl (by kernel_rfl)) rfl (fun w hm => bchkE_any t m gn e2 he2 w) rfl rfl ?_ | (refine sx_box rfl rfl rfl rfl rfl rfl ?_; intro g) | (refine sx_alloc tok rfl rfl rfl rfl rfl rfl ?_; intro g) | refine sr_alloc tok rfl rfl rfl rfl rfl rfl ?_ | refine sr_box rfl rfl rfl rfl rfl rfl ?_ | refine sx_store tok 0 rfl rfl rfl rfl rfl rfl rfl rfl rfl rfl rfl rfl ?_ | refine sx_store tok 1 rfl rfl rfl rfl rfl rfl rfl rfl rfl rfl rfl rfl ?_ | refine sx_store tok 2 rfl rfl rfl rfl rfl rfl rfl rfl rfl rfl rfl rfl ?_ | (refine sc_cond rfl (fun h => ?_) (fun h => ?_) <;> (try simp at h)))
  all_goals
    refine sq_ret tok (fun _ => 0) rfl rfl trivial rfl fun w hm => ⟨?_, hm.below⟩
    refine ret_boolP ?_
    clear hm
    unfold mayI
    rw [he1, he2]
    have ha := and1 (k.fdiv (2 ^ (min (IntKind.u64.wrap code).toNat IntKind.i64.bits)))
    have hb := shr1 k code
    rw [Bool.eq_iff_iff]
    grind
set_option maxRecDepth 100000 in
set_option maxHeartbeats 4000000 in
theorem paus_any (a b c k : Int) (n : Int) (w : World) (hn : n ≤ 9223372036854775807) : Calls Tryd.prog 56 #[.agg #[.int .i64 a, .int .i64 b, .int .i64 c, .int .i64 k], .int .i64 n] w fun e w' => e = .returned (.int .i64 (paus a b c k n)) ∧ Below w.heap.size w w' := by
  obtain ⟨e1, he1⟩ : ∃ e, rchk a b c k = e := ⟨_, rfl⟩
  refine sx_enter Tryd.func56 rfl Tryd.ntmps56 rfl rfl ?_
  repeat' (first | refine sc_seq ?_ | refine sc_region ?_ | refine sq_then ?_ | refine sx_nil ?_ | ((refine' sx_v rfl ?_ rfl rfl ?_); rotate_left; first | exact vo_un tok rfl rfl rfl rfl | exact vo_bin tok rfl rfl rfl rfl rfl rfl | exact vo_or rfl rfl rfl rfl rfl | exact vo_load tok 0 rfl rfl rfl rfl rfl) | refine sx_call rfl (callOp rfl rfl rfl rfl ⟨rfl, trivial⟩ rfl (by kernel_rfl)) (fun w hm => rchkE_any a b c k e1 he1 w) rfl rfl ?_ | (refine sx_box rfl rfl rfl rfl rfl rfl ?_; intro g))
  by_cases h0 : n < 1 ∨ e1 ≠ 0
  · refine sc_true rfl (by simpa using h0) ?_
    repeat' (first | refine sc_seq ?_ | refine sc_region ?_ | refine sq_then ?_ | refine sc_ret ?_ | refine sq_pass_ret ?_ | refine sx_nil ?_ | ((refine' sx_v rfl ?_ rfl rfl ?_); rotate_left; exact vo_un tok rfl rfl rfl rfl))
    refine sq_ret tok (fun _ => 0) rfl rfl trivial rfl fun w hm => ⟨?_, hm.below⟩
    refine ret_i64B ?_
    unfold paus
    rw [if_pos (by rw [he1]; exact h0)]
  · have hr := rchk_rng (he1.trans (by omega))
    have hn1 : 1 ≤ n := by omega
    refine sc_false rfl (by simpa using h0) ?_
    repeat' (first | refine sc_seq ?_ | refine sc_region ?_ | refine sq_then ?_ | refine sc_skip ?_ | refine sc_block ?_ | refine sx_nil ?_ | ((refine' sx_v rfl ?_ rfl rfl ?_); rotate_left; first | exact vo_sub rfl rfl rfl rfl rfl (by omega) | exact vo_un tok rfl rfl rfl rfl | exact vo_load tok 0 rfl rfl rfl rfl rfl | exact vo_min rfl rfl rfl rfl rfl))
    refine sc_loop (σ := Nat × Int) (fun p => p.1 ≤ (min (n - 1) 64).toNat ∧ p.2 ≤ 2 * c ∧ p.2 = b * 2 ^ p.1) (fun p => [(18, [], .int .i64 ((p.1 : Nat) : Int)), (17, [], .int .i64 (if 64 < n - 1 then 64 else n - 1)), (5, [], .int .i64 p.2), (2, [], .pointer (some ⟨g, 0, none⟩))]) (fun _ => [.cl g 24 [.int .i64 a, .int .i64 b, .int .i64 c, .int .i64 k]]) (fun p => (min (n - 1) 64).toNat - p.1) (0, b) [true] ⟨Nat.zero_le _, by dsimp only; omega, by simp⟩ ⟨rfl, rfl, rfl, rfl, trivial⟩ rfl ?_
    rintro ⟨j, q⟩ ⟨hj0, hjc, hq⟩
    dsimp only at hj0 hjc hq ⊢
    have hpos : b ≤ b * 2 ^ j := by have := pow_mono b (by omega) 0 j (Nat.zero_le _); simpa using this
    have hst := pow_step b j
    by_cases hj : j < (min (n - 1) 64).toNat
    · skip
      repeat' (first | refine sc_seq ?_ | refine sc_region ?_ | refine sq_then ?_ | refine sx_nil ?_ | ((refine' sx_v rfl ?_ rfl rfl ?_); rotate_left; exact vo_bin tok rfl rfl rfl rfl rfl rfl))
      refine sc_true rfl (by simp; omega) ?_
      repeat' (first | refine sc_seq ?_ | refine sc_region ?_ | refine sq_then ?_ | refine sc_skip ?_ | refine sc_block ?_ | refine sx_nil ?_ | ((refine' sx_v rfl ?_ rfl rfl ?_); rotate_left; first | exact vo_un tok rfl rfl rfl rfl | exact vo_bin tok rfl rfl rfl rfl rfl rfl | exact vo_load tok 0 rfl rfl rfl rfl rfl))
      by_cases hc : c ≤ q
      · refine sc_true rfl (by simpa using hc) ?_
        repeat' (first | refine sc_seq ?_ | refine sc_region ?_ | refine sq_then ?_ | refine sc_ret ?_ | refine sc_exit ?_ | refine sq_pass_exit ?_ | refine sq_blk_hit ?_ | refine sq_blk_miss rfl ?_ | refine sx_nil ?_ | ((refine' sx_v rfl ?_ rfl rfl ?_); rotate_left; first | exact vo_un tok rfl rfl rfl rfl | exact vo_load tok 0 rfl rfl rfl rfl rfl | exact vo_min rfl rfl rfl rfl rfl))
        refine sq_ret tok (fun _ => 0) rfl rfl trivial rfl fun w hm => ⟨?_, hm.below⟩
        refine ret_i64B ?_
        have hp : paus a b c k n = min (b * 2 ^ (min (n - 1) 64).toNat) c := if_neg (by rw [he1]; exact h0)
        have := pow_mono b (by omega) j (min (n - 1) 64).toNat (by omega)
        rw [hp, Int.min_def]
        (repeat' split) <;> omega
      · refine sc_false rfl (by simpa using hc) ?_
        repeat' (first | refine sc_region ?_ | refine sq_then ?_ | refine sc_skip ?_ | refine sq_blk_normal ?_ | refine sx_nil ?_ | ((refine' sx_v rfl ?_ rfl rfl ?_); rotate_left; first | exact vo_is (v := .int .i64 (2 * q)) (vo_bin tok rfl rfl rfl rfl rfl rfl) (congrArg (Value.int .i64) (by rw [IntKind.wrap_i64]; omega)) | exact vo_add rfl rfl rfl rfl rfl (by omega) | exact vo_un tok rfl rfl rfl rfl))
        refine sq_again (j + 1, 2 * q) [true] ⟨by dsimp only; omega, by dsimp only; omega, by dsimp only; omega⟩ (by dsimp only; omega) ⟨rfl, rfl, rfl, rfl, trivial⟩ rfl
    · have hjN : j = (min (n - 1) 64).toNat := by omega
      repeat' (first | refine sc_seq ?_ | refine sc_region ?_ | refine sq_then ?_ | refine sx_nil ?_ | ((refine' sx_v rfl ?_ rfl rfl ?_); rotate_left; exact vo_bin tok rfl rfl rfl rfl rfl rfl))
      refine sc_false rfl (by simp; omega) ?_
      repeat' (first | refine sc_seq ?_ | refine sc_region ?_ | refine sq_then ?_ | refine sc_ret ?_ | refine sc_exit ?_ | refine sq_pass_exit ?_ | refine sq_blk_hit ?_ | refine sx_nil ?_ | ((refine' sx_v rfl ?_ rfl rfl ?_); rotate_left; first | exact vo_un tok rfl rfl rfl rfl | exact vo_load tok 0 rfl rfl rfl rfl rfl | exact vo_min rfl rfl rfl rfl rfl))
      refine sq_ret tok (fun _ => 0) rfl rfl trivial rfl fun w hm => ⟨?_, hm.below⟩
      refine ret_i64B ?_
      have hp : paus a b c k n = min (b * 2 ^ (min (n - 1) 64).toNat) c := if_neg (by rw [he1]; exact h0)
      rw [hp, ← hjN, Int.min_def]
      (repeat' split) <;> omega
end Go.Proofs.YtmdkfbmpenohiaaDoor.Y
