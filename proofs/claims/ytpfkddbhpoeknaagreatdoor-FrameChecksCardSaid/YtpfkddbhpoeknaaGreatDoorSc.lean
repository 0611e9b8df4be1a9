/- Texts of this claim merged into one: ScLaw, Sc1. -/
import Derived.Test.YtpfkddbhpoeknaaGreatDoorUtfLaw
import Derived.WalkKit
import Derived.Laws.BitsAllLaws
import Derived.Laws.Bits64
import Derived.Test.YtpfkddbhpoeknaaGreatDoorWk
import Derived.Test.YtpfkddbhpoeknaaGreatDoorUtf
/- Scalar values, in plain terms. No program. -/
namespace Go.Proofs.YtpfkddbhpoeknaaGreatDoor.Y
open Go.RowKit
def isS (k : Int) : Bool := decide (1 ≤ k) && decide (k ≤ 9)
def txS (k : Int) : Bool := k == 7 || k == 8
def leanS (k b : Int) (t : ByteArray) (n : Nat) : Bool := n == 0 && (if txS k then b == 0 else t.size == 0)
def withinS (k b : Int) : Bool := if k = 1 then decide (b ≤ 1) else if k = 2 then decide (-2147483648 ≤ IntKind.i64.wrap b) && decide (IntKind.i64.wrap b ≤ 2147483647) else if k = 9 then decide (b ≤ 2147483647) else if k = 4 then decide (b ≤ 4294967295) else true
def fitsS (kind k b : Int) (t : ByteArray) (n : Nat) : Bool := isS kind && (k == kind) && leanS k b t n && withinS kind b && decide (t.size ≤ 4096) && (kind != 7 || validS t)
/-- 0: no number, 1: infinite, 2: zero, 3: subnormal, 4: normal. -/
def classS (b : Int) : Int := if 9218868437227405312 < b % 9223372036854775808 then 0 else if b % 9223372036854775808 = 9218868437227405312 then 1 else if b % 9223372036854775808 = 0 then 2 else if b % 9223372036854775808 < 4503599627370496 then 3 else 4
def normS (k b : Int) : Int := if k = 6 ∧ classS b = 0 then 9221120237041090560 else b
theorem and_frac (b : Int) (h : 0 ≤ b ∧ b < 18446744073709551616) : bits .and .u64 b 4503599627370495 = b % 4503599627370496 := by
  obtain ⟨n, rfl⟩ : ∃ n : Nat, b = n := ⟨b.toNat, by omega⟩
  have h1 := u64_and_nat n 4503599627370495 (by omega) (by omega)
  have h2 : n &&& 4503599627370495 = n % 4503599627370496 := Nat.and_two_pow_sub_one_eq_mod n 52
  rw [h2] at h1
  have e : ((4503599627370495 : Nat) : Int) = 4503599627370495 := rfl
  rw [e] at h1
  rw [h1]; omega
theorem and_expo (b : Int) (h : 0 ≤ b ∧ b < 18446744073709551616) : bits .and .u64 b 9218868437227405312 = b % 9223372036854775808 - b % 4503599627370496 := by
  obtain ⟨n, rfl⟩ : ∃ n : Nat, b = n := ⟨b.toNat, by omega⟩
  have h1 := u64_and_nat n 9218868437227405312 (by omega) (by omega)
  have h2 : n &&& 9218868437227405312 = n % 9223372036854775808 - n % 4503599627370496 := by
    have e1 : n = (n / 4503599627370496) * 4503599627370496 + n % 4503599627370496 := by omega
    have e2 : n &&& 9218868437227405312 = ((n >>> 52) &&& 2047) <<< 52 := by
      apply Nat.eq_of_testBit_eq
      intro i
      rw [Nat.testBit_and, Nat.testBit_shiftLeft, Nat.testBit_and, Nat.testBit_shiftRight]
      have e3 : (9218868437227405312 : Nat) = 2047 <<< 52 := by decide
      rw [e3, Nat.testBit_shiftLeft]
      by_cases hi : 52 ≤ i
      · simp [hi, show 52 + (i - 52) = i by omega]
      · simp [hi]
    rw [e2, Nat.shiftRight_eq_div_pow, Nat.shiftLeft_eq]
    have e4 : (n / 2 ^ 52) &&& 2047 = (n / 2 ^ 52) % 2048 := Nat.and_two_pow_sub_one_eq_mod (n / 2 ^ 52) 11
    rw [e4]
    have e5 : (2 : Nat) ^ 52 = 4503599627370496 := by decide
    rw [e5]; omega
  rw [h2] at h1
  have e : ((9218868437227405312 : Nat) : Int) = 9218868437227405312 := rfl
  rw [e] at h1
  rw [h1]; omega
theorem and_sign (b : Int) (h : 0 ≤ b ∧ b < 18446744073709551616) : bits .and .u64 b 9223372036854775808 = if 9223372036854775808 ≤ b then 9223372036854775808 else 0 := by
  obtain ⟨n, rfl⟩ : ∃ n : Nat, b = n := ⟨b.toNat, by omega⟩
  have h1 := u64_and_nat n 9223372036854775808 (by omega) (by omega)
  have h2 : n &&& 9223372036854775808 = if 9223372036854775808 ≤ n then 9223372036854775808 else 0 := by
    have e2 : n &&& 9223372036854775808 = ((n >>> 63) &&& 1) <<< 63 := by
      apply Nat.eq_of_testBit_eq
      intro i
      rw [Nat.testBit_and, Nat.testBit_shiftLeft, Nat.testBit_and, Nat.testBit_shiftRight]
      have e3 : (9223372036854775808 : Nat) = 1 <<< 63 := by decide
      rw [e3, Nat.testBit_shiftLeft]
      by_cases hi : 63 ≤ i
      · simp [hi, show 63 + (i - 63) = i by omega]
      · simp [hi]
    rw [e2, Nat.shiftRight_eq_div_pow, Nat.shiftLeft_eq]
    have e4 : (n / 2 ^ 63) &&& 1 = (n / 2 ^ 63) % 2 := Nat.and_two_pow_sub_one_eq_mod (n / 2 ^ 63) 1
    rw [e4]
    have e5 : (2 : Nat) ^ 63 = 9223372036854775808 := by decide
    rw [e5]; split <;> omega
  rw [h2] at h1
  have e : ((9223372036854775808 : Nat) : Int) = 9223372036854775808 := rfl
  rw [e] at h1
  rw [h1]
  split <;> split <;> omega
theorem class_prog (b : Int) (_ : 0 ≤ b ∧ b < 18446744073709551616) : classS b = if b % 9223372036854775808 - b % 4503599627370496 = 9218868437227405312 ∧ b % 4503599627370496 ≠ 0 then 0 else if b % 9223372036854775808 - b % 4503599627370496 = 9218868437227405312 then 1 else if b % 9223372036854775808 - b % 4503599627370496 = 0 ∧ b % 4503599627370496 = 0 then 2 else if b % 9223372036854775808 - b % 4503599627370496 = 0 then 3 else 4 := by
  unfold classS
  (repeat' split) <;> first | rfl | omega
theorem class_norm (b : Int) : classS (normS 6 b) = classS b := by
  unfold normS
  split
  · rename_i h; rw [h.2]; decide
  · rfl
theorem norm_norm (k b : Int) : normS k (normS k b) = normS k b := by
  unfold normS
  by_cases h : k = 6 ∧ classS b = 0
  · rw [if_pos h]; split <;> rfl
  · rw [if_neg h, if_neg h]
/-- numbers in the order of the doubles. -/
def placeS (b : Int) : Int := if classS b = 0 then 18446744073709551615 else if 9223372036854775808 ≤ b then 18446744073709551615 - b else b + 9223372036854775808
def cmpI (a b : Int) : Int := if a < b then -1 else if b < a then 1 else 0
def strLt (a b : ByteArray) : Bool := Op.bytesLess a.toList b.toList
def cmpT (a b : ByteArray) : Int := if strLt a b = true then -1 else if strLt b a = true then 1 else 0
def intS (k b : Int) : Int := if isS k && !(k == 6) && !txS k then IntKind.i64.wrap b else 0
def cmpS (ka ba : Int) (ta : ByteArray) (kb bb : Int) (tb : ByteArray) : Int :=
  if ka ≠ kb then cmpI ka kb else if isS ka = false then 0 else if txS ka = true then cmpT ta tb else if ka = 2 ∨ ka = 3 then cmpI (IntKind.i64.wrap ba) (IntKind.i64.wrap bb) else if ka = 6 then cmpI (placeS ba) (placeS bb) else cmpI ba bb
end Go.Proofs.YtpfkddbhpoeknaaGreatDoor.Y

/- Scalar values: the functions without texts, the program's and the reference's. -/
namespace Go.Proofs.YtpfkddbhpoeknaaGreatDoor.Y
open Go.RowKit
theorem ret_bool {a b : Bool} (h : a = b) : Ending.returned (.bool a) = Ending.returned (.bool b) := by rw [h]
theorem ret_int {k : IntKind} {a b : Int} (h : a = b) : Ending.returned (.int k a) = Ending.returned (.int k b) := by rw [h]
theorem beq_empty (s : ByteArray) : (s.toList == (⟨#[]⟩ : ByteArray).toList) = (s.size == 0) := by
  rw [ByteArray.toList_eq, ByteArray.toList_eq, Bool.eq_iff_iff, beq_iff_eq, beq_iff_eq]
  obtain ⟨⟨l⟩⟩ := s
  show l = [] ↔ l.length = 0
  cases l <;> simp
theorem len_beq (s : ByteArray) : ((s.size : Int) == 0) = (s.size == 0) := by
  rw [Bool.eq_iff_iff, beq_iff_eq, beq_iff_eq]; omega
set_option maxRecDepth 100000 in
set_option maxHeartbeats 4000000 in
theorem ris_any (k : Int) (w : World) : Calls Tryz.prog 96 #[.int .i64 k] w fun e w' => e = .returned (.bool (isS k)) ∧ Below w.heap.size w w' := by
  refine sx_enter Tryz.func96 rfl Tryz.ntmps96 rfl rfl ?_
  repeat' (first | refine sc_seq ?_ | refine sc_region ?_ | refine sq_then ?_ | refine sc_ret ?_ | refine sc_skip ?_ | refine sc_block ?_ | refine sc_exit ?_ | refine sq_pass_ret ?_ | refine sq_pass_exit ?_ | refine sq_blk_normal ?_ | refine sq_blk_ret ?_ | refine sq_blk_hit ?_ | refine sq_blk_miss rfl ?_ | refine sc_regionD follows_any rfl (by kernel_rfl) ?_ | refine sx_nil ?_ | refine sr_nil0 ?_ | (refine sr_nil1 ?_; intro g) | ((first | refine' sx_v rfl ?_ rfl rfl ?_ | refine' sr_v rfl ?_ rfl rfl rfl ?_); rotate_left; first | exact vo_un tok rfl rfl rfl rfl | exact vo_bin tok rfl rfl rfl rfl rfl rfl | exact vo_or rfl rfl rfl rfl rfl | exact vo_and rfl rfl rfl rfl rfl | exact vo_load tok 0 rfl rfl rfl rfl rfl | exact vo_load tok 1 rfl rfl rfl rfl rfl | exact vo_load tok 2 rfl rfl rfl rfl rfl | exact vo_load tok 3 rfl rfl rfl rfl rfl | exact vo_load tok 4 rfl rfl rfl rfl rfl | exact vo_eqs tok eqOK rfl rfl rfl rfl rfl rfl (by kernel_rfl) | exact vo_nes tok eqOK rfl rfl rfl rfl rfl rfl (by kernel_rfl) | exact vo_len tok rfl rfl rfl rfl rfl rfl rfl | exact vo_max rfl rfl rfl rfl rfl | exact vo_min rfl rfl rfl rfl rfl | exact vo_sh rfl rfl rfl rfl rfl rfl rfl | exact vo_build tok rfl rfl trivial rfl rfl rfl | exact vo_build tok rfl rfl ⟨rfl, trivial⟩ rfl rfl rfl | exact vo_build tok rfl rfl ⟨rfl, rfl, trivial⟩ rfl rfl rfl | exact vo_build tok rfl rfl ⟨rfl, rfl, rfl, trivial⟩ rfl rfl rfl | exact vo_build tok rfl rfl ⟨rfl, rfl, rfl, rfl, trivial⟩ rfl rfl rfl | exact vo_build tok rfl rfl ⟨rfl, rfl, rfl, rfl, rfl, trivial⟩ rfl rfl rfl | exact vo_build tok rfl rfl ⟨rfl, rfl, rfl, rfl, rfl, rfl, trivial⟩ rfl rfl rfl | exact vo_build tok rfl rfl ⟨rfl, rfl, rfl, rfl, rfl, rfl, rfl, trivial⟩ rfl rfl rfl | exact vo_build tok rfl rfl ⟨rfl, rfl, rfl, rfl, rfl, rfl, rfl, rfl, trivial⟩ rfl rfl rfl) | (refine sx_box rfl rfl rfl rfl rfl rfl ?_; intro g) | (refine sx_alloc tok rfl rfl rfl rfl rfl rfl ?_; intro g) | refine sr_alloc tok rfl rfl rfl rfl rfl rfl ?_ | refine sr_box rfl rfl rfl rfl rfl rfl ?_ | refine sx_store tok 0 rfl rfl rfl rfl rfl rfl rfl rfl rfl rfl rfl rfl ?_ | refine sx_store tok 1 rfl rfl rfl rfl rfl rfl rfl rfl rfl rfl rfl rfl ?_ | refine sx_store tok 2 rfl rfl rfl rfl rfl rfl rfl rfl rfl rfl rfl rfl ?_ | refine sx_store tok 3 rfl rfl rfl rfl rfl rfl rfl rfl rfl rfl rfl rfl ?_ | refine sx_store tok 4 rfl rfl rfl rfl rfl rfl rfl rfl rfl rfl rfl rfl ?_ | refine sc_cond rfl (fun h => ?_) (fun h => ?_))
  all_goals
    refine sq_ret tok (fun _ => 0) rfl rfl trivial rfl fun w hm => ⟨?_, hm.below⟩
    refine ret_bool ?_
    unfold isS
    rfl
set_option maxRecDepth 100000 in
set_option maxHeartbeats 4000000 in
theorem rtexts_any (k : Int) (w : World) : Calls Tryz.prog 98 #[.int .i64 k] w fun e w' => e = .returned (.bool (txS k)) ∧ Below w.heap.size w w' := by
  refine sx_enter Tryz.func98 rfl Tryz.ntmps98 rfl rfl ?_
  repeat' (first | refine sc_seq ?_ | refine sc_region ?_ | refine sq_then ?_ | refine sc_ret ?_ | refine sc_skip ?_ | refine sc_block ?_ | refine sc_exit ?_ | refine sq_pass_ret ?_ | refine sq_pass_exit ?_ | refine sq_blk_normal ?_ | refine sq_blk_ret ?_ | refine sq_blk_hit ?_ | refine sq_blk_miss rfl ?_ | refine sc_regionD follows_any rfl (by kernel_rfl) ?_ | refine sx_nil ?_ | refine sr_nil0 ?_ | (refine sr_nil1 ?_; intro g) | ((first | refine' sx_v rfl ?_ rfl rfl ?_ | refine' sr_v rfl ?_ rfl rfl rfl ?_); rotate_left; first | exact vo_un tok rfl rfl rfl rfl | exact vo_bin tok rfl rfl rfl rfl rfl rfl | exact vo_or rfl rfl rfl rfl rfl | exact vo_and rfl rfl rfl rfl rfl | exact vo_load tok 0 rfl rfl rfl rfl rfl | exact vo_load tok 1 rfl rfl rfl rfl rfl | exact vo_load tok 2 rfl rfl rfl rfl rfl | exact vo_load tok 3 rfl rfl rfl rfl rfl | exact vo_load tok 4 rfl rfl rfl rfl rfl | exact vo_eqs tok eqOK rfl rfl rfl rfl rfl rfl (by kernel_rfl) | exact vo_nes tok eqOK rfl rfl rfl rfl rfl rfl (by kernel_rfl) | exact vo_len tok rfl rfl rfl rfl rfl rfl rfl | exact vo_max rfl rfl rfl rfl rfl | exact vo_min rfl rfl rfl rfl rfl | exact vo_sh rfl rfl rfl rfl rfl rfl rfl | exact vo_build tok rfl rfl trivial rfl rfl rfl | exact vo_build tok rfl rfl ⟨rfl, trivial⟩ rfl rfl rfl | exact vo_build tok rfl rfl ⟨rfl, rfl, trivial⟩ rfl rfl rfl | exact vo_build tok rfl rfl ⟨rfl, rfl, rfl, trivial⟩ rfl rfl rfl | exact vo_build tok rfl rfl ⟨rfl, rfl, rfl, rfl, trivial⟩ rfl rfl rfl | exact vo_build tok rfl rfl ⟨rfl, rfl, rfl, rfl, rfl, trivial⟩ rfl rfl rfl | exact vo_build tok rfl rfl ⟨rfl, rfl, rfl, rfl, rfl, rfl, trivial⟩ rfl rfl rfl | exact vo_build tok rfl rfl ⟨rfl, rfl, rfl, rfl, rfl, rfl, rfl, trivial⟩ rfl rfl rfl | exact vo_build tok rfl rfl ⟨rfl, rfl, rfl, rfl, rfl, rfl, rfl, rfl, trivial⟩ rfl rfl rfl) | (refine sx_box rfl rfl rfl rfl rfl rfl ?_; intro g) | (refine sx_alloc tok rfl rfl rfl rfl rfl rfl ?_; intro g) | refine sr_alloc tok rfl rfl rfl rfl rfl rfl ?_ | refine sr_box rfl rfl rfl rfl rfl rfl ?_ | refine sx_store tok 0 rfl rfl rfl rfl rfl rfl rfl rfl rfl rfl rfl rfl ?_ | refine sx_store tok 1 rfl rfl rfl rfl rfl rfl rfl rfl rfl rfl rfl rfl ?_ | refine sx_store tok 2 rfl rfl rfl rfl rfl rfl rfl rfl rfl rfl rfl rfl ?_ | refine sx_store tok 3 rfl rfl rfl rfl rfl rfl rfl rfl rfl rfl rfl rfl ?_ | refine sx_store tok 4 rfl rfl rfl rfl rfl rfl rfl rfl rfl rfl rfl rfl ?_ | refine sc_cond rfl (fun h => ?_) (fun h => ?_))
  all_goals
    refine sq_ret tok (fun _ => 0) rfl rfl trivial rfl fun w hm => ⟨?_, hm.below⟩
    refine ret_bool ?_
    unfold txS
    rfl
set_option maxRecDepth 100000 in
set_option maxHeartbeats 4000000 in
theorem rlone_any (k b : Int) (t : ByteArray) (la pa sa ra : Option Addr) (ln lc pn pc sn sc rn rc : Nat) (w : World) : Calls Tryz.prog 97 #[.agg #[.int .i64 k, .int .u64 b, .string t, .slice la ln lc, .slice pa pn pc, .slice sa sn sc, .slice ra rn rc]] w fun e w' => e = .returned (.bool ((ln + pn + sn + rn) == 0)) ∧ Below w.heap.size w w' := by
  refine sx_enter Tryz.func97 rfl Tryz.ntmps97 rfl rfl ?_
  repeat' (first | refine sc_seq ?_ | refine sc_region ?_ | refine sq_then ?_ | refine sc_ret ?_ | refine sc_skip ?_ | refine sc_block ?_ | refine sc_exit ?_ | refine sq_pass_ret ?_ | refine sq_pass_exit ?_ | refine sq_blk_normal ?_ | refine sq_blk_ret ?_ | refine sq_blk_hit ?_ | refine sq_blk_miss rfl ?_ | refine sc_regionD follows_any rfl (by kernel_rfl) ?_ | refine sx_nil ?_ | refine sr_nil0 ?_ | (refine sr_nil1 ?_; intro g) | ((first | refine' sx_v rfl ?_ rfl rfl ?_ | refine' sr_v rfl ?_ rfl rfl rfl ?_); rotate_left; first | exact vo_un tok rfl rfl rfl rfl | exact vo_bin tok rfl rfl rfl rfl rfl rfl | exact vo_or rfl rfl rfl rfl rfl | exact vo_and rfl rfl rfl rfl rfl | exact vo_load tok 0 rfl rfl rfl rfl rfl | exact vo_load tok 1 rfl rfl rfl rfl rfl | exact vo_load tok 2 rfl rfl rfl rfl rfl | exact vo_load tok 3 rfl rfl rfl rfl rfl | exact vo_load tok 4 rfl rfl rfl rfl rfl | exact vo_eqs tok eqOK rfl rfl rfl rfl rfl rfl (by kernel_rfl) | exact vo_nes tok eqOK rfl rfl rfl rfl rfl rfl (by kernel_rfl) | exact vo_len tok rfl rfl rfl rfl rfl rfl rfl | exact vo_max rfl rfl rfl rfl rfl | exact vo_min rfl rfl rfl rfl rfl | exact vo_sh rfl rfl rfl rfl rfl rfl rfl | exact vo_build tok rfl rfl trivial rfl rfl rfl | exact vo_build tok rfl rfl ⟨rfl, trivial⟩ rfl rfl rfl | exact vo_build tok rfl rfl ⟨rfl, rfl, trivial⟩ rfl rfl rfl | exact vo_build tok rfl rfl ⟨rfl, rfl, rfl, trivial⟩ rfl rfl rfl | exact vo_build tok rfl rfl ⟨rfl, rfl, rfl, rfl, trivial⟩ rfl rfl rfl | exact vo_build tok rfl rfl ⟨rfl, rfl, rfl, rfl, rfl, trivial⟩ rfl rfl rfl | exact vo_build tok rfl rfl ⟨rfl, rfl, rfl, rfl, rfl, rfl, trivial⟩ rfl rfl rfl | exact vo_build tok rfl rfl ⟨rfl, rfl, rfl, rfl, rfl, rfl, rfl, trivial⟩ rfl rfl rfl | exact vo_build tok rfl rfl ⟨rfl, rfl, rfl, rfl, rfl, rfl, rfl, rfl, trivial⟩ rfl rfl rfl) | (refine sx_box rfl rfl rfl rfl rfl rfl ?_; intro g) | (refine sx_alloc tok rfl rfl rfl rfl rfl rfl ?_; intro g) | refine sr_alloc tok rfl rfl rfl rfl rfl rfl ?_ | refine sr_box rfl rfl rfl rfl rfl rfl ?_ | refine sx_store tok 0 rfl rfl rfl rfl rfl rfl rfl rfl rfl rfl rfl rfl ?_ | refine sx_store tok 1 rfl rfl rfl rfl rfl rfl rfl rfl rfl rfl rfl rfl ?_ | refine sx_store tok 2 rfl rfl rfl rfl rfl rfl rfl rfl rfl rfl rfl rfl ?_ | refine sx_store tok 3 rfl rfl rfl rfl rfl rfl rfl rfl rfl rfl rfl rfl ?_ | refine sx_store tok 4 rfl rfl rfl rfl rfl rfl rfl rfl rfl rfl rfl rfl ?_ | refine sc_cond rfl (fun h => ?_) (fun h => ?_))
  all_goals
    refine sq_ret tok (fun _ => 0) rfl rfl trivial rfl fun w hm => ⟨?_, hm.below⟩
    refine ret_bool ?_
    clear hm
    grind
set_option maxRecDepth 100000 in
set_option maxHeartbeats 4000000 in
theorem rclass_any (b : Int) (w : World) (hb : 0 ≤ b ∧ b < 18446744073709551616) : Calls Tryz.prog 74 #[.int .u64 b] w fun e w' => e = .returned (.int .i64 (classS b)) ∧ Below w.heap.size w w' := by
  refine sx_enter Tryz.func74 rfl Tryz.ntmps74 rfl rfl ?_
  repeat' (first | refine sc_seq ?_ | refine sc_region ?_ | refine sq_then ?_ | refine sc_ret ?_ | refine sc_skip ?_ | refine sc_block ?_ | refine sc_exit ?_ | refine sq_pass_ret ?_ | refine sq_pass_exit ?_ | refine sq_blk_normal ?_ | refine sq_blk_ret ?_ | refine sq_blk_hit ?_ | refine sq_blk_miss rfl ?_ | refine sc_regionD follows_any rfl (by kernel_rfl) ?_ | refine sx_nil ?_ | refine sr_nil0 ?_ | (refine sr_nil1 ?_; intro g) | ((first | refine' sx_v rfl ?_ rfl rfl ?_ | refine' sr_v rfl ?_ rfl rfl rfl ?_); rotate_left; first | exact vo_un tok rfl rfl rfl rfl | exact vo_bin tok rfl rfl rfl rfl rfl rfl | exact vo_or rfl rfl rfl rfl rfl | exact vo_and rfl rfl rfl rfl rfl | exact vo_load tok 0 rfl rfl rfl rfl rfl | exact vo_load tok 1 rfl rfl rfl rfl rfl | exact vo_load tok 2 rfl rfl rfl rfl rfl | exact vo_load tok 3 rfl rfl rfl rfl rfl | exact vo_load tok 4 rfl rfl rfl rfl rfl | exact vo_eqs tok eqOK rfl rfl rfl rfl rfl rfl (by kernel_rfl) | exact vo_nes tok eqOK rfl rfl rfl rfl rfl rfl (by kernel_rfl) | exact vo_len tok rfl rfl rfl rfl rfl rfl rfl | exact vo_max rfl rfl rfl rfl rfl | exact vo_min rfl rfl rfl rfl rfl | exact vo_sh rfl rfl rfl rfl rfl rfl rfl | exact vo_build tok rfl rfl trivial rfl rfl rfl | exact vo_build tok rfl rfl ⟨rfl, trivial⟩ rfl rfl rfl | exact vo_build tok rfl rfl ⟨rfl, rfl, trivial⟩ rfl rfl rfl | exact vo_build tok rfl rfl ⟨rfl, rfl, rfl, trivial⟩ rfl rfl rfl | exact vo_build tok rfl rfl ⟨rfl, rfl, rfl, rfl, trivial⟩ rfl rfl rfl | exact vo_build tok rfl rfl ⟨rfl, rfl, rfl, rfl, rfl, trivial⟩ rfl rfl rfl | exact vo_build tok rfl rfl ⟨rfl, rfl, rfl, rfl, rfl, rfl, trivial⟩ rfl rfl rfl | exact vo_build tok rfl rfl ⟨rfl, rfl, rfl, rfl, rfl, rfl, rfl, trivial⟩ rfl rfl rfl | exact vo_build tok rfl rfl ⟨rfl, rfl, rfl, rfl, rfl, rfl, rfl, rfl, trivial⟩ rfl rfl rfl) | (refine sx_box rfl rfl rfl rfl rfl rfl ?_; intro g) | (refine sx_alloc tok rfl rfl rfl rfl rfl rfl ?_; intro g) | refine sr_alloc tok rfl rfl rfl rfl rfl rfl ?_ | refine sr_box rfl rfl rfl rfl rfl rfl ?_ | refine sx_store tok 0 rfl rfl rfl rfl rfl rfl rfl rfl rfl rfl rfl rfl ?_ | refine sx_store tok 1 rfl rfl rfl rfl rfl rfl rfl rfl rfl rfl rfl rfl ?_ | refine sx_store tok 2 rfl rfl rfl rfl rfl rfl rfl rfl rfl rfl rfl rfl ?_ | refine sx_store tok 3 rfl rfl rfl rfl rfl rfl rfl rfl rfl rfl rfl rfl ?_ | refine sx_store tok 4 rfl rfl rfl rfl rfl rfl rfl rfl rfl rfl rfl rfl ?_ | refine sc_cond rfl (fun h => ?_) (fun h => ?_))
  all_goals
    refine sq_ret tok (fun _ => 0) rfl rfl trivial rfl fun w hm => ⟨?_, hm.below⟩
    refine ret_int ?_
    clear hm
    rw [Int.tmod_eq_emod_of_nonneg hb.1] at *
    unfold classS
    grind
set_option maxRecDepth 100000 in
set_option maxHeartbeats 4000000 in
theorem rfits_any (q : Int) (k b : Int) (t : ByteArray) (la pa sa ra : Option Addr) (ln lc pn pc sn sc rn rc : Nat) (w : World) (ht : t.size ≤ 4611686018427387900) : Calls Tryz.prog 72 #[.int .i64 q, .agg #[.int .i64 k, .int .u64 b, .string t, .slice la ln lc, .slice pa pn pc, .slice sa sn sc, .slice ra rn rc]] w fun e w' => e = .returned (.bool (fitsS q k b t (ln + pn + sn + rn))) ∧ Below w.heap.size w w' := by
  refine sx_enter Tryz.func72 rfl Tryz.ntmps72 rfl rfl ?_
  repeat' (first | refine sc_seq ?_ | refine sc_region ?_ | refine sq_then ?_ | refine sc_ret ?_ | refine sc_skip ?_ | refine sc_block ?_ | refine sc_exit ?_ | refine sq_pass_ret ?_ | refine sq_pass_exit ?_ | refine sq_blk_normal ?_ | refine sq_blk_ret ?_ | refine sq_blk_hit ?_ | refine sq_blk_miss rfl ?_ | refine sc_regionD follows_any rfl (by kernel_rfl) ?_ | refine sx_nil ?_ | refine sr_nil0 ?_ | (refine sr_nil1 ?_; intro g) | ((first | refine' sx_v rfl ?_ rfl rfl ?_ | refine' sr_v rfl ?_ rfl rfl rfl ?_); rotate_left; first | exact vo_un tok rfl rfl rfl rfl | exact vo_bin tok rfl rfl rfl rfl rfl rfl | exact vo_or rfl rfl rfl rfl rfl | exact vo_and rfl rfl rfl rfl rfl | exact vo_load tok 0 rfl rfl rfl rfl rfl | exact vo_load tok 1 rfl rfl rfl rfl rfl | exact vo_load tok 2 rfl rfl rfl rfl rfl | exact vo_load tok 3 rfl rfl rfl rfl rfl | exact vo_load tok 4 rfl rfl rfl rfl rfl | exact vo_eqs tok eqOK rfl rfl rfl rfl rfl rfl (by kernel_rfl) | exact vo_nes tok eqOK rfl rfl rfl rfl rfl rfl (by kernel_rfl) | exact vo_len tok rfl rfl rfl rfl rfl rfl rfl | exact vo_max rfl rfl rfl rfl rfl | exact vo_min rfl rfl rfl rfl rfl | exact vo_sh rfl rfl rfl rfl rfl rfl rfl | exact vo_build tok rfl rfl trivial rfl rfl rfl | exact vo_build tok rfl rfl ⟨rfl, trivial⟩ rfl rfl rfl | exact vo_build tok rfl rfl ⟨rfl, rfl, trivial⟩ rfl rfl rfl | exact vo_build tok rfl rfl ⟨rfl, rfl, rfl, trivial⟩ rfl rfl rfl | exact vo_build tok rfl rfl ⟨rfl, rfl, rfl, rfl, trivial⟩ rfl rfl rfl | exact vo_build tok rfl rfl ⟨rfl, rfl, rfl, rfl, rfl, trivial⟩ rfl rfl rfl | exact vo_build tok rfl rfl ⟨rfl, rfl, rfl, rfl, rfl, rfl, trivial⟩ rfl rfl rfl | exact vo_build tok rfl rfl ⟨rfl, rfl, rfl, rfl, rfl, rfl, rfl, trivial⟩ rfl rfl rfl | exact vo_build tok rfl rfl ⟨rfl, rfl, rfl, rfl, rfl, rfl, rfl, rfl, trivial⟩ rfl rfl rfl) | refine sx_call rfl (callOp rfl rfl rfl rfl ⟨rfl, trivial⟩ rfl (by kernel_rfl)) (fun w hm => ris_any _ w) rfl rfl ?_ | refine sr_call rfl (callOp rfl rfl rfl rfl ⟨rfl, trivial⟩ rfl (by kernel_rfl)) rfl (fun w hm => ris_any _ w) rfl rfl ?_ | refine sx_call rfl (callOp rfl rfl rfl rfl ⟨rfl, trivial⟩ rfl (by kernel_rfl)) (fun w hm => rlone_any _ _ _ _ _ _ _ _ _ _ _ _ _ _ _ w) rfl rfl ?_ | refine sr_call rfl (callOp rfl rfl rfl rfl ⟨rfl, trivial⟩ rfl (by kernel_rfl)) rfl (fun w hm => rlone_any _ _ _ _ _ _ _ _ _ _ _ _ _ _ _ w) rfl rfl ?_ | refine sx_call rfl (callOp rfl rfl rfl rfl ⟨rfl, trivial⟩ rfl (by kernel_rfl)) (fun w hm => rtexts_any _ w) rfl rfl ?_ | refine sr_call rfl (callOp rfl rfl rfl rfl ⟨rfl, trivial⟩ rfl (by kernel_rfl)) rfl (fun w hm => rtexts_any _ w) rfl rfl ?_ | refine sx_call rfl (callOp rfl rfl rfl rfl ⟨rfl, trivial⟩ rfl (by kernel_rfl)) (fun w hm => of_same (refValid_any _ w ht)) rfl rfl ?_ | refine sr_call rfl (callOp rfl rfl rfl rfl ⟨rfl, trivial⟩ rfl (by kernel_rfl)) rfl (fun w hm => of_same (refValid_any _ w ht)) rfl rfl ?_ | (refine sx_box rfl rfl rfl rfl rfl rfl ?_; intro g) | (refine sx_alloc tok rfl rfl rfl rfl rfl rfl ?_; intro g) | refine sr_alloc tok rfl rfl rfl rfl rfl rfl ?_ | refine sr_box rfl rfl rfl rfl rfl rfl ?_ | refine sx_store tok 0 rfl rfl rfl rfl rfl rfl rfl rfl rfl rfl rfl rfl ?_ | refine sx_store tok 1 rfl rfl rfl rfl rfl rfl rfl rfl rfl rfl rfl rfl ?_ | refine sx_store tok 2 rfl rfl rfl rfl rfl rfl rfl rfl rfl rfl rfl rfl ?_ | refine sx_store tok 3 rfl rfl rfl rfl rfl rfl rfl rfl rfl rfl rfl rfl ?_ | refine sx_store tok 4 rfl rfl rfl rfl rfl rfl rfl rfl rfl rfl rfl rfl ?_ | refine sc_cond rfl (fun h => ?_) (fun h => ?_))
  all_goals
    refine sq_ret tok (fun _ => 0) rfl rfl trivial rfl fun w hm => ⟨?_, hm.below⟩
    refine ret_bool ?_
    clear hm
    simp only [fitsS, leanS, withinS, isS, txS] at *
    try rw [beq_empty] at *
    try simp only [len_beq] at *
    grind
theorem less_tri : ∀ a b : List UInt8, (Op.bytesLess a b = true ∧ Op.bytesLess b a = false ∧ (a == b) = false) ∨ (Op.bytesLess a b = false ∧ Op.bytesLess b a = true ∧ (a == b) = false) ∨ (Op.bytesLess a b = false ∧ Op.bytesLess b a = false ∧ (a == b) = true)
  | [], [] => .inr (.inr ⟨rfl, rfl, rfl⟩)
  | [], _ :: _ => .inl ⟨rfl, rfl, rfl⟩
  | _ :: _, [] => .inr (.inl ⟨rfl, rfl, rfl⟩)
  | x :: a, y :: b => by
    have ih := less_tri a b
    simp only [Op.bytesLess]
    by_cases h1 : x < y
    · left; grind
    · by_cases h2 : y < x
      · right; left; grind
      · have h3 : x = y := by
          have e1 : ¬ x.toNat < y.toNat := h1
          have e2 : ¬ y.toNat < x.toNat := h2
          exact UInt8.toNat_inj.1 (by omega)
        subst h3
        simp only [List.cons_beq_cons]
        grind
theorem strLt_tri (a b : ByteArray) : (strLt a b = true ∧ strLt b a = false ∧ (a.toList == b.toList) = false) ∨ (strLt a b = false ∧ strLt b a = true ∧ (a.toList == b.toList) = false) ∨ (strLt a b = false ∧ strLt b a = false ∧ (a.toList == b.toList) = true) := less_tri _ _
theorem not_u64 (b : Int) (h : 0 ≤ b ∧ b < 18446744073709551616) : bits .xor .u64 (if IntKind.u64.signed then -1 else IntKind.u64.max) b = 18446744073709551615 - b := by
  obtain ⟨n, rfl⟩ : ∃ n : Nat, b = n := ⟨b.toNat, by omega⟩
  have h1 := u64_xor_nat 18446744073709551615 n (by omega) (by omega)
  have e : (if IntKind.u64.signed then -1 else IntKind.u64.max) = ((18446744073709551615 : Nat) : Int) := by decide
  rw [e, h1]
  have h2 : 18446744073709551615 ^^^ n = 18446744073709551615 - n := by
    apply Nat.eq_of_testBit_eq
    intro i
    have e1 : (18446744073709551615 : Nat) = 2 ^ 64 - 1 := by decide
    rw [Nat.testBit_xor, e1, Nat.testBit_two_pow_sub_one, show 2 ^ 64 - 1 - n = 2 ^ 64 - (n + 1) by omega, Nat.testBit_two_pow_sub_succ (by omega)]
    by_cases hi : i < 64
    · simp [hi]
    · have : n.testBit i = false := Nat.testBit_lt_two_pow (Nat.lt_of_lt_of_le (show n < 2 ^ 64 by omega) (Nat.pow_le_pow_right (by omega) (by omega)))
      simp [hi, this]
  rw [h2]; omega
theorem or_sign (b : Int) (h : 0 ≤ b ∧ b < 9223372036854775808) : bits .or .u64 b 9223372036854775808 = b + 9223372036854775808 := by
  obtain ⟨n, rfl⟩ : ∃ n : Nat, b = n := ⟨b.toNat, by omega⟩
  have h1 := u64_or_nat n 9223372036854775808 (by omega) (by omega)
  have e : ((9223372036854775808 : Nat) : Int) = 9223372036854775808 := rfl
  rw [e] at h1
  rw [h1]
  have h2 : n ||| 9223372036854775808 = n + 9223372036854775808 := by
    have := Nat.two_pow_add_eq_or_of_lt (i := 63) (b := n) (by omega) 1
    have e2 : 2 ^ 63 * 1 = 9223372036854775808 := by decide
    rw [e2] at this
    rw [Nat.or_comm, ← this]; omega
  rw [h2]; omega
theorem toU (b : Int) (h : 0 ≤ b ∧ b < 18446744073709551616) : IntKind.u64.wrap (b + 9223372036854775808) = if 9223372036854775808 ≤ b then b - 9223372036854775808 else b + 9223372036854775808 := by
  rw [IntKind.wrap_u64]; split <;> omega
theorem toU2 (b : Int) (h : 0 ≤ b ∧ b < 18446744073709551616) : IntKind.u64.wrap (18446744073709551615 - b) = 18446744073709551615 - b := by
  rw [IntKind.wrap_u64]; omega
theorem toI (b : Int) (h : 0 ≤ b ∧ b < 18446744073709551616) : IntKind.i64.wrap b = if 9223372036854775808 ≤ b then b - 18446744073709551616 else b := by
  simp [IntKind.wrap, IntKind.bits, IntKind.signed]
  split <;> split <;> omega
def rankS (k b : Int) : Int := if k = 2 ∨ k = 3 then (if 9223372036854775808 ≤ b then b - 9223372036854775808 else b + 9223372036854775808) else if k = 6 then placeS b else b
end Go.Proofs.YtpfkddbhpoeknaaGreatDoor.Y
