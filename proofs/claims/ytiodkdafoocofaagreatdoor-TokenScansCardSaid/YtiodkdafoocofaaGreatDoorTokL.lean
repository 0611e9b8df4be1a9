/- What the laws of layer 07 share. -/
import Derived.Test.YtiodkdafoocofaaGreatDoorTok3
namespace Go.Proofs.YtiodkdafoocofaaGreatDoor.Y
open Go.RowKit
def awkT : List TV := [⟨1, ⟨#[97, 46, 98]⟩, 0, 1⟩, ⟨4, ⟨#[61]⟩, 0, 1⟩, ⟨4, ⟨#[45]⟩, 0, 1⟩, ⟨2, ⟨#[]⟩, 12, 1⟩, ⟨4, ⟨#[59]⟩, 0, 1⟩]
theorem awk_scan : scanL [97, 46, 98, 32, 61, 32, 45, 49, 50, 59, 32, 47, 47, 32, 101, 110, 100] = ⟨awkT, 0, 0⟩ := by kernel_rfl
theorem awk_w4 : wrT ⟨2, ⟨#[]⟩, 12, 1⟩ = [49, 50] := by
  unfold wrT
  rw [if_pos ⟨rfl, rfl⟩]
  exact Lib.decDigits_two (i := 12) (by decide) (by decide)
theorem awk_w : wrT ⟨1, ⟨#[97, 46, 98]⟩, 0, 1⟩ = [97, 46, 98] ∧ wrT ⟨4, ⟨#[61]⟩, 0, 1⟩ = [61] ∧ wrT ⟨4, ⟨#[45]⟩, 0, 1⟩ = [45] ∧ wrT ⟨4, ⟨#[59]⟩, 0, 1⟩ = [59] := ⟨by kernel_rfl, by kernel_rfl, by kernel_rfl, by kernel_rfl⟩
theorem awk_pr : prL awkT = [97, 46, 98, 32, 61, 32, 45, 32, 49, 50, 32, 59, 10] := by
  obtain ⟨h1, h2, h3, h5⟩ := awk_w
  unfold awkT
  simp only [prL, sepT, h1, h2, h3, h5, awk_w4]
  decide
theorem awk_print : printL awkT = [97, 46, 98, 32, 61, 32, 45, 32, 49, 50, 32, 59, 10] := by
  have hb : badT awkT = false := by
    obtain ⟨h1, h2, h3, h5⟩ := awk_w
    unfold badT awkT
    simp only [List.any_cons, List.any_nil, h1, h2, h3, h5, awk_w4]
    rfl
  unfold printL
  rw [hb, awk_pr, if_neg (by decide)]
theorem awk_Y {w0 w : World} {M : List Ent} (hM : Mem w0 w M) (hg : Tg w) : Calls Tryz.prog 6 #[.string ⟨#[97, 46, 98, 32, 61, 32, 45, 49, 50, 59, 32, 47, 47, 32, 101, 110, 100]⟩] w fun e w' => ∃ p : Nat × Nat, True ∧ e = .returned (.tuple #[.slice (some ⟨p.1, 0, none⟩) 5 p.2, .int .i64 0, .int .i64 0]) ∧ Mem w0 w' (.own (some ⟨p.1, 0, none⟩) p.2 34 4 5 (tcells awkT) :: M) := by
  refine (scan_any ⟨#[97, 46, 98, 32, 61, 32, 45, 49, 50, 59, 32, 47, 47, 32, 101, 110, 100]⟩ w (by decide) hg).mono fun e w' ⟨q, h1, h2, h3⟩ => ?_
  have e1 : scanL (⟨#[97, 46, 98, 32, 61, 32, 45, 49, 50, 59, 32, 47, 47, 32, 101, 110, 100]⟩ : ByteArray).data.toList = ⟨awkT, 0, 0⟩ := awk_scan
  rw [e1] at h1 h3
  obtain ⟨a, c⟩ := q
  obtain ⟨g, rfl⟩ := own_some h3 (by decide)
  exact ⟨(g, c), trivial, h1, own_join hM h2 h3⟩
theorem awk_sz : (∀ t ∈ awkT, t.t.size ≤ 4294967000) ∧ (prL awkT).length ≤ 1099511627776 := by
  refine ⟨?_, by rw [awk_pr]; decide⟩
  unfold awkT
  simp only [List.mem_cons, List.not_mem_nil, or_false]
  rintro t (rfl | rfl | rfl | rfl | rfl) <;> decide
set_option maxRecDepth 100000 in
set_option maxHeartbeats 4000000 in
theorem awake_any7  (w : World) (hg : Tg w) : Calls Tryz.prog 10 #[] w fun e w' => e = .returned (.bool true) ∧ Below w.heap.size w w' := by
  refine sx_enter Tryz.func10 rfl Tryz.ntmps10 rfl rfl ?_
  repeat' (first | refine sc_seq ?_ | refine sc_region ?_ | refine sq_then ?_ | refine sc_ret ?_ | refine sc_skip ?_ | refine sc_block ?_ | refine sc_exit ?_ | refine sq_pass_ret ?_ | refine sq_pass_exit ?_ | refine sq_blk_normal ?_ | refine sq_blk_ret ?_ | refine sq_blk_hit ?_ | refine sq_blk_miss rfl ?_ | refine sc_regionD follows_any rfl (by kernel_rfl) ?_ | refine sx_nil ?_ | refine sr_nil0 ?_ | (refine sr_nil1 ?_; intro g) | refine sx_callE (σ := Nat × Nat) (fun _ => True) (fun p => .tuple #[.slice (some ⟨p.1, 0, none⟩) 5 p.2, .int .i64 0, .int .i64 0]) (fun p => [.own (some ⟨p.1, 0, none⟩) p.2 34 4 5 (tcells awkT)]) rfl (callOp rfl rfl rfl rfl ⟨rfl, trivial⟩ rfl (by kernel_rfl)) (fun w hm => awk_Y hm (hg.keep hm.below)) rfl rfl (fun p _ => ?_) | ((first | refine' sx_v rfl ?_ rfl rfl ?_ | refine' sr_v rfl ?_ rfl rfl rfl ?_); rotate_left; first | exact vo_un tok rfl rfl rfl rfl | exact vo_bin tok rfl rfl rfl rfl rfl rfl | exact vo_or rfl rfl rfl rfl rfl | exact vo_and rfl rfl rfl rfl rfl | exact vo_load tok 0 rfl rfl rfl rfl rfl | exact vo_load tok 1 rfl rfl rfl rfl rfl | exact vo_load tok 2 rfl rfl rfl rfl rfl | exact vo_len tok rfl rfl rfl rfl rfl rfl rfl | exact vo_min rfl rfl rfl rfl rfl | exact vo_build tok rfl rfl trivial rfl rfl rfl | exact vo_build tok rfl rfl ⟨rfl, trivial⟩ rfl rfl rfl | exact vo_build tok rfl rfl ⟨rfl, rfl, trivial⟩ rfl rfl rfl | exact vo_build tok rfl rfl ⟨rfl, rfl, rfl, trivial⟩ rfl rfl rfl) | (refine sx_box rfl rfl rfl rfl rfl rfl ?_; intro g) | (refine sx_alloc tok rfl rfl rfl rfl rfl rfl ?_; intro g) | refine sr_alloc tok rfl rfl rfl rfl rfl rfl ?_ | refine sr_box rfl rfl rfl rfl rfl rfl ?_ | refine sx_store tok 0 rfl rfl rfl rfl rfl rfl rfl rfl rfl rfl rfl rfl ?_ | refine sx_store tok 1 rfl rfl rfl rfl rfl rfl rfl rfl rfl rfl rfl rfl ?_ | refine sx_store tok 2 rfl rfl rfl rfl rfl rfl rfl rfl rfl rfl rfl rfl ?_)
  repeat' (first | refine sc_seq ?_ | refine sc_region ?_ | refine sq_then ?_ | refine sc_ret ?_ | refine sc_skip ?_ | refine sc_block ?_ | refine sc_exit ?_ | refine sq_pass_ret ?_ | refine sq_pass_exit ?_ | refine sq_blk_normal ?_ | refine sq_blk_ret ?_ | refine sq_blk_hit ?_ | refine sq_blk_miss rfl ?_ | refine sc_regionD follows_any rfl (by kernel_rfl) ?_ | refine sx_nil ?_ | refine sr_nil0 ?_ | (refine sr_nil1 ?_; intro g) | ((first | refine' sx_v rfl ?_ rfl rfl ?_ | refine' sr_v rfl ?_ rfl rfl rfl ?_); rotate_left; first | exact vo_ixa tok (m := 4) 3 rfl rfl rfl rfl rfl rfl rfl rfl (fun _ => rfl) (fun _ => by decide) | exact vo_ocell tok 0 rfl rfl rfl rfl rfl rfl (fun _ => by rfl) | exact vo_un tok rfl rfl rfl rfl | exact vo_bin tok rfl rfl rfl rfl rfl rfl | exact vo_or rfl rfl rfl rfl rfl | exact vo_and rfl rfl rfl rfl rfl | exact vo_load tok 0 rfl rfl rfl rfl rfl | exact vo_load tok 1 rfl rfl rfl rfl rfl | exact vo_load tok 2 rfl rfl rfl rfl rfl | exact vo_len tok rfl rfl rfl rfl rfl rfl rfl | exact vo_min rfl rfl rfl rfl rfl | exact vo_build tok rfl rfl trivial rfl rfl rfl | exact vo_build tok rfl rfl ⟨rfl, trivial⟩ rfl rfl rfl | exact vo_build tok rfl rfl ⟨rfl, rfl, trivial⟩ rfl rfl rfl | exact vo_build tok rfl rfl ⟨rfl, rfl, rfl, trivial⟩ rfl rfl rfl) | refine sx_call rfl (callOp rfl rfl rfl rfl ⟨rfl, trivial⟩ rfl (by kernel_rfl)) (fun w hm => print_any awkT (some ⟨p.1, 0, none⟩) p.2 w (own_tk (hm.2.get (i := 0) rfl) rfl) awk_sz.1 (by decide) awk_sz.2 (hg.keep hm.below)) rfl rfl ?_ | refine sr_call rfl (callOp rfl rfl rfl rfl ⟨rfl, trivial⟩ rfl (by kernel_rfl)) rfl (fun w hm => print_any awkT (some ⟨p.1, 0, none⟩) p.2 w (own_tk (hm.2.get (i := 0) rfl) rfl) awk_sz.1 (by decide) awk_sz.2 (hg.keep hm.below)) rfl rfl ?_ | (refine sx_box rfl rfl rfl rfl rfl rfl ?_; intro g) | (refine sx_alloc tok rfl rfl rfl rfl rfl rfl ?_; intro g) | refine sr_alloc tok rfl rfl rfl rfl rfl rfl ?_ | refine sr_box rfl rfl rfl rfl rfl rfl ?_ | refine sx_store tok 0 rfl rfl rfl rfl rfl rfl rfl rfl rfl rfl rfl rfl ?_ | refine sx_store tok 1 rfl rfl rfl rfl rfl rfl rfl rfl rfl rfl rfl rfl ?_ | refine sx_store tok 2 rfl rfl rfl rfl rfl rfl rfl rfl rfl rfl rfl rfl ?_)
  refine sq_ret tok (fun _ => 0) rfl rfl trivial rfl fun w hm => ⟨?_, hm.below⟩
  refine ret_bool7 ?_
  have e : (printS awkT) = ⟨#[97, 46, 98, 32, 61, 32, 45, 32, 49, 50, 32, 59, 10]⟩ := by unfold printS; rw [awk_print]
  rw [e]; simp
theorem vo_addm {P : Program} {w0 : World} {S : Sts} {M : List Ent} {L L1 L2 : Cd} {o : Oper} {t ty : TypeId} {x y : Operand} {a b b' : Int} (h1 : o.op = .binOp .add t x y ty)
    (h2 : ev S x = some (L1, .int .i64 a)) (h3 : Suf L1 L) (h4 : ev S y = some (L2, .int .i64 b)) (h5 : Suf L2 L) (hb : b = b') (hr : -9223372036854775808 ≤ a + b' ∧ a + b' ≤ 9223372036854775807) : VO P w0 S M L o (.int .i64 (a + b')) := by
  subst hb; exact vo_add h1 h2 h3 h4 h5 hr
set_option maxRecDepth 100000 in
set_option maxHeartbeats 4000000 in
theorem few_any (l : List TV) (x : Option Addr) (cap : Nat) (w : World) (hT : TkIn w x l) (hlen : l.length ≤ 140737488351232) : Calls Tryz.prog 11 #[.slice x l.length cap] w fun e w' => ∃ b : Bool, (b = true → l.length ≤ 300 ∧ ∀ t ∈ l, t.t.size ≤ 20000) ∧ e = .returned (.bool b) ∧ Below w.heap.size w w' := by
  refine sx_enter Tryz.func11 rfl Tryz.ntmps11 rfl rfl ?_
  repeat' (first | refine sc_seq ?_ | refine sc_region ?_ | refine sq_then ?_ | refine sc_ret ?_ | refine sc_skip ?_ | refine sc_block ?_ | refine sc_exit ?_ | refine sq_pass_ret ?_ | refine sq_pass_exit ?_ | refine sq_blk_normal ?_ | refine sq_blk_ret ?_ | refine sq_blk_hit ?_ | refine sq_blk_miss rfl ?_ | refine sc_regionD follows_any rfl (by kernel_rfl) ?_ | refine sx_nil ?_ | refine sr_nil0 ?_ | (refine sr_nil1 ?_; intro g) | ((first | refine' sx_v rfl ?_ rfl rfl ?_ | refine' sr_v rfl ?_ rfl rfl rfl ?_); rotate_left; first | exact vo_un tok rfl rfl rfl rfl | exact vo_bin tok rfl rfl rfl rfl rfl rfl | exact vo_or rfl rfl rfl rfl rfl | exact vo_and rfl rfl rfl rfl rfl | exact vo_load tok 0 rfl rfl rfl rfl rfl | exact vo_load tok 1 rfl rfl rfl rfl rfl | exact vo_load tok 2 rfl rfl rfl rfl rfl | exact vo_len tok rfl rfl rfl rfl rfl rfl rfl | exact vo_min rfl rfl rfl rfl rfl | exact vo_build tok rfl rfl trivial rfl rfl rfl | exact vo_build tok rfl rfl ⟨rfl, trivial⟩ rfl rfl rfl | exact vo_build tok rfl rfl ⟨rfl, rfl, trivial⟩ rfl rfl rfl | exact vo_build tok rfl rfl ⟨rfl, rfl, rfl, trivial⟩ rfl rfl rfl) | (refine sx_box rfl rfl rfl rfl rfl rfl ?_; intro g) | (refine sx_alloc tok rfl rfl rfl rfl rfl rfl ?_; intro g) | refine sr_alloc tok rfl rfl rfl rfl rfl rfl ?_ | refine sr_box rfl rfl rfl rfl rfl rfl ?_ | refine sx_store tok 0 rfl rfl rfl rfl rfl rfl rfl rfl rfl rfl rfl rfl ?_ | refine sx_store tok 1 rfl rfl rfl rfl rfl rfl rfl rfl rfl rfl rfl rfl ?_ | refine sx_store tok 2 rfl rfl rfl rfl rfl rfl rfl rfl rfl rfl rfl rfl ?_)
  refine sc_loop (σ := Nat × Nat) (fun p => p.1 ≤ l.length ∧ p.1 ≤ 301 ∧ p.2 ≤ 9999 * p.1 ∧ ∀ t ∈ l.take p.1, (if 9999 < t.t.size then 9999 else t.t.size) ≤ p.2) (fun p => [(4, [], .int .i64 (p.1 : Int)), (3, [], .int .i64 (p.2 : Int)), (0, [], .slice x l.length cap)]) (fun _ => []) (fun p => l.length - p.1) (0, 0) [] ⟨Nat.zero_le _, by dsimp only; omega, Nat.zero_le _, by simp⟩ ⟨rfl, rfl, rfl, trivial⟩ rfl ?_
  rintro ⟨j, n⟩ ⟨hj0, hj3, hn, hall⟩
  dsimp only at hj0 hj3 hn hall ⊢
  by_cases hj : j < l.length ∧ j ≤ 300
  · obtain ⟨hj, hj1⟩ := hj
    obtain ⟨t1, ht1⟩ : ∃ t1, l[j]? = some t1 := ⟨l[j], List.getElem?_eq_getElem hj⟩
    obtain ⟨bb, off, rfl, hrows⟩ := hT (by omega)
    obtain ⟨z, hrow⟩ := hrows j t1 ht1
    have hmin : (if (9999 : Int) < (t1.t.size : Int) then (9999 : Int) else (t1.t.size : Int)) = (((if 9999 < t1.t.size then 9999 else t1.t.size) : Nat) : Int) := by split <;> split <;> omega
    have hmb : (if 9999 < t1.t.size then 9999 else t1.t.size) ≤ 9999 := by split <;> omega
    repeat' (first | refine sc_seq ?_ | refine sc_region ?_ | refine sq_then ?_ | refine sc_ret ?_ | refine sc_skip ?_ | refine sc_block ?_ | refine sc_exit ?_ | refine sq_pass_ret ?_ | refine sq_pass_exit ?_ | refine sq_blk_normal ?_ | refine sq_blk_ret ?_ | refine sq_blk_hit ?_ | refine sq_blk_miss rfl ?_ | refine sc_regionD follows_any rfl (by kernel_rfl) ?_ | refine sx_nil ?_ | refine sr_nil0 ?_ | (refine sr_nil1 ?_; intro g) | ((first | refine' sx_v rfl ?_ rfl rfl ?_ | refine' sr_v rfl ?_ rfl rfl rfl ?_); rotate_left; first | exact vo_un tok rfl rfl rfl rfl | exact vo_bin tok rfl rfl rfl rfl rfl rfl | exact vo_or rfl rfl rfl rfl rfl | exact vo_and rfl rfl rfl rfl rfl | exact vo_load tok 0 rfl rfl rfl rfl rfl | exact vo_load tok 1 rfl rfl rfl rfl rfl | exact vo_load tok 2 rfl rfl rfl rfl rfl | exact vo_len tok rfl rfl rfl rfl rfl rfl rfl | exact vo_min rfl rfl rfl rfl rfl | exact vo_build tok rfl rfl trivial rfl rfl rfl | exact vo_build tok rfl rfl ⟨rfl, trivial⟩ rfl rfl rfl | exact vo_build tok rfl rfl ⟨rfl, rfl, trivial⟩ rfl rfl rfl | exact vo_build tok rfl rfl ⟨rfl, rfl, rfl, trivial⟩ rfl rfl rfl) | (refine sx_box rfl rfl rfl rfl rfl rfl ?_; intro g) | (refine sx_alloc tok rfl rfl rfl rfl rfl rfl ?_; intro g) | refine sr_alloc tok rfl rfl rfl rfl rfl rfl ?_ | refine sr_box rfl rfl rfl rfl rfl rfl ?_ | refine sx_store tok 0 rfl rfl rfl rfl rfl rfl rfl rfl rfl rfl rfl rfl ?_ | refine sx_store tok 1 rfl rfl rfl rfl rfl rfl rfl rfl rfl rfl rfl rfl ?_ | refine sx_store tok 2 rfl rfl rfl rfl rfl rfl rfl rfl rfl rfl rfl rfl ?_)
    refine sc_true rfl (by simp; omega) ?_
    generalize hmm : (if 9999 < t1.t.size then 9999 else t1.t.size) = mm at *
    repeat' (first | refine sc_seq ?_ | refine sc_region ?_ | refine sq_then ?_ | refine sc_ret ?_ | refine sc_skip ?_ | refine sc_block ?_ | refine sc_exit ?_ | refine sq_pass_ret ?_ | refine sq_pass_exit ?_ | refine sq_blk_normal ?_ | refine sq_blk_ret ?_ | refine sq_blk_hit ?_ | refine sq_blk_miss rfl ?_ | refine sc_regionD follows_any rfl (by kernel_rfl) ?_ | refine sx_nil ?_ | refine sr_nil0 ?_ | (refine sr_nil1 ?_; intro g) | ((first | refine' sx_v rfl ?_ rfl rfl ?_ | refine' sr_v rfl ?_ rfl rfl rfl ?_); rotate_left; first | exact vo_ixa tok (m := 4) j rfl rfl rfl rfl rfl rfl rfl rfl (fun _ => rfl) (fun _ => hj) | exact vo_oldC tok rfl rfl rfl rfl rfl (fun _ => hrow 1 _ rfl) | exact vo_addm rfl rfl rfl rfl rfl hmin (by omega) | exact vo_add rfl rfl rfl rfl rfl (by omega) | exact vo_un tok rfl rfl rfl rfl | exact vo_bin tok rfl rfl rfl rfl rfl rfl | exact vo_or rfl rfl rfl rfl rfl | exact vo_and rfl rfl rfl rfl rfl | exact vo_load tok 0 rfl rfl rfl rfl rfl | exact vo_load tok 1 rfl rfl rfl rfl rfl | exact vo_load tok 2 rfl rfl rfl rfl rfl | exact vo_len tok rfl rfl rfl rfl rfl rfl rfl | exact vo_min rfl rfl rfl rfl rfl | exact vo_build tok rfl rfl trivial rfl rfl rfl | exact vo_build tok rfl rfl ⟨rfl, trivial⟩ rfl rfl rfl | exact vo_build tok rfl rfl ⟨rfl, rfl, trivial⟩ rfl rfl rfl | exact vo_build tok rfl rfl ⟨rfl, rfl, rfl, trivial⟩ rfl rfl rfl) | (refine sx_box rfl rfl rfl rfl rfl rfl ?_; intro g) | (refine sx_alloc tok rfl rfl rfl rfl rfl rfl ?_; intro g) | refine sr_alloc tok rfl rfl rfl rfl rfl rfl ?_ | refine sr_box rfl rfl rfl rfl rfl rfl ?_ | refine sx_store tok 0 rfl rfl rfl rfl rfl rfl rfl rfl rfl rfl rfl rfl ?_ | refine sx_store tok 1 rfl rfl rfl rfl rfl rfl rfl rfl rfl rfl rfl rfl ?_ | refine sx_store tok 2 rfl rfl rfl rfl rfl rfl rfl rfl rfl rfl rfl rfl ?_)
    refine sq_again (j + 1, n + mm) [] ⟨hj, by dsimp only; omega, by dsimp only; omega, ?_⟩ (by dsimp only; omega) ⟨rfl, rfl, rfl, trivial⟩ rfl
    dsimp only
    intro t ht
    rw [List.take_add_one, ht1] at ht
    rcases List.mem_append.1 ht with ht | ht
    · have := hall t ht; omega
    · obtain rfl := List.mem_singleton.1 ht
      rw [hmm]; omega
  · skip
    repeat' (first | refine sc_seq ?_ | refine sc_region ?_ | refine sq_then ?_ | refine sc_ret ?_ | refine sc_skip ?_ | refine sc_block ?_ | refine sc_exit ?_ | refine sq_pass_ret ?_ | refine sq_pass_exit ?_ | refine sq_blk_normal ?_ | refine sq_blk_ret ?_ | refine sq_blk_hit ?_ | refine sq_blk_miss rfl ?_ | refine sc_regionD follows_any rfl (by kernel_rfl) ?_ | refine sx_nil ?_ | refine sr_nil0 ?_ | (refine sr_nil1 ?_; intro g) | ((first | refine' sx_v rfl ?_ rfl rfl ?_ | refine' sr_v rfl ?_ rfl rfl rfl ?_); rotate_left; first | exact vo_un tok rfl rfl rfl rfl | exact vo_bin tok rfl rfl rfl rfl rfl rfl | exact vo_or rfl rfl rfl rfl rfl | exact vo_and rfl rfl rfl rfl rfl | exact vo_load tok 0 rfl rfl rfl rfl rfl | exact vo_load tok 1 rfl rfl rfl rfl rfl | exact vo_load tok 2 rfl rfl rfl rfl rfl | exact vo_len tok rfl rfl rfl rfl rfl rfl rfl | exact vo_min rfl rfl rfl rfl rfl | exact vo_build tok rfl rfl trivial rfl rfl rfl | exact vo_build tok rfl rfl ⟨rfl, trivial⟩ rfl rfl rfl | exact vo_build tok rfl rfl ⟨rfl, rfl, trivial⟩ rfl rfl rfl | exact vo_build tok rfl rfl ⟨rfl, rfl, rfl, trivial⟩ rfl rfl rfl) | (refine sx_box rfl rfl rfl rfl rfl rfl ?_; intro g) | (refine sx_alloc tok rfl rfl rfl rfl rfl rfl ?_; intro g) | refine sr_alloc tok rfl rfl rfl rfl rfl rfl ?_ | refine sr_box rfl rfl rfl rfl rfl rfl ?_ | refine sx_store tok 0 rfl rfl rfl rfl rfl rfl rfl rfl rfl rfl rfl rfl ?_ | refine sx_store tok 1 rfl rfl rfl rfl rfl rfl rfl rfl rfl rfl rfl rfl ?_ | refine sx_store tok 2 rfl rfl rfl rfl rfl rfl rfl rfl rfl rfl rfl rfl ?_)
    refine sc_false rfl (by simp; omega) ?_
    by_cases h1 : l.length = 1
    · obtain ⟨t1, ht1⟩ : ∃ t1, l[0]? = some t1 := ⟨l[0], List.getElem?_eq_getElem (by omega)⟩
      obtain ⟨bb, off, rfl, hrows⟩ := hT (by omega)
      obtain ⟨z, hrow⟩ := hrows 0 t1 ht1
      repeat' (first | refine sc_seq ?_ | refine sc_region ?_ | refine sq_then ?_ | refine sc_ret ?_ | refine sc_skip ?_ | refine sc_block ?_ | refine sc_exit ?_ | refine sq_pass_ret ?_ | refine sq_pass_exit ?_ | refine sq_blk_normal ?_ | refine sq_blk_ret ?_ | refine sq_blk_hit ?_ | refine sq_blk_miss rfl ?_ | refine sc_regionD follows_any rfl (by kernel_rfl) ?_ | refine sx_nil ?_ | refine sr_nil0 ?_ | (refine sr_nil1 ?_; intro g) | ((first | refine' sx_v rfl ?_ rfl rfl ?_ | refine' sr_v rfl ?_ rfl rfl rfl ?_); rotate_left; first | exact vo_ixa tok (m := 4) 0 rfl rfl rfl rfl rfl rfl rfl rfl (fun _ => rfl) (fun h => by simp [holdsC] at h; omega) | exact vo_oldC tok rfl rfl rfl rfl rfl (fun _ => hrow 1 _ rfl) | exact vo_un tok rfl rfl rfl rfl | exact vo_bin tok rfl rfl rfl rfl rfl rfl | exact vo_or rfl rfl rfl rfl rfl | exact vo_and rfl rfl rfl rfl rfl | exact vo_load tok 0 rfl rfl rfl rfl rfl | exact vo_load tok 1 rfl rfl rfl rfl rfl | exact vo_load tok 2 rfl rfl rfl rfl rfl | exact vo_len tok rfl rfl rfl rfl rfl rfl rfl | exact vo_min rfl rfl rfl rfl rfl | exact vo_build tok rfl rfl trivial rfl rfl rfl | exact vo_build tok rfl rfl ⟨rfl, trivial⟩ rfl rfl rfl | exact vo_build tok rfl rfl ⟨rfl, rfl, trivial⟩ rfl rfl rfl | exact vo_build tok rfl rfl ⟨rfl, rfl, rfl, trivial⟩ rfl rfl rfl) | (refine sx_box rfl rfl rfl rfl rfl rfl ?_; intro g) | (refine sx_alloc tok rfl rfl rfl rfl rfl rfl ?_; intro g) | refine sr_alloc tok rfl rfl rfl rfl rfl rfl ?_ | refine sr_box rfl rfl rfl rfl rfl rfl ?_ | refine sx_store tok 0 rfl rfl rfl rfl rfl rfl rfl rfl rfl rfl rfl rfl ?_ | refine sx_store tok 1 rfl rfl rfl rfl rfl rfl rfl rfl rfl rfl rfl rfl ?_ | refine sx_store tok 2 rfl rfl rfl rfl rfl rfl rfl rfl rfl rfl rfl rfl ?_)
      refine sq_ret tok (fun _ => 0) rfl rfl trivial rfl fun w hm => ⟨_, ?_, rfl, hm.below⟩
      intro hb
      refine ⟨by omega, ?_⟩
      match l, h1, ht1 with
      | [t], _, ht1 =>
        obtain rfl : t = t1 := by simpa using ht1
        intro y hy
        obtain rfl := List.mem_singleton.1 hy
        have hjl : j = 1 := by simp at hj0 hj; omega
        subst hjl
        have := hall y (by simp)
        simp at hb
        split at this <;> omega
    · skip
      repeat' (first | refine sc_seq ?_ | refine sc_region ?_ | refine sq_then ?_ | refine sc_ret ?_ | refine sc_skip ?_ | refine sc_block ?_ | refine sc_exit ?_ | refine sq_pass_ret ?_ | refine sq_pass_exit ?_ | refine sq_blk_normal ?_ | refine sq_blk_ret ?_ | refine sq_blk_hit ?_ | refine sq_blk_miss rfl ?_ | refine sc_regionD follows_any rfl (by kernel_rfl) ?_ | refine sx_nil ?_ | refine sr_nil0 ?_ | (refine sr_nil1 ?_; intro g) | ((first | refine' sx_v rfl ?_ rfl rfl ?_ | refine' sr_v rfl ?_ rfl rfl rfl ?_); rotate_left; first | exact vo_vac (.bool false) (by simp [holdsC]; omega) | exact vo_un tok rfl rfl rfl rfl | exact vo_bin tok rfl rfl rfl rfl rfl rfl | exact vo_or rfl rfl rfl rfl rfl | exact vo_and rfl rfl rfl rfl rfl | exact vo_load tok 0 rfl rfl rfl rfl rfl | exact vo_load tok 1 rfl rfl rfl rfl rfl | exact vo_load tok 2 rfl rfl rfl rfl rfl | exact vo_len tok rfl rfl rfl rfl rfl rfl rfl | exact vo_min rfl rfl rfl rfl rfl | exact vo_build tok rfl rfl trivial rfl rfl rfl | exact vo_build tok rfl rfl ⟨rfl, trivial⟩ rfl rfl rfl | exact vo_build tok rfl rfl ⟨rfl, rfl, trivial⟩ rfl rfl rfl | exact vo_build tok rfl rfl ⟨rfl, rfl, rfl, trivial⟩ rfl rfl rfl) | (refine sx_box rfl rfl rfl rfl rfl rfl ?_; intro g) | (refine sx_alloc tok rfl rfl rfl rfl rfl rfl ?_; intro g) | refine sr_alloc tok rfl rfl rfl rfl rfl rfl ?_ | refine sr_box rfl rfl rfl rfl rfl rfl ?_ | refine sx_store tok 0 rfl rfl rfl rfl rfl rfl rfl rfl rfl rfl rfl rfl ?_ | refine sx_store tok 1 rfl rfl rfl rfl rfl rfl rfl rfl rfl rfl rfl rfl ?_ | refine sx_store tok 2 rfl rfl rfl rfl rfl rfl rfl rfl rfl rfl rfl rfl ?_)
      refine sq_ret tok (fun _ => 0) rfl rfl trivial rfl fun w hm => ⟨_, ?_, rfl, hm.below⟩
      intro hb
      have hb2 : l.length ≤ 300 ∧ n ≤ 6000 := by simp at hb; omega
      refine ⟨hb2.1, fun t ht => ?_⟩
      have hjl : j = l.length := by omega
      rw [hjl, List.take_length] at hall
      have := hall t ht
      split at this <;> omega
end Go.Proofs.YtiodkdafoocofaaGreatDoor.Y
