/- Texts of this claim merged into one: Bl2, Bl3. -/
import Derived.Test.YtmdkfbmpenohiaaDoorPol
/- Package balance. -/
namespace Go.Proofs.YtmdkfbmpenohiaaDoor.Y
open Go.RowKit
theorem drop_at {α : Type} {l : List α} {j : Nat} {v : α} (h : l[j]? = some v) : l.drop j = v :: l.drop (j + 1) := by
  obtain ⟨h1, h2⟩ := List.getElem?_eq_some_iff.1 h
  rw [List.drop_eq_getElem_cons h1, h2]
theorem atB_of {s : ByteArray} {j : Nat} {c : UInt8} (h : s.data.toList[j]? = some c) : atB s j = c.toNat := by
  unfold atB; rw [List.getD_eq_getElem?_getD, h]; rfl
theorem byte_at {s : ByteArray} {j : Nat} (h : j < s.size) : ∃ c, s.data.toList[j]? = some c := ⟨_, List.getElem?_eq_getElem (by rw [Array.length_toList]; exact h)⟩
set_option maxRecDepth 100000 in
set_option maxHeartbeats 8000000 in
theorem finB_any {A : Nat → Prop} (x : Option Addr) (l : List BV) (cap : Nat) (nm : ByteArray) (w : World) (hR : Rws A w 6 bC x l) (hlen : l.length ≤ 2513169434916) : Calls Tryd.prog 52 #[.slice x l.length cap, .string nm] w fun e w' => e = .returned (.tuple #[.int .i64 (((finB nm l 0).getD 0 : Nat) : Int), .bool (finB nm l 0).isSome]) ∧ Below w.heap.size w w' := by
  refine sx_enter Tryd.func52 rfl Tryd.ntmps52 rfl rfl ?_
  repeat' (first | refine sc_seq ?_ | refine sc_region ?_ | refine sq_then ?_ | refine sc_block ?_ | refine sx_nil ?_ | ((refine' sx_v rfl ?_ rfl rfl ?_); rotate_left; first | exact vo_un tok rfl rfl rfl rfl | exact vo_len tok rfl rfl rfl rfl rfl rfl rfl))
  refine sc_loop (σ := Nat) (fun p => p ≤ l.length ∧ finB nm l 0 = finB nm (l.drop p) p) (fun p => [(10, [], .int .i64 ((p : Nat) : Int)), (9, [], .int .i64 ((l.length : Nat) : Int)), (8, [], .slice x l.length cap), (1, [], .string nm)]) (fun _ => []) (fun p => l.length - p) 0 [] ⟨Nat.zero_le _, rfl⟩ ⟨rfl, rfl, rfl, rfl, trivial⟩ rfl ?_
  rintro j ⟨hj0, hr⟩
  by_cases hj : j < l.length
  · skip
    obtain ⟨v, hv⟩ : ∃ v, l[j]? = some v := ⟨l[j], List.getElem?_eq_getElem hj⟩
    obtain ⟨bb, off, rfl, _, _, hrows⟩ := hR (by omega)
    have hrow : w.rangeAt bb (off + j * 6) [.string v.nm, .int .i64 v.ld, .int .i64 v.bs, .int .i64 v.wt, .int .i64 v.fl, .int .i64 v.ot] := hrows j v hv
    rw [drop_at hv, finB] at hr
    repeat' (first | refine sc_seq ?_ | refine sc_region ?_ | refine sq_then ?_ | refine sx_nil ?_ | ((refine' sx_v rfl ?_ rfl rfl ?_); rotate_left; exact vo_bin tok rfl rfl rfl rfl rfl rfl))
    refine sc_true rfl (by simp; omega) ?_
    repeat' (first | refine sc_seq ?_ | refine sc_region ?_ | refine sq_then ?_ | refine sc_skip ?_ | refine sc_block ?_ | refine sx_nil ?_ | (refine sx_alloc tok rfl rfl rfl rfl rfl rfl ?_; intro g9) | ((refine' sx_v rfl ?_ rfl rfl ?_); rotate_left; first | exact vo_ixa tok (m := 6) j rfl rfl rfl rfl rfl rfl rfl rfl (fun _ => rfl) (fun _ => hj) | exact vo_oldrowC tok rfl rfl rfl rfl rfl (fun _ => hrow) | exact vo_un tok rfl rfl rfl rfl | exact vo_bin tok rfl rfl rfl rfl rfl rfl | exact vo_load tok 0 rfl rfl rfl rfl rfl) | refine sx_store tok 0 rfl rfl rfl rfl rfl rfl rfl rfl rfl rfl rfl rfl ?_)
    by_cases hh : beB v.nm nm = true
    · rw [if_pos hh] at hr
      refine sc_true rfl (by exact hh) ?_
      repeat' (first | refine sc_seq ?_ | refine sc_region ?_ | refine sq_then ?_ | refine sc_ret ?_ | refine sq_pass_ret ?_ | refine sq_blk_ret ?_ | refine sx_nil ?_ | ((refine' sx_v rfl ?_ rfl rfl ?_); rotate_left; exact vo_un tok rfl rfl rfl rfl))
      refine sq_ret tok (fun _ => 0) rfl rfl trivial rfl fun w hm => ⟨?_, hm.below⟩
      rw [hr]; rfl
    · rw [if_neg hh] at hr
      refine sc_false rfl (by exact eq_false_of_ne_true hh) ?_
      repeat' (first | refine sc_region ?_ | refine sq_then ?_ | refine sc_skip ?_ | refine sq_blk_normal ?_ | refine sx_nil ?_ | ((refine' sx_v rfl ?_ rfl rfl ?_); rotate_left; first | exact vo_add rfl rfl rfl rfl rfl (by omega) | exact vo_un tok rfl rfl rfl rfl))
      refine sq_again (j + 1) [false] ⟨hj, hr⟩ (show l.length - (j + 1) < l.length - j by omega) ⟨rfl, rfl, rfl, rfl, trivial⟩ rfl
  · rw [List.drop_eq_nil_of_le (by omega)] at hr
    repeat' (first | refine sc_seq ?_ | refine sc_region ?_ | refine sq_then ?_ | refine sx_nil ?_ | ((refine' sx_v rfl ?_ rfl rfl ?_); rotate_left; exact vo_bin tok rfl rfl rfl rfl rfl rfl))
    refine sc_false rfl (by simp; omega) ?_
    repeat' (first | refine sc_seq ?_ | refine sc_region ?_ | refine sq_then ?_ | refine sc_ret ?_ | refine sc_exit ?_ | refine sq_pass_exit ?_ | refine sq_blk_hit ?_ | refine sx_nil ?_ | ((refine' sx_v rfl ?_ rfl rfl ?_); rotate_left; exact vo_un tok rfl rfl rfl rfl))
    refine sq_ret tok (fun _ => 0) rfl rfl trivial rfl fun w hm => ⟨?_, hm.below⟩
    rw [hr]; rfl
set_option maxRecDepth 100000 in
set_option maxHeartbeats 8000000 in
theorem nmOk_any (s : ByteArray) (w : World) : Calls Tryd.prog 47 #[.string s] w fun e w' => e = .returned (.bool (nmOk s)) ∧ Below w.heap.size w w' := by
  refine sx_enter Tryd.func47 rfl Tryd.ntmps47 rfl rfl ?_
  repeat' (first | refine sc_seq ?_ | refine sc_region ?_ | refine sq_then ?_ | refine sx_nil ?_ | ((refine' sx_v rfl ?_ rfl rfl ?_); rotate_left; first | exact vo_un tok rfl rfl rfl rfl | exact vo_bin tok rfl rfl rfl rfl rfl rfl | exact vo_or rfl rfl rfl rfl rfl | exact vo_len tok rfl rfl rfl rfl rfl rfl rfl))
  by_cases h0 : 1 ≤ s.size ∧ s.size ≤ 40
  · refine sc_false rfl (by simp; omega) ?_
    repeat' (first | refine sc_seq ?_ | refine sc_region ?_ | refine sq_then ?_ | refine sc_skip ?_ | refine sc_block ?_ | refine sx_nil ?_ | ((refine' sx_v rfl ?_ rfl rfl ?_); rotate_left; first | exact vo_un tok rfl rfl rfl rfl | exact vo_len tok rfl rfl rfl rfl rfl rfl rfl))
    refine sc_loop (σ := Nat) (fun p => p ≤ s.size ∧ nmOk s = (s.data.toList.drop p).all nmC) (fun p => [(14, [], .int .i64 ((p : Nat) : Int)), (13, [], .int .i64 ((s.size : Nat) : Int)), (0, [], .string s)]) (fun _ => []) (fun p => s.size - p) 0 [] ⟨Nat.zero_le _, by unfold nmOk; simp [h0.1, h0.2]⟩ ⟨rfl, rfl, rfl, trivial⟩ rfl ?_
    rintro j ⟨hj0, hr⟩
    by_cases hj : j < s.size
    · obtain ⟨c, hc⟩ := byte_at hj
      have ha := atB_of hc
      rw [drop_at hc, List.all_cons] at hr
      repeat' (first | refine sc_seq ?_ | refine sc_region ?_ | refine sq_then ?_ | refine sx_nil ?_ | ((refine' sx_v rfl ?_ rfl rfl ?_); rotate_left; exact vo_bin tok rfl rfl rfl rfl rfl rfl))
      refine sc_true rfl (by simp; omega) ?_
      repeat' (first | refine sc_seq ?_ | refine sc_region ?_ | refine sq_then ?_ | refine sc_skip ?_ | refine sc_block ?_ | refine sx_nil ?_ | ((refine' sx_v rfl ?_ rfl rfl ?_); rotate_left; first | exact vo_byte tok j rfl rfl rfl rfl rfl rfl (fun _ => ⟨rfl, hj⟩) | exact vo_un tok rfl rfl rfl rfl | exact vo_bin tok rfl rfl rfl rfl rfl rfl | exact vo_or rfl rfl rfl rfl rfl | exact vo_and rfl rfl rfl rfl rfl))
      by_cases hh : nmC c = true
      · rw [hh, Bool.true_and] at hr
        refine sc_false rfl (by rw [ha]; unfold nmC at hh; simp at hh ⊢; omega) ?_
        repeat' (first | refine sc_region ?_ | refine sq_then ?_ | refine sc_skip ?_ | refine sq_blk_normal ?_ | refine sx_nil ?_ | ((refine' sx_v rfl ?_ rfl rfl ?_); rotate_left; first | exact vo_add rfl rfl rfl rfl rfl (by omega) | exact vo_un tok rfl rfl rfl rfl))
        refine sq_again (j + 1) [] ⟨hj, hr⟩ (show s.size - (j + 1) < s.size - j by omega) ⟨rfl, rfl, rfl, trivial⟩ rfl
      · have hh' := eq_false_of_ne_true hh
        rw [hh', Bool.false_and] at hr
        refine sc_true rfl (by rw [ha]; unfold nmC at hh'; simp at hh' ⊢; omega) ?_
        repeat' (first | refine sc_seq ?_ | refine sc_region ?_ | refine sq_then ?_ | refine sc_ret ?_ | refine sq_pass_ret ?_ | refine sq_blk_ret ?_ | refine sx_nil ?_ | ((refine' sx_v rfl ?_ rfl rfl ?_); rotate_left; exact vo_un tok rfl rfl rfl rfl))
        refine sq_ret tok (fun _ => 0) rfl rfl trivial rfl fun w hm => ⟨?_, hm.below⟩
        rw [hr]
    · rw [List.drop_eq_nil_of_le (by rw [Array.length_toList]; show s.size ≤ j; omega)] at hr
      repeat' (first | refine sc_seq ?_ | refine sc_region ?_ | refine sq_then ?_ | refine sx_nil ?_ | ((refine' sx_v rfl ?_ rfl rfl ?_); rotate_left; exact vo_bin tok rfl rfl rfl rfl rfl rfl))
      refine sc_false rfl (by simp; omega) ?_
      repeat' (first | refine sc_seq ?_ | refine sc_region ?_ | refine sq_then ?_ | refine sc_ret ?_ | refine sc_exit ?_ | refine sq_pass_exit ?_ | refine sq_blk_hit ?_ | refine sx_nil ?_ | ((refine' sx_v rfl ?_ rfl rfl ?_); rotate_left; exact vo_un tok rfl rfl rfl rfl))
      refine sq_ret tok (fun _ => 0) rfl rfl trivial rfl fun w hm => ⟨?_, hm.below⟩
      rw [hr]; rfl
  · refine sc_true rfl (by simp; omega) ?_
    repeat' (first | refine sc_seq ?_ | refine sc_region ?_ | refine sq_then ?_ | refine sc_ret ?_ | refine sq_pass_ret ?_ | refine sx_nil ?_ | ((refine' sx_v rfl ?_ rfl rfl ?_); rotate_left; exact vo_un tok rfl rfl rfl rfl))
    refine sq_ret tok (fun _ => 0) rfl rfl trivial rfl fun w hm => ⟨?_, hm.below⟩
    refine ret_boolP ?_
    unfold nmOk
    by_cases h1 : 1 ≤ s.size
    · have h2 : ¬ s.size ≤ 40 := fun h => h0 ⟨h1, h⟩
      simp [h2]
    · simp [h1]
def prevB (l : List BV) (p : Nat) : Option ByteArray := if p = 0 then none else (l[p - 1]?).map (·.nm)
theorem chkGo_cons (p : Option ByteArray) (b : BV) (r : List BV) : chkGo p (b :: r) = if nmOk b.nm = false then 8 else if (match p with | some x => (Op.bytesLess b.nm.toList x.toList || b.nm.toList == x.toList) | none => false) = true then 11 else if bOk b = false then 1 else chkGo (some b.nm) r := by cases p <;> rfl
def chkStep (l : List BV) (j : Nat) (v : BV) (rest : Int) : Int := if nmOk v.nm = false then 8 else if (match prevB l j with | some x => (Op.bytesLess v.nm.toList x.toList || v.nm.toList == x.toList) | none => false) = true then 11 else if bOk v = false then 1 else rest
theorem nmOkE (s : ByteArray) (b : Bool) (h : nmOk s = b) (w : World) : Calls Tryd.prog 47 #[.string s] w fun e w' => e = .returned (.bool b) ∧ Below w.heap.size w w' := by subst h; exact nmOk_any s w
theorem bOkE {v : BV} {a b c : Bool} (h1 : cntB v.ld = a) (h2 : cntB v.bs = b) (h3 : cntB v.fl = c) : bOk v = (a && b && c && decide (1 ≤ v.wt) && decide (v.wt ≤ 100) && decide (0 ≤ v.ot) && decide (v.ot ≤ 2199023255552)) := by unfold bOk; rw [h1, h2, h3]
theorem bOk_not (b2 b3 b4 : Bool) (wt ot : Int) : (!b2 || !b3 || !b4 || decide (wt < 1) || decide (wt > 100) || decide (ot < 0) || decide (ot > 2199023255552)) = !(b2 && b3 && b4 && decide (1 ≤ wt) && decide (wt ≤ 100) && decide (0 ≤ ot) && decide (ot ≤ 2199023255552)) := by
  have h1 : decide (wt < 1) = !decide (1 ≤ wt) := by rw [← decide_not]; congr 1; exact propext ⟨fun h => by omega, fun h => by omega⟩
  have h2 : decide (wt > 100) = !decide (wt ≤ 100) := by rw [← decide_not]; congr 1; exact propext ⟨fun h => by omega, fun h => by omega⟩
  have h3 : decide (ot < 0) = !decide (0 ≤ ot) := by rw [← decide_not]; congr 1; exact propext ⟨fun h => by omega, fun h => by omega⟩
  have h4 : decide (ot > 2199023255552) = !decide (ot ≤ 2199023255552) := by rw [← decide_not]; congr 1; exact propext ⟨fun h => by omega, fun h => by omega⟩
  rw [h1, h2, h3, h4]
  simp only [Bool.not_and]
theorem cntE (n : Int) (b : Bool) (h : cntB n = b) (w : World) : Calls Tryd.prog 48 #[.int .i64 n] w fun e w' => e = .returned (.bool b) ∧ Below w.heap.size w w' := by subst h; exact count_any53 n w
set_option maxRecDepth 100000 in
set_option maxHeartbeats 8000000 in
theorem chkB_any {A : Nat → Prop} (x : Option Addr) (l : List BV) (cap : Nat) (w : World) (hR : Rws A w 6 bC x l) (hlen : l.length ≤ 2513169434916) : Calls Tryd.prog 26 #[.slice x l.length cap] w fun e w' => e = .returned (.int .i64 (chkB l)) ∧ Below w.heap.size w w' := by
  refine sx_enter Tryd.func26 rfl Tryd.ntmps26 rfl rfl ?_
  repeat' (first | refine sc_seq ?_ | refine sc_region ?_ | refine sq_then ?_ | refine sx_nil ?_ | ((refine' sx_v rfl ?_ rfl rfl ?_); rotate_left; first | exact vo_un tok rfl rfl rfl rfl | exact vo_bin tok rfl rfl rfl rfl rfl rfl | exact vo_len tok rfl rfl rfl rfl rfl rfl rfl))
  by_cases h8 : 8 < l.length
  · refine sc_true rfl (by simp; omega) ?_
    repeat' (first | refine sc_seq ?_ | refine sc_region ?_ | refine sq_then ?_ | refine sc_ret ?_ | refine sq_pass_ret ?_ | refine sx_nil ?_ | ((refine' sx_v rfl ?_ rfl rfl ?_); rotate_left; exact vo_un tok rfl rfl rfl rfl))
    refine sq_ret tok (fun _ => 0) rfl rfl trivial rfl fun w hm => ⟨?_, hm.below⟩
    unfold chkB; rw [if_pos h8]
  · refine sc_false rfl (by simp; omega) ?_
    repeat' (first | refine sc_seq ?_ | refine sc_region ?_ | refine sq_then ?_ | refine sc_skip ?_ | refine sc_block ?_ | refine sx_nil ?_ | ((refine' sx_v rfl ?_ rfl rfl ?_); rotate_left; first | exact vo_un tok rfl rfl rfl rfl | exact vo_len tok rfl rfl rfl rfl rfl rfl rfl))
    refine sc_loop (σ := Nat) (fun p => p ≤ l.length ∧ chkB l = chkGo (prevB l p) (l.drop p)) (fun p => [(10, [], .int .i64 ((p : Nat) : Int)), (9, [], .int .i64 ((l.length : Nat) : Int)), (8, [], .slice x l.length cap), (0, [], .slice x l.length cap)]) (fun _ => []) (fun p => l.length - p) 0 [] ⟨Nat.zero_le _, if_neg h8⟩ ⟨rfl, rfl, rfl, rfl, trivial⟩ rfl ?_
    rintro j ⟨hj0, hr⟩
    by_cases hj : j < l.length
    · skip
      obtain ⟨v, hv⟩ : ∃ v, l[j]? = some v := ⟨l[j], List.getElem?_eq_getElem hj⟩
      obtain ⟨bb, off, rfl, _, _, hrows⟩ := hR (by omega)
      have hrow : w.rangeAt bb (off + j * 6) [.string v.nm, .int .i64 v.ld, .int .i64 v.bs, .int .i64 v.wt, .int .i64 v.fl, .int .i64 v.ot] := hrows j v hv
      rw [drop_at hv, chkGo_cons] at hr
      have hpv : prevB l (j + 1) = some v.nm := by simp [prevB, hv]
      rw [← hpv] at hr
      obtain ⟨b1, hb1⟩ : ∃ b, nmOk v.nm = b := ⟨_, rfl⟩
      obtain ⟨b2, hb2⟩ : ∃ b, cntB v.ld = b := ⟨_, rfl⟩
      obtain ⟨b3, hb3⟩ : ∃ b, cntB v.bs = b := ⟨_, rfl⟩
      obtain ⟨b4, hb4⟩ : ∃ b, cntB v.fl = b := ⟨_, rfl⟩
      have hbo := bOkE hb2 hb3 hb4
      have hpr0 : ∃ pv : ByteArray, 0 < j → l[j - 1]?.map (·.nm) = some pv ∧ w.cell? ⟨bb, off + (j - 1) * 6 + 0, none⟩ = some (.string pv) := by
        by_cases hjz : 0 < j
        · have hq : l[j - 1]? = some l[j - 1] := List.getElem?_eq_getElem (by omega)
          exact ⟨l[j - 1].nm, fun _ => ⟨by rw [hq]; rfl, hrows (j - 1) _ hq 0 _ rfl⟩⟩
        · exact ⟨⟨#[]⟩, fun h => absurd h hjz⟩
      obtain ⟨pv, hpr1⟩ := hpr0
      have hpr := fun h => (hpr1 h).2
      have hpx : 0 < j → prevB l j = some pv := fun h => by unfold prevB; rw [if_neg (by omega)]; exact (hpr1 h).1
      have hgt : ∀ {L : Cd}, holdsC ((decide ((j : Int) > 0), true) :: L) = true → 0 < j := fun h => by simp [holdsC] at h; omega
      repeat' (first | refine sc_seq ?_ | refine sc_region ?_ | refine sq_then ?_ | refine sx_nil ?_ | ((refine' sx_v rfl ?_ rfl rfl ?_); rotate_left; exact vo_bin tok rfl rfl rfl rfl rfl rfl))
      refine sc_true rfl (by simp; omega) ?_
      repeat' (first | refine sc_seq ?_ | refine sc_region ?_ | refine sq_then ?_ | refine sc_skip ?_ | refine sc_block ?_ | refine sx_nil ?_ | (refine sx_alloc tok rfl rfl rfl rfl rfl rfl ?_; intro g9) | ((refine' sx_v rfl ?_ rfl rfl ?_); rotate_left; first | exact vo_ixa tok (m := 6) j rfl rfl rfl rfl rfl rfl rfl rfl (fun _ => rfl) (fun _ => hj) | exact vo_oldrowC tok rfl rfl rfl rfl rfl (fun _ => hrow) | exact vo_un tok rfl rfl rfl rfl | exact vo_load tok 0 rfl rfl rfl rfl rfl) | refine sx_call rfl (callOp rfl rfl rfl rfl ⟨rfl, trivial⟩ rfl (by kernel_rfl)) (fun w hm => nmOkE v.nm b1 hb1 w) rfl rfl ?_ | refine sx_store tok 0 rfl rfl rfl rfl rfl rfl rfl rfl rfl rfl rfl rfl ?_)
      cases b1 with
      | false =>
        rw [if_pos hb1] at hr
        refine sc_true rfl rfl ?_
        repeat' (first | refine sc_seq ?_ | refine sc_region ?_ | refine sq_then ?_ | refine sc_ret ?_ | refine sq_pass_ret ?_ | refine sq_blk_ret ?_ | refine sx_nil ?_ | ((refine' sx_v rfl ?_ rfl rfl ?_); rotate_left; exact vo_un tok rfl rfl rfl rfl))
        refine sq_ret tok (fun _ => 0) rfl rfl trivial rfl fun w hm => ⟨?_, hm.below⟩
        rw [hr]
      | true =>
        rw [if_neg (by rw [hb1]; decide)] at hr
        refine sc_false rfl rfl ?_
        repeat' (first | refine sc_seq ?_ | refine sq_then ?_ | refine sc_regionD follows_any rfl (by kernel_rfl) ?_ | refine sx_nil ?_ | refine sr_nil0 ?_ | ((refine' sr_v rfl ?_ rfl rfl rfl ?_); rotate_left; first | exact vo_ixa tok (m := 6) (j - 1) rfl rfl rfl rfl rfl rfl rfl rfl (fun hL => by have := hgt hL; omega) (fun hL => by have := hgt hL; omega) | exact vo_oldC tok rfl rfl rfl rfl rfl (fun hL => hpr (hgt hL)) | exact vo_sub rfl rfl rfl rfl rfl (by omega) | exact vo_un tok rfl rfl rfl rfl | exact vo_bin tok rfl rfl rfl rfl rfl rfl | exact vo_and rfl rfl rfl rfl rfl | exact vo_load tok 0 rfl rfl rfl rfl rfl))
        by_cases hh : (match prevB l j with | some x => (Op.bytesLess v.nm.toList x.toList || v.nm.toList == x.toList) | none => false) = true
        · rw [if_pos hh] at hr
          have hjz : 0 < j := by
            by_cases hjz : 0 < j
            · exact hjz
            · obtain rfl : j = 0 := by omega
              simp [prevB] at hh
          rw [hpx hjz] at hh
          refine sc_true rfl (by simp only [Bool.and_eq_true, decide_eq_true_eq]; exact ⟨by omega, hh⟩) ?_
          repeat' (first | refine sc_seq ?_ | refine sc_region ?_ | refine sq_then ?_ | refine sc_ret ?_ | refine sq_pass_ret ?_ | refine sq_blk_ret ?_ | refine sx_nil ?_ | ((refine' sx_v rfl ?_ rfl rfl ?_); rotate_left; exact vo_un tok rfl rfl rfl rfl))
          refine sq_ret tok (fun _ => 0) rfl rfl trivial rfl fun w hm => ⟨?_, hm.below⟩
          rw [hr]
        · rw [if_neg hh] at hr
          refine sc_false rfl (by
            by_cases hjz : 0 < j
            · rw [hpx hjz] at hh
              simp only [Bool.and_eq_false_iff]; exact .inr (eq_false_of_ne_true hh)
            · simp only [Bool.and_eq_false_iff, decide_eq_false_iff_not]; exact .inl (by omega)) ?_
          repeat' (first | refine sc_seq ?_ | refine sc_region ?_ | refine sq_then ?_ | refine sx_nil ?_ | ((refine' sx_v rfl ?_ rfl rfl ?_); rotate_left; first | exact vo_un tok rfl rfl rfl rfl | exact vo_bin tok rfl rfl rfl rfl rfl rfl | exact vo_or rfl rfl rfl rfl rfl | exact vo_load tok 0 rfl rfl rfl rfl rfl) | refine sx_call rfl (callOp rfl rfl rfl rfl ⟨rfl, trivial⟩ rfl (by kernel_rfl)) (fun w hm => cntE _ _ (by assumption) w) rfl rfl ?_)
          by_cases hb : bOk v = true
          · rw [if_neg (by rw [hb]; decide)] at hr
            refine sc_false rfl ((bOk_not b2 b3 b4 v.wt v.ot).trans (by rw [← hbo, hb]; rfl)) ?_
            repeat' (first | refine sc_region ?_ | refine sq_then ?_ | refine sc_skip ?_ | refine sq_blk_normal ?_ | refine sx_nil ?_ | ((refine' sx_v rfl ?_ rfl rfl ?_); rotate_left; first | exact vo_add rfl rfl rfl rfl rfl (by omega) | exact vo_un tok rfl rfl rfl rfl))
            refine sq_again (j + 1) [false] ⟨hj, hr⟩ (show l.length - (j + 1) < l.length - j by omega) ⟨rfl, rfl, rfl, rfl, trivial⟩ rfl
          · have hb' := eq_false_of_ne_true hb
            rw [if_pos hb'] at hr
            refine sc_true rfl ((bOk_not b2 b3 b4 v.wt v.ot).trans (by rw [← hbo, hb']; rfl)) ?_
            repeat' (first | refine sc_seq ?_ | refine sc_region ?_ | refine sq_then ?_ | refine sc_ret ?_ | refine sq_pass_ret ?_ | refine sq_blk_ret ?_ | refine sx_nil ?_ | ((refine' sx_v rfl ?_ rfl rfl ?_); rotate_left; exact vo_un tok rfl rfl rfl rfl))
            refine sq_ret tok (fun _ => 0) rfl rfl trivial rfl fun w hm => ⟨?_, hm.below⟩
            rw [hr]
    · rw [List.drop_eq_nil_of_le (by omega)] at hr
      repeat' (first | refine sc_seq ?_ | refine sc_region ?_ | refine sq_then ?_ | refine sx_nil ?_ | ((refine' sx_v rfl ?_ rfl rfl ?_); rotate_left; exact vo_bin tok rfl rfl rfl rfl rfl rfl))
      refine sc_false rfl (by simp; omega) ?_
      repeat' (first | refine sc_seq ?_ | refine sc_region ?_ | refine sq_then ?_ | refine sc_ret ?_ | refine sc_exit ?_ | refine sq_pass_exit ?_ | refine sq_blk_hit ?_ | refine sx_nil ?_ | ((refine' sx_v rfl ?_ rfl rfl ?_); rotate_left; exact vo_un tok rfl rfl rfl rfl))
      refine sq_ret tok (fun _ => 0) rfl rfl trivial rfl fun w hm => ⟨?_, hm.below⟩
      rw [hr]; rfl
end Go.Proofs.YtmdkfbmpenohiaaDoor.Y

/- Package balance: Pick, Begin, End. -/
namespace Go.Proofs.YtmdkfbmpenohiaaDoor.Y
open Go.RowKit
theorem bOk_rng {b : BV} (h : bOk b = true) : 0 ≤ b.ld ∧ b.ld ≤ 1000000 ∧ 0 ≤ b.bs ∧ b.bs ≤ 1000000 ∧ 0 ≤ b.fl ∧ b.fl ≤ 1000000 ∧ 1 ≤ b.wt ∧ b.wt ≤ 100 ∧ 0 ≤ b.ot ∧ b.ot ≤ 2199023255552 := by
  unfold bOk cntB at h
  simp at h
  omega
theorem mul_in (x y : Int) (h1 : 0 ≤ x) (h2 : x ≤ 2000000) (h3 : 0 ≤ y) (h4 : y ≤ 100) : IntKind.i64.wrap (x * y) = x * y := by
  have h5 : 0 ≤ x * y := Int.mul_nonneg h1 h3
  have h6 : x * y ≤ 2000000 * y := Int.mul_le_mul_of_nonneg_right h2 h3
  exact IntWalk.i64_in _ ⟨by omega, by omega⟩
theorem mem_cell (i : Nat) {w0 w : World} {M : List Ent} {g : Nat} {T : TypeId} {v : Value} {r : List Value} (hM : Mem w0 w M) (hi : nth M i = some (.cl g T (v :: r))) : w.cell? ⟨g, 0, none⟩ = some v := by
  have hb : Bk w g T ⟨v :: r⟩ := (hM.2.get hi).2
  exact hb.at_ 0 rfl
theorem bndE (n k r : Int) (h : bndI n k = r) (w : World) : Calls Tryd.prog 58 #[.int .i64 n, .int .i64 k] w fun e w' => e = .returned (.int .i64 r) ∧ Below w.heap.size w w' := by subst h; exact bound_any n k w
theorem modB_len (f : BV → BV) : ∀ (l : List BV) (k : Nat), (modB f l k).length = l.length
  | [], _ => rfl
  | _ :: _, 0 => rfl
  | _ :: r, k + 1 => by simp [modB, modB_len f r k]
theorem modB_set (f : BV → BV) : ∀ (l : List BV) (k : Nat) (v : BV), l[k]? = some v → modB f l k = l.set k (f v)
  | [], k, v, h => by simp at h
  | x :: r, 0, v, h => by obtain rfl := (by simpa using h); rfl
  | x :: r, k + 1, v, h => by simp [modB, modB_set f r k v (by simpa using h)]
set_option maxRecDepth 100000 in
set_option maxHeartbeats 8000000 in
theorem bef_any (a b : BV) (now : Int) (g : Nat) (w : World) (ha : bOk a = true) (hb : bOk b = true) (hc : w.cell? ⟨g, 0, none⟩ = some (.int .i64 now)) : Calls Tryd.prog 59 #[.agg #[.string a.nm, .int .i64 a.ld, .int .i64 a.bs, .int .i64 a.wt, .int .i64 a.fl, .int .i64 a.ot], .agg #[.string b.nm, .int .i64 b.ld, .int .i64 b.bs, .int .i64 b.wt, .int .i64 b.fl, .int .i64 b.ot], .pointer (some ⟨g, 0, none⟩)] w fun e w' => e = .returned (.bool (befL now a b)) ∧ Below w.heap.size w w' := by
  have h1 := bOk_rng ha
  have h2 := bOk_rng hb
  refine sx_enter Tryd.func59 rfl Tryd.ntmps59 rfl rfl ?_
  repeat' (first | refine sc_seq ?_ | refine sc_region ?_ | refine sq_then ?_ | refine sc_regionD follows_any rfl (by kernel_rfl) ?_ | refine sx_nil ?_ | refine sr_nil0 ?_ | (refine sx_box rfl rfl rfl rfl rfl rfl ?_; intro g1) | ((first | refine' sx_v rfl ?_ rfl rfl ?_ | refine' sr_v rfl ?_ rfl rfl rfl ?_); rotate_left; first | exact vo_oldC tok rfl rfl rfl rfl rfl (fun _ => hc) | exact vo_un tok rfl rfl rfl rfl | exact vo_bin tok rfl rfl rfl rfl rfl rfl | exact vo_load tok 0 rfl rfl rfl rfl rfl | exact vo_load tok 1 rfl rfl rfl rfl rfl))
  by_cases hd : decide (a.ot ≤ now) = decide (b.ot ≤ now)
  · refine sc_false rfl (by rw [hd]; simp) ?_
    repeat' (first | refine sc_seq ?_ | refine sc_region ?_ | refine sq_then ?_ | refine sc_ret ?_ | refine sc_skip ?_ | refine sc_regionD follows_any rfl (by kernel_rfl) ?_ | refine sx_nil ?_ | refine sr_nil0 ?_ | ((first | refine' sx_v rfl ?_ rfl rfl ?_ | refine' sr_v rfl ?_ rfl rfl rfl ?_); rotate_left; first | exact vo_add rfl rfl rfl rfl rfl (by omega) | exact vo_is (v := .int .i64 ((a.bs + a.ld) * b.wt)) (vo_bin tok rfl rfl rfl rfl rfl rfl) (congrArg (Value.int .i64) (mul_in _ _ (by omega) (by omega) (by omega) (by omega))) | exact vo_is (v := .int .i64 ((b.bs + b.ld) * a.wt)) (vo_bin tok rfl rfl rfl rfl rfl rfl) (congrArg (Value.int .i64) (mul_in _ _ (by omega) (by omega) (by omega) (by omega))) | exact vo_un tok rfl rfl rfl rfl | exact vo_bin tok rfl rfl rfl rfl rfl rfl | exact vo_or rfl rfl rfl rfl rfl | exact vo_and rfl rfl rfl rfl rfl | exact vo_load tok 0 rfl rfl rfl rfl rfl | exact vo_load tok 1 rfl rfl rfl rfl rfl))
    refine sq_ret tok (fun _ => 0) rfl rfl trivial rfl fun w hm => ⟨?_, hm.below⟩
    refine ret_boolP ?_
    unfold befL ltB
    rw [if_pos hd]
    simp [Bool.beq_eq_decide_eq]
  · refine sc_true rfl (by simpa using hd) ?_
    repeat' (first | refine sc_seq ?_ | refine sc_region ?_ | refine sq_then ?_ | refine sc_ret ?_ | refine sq_pass_ret ?_ | refine sx_nil ?_ | ((refine' sx_v rfl ?_ rfl rfl ?_); rotate_left; exact vo_un tok rfl rfl rfl rfl))
    refine sq_ret tok (fun _ => 0) rfl rfl trivial rfl fun w hm => ⟨?_, hm.below⟩
    refine ret_boolP ?_
    unfold befL
    rw [if_neg hd]
def bestI : Option (Nat × BV) → Int
  | none => -1
  | some (k, _) => k
theorem pickGo_some (now : Int) (x : BV) (r : List BV) (i k : Nat) (b : BV) : pickGo now (x :: r) i (some (k, b)) = pickGo now r (i + 1) (if befL now x b = true then some (i, x) else some (k, b)) := rfl
theorem pickGo_none (now : Int) (x : BV) (r : List BV) (i : Nat) : pickGo now (x :: r) i none = pickGo now r (i + 1) (some (i, x)) := rfl
set_option maxRecDepth 100000 in
set_option maxHeartbeats 8000000 in
theorem pick_any {A : Nat → Prop} (x : Option Addr) (l : List BV) (cap : Nat) (now : Int) (w : World) (hR : Rws A w 6 bC x l) (hlen : l.length ≤ 2513169434916) (hok : ∀ b ∈ l, bOk b = true) : Calls Tryd.prog 41 #[.slice x l.length cap, .int .i64 now] w fun e w' => e = .returned (.int .i64 (match pickL now l with | some k => (k : Int) | none => -1)) ∧ Below w.heap.size w w' := by
  refine sx_enter Tryd.func41 rfl Tryd.ntmps41 rfl rfl ?_
  repeat' (first | refine sc_seq ?_ | refine sc_region ?_ | refine sq_then ?_ | refine sc_block ?_ | refine sx_nil ?_ | (refine sx_box rfl rfl rfl rfl rfl rfl ?_; intro g) | ((refine' sx_v rfl ?_ rfl rfl ?_); rotate_left; first | exact vo_fun rfl rfl trivial rfl ⟨rfl, trivial⟩ | exact vo_un tok rfl rfl rfl rfl | exact vo_load tok 0 rfl rfl rfl rfl rfl | exact vo_len tok rfl rfl rfl rfl rfl rfl rfl) | refine sx_call rfl (callOp rfl rfl rfl rfl ⟨rfl, rfl, trivial⟩ rfl (by kernel_rfl)) (fun w hm => bound_any now 1099511627776 w) rfl rfl ?_ | refine sx_store tok 0 rfl rfl rfl rfl rfl rfl rfl rfl rfl rfl rfl rfl ?_)
  refine sc_loop (σ := Nat × Option (Nat × BV)) (fun p => p.1 ≤ l.length ∧ pickGo (clk now) l 0 none = pickGo (clk now) (l.drop p.1) p.1 p.2 ∧ ∀ k b, p.2 = some (k, b) → l[k]? = some b) (fun p => [(13, [], .int .i64 ((p.1 : Nat) : Int)), (12, [], .int .i64 ((l.length : Nat) : Int)), (6, [], .int .i64 (bestI p.2)), (5, [], .func (.func 59) ⟨[]⟩ ⟨[.pointer (some ⟨g, 0, none⟩)]⟩), (0, [], .slice x l.length cap)]) (fun _ => [.cl g 3 [.int .i64 (bndI now 1099511627776)]]) (fun p => l.length - p.1) (0, none) [true] ⟨Nat.zero_le _, rfl, fun _ _ h => by cases h⟩ ⟨rfl, rfl, rfl, rfl, rfl, trivial⟩ rfl ?_
  rintro ⟨j, best⟩ ⟨hj0, hr, hbest⟩
  dsimp only at hj0 hr hbest ⊢
  by_cases hj : j < l.length
  · skip
    obtain ⟨v, hv⟩ : ∃ v, l[j]? = some v := ⟨l[j], List.getElem?_eq_getElem hj⟩
    obtain ⟨bb, off, rfl, _, _, hrows⟩ := hR (by omega)
    have hrow : w.rangeAt bb (off + j * 6) [.string v.nm, .int .i64 v.ld, .int .i64 v.bs, .int .i64 v.wt, .int .i64 v.fl, .int .i64 v.ot] := hrows j v hv
    repeat' (first | refine sc_seq ?_ | refine sc_region ?_ | refine sq_then ?_ | refine sx_nil ?_ | ((refine' sx_v rfl ?_ rfl rfl ?_); rotate_left; exact vo_bin tok rfl rfl rfl rfl rfl rfl))
    refine sc_true rfl (by simp; omega) ?_
    cases best with
    | none =>
      rw [drop_at hv, pickGo_none] at hr
      repeat' (first | refine sc_seq ?_ | refine sc_region ?_ | refine sq_then ?_ | refine sc_skip ?_ | refine sc_block ?_ | refine sc_regionD follows_any rfl (by kernel_rfl) ?_ | refine sx_nil ?_ | refine sr_nil0 ?_ | ((first | refine' sx_v rfl ?_ rfl rfl ?_ | refine' sr_v rfl ?_ rfl rfl rfl ?_); rotate_left; first | exact vo_vac (.bool false) rfl | exact vo_un tok rfl rfl rfl rfl | exact vo_bin tok rfl rfl rfl rfl rfl rfl | exact vo_or rfl rfl rfl rfl rfl))
      refine sc_true rfl rfl ?_
      repeat' (first | refine sc_region ?_ | refine sq_then ?_ | refine sq_blk_normal ?_ | refine sx_nil ?_ | ((refine' sx_v rfl ?_ rfl rfl ?_); rotate_left; first | exact vo_add rfl rfl rfl rfl rfl (by omega) | exact vo_un tok rfl rfl rfl rfl))
      refine sq_again (j + 1, some (j, v)) [true] ⟨hj, hr, fun k b h => by obtain ⟨rfl, rfl⟩ := (by simpa using h : j = k ∧ v = b); exact hv⟩ (show l.length - (j + 1) < l.length - j by omega) ⟨rfl, rfl, rfl, rfl, rfl, trivial⟩ rfl
    | some kb =>
      obtain ⟨k, b⟩ := kb
      have hkb := hbest k b rfl
      have hk1 : k < l.length := (List.getElem?_eq_some_iff.1 hkb).1
      have hrow2 : w.rangeAt bb (off + k * 6) [.string b.nm, .int .i64 b.ld, .int .i64 b.bs, .int .i64 b.wt, .int .i64 b.fl, .int .i64 b.ot] := hrows k b hkb
      have hv1 := hok v (List.mem_of_getElem? hv)
      have hb1 := hok b (List.mem_of_getElem? hkb)
      rw [drop_at hv, pickGo_some] at hr
      have hgk : ∀ (m : Nat), decide ((m : Int) < 0) = false := fun m => by simp
      repeat' (first | refine sc_seq ?_ | refine sc_region ?_ | refine sq_then ?_ | refine sc_skip ?_ | refine sc_block ?_ | refine sc_regionD follows_any rfl (by kernel_rfl) ?_ | refine sx_nil ?_ | refine sr_nil0 ?_ | ((first | refine' sx_v rfl ?_ rfl rfl ?_ | refine' sr_v rfl ?_ rfl rfl rfl ?_); rotate_left; first | exact vo_ixa tok (m := 6) j rfl rfl rfl rfl rfl rfl rfl rfl (fun _ => rfl) (fun _ => hj) | exact vo_ixa tok (m := 6) k rfl rfl rfl rfl rfl rfl rfl rfl (fun _ => rfl) (fun _ => hk1) | exact vo_oldrowC tok rfl rfl rfl rfl rfl (fun _ => hrow) | exact vo_oldrowC tok rfl rfl rfl rfl rfl (fun _ => hrow2) | exact vo_un tok rfl rfl rfl rfl | exact vo_bin tok rfl rfl rfl rfl rfl rfl | exact vo_or rfl rfl rfl rfl rfl) | refine sr_call rfl (callOp rfl rfl rfl rfl ⟨rfl, rfl, trivial⟩ rfl (by kernel_rfl)) rfl (fun w hm => bef_any v b (clk now) g w hv1 hb1 (mem_cell 0 hm rfl)) rfl rfl ?_)
      by_cases hb : befL (clk now) v b = true
      · rw [if_pos hb] at hr
        refine sc_true rfl (by rw [hb]; simp) ?_
        repeat' (first | refine sc_region ?_ | refine sq_then ?_ | refine sq_blk_normal ?_ | refine sx_nil ?_ | ((refine' sx_v rfl ?_ rfl rfl ?_); rotate_left; first | exact vo_add rfl rfl rfl rfl rfl (by omega) | exact vo_un tok rfl rfl rfl rfl))
        refine sq_again (j + 1, some (j, v)) [true] ⟨hj, hr, fun k b h => by obtain ⟨rfl, rfl⟩ := (by simpa using h : j = k ∧ v = b); exact hv⟩ (show l.length - (j + 1) < l.length - j by omega) ⟨rfl, rfl, rfl, rfl, rfl, trivial⟩ rfl
      · rw [if_neg hb] at hr
        refine sc_false rfl (by rw [eq_false_of_ne_true hb]; simp only [bestI, Bool.or_false]; exact hgk k) ?_
        repeat' (first | refine sc_region ?_ | refine sq_then ?_ | refine sc_skip ?_ | refine sq_blk_normal ?_ | refine sx_nil ?_ | ((refine' sx_v rfl ?_ rfl rfl ?_); rotate_left; first | exact vo_add rfl rfl rfl rfl rfl (by omega) | exact vo_un tok rfl rfl rfl rfl))
        refine sq_again (j + 1, some (k, b)) [true] ⟨hj, hr, hbest⟩ (show l.length - (j + 1) < l.length - j by omega) ⟨rfl, rfl, rfl, rfl, rfl, trivial⟩ rfl
  · rw [List.drop_eq_nil_of_le (by omega)] at hr
    repeat' (first | refine sc_seq ?_ | refine sc_region ?_ | refine sq_then ?_ | refine sx_nil ?_ | ((refine' sx_v rfl ?_ rfl rfl ?_); rotate_left; exact vo_bin tok rfl rfl rfl rfl rfl rfl))
    refine sc_false rfl (by simp; omega) ?_
    repeat' (first | refine sc_seq ?_ | refine sc_region ?_ | refine sq_then ?_ | refine sc_ret ?_ | refine sc_exit ?_ | refine sq_pass_exit ?_ | refine sq_blk_hit ?_ | refine sx_nil ?_ | ((refine' sx_v rfl ?_ rfl rfl ?_); rotate_left; exact vo_un tok rfl rfl rfl rfl))
    refine sq_ret tok (fun _ => 0) rfl rfl trivial rfl fun w hm => ⟨?_, hm.below⟩
    refine ret_i64B ?_
    unfold pickL
    rw [hr]
    cases best with
    | none => rfl
    | some kb => rfl
theorem set_at {l : List BV} {k : Nat} {v : BV} (h : l[k]? = some v) (u : BV) : (l.set k u)[k]? = some u := by
  rw [List.getElem?_set_self]
  exact (List.getElem?_eq_some_iff.1 h).1
set_option maxRecDepth 100000 in
set_option maxHeartbeats 8000000 in
theorem begC_any {w0 : World} {M : List Ent} (g cap : Nat) (l : List BV) (k : Nat) (v : BV) (hk : l[k]? = some v) (hv : bOk v = true) (w : World) (hM : Mem w0 w (.own (some ⟨g, 0, none⟩) cap 66 6 l.length ((l).flatMap bC) :: M)) : Calls Tryd.prog 61 #[.pointer (some ⟨g, 0 + k * 6, none⟩)] w fun e w' => ∃ u, True ∧ e = .returned u ∧ Mem w0 w' (.own (some ⟨g, 0, none⟩) cap 66 6 l.length ((modB begB l k).flatMap bC) :: M) := by
  rw [Nat.zero_add]
  refine sx_enterM hM Tryd.func61 rfl Tryd.ntmps61 rfl rfl ?_
  have hr := bOk_rng hv
  rw [modB_set begB l k v hk]
  obtain ⟨r, hb⟩ : ∃ r, bndI (v.bs + 1) 1000000 = r := ⟨_, rfl⟩
  repeat' (first | refine sc_region ?_ | ((refine' sx_v rfl ?_ rfl rfl ?_); rotate_left; first | exact vo_ocell tok 0 rfl rfl rfl rfl rfl rfl (fun _ => flat_get bC_len hk (k := 2) rfl) | exact vo_add rfl rfl rfl rfl rfl (by omega) | exact vo_un tok rfl rfl rfl rfl) | refine sx_call rfl (callOp rfl rfl rfl rfl ⟨rfl, rfl, trivial⟩ rfl (by kernel_rfl)) (fun w hm => bndE _ _ _ hb w) rfl rfl ?_)
  refine sx_ostore tok 0 rfl rfl rfl rfl rfl rfl rfl rfl rfl (flat_set bC_len (l) k 2 (v) (begB v) _ hk (by rw [← hb]; rfl)) rfl rfl ?_
  repeat' (refine sx_nil ?_)
  refine sq_end tok (fun _ => 0) rfl rfl trivial rfl fun w1 hm => ⟨_, trivial, rfl, hm⟩
theorem add53 (n e : Int) (h1 : 0 ≤ n) (h2 : n ≤ 1099511627776) (h3 : 0 ≤ e) (h4 : e ≤ 64000) : IntKind.i64.wrap (n + e) = n + e := IntWalk.i64_in _ ⟨by omega, by omega⟩
theorem shl53 (f : Int) (h : 3 ≤ f) : IntKind.i64.wrap (1000 * 2 ^ (min (if 6 < f - 3 then 6 else f - 3).toNat IntKind.i64.bits)) = 1000 * 2 ^ (min (f - 3) 6).toNat := by
  have h1 : (if 6 < f - 3 then 6 else f - 3) = min (f - 3) 6 := by split <;> omega
  have h2 : (min (f - 3) 6).toNat = 0 ∨ (min (f - 3) 6).toNat = 1 ∨ (min (f - 3) 6).toNat = 2 ∨ (min (f - 3) 6).toNat = 3 ∨ (min (f - 3) 6).toNat = 4 ∨ (min (f - 3) 6).toNat = 5 ∨ (min (f - 3) 6).toNat = 6 := by omega
  rw [h1]
  rcases h2 with h | h | h | h | h | h | h <;> rw [h] <;> decide
theorem shl53_le (f : Int) : (0 : Int) ≤ 1000 * 2 ^ (min (f - 3) 6).toNat ∧ (1000 : Int) * 2 ^ (min (f - 3) 6).toNat ≤ 64000 := by
  have h2 : (min (f - 3) 6).toNat = 0 ∨ (min (f - 3) 6).toNat = 1 ∨ (min (f - 3) 6).toNat = 2 ∨ (min (f - 3) 6).toNat = 3 ∨ (min (f - 3) 6).toNat = 4 ∨ (min (f - 3) 6).toNat = 5 ∨ (min (f - 3) 6).toNat = 6 := by omega
  rcases h2 with h | h | h | h | h | h | h <;> rw [h] <;> decide
set_option maxRecDepth 100000 in
set_option maxHeartbeats 8000000 in
theorem endC_any {w0 : World} {M : List Ent} (g cap : Nat) (l : List BV) (k : Nat) (v : BV) (hk : l[k]? = some v) (hv : bOk v = true) (gc gn : Nat) (code now : Int) (w : World) (hcc : w0.cell? ⟨gc, 0, none⟩ = some (.int .i64 code)) (hcn : w0.cell? ⟨gn, 0, none⟩ = some (.int .i64 now)) (hnow : now = clk now) (hM : Mem w0 w (.own (some ⟨g, 0, none⟩) cap 66 6 l.length ((l).flatMap bC) :: M)) : Calls Tryd.prog 67 #[.pointer (some ⟨g, 0 + k * 6, none⟩), .pointer (some ⟨gc, 0, none⟩), .pointer (some ⟨gn, 0, none⟩)] w fun e w' => ∃ u, True ∧ e = .returned u ∧ Mem w0 w' (.own (some ⟨g, 0, none⟩) cap 66 6 l.length ((modB (endB code now) l k).flatMap bC) :: M) := by
  rw [Nat.zero_add]
  refine sx_enterM hM Tryd.func67 rfl Tryd.ntmps67 rfl rfl ?_
  have hr := bOk_rng hv
  rw [modB_set (endB code now) l k v hk]
  obtain ⟨r, hb⟩ : ∃ r, bndI (v.bs - 1) 1000000 = r := ⟨_, rfl⟩
  obtain ⟨f, hf⟩ : ∃ r, bndI (v.fl + 1) 1000000 = r := ⟨_, rfl⟩
  have hk1 := set_at hk { v with bs := r }
  have hk2 := set_at hk1 { v with bs := r, fl := f }
  have hnr : 0 ≤ now ∧ now ≤ 1099511627776 := by unfold clk bndI at hnow; omega
  have hp := shl53_le f
  have hfr : f ≤ 1000000 := by unfold bndI at hf; omega
  repeat' (first | refine sc_seq ?_ | refine sc_region ?_ | ((refine' sx_v rfl ?_ rfl rfl ?_); rotate_left; first | exact vo_ocell tok 0 rfl rfl rfl rfl rfl rfl (fun _ => flat_get bC_len hk (k := 2) rfl) | exact vo_sub rfl rfl rfl rfl rfl (by omega) | exact vo_un tok rfl rfl rfl rfl) | refine sx_call rfl (callOp rfl rfl rfl rfl ⟨rfl, rfl, trivial⟩ rfl (by kernel_rfl)) (fun w hm => bndE _ _ _ hb w) rfl rfl ?_)
  refine sx_ostore tok 0 rfl rfl rfl rfl rfl rfl rfl rfl rfl (flat_set bC_len (l) k 2 (v) ({ v with bs := r }) _ hk rfl) rfl rfl ?_
  repeat' (first | refine sc_seq ?_ | refine sc_region ?_ | refine sq_then ?_ | refine sc_block ?_ | refine sx_nil ?_ | ((refine' sx_v rfl ?_ rfl rfl ?_); rotate_left; first | exact vo_oldC tok rfl rfl rfl rfl rfl (fun _ => hcc) | exact vo_un tok rfl rfl rfl rfl | exact vo_bin tok rfl rfl rfl rfl rfl rfl))
  by_cases hfc : failC code = true
  · have he : endB code now v = if 3 ≤ f then { v with bs := r, fl := f, ot := now + 1000 * 2 ^ (min (f - 3) 6).toNat } else { v with bs := r, fl := f } := by
      unfold endB; simp only [hb, hf, hfc, if_true, ← hnow]
    rw [he]
    have hcs : code = 12 ∨ code = 11 ∨ code = 13 ∨ code = 3 := by unfold failC at hfc; simp at hfc; omega
    clear hfc he
    by_cases hf3 : 3 ≤ f
    · rw [if_pos hf3]
      rcases hcs with rfl | rfl | rfl | rfl
      all_goals
        repeat' (first | refine sc_seq ?_ | refine sc_region ?_ | refine sq_then ?_ | refine sc_skip ?_ | refine sx_nil ?_ | ((refine' sx_v rfl ?_ rfl rfl ?_); rotate_left; first | exact vo_ocell tok 0 (v := .int .i64 v.fl) rfl rfl rfl rfl rfl rfl (fun _ => flat_get bC_len hk1 (k := 4) rfl) | exact vo_add rfl rfl rfl rfl rfl (by omega) | exact vo_un tok rfl rfl rfl rfl | exact vo_bin tok rfl rfl rfl rfl rfl rfl) | refine sx_call rfl (callOp rfl rfl rfl rfl ⟨rfl, rfl, trivial⟩ rfl (by kernel_rfl)) (fun w hm => bndE _ _ _ hf w) rfl rfl ?_ | (first | refine sc_true rfl rfl ?_ | refine sc_false rfl rfl ?_))
        refine sx_ostore tok 0 rfl rfl rfl rfl rfl rfl rfl rfl rfl (flat_set bC_len (l.set k { v with bs := r }) k 4 ({ v with bs := r }) ({ v with bs := r, fl := f }) _ hk1 rfl) rfl rfl ?_
        repeat' (first | refine sc_seq ?_ | refine sc_region ?_ | refine sq_then ?_ | refine sx_nil ?_ | ((refine' sx_v rfl ?_ rfl rfl ?_); rotate_left; first | exact vo_ocell tok 0 (v := .int .i64 f) rfl rfl rfl rfl rfl rfl (fun _ => flat_get bC_len hk2 (k := 4) rfl) | exact vo_un tok rfl rfl rfl rfl | exact vo_bin tok rfl rfl rfl rfl rfl rfl))
        refine sc_true rfl (by simpa using hf3) ?_
        repeat' (first | refine sc_seq ?_ | refine sc_region ?_ | refine sq_then ?_ | refine sc_ret ?_ | refine sc_skip ?_ | refine sc_block ?_ | refine sc_exit ?_ | refine sq_pass_ret ?_ | refine sq_pass_exit ?_ | refine sq_blk_normal ?_ | refine sq_blk_ret ?_ | refine sq_blk_hit ?_ | refine sq_blk_miss rfl ?_ | refine sc_regionD follows_any rfl (by kernel_rfl) ?_ | refine sx_nil ?_ | refine sr_nil0 ?_ | (refine sr_nil1 ?_; intro g) | ((first | refine' sx_v rfl ?_ rfl rfl ?_ | refine' sr_v rfl ?_ rfl rfl rfl ?_); rotate_left; first | exact vo_ocell tok 0 (v := .int .i64 f) rfl rfl rfl rfl rfl rfl (fun _ => flat_get bC_len hk2 (k := 4) rfl) | exact vo_oldC tok rfl rfl rfl rfl rfl (fun _ => hcn) | exact vo_sub rfl rfl rfl rfl rfl (by omega) | exact vo_is (v := .int .i64 (1000 * 2 ^ (min (f - 3) 6).toNat)) (vo_shn rfl rfl rfl rfl rfl rfl (fun _ => by split <;> omega)) (congrArg (Value.int .i64) (shl53 f hf3)) | exact vo_is (v := .int .i64 (now + 1000 * 2 ^ (min (f - 3) 6).toNat)) (vo_bin tok rfl rfl rfl rfl rfl rfl) (congrArg (Value.int .i64) (add53 now _ hnr.1 hnr.2 hp.1 hp.2)) | exact vo_un tok rfl rfl rfl rfl | exact vo_bin tok rfl rfl rfl rfl rfl rfl | exact vo_or rfl rfl rfl rfl rfl | exact vo_and rfl rfl rfl rfl rfl | exact vo_load tok 0 rfl rfl rfl rfl rfl | exact vo_load tok 1 rfl rfl rfl rfl rfl | exact vo_load tok 2 rfl rfl rfl rfl rfl | exact vo_len tok rfl rfl rfl rfl rfl rfl rfl | exact vo_min rfl rfl rfl rfl rfl | exact vo_build tok rfl rfl trivial rfl rfl rfl | exact vo_build tok rfl rfl ⟨rfl, trivial⟩ rfl rfl rfl | exact vo_build tok rfl rfl ⟨rfl, rfl, trivial⟩ rfl rfl rfl | exact vo_build tok rfl rfl ⟨rfl, rfl, rfl, trivial⟩ rfl rfl rfl | exact vo_build tok rfl rfl ⟨rfl, rfl, rfl, rfl, trivial⟩ rfl rfl rfl | exact vo_build tok rfl rfl ⟨rfl, rfl, rfl, rfl, rfl, trivial⟩ rfl rfl rfl) | (refine sx_box rfl rfl rfl rfl rfl rfl ?_; intro g) | (refine sx_alloc tok rfl rfl rfl rfl rfl rfl ?_; intro g) | refine sx_store tok 0 rfl rfl rfl rfl rfl rfl rfl rfl rfl rfl rfl rfl ?_ | refine sx_store tok 1 rfl rfl rfl rfl rfl rfl rfl rfl rfl rfl rfl rfl ?_ | refine sx_store tok 2 rfl rfl rfl rfl rfl rfl rfl rfl rfl rfl rfl rfl ?_)
        refine sx_ostore tok 0 rfl rfl rfl rfl rfl rfl rfl rfl rfl (flat_set bC_len ((l.set k { v with bs := r }).set k { v with bs := r, fl := f }) k 5 ({ v with bs := r, fl := f }) ({ v with bs := r, fl := f, ot := now + 1000 * 2 ^ (min (f - 3) 6).toNat }) _ hk2 rfl) rfl rfl ?_
        repeat' (first | refine sq_blk_normal ?_ | refine sx_nil ?_)
        refine sq_end tok (fun _ => 0) rfl rfl trivial rfl fun w1 hm => ⟨_, trivial, rfl, ?_⟩
        rw [List.set_set, List.set_set] at hm
        exact hm
    · rw [if_neg hf3]
      rcases hcs with rfl | rfl | rfl | rfl
      all_goals
        repeat' (first | refine sc_seq ?_ | refine sc_region ?_ | refine sq_then ?_ | refine sc_skip ?_ | refine sx_nil ?_ | ((refine' sx_v rfl ?_ rfl rfl ?_); rotate_left; first | exact vo_ocell tok 0 (v := .int .i64 v.fl) rfl rfl rfl rfl rfl rfl (fun _ => flat_get bC_len hk1 (k := 4) rfl) | exact vo_add rfl rfl rfl rfl rfl (by omega) | exact vo_un tok rfl rfl rfl rfl | exact vo_bin tok rfl rfl rfl rfl rfl rfl) | refine sx_call rfl (callOp rfl rfl rfl rfl ⟨rfl, rfl, trivial⟩ rfl (by kernel_rfl)) (fun w hm => bndE _ _ _ hf w) rfl rfl ?_ | (first | refine sc_true rfl rfl ?_ | refine sc_false rfl rfl ?_))
        refine sx_ostore tok 0 rfl rfl rfl rfl rfl rfl rfl rfl rfl (flat_set bC_len (l.set k { v with bs := r }) k 4 ({ v with bs := r }) ({ v with bs := r, fl := f }) _ hk1 rfl) rfl rfl ?_
        repeat' (first | refine sc_seq ?_ | refine sc_region ?_ | refine sq_then ?_ | refine sx_nil ?_ | ((refine' sx_v rfl ?_ rfl rfl ?_); rotate_left; first | exact vo_ocell tok 0 (v := .int .i64 f) rfl rfl rfl rfl rfl rfl (fun _ => flat_get bC_len hk2 (k := 4) rfl) | exact vo_un tok rfl rfl rfl rfl | exact vo_bin tok rfl rfl rfl rfl rfl rfl))
        refine sc_false rfl (by simpa using hf3) ?_
        repeat' (first | refine sc_skip ?_ | refine sq_blk_normal ?_)
        refine sq_end tok (fun _ => 0) rfl rfl trivial rfl fun w1 hm => ⟨_, trivial, rfl, ?_⟩
        rw [List.set_set] at hm
        exact hm
  · have hcs : code ≠ 12 ∧ code ≠ 11 ∧ code ≠ 13 ∧ code ≠ 3 := by unfold failC at hfc; simp at hfc; omega
    obtain ⟨hc1, hc2, hc3, hc4⟩ := hcs
    have he : endB code now v = if code = 0 then { v with bs := r, fl := 0 } else { v with bs := r } := by
      unfold endB; simp only [hb, hfc, Bool.false_eq_true, if_false]
    rw [he]
    clear hfc he
    by_cases h0 : code = 0
    · subst h0
      rw [if_pos rfl]
      repeat' (first | refine sc_seq ?_ | refine sc_region ?_ | refine sq_then ?_ | refine sx_nil ?_ | ((refine' sx_v rfl ?_ rfl rfl ?_); rotate_left; first | exact vo_un tok rfl rfl rfl rfl | exact vo_bin tok rfl rfl rfl rfl rfl rfl) | (first | refine sc_true rfl rfl ?_ | refine sc_false rfl rfl ?_))
      refine sx_ostore tok 0 rfl rfl rfl rfl rfl rfl rfl rfl rfl (flat_set bC_len (l.set k { v with bs := r }) k 4 ({ v with bs := r }) ({ v with bs := r, fl := 0 }) _ hk1 rfl) rfl rfl ?_
      repeat' (first | refine sq_blk_normal ?_ | refine sx_nil ?_)
      refine sq_end tok (fun _ => 0) rfl rfl trivial rfl fun w1 hm => ⟨_, trivial, rfl, ?_⟩
      rw [List.set_set] at hm
      exact hm
    · rw [if_neg h0]
      repeat' (first | refine sc_seq ?_ | refine sc_region ?_ | refine sq_then ?_ | refine sc_skip ?_ | refine sq_blk_normal ?_ | refine sx_nil ?_ | ((refine' sx_v rfl ?_ rfl rfl ?_); rotate_left; first | exact vo_un tok rfl rfl rfl rfl | exact vo_bin tok rfl rfl rfl rfl rfl rfl) | (refine sc_false rfl (by simp; omega) ?_))
      refine sq_end tok (fun _ => 0) rfl rfl trivial rfl fun w1 hm => ⟨_, trivial, rfl, ?_⟩
      exact hm
set_option maxRecDepth 100000 in
set_option maxHeartbeats 8000000 in
theorem chgBeg_any {A : Nat → Prop} (x : Option Addr) (l : List BV) (cap : Nat) (k : Nat) (v : BV) (w : World) (hR : Rws A w 6 bC x l) (hlen : l.length ≤ 2513169434916) (hk : l[k]? = some v) (hv : bOk v = true) : Calls Tryd.prog 60 #[.slice x l.length cap, .int .i64 ((k : Nat) : Int), .func (.func 61) ⟨[]⟩ ⟨[]⟩] w fun e w' => ∃ p : Option Addr × Nat, True ∧ e = .returned (.slice p.1 l.length p.2) ∧ Made w w' [.own p.1 p.2 66 6 l.length ((modB begB l k).flatMap bC)] := by
  refine sx_enter Tryd.func60 rfl Tryd.ntmps60 rfl rfl ?_
  have hkl : k < l.length := (List.getElem?_eq_some_iff.1 hk).1
  repeat' (first | refine sc_seq ?_ | refine sc_region ?_ | refine sq_then ?_ | refine sx_nil ?_ | ((refine' sx_v rfl ?_ rfl rfl ?_); rotate_left; exact vo_un tok rfl rfl rfl rfl))
  refine sx_callM (σ := Option Addr × Nat) (fun _ => True) (fun p => .slice p.1 l.length p.2) (fun p => [.own p.1 p.2 66 6 l.length ((l).flatMap bC)]) rfl (callOp rfl rfl rfl rfl ⟨rfl, trivial⟩ rfl (by kernel_rfl)) (fun w1 hm => cloneBackR x l cap w1 (hR.below hm.below) (by omega)) rfl rfl ?_
  rintro ⟨pa, pc⟩ -
  dsimp only [List.cons_append, List.nil_append]
  repeat' (first | refine sc_seq ?_ | refine sc_region ?_ | refine sq_then ?_ | refine sx_nil ?_ | ((refine' sx_v rfl ?_ rfl rfl ?_); rotate_left; first | exact vo_un tok rfl rfl rfl rfl | exact vo_bin tok rfl rfl rfl rfl rfl rfl | exact vo_and rfl rfl rfl rfl rfl | exact vo_len tok rfl rfl rfl rfl rfl rfl rfl))
  refine sc_true rfl (by simp; omega) ?_
  refine sc_own 0 rfl (by omega) ?_
  rintro g2 rfl
  repeat' (first | refine sc_region ?_ | ((refine' sx_v rfl ?_ rfl rfl ?_); rotate_left; first | exact vo_ixa tok (m := 6) k rfl rfl rfl rfl rfl rfl rfl rfl (fun _ => rfl) (fun _ => hkl) | exact vo_un tok rfl rfl rfl rfl))
  refine sx_callE (σ := Value) (fun _ => True) (fun u => u) (fun _ => [.own (some ⟨g2, 0, none⟩) pc 66 6 l.length ((modB begB l k).flatMap bC)]) rfl (callOp rfl rfl rfl rfl ⟨rfl, trivial⟩ rfl (by kernel_rfl)) (fun w hM => begC_any g2 pc l k v hk hv w hM) rfl rfl ?_
  intro u _
  repeat' (first | refine sc_seq ?_ | refine sc_region ?_ | refine sq_then ?_ | refine sc_ret ?_ | refine sx_nil ?_ | ((refine' sx_v rfl ?_ rfl rfl ?_); rotate_left; exact vo_un tok rfl rfl rfl rfl))
  refine sq_ret tok (fun _ => 0) rfl rfl trivial rfl fun w1 hm => ⟨(some ⟨g2, 0, none⟩, pc), trivial, rfl, Made.of hm (fun e he F p hep => by
    have he' := List.mem_singleton.1 he
    rw [hep] at he'; cases he')⟩
set_option maxRecDepth 100000 in
set_option maxHeartbeats 8000000 in
theorem chgEnd_any {A : Nat → Prop} (x : Option Addr) (l : List BV) (cap : Nat) (k : Nat) (v : BV) (gc gn : Nat) (code now : Int) (w : World) (hR : Rws A w 6 bC x l) (hlen : l.length ≤ 2513169434916) (hk : l[k]? = some v) (hv : bOk v = true) (hcc : w.cell? ⟨gc, 0, none⟩ = some (.int .i64 code)) (hcn : w.cell? ⟨gn, 0, none⟩ = some (.int .i64 now)) (hnow : now = clk now) : Calls Tryd.prog 60 #[.slice x l.length cap, .int .i64 ((k : Nat) : Int), .func (.func 67) ⟨[]⟩ ⟨[.pointer (some ⟨gc, 0, none⟩), .pointer (some ⟨gn, 0, none⟩)]⟩] w fun e w' => ∃ p : Option Addr × Nat, True ∧ e = .returned (.slice p.1 l.length p.2) ∧ Made w w' [.own p.1 p.2 66 6 l.length ((modB (endB code now) l k).flatMap bC)] := by
  refine sx_enter Tryd.func60 rfl Tryd.ntmps60 rfl rfl ?_
  have hkl : k < l.length := (List.getElem?_eq_some_iff.1 hk).1
  repeat' (first | refine sc_seq ?_ | refine sc_region ?_ | refine sq_then ?_ | refine sx_nil ?_ | ((refine' sx_v rfl ?_ rfl rfl ?_); rotate_left; exact vo_un tok rfl rfl rfl rfl))
  refine sx_callM (σ := Option Addr × Nat) (fun _ => True) (fun p => .slice p.1 l.length p.2) (fun p => [.own p.1 p.2 66 6 l.length ((l).flatMap bC)]) rfl (callOp rfl rfl rfl rfl ⟨rfl, trivial⟩ rfl (by kernel_rfl)) (fun w1 hm => cloneBackR x l cap w1 (hR.below hm.below) (by omega)) rfl rfl ?_
  rintro ⟨pa, pc⟩ -
  dsimp only [List.cons_append, List.nil_append]
  repeat' (first | refine sc_seq ?_ | refine sc_region ?_ | refine sq_then ?_ | refine sx_nil ?_ | ((refine' sx_v rfl ?_ rfl rfl ?_); rotate_left; first | exact vo_un tok rfl rfl rfl rfl | exact vo_bin tok rfl rfl rfl rfl rfl rfl | exact vo_and rfl rfl rfl rfl rfl | exact vo_len tok rfl rfl rfl rfl rfl rfl rfl))
  refine sc_true rfl (by simp; omega) ?_
  refine sc_own 0 rfl (by omega) ?_
  rintro g2 rfl
  repeat' (first | refine sc_region ?_ | ((refine' sx_v rfl ?_ rfl rfl ?_); rotate_left; first | exact vo_ixa tok (m := 6) k rfl rfl rfl rfl rfl rfl rfl rfl (fun _ => rfl) (fun _ => hkl) | exact vo_un tok rfl rfl rfl rfl))
  refine sx_callE (σ := Value) (fun _ => True) (fun u => u) (fun _ => [.own (some ⟨g2, 0, none⟩) pc 66 6 l.length ((modB (endB code now) l k).flatMap bC)]) rfl (callOp rfl rfl rfl rfl ⟨rfl, trivial⟩ rfl (by kernel_rfl)) (fun w hM => endC_any g2 pc l k v hk hv gc gn code now w hcc hcn hnow hM) rfl rfl ?_
  intro u _
  repeat' (first | refine sc_seq ?_ | refine sc_region ?_ | refine sq_then ?_ | refine sc_ret ?_ | refine sx_nil ?_ | ((refine' sx_v rfl ?_ rfl rfl ?_); rotate_left; exact vo_un tok rfl rfl rfl rfl))
  refine sq_ret tok (fun _ => 0) rfl rfl trivial rfl fun w1 hm => ⟨(some ⟨g2, 0, none⟩, pc), trivial, rfl, Made.of hm (fun e he F p hep => by
    have he' := List.mem_singleton.1 he
    rw [hep] at he'; cases he')⟩
set_option maxRecDepth 100000 in
set_option maxHeartbeats 8000000 in
theorem begL_any {A : Nat → Prop} (x : Option Addr) (l : List BV) (cap : Nat) (k : Nat) (v : BV) (w : World) (hR : Rws A w 6 bC x l) (hlen : l.length ≤ 2513169434916) (hk : l[k]? = some v) (hv : bOk v = true) : Calls Tryd.prog 42 #[.slice x l.length cap, .int .i64 ((k : Nat) : Int)] w fun e w' => ∃ p : Option Addr × Nat, True ∧ e = .returned (.slice p.1 l.length p.2) ∧ Made w w' [.own p.1 p.2 66 6 l.length ((modB begB l k).flatMap bC)] := by
  refine sx_enter Tryd.func42 rfl Tryd.ntmps42 rfl rfl ?_
  repeat' (first | refine sc_seq ?_ | refine sc_region ?_ | refine sq_then ?_ | refine sx_nil ?_ | ((refine' sx_v rfl ?_ rfl rfl ?_); rotate_left; exact vo_un tok rfl rfl rfl rfl))
  refine sx_callM (σ := Option Addr × Nat) (fun _ => True) (fun p => .slice p.1 l.length p.2) (fun p => [.own p.1 p.2 66 6 l.length ((modB begB l k).flatMap bC)]) rfl (callOp rfl rfl rfl rfl ⟨rfl, rfl, rfl, trivial⟩ rfl (by kernel_rfl)) (fun w1 hm => chgBeg_any x l cap k v w1 (hR.below hm.below) hlen hk hv) rfl rfl ?_
  rintro ⟨pa, pc⟩ -
  repeat' (first | refine sq_then ?_ | refine sc_ret ?_ | refine sx_nil ?_ | ((refine' sx_v rfl ?_ rfl rfl ?_); rotate_left; exact vo_un tok rfl rfl rfl rfl))
  refine sq_ret tok (fun _ => 0) rfl rfl trivial rfl fun w1 hm => ⟨(pa, pc), trivial, rfl, Made.of hm (fun e he F p hep => by
    have he' := List.mem_singleton.1 he
    rw [hep] at he'; cases he')⟩
set_option maxRecDepth 100000 in
set_option maxHeartbeats 8000000 in
theorem endL_any {A : Nat → Prop} (x : Option Addr) (l : List BV) (cap : Nat) (k : Nat) (v : BV) (code now : Int) (w : World) (hR : Rws A w 6 bC x l) (hlen : l.length ≤ 2513169434916) (hk : l[k]? = some v) (hv : bOk v = true) : Calls Tryd.prog 53 #[.slice x l.length cap, .int .i64 ((k : Nat) : Int), .int .i64 code, .int .i64 now] w fun e w' => ∃ p : Option Addr × Nat, True ∧ e = .returned (.slice p.1 l.length p.2) ∧ Made w w' [.own p.1 p.2 66 6 l.length ((modB (endB code (clk now)) l k).flatMap bC)] := by
  have hck : clk now = clk (clk now) := by unfold clk bndI; omega
  refine sx_enter Tryd.func53 rfl Tryd.ntmps53 rfl rfl ?_
  refine sc_seq ?_
  refine sc_region ?_
  (refine sx_box rfl rfl rfl rfl rfl rfl ?_; intro gc)
  (refine sx_box rfl rfl rfl rfl rfl rfl ?_; intro gn)
  repeat' (first | refine sc_seq ?_ | refine sc_region ?_ | refine sq_then ?_ | refine sx_nil ?_ | ((refine' sx_v rfl ?_ rfl rfl ?_); rotate_left; first | exact vo_fun rfl rfl trivial rfl ⟨rfl, rfl, trivial⟩ | exact vo_un tok rfl rfl rfl rfl | exact vo_load tok 0 rfl rfl rfl rfl rfl) | refine sx_call rfl (callOp rfl rfl rfl rfl ⟨rfl, rfl, trivial⟩ rfl (by kernel_rfl)) (fun w hm => bound_any now 1099511627776 w) rfl rfl ?_ | refine sx_store tok 0 rfl rfl rfl rfl rfl rfl rfl rfl rfl rfl rfl rfl ?_)
  refine sx_callM (σ := Option Addr × Nat) (fun _ => True) (fun p => .slice p.1 l.length p.2) (fun p => [.own p.1 p.2 66 6 l.length ((modB (endB code (clk now)) l k).flatMap bC)]) rfl (callOp rfl rfl rfl rfl ⟨rfl, rfl, rfl, trivial⟩ rfl (by kernel_rfl)) (fun w1 hm => chgEnd_any x l cap k v gc gn code (clk now) w1 (hR.below hm.below) hlen hk hv (mem_cell 1 hm rfl) (mem_cell 0 hm rfl) hck) rfl rfl ?_
  rintro ⟨pa, pc⟩ -
  repeat' (first | refine sq_then ?_ | refine sc_ret ?_ | refine sx_nil ?_ | ((refine' sx_v rfl ?_ rfl rfl ?_); rotate_left; exact vo_un tok rfl rfl rfl rfl))
  refine sq_ret tok (fun _ => 0) rfl rfl trivial rfl fun w1 hm => ⟨(pa, pc), trivial, rfl, Made.of (hm.mask [true, false, false] rfl) (fun e he F p hep => by
    have he' := List.mem_singleton.1 he
    rw [hep] at he'; cases he')⟩
end Go.Proofs.YtmdkfbmpenohiaaDoor.Y
