/- The law ScalarRoundTrips. -/
import Derived.Test.YtihpeophmijaaaaDoorScPar
import Derived.Test.YtihpeophmijaaaaDoorRnd
namespace Go.Proofs.YtihpeophmijaaaaDoor.Y
open Go.RowKit
theorem sq_absurd {Q : Exit → Act → World → Prop} {e : Exit} {n : Nat} {w0 : World} {S : Sts} {M : List Ent} (h : False) : SQ Q e n w0 S M := h.elim
theorem textI_any (k b : Int) (u : Nat) (t : ByteArray) (la pa sa ra : Option Addr) (ln lc pn pc sn sc rn rc : Nat) (w : World) (hb : b = (u : Int)) (hn : ln ≤ 2305843009213693951 ∧ pn ≤ 2305843009213693951 ∧ sn ≤ 2305843009213693951 ∧ rn ≤ 2305843009213693951) (hu : u < 18446744073709551616) (ht : t.size ≤ 4611686018427387900) (hg : Gs w) : Calls Tryd.prog 15 #[.agg #[.int .i64 k, .int .u64 b, .string t, .slice la ln lc, .slice pa pn pc, .slice sa sn sc, .slice ra rn rc]] w fun e w' => e = .returned (.string ⟨(fullS k u t (ln + pn + sn + rn)).toArray⟩) ∧ Below w.heap.size w w' := by
  subst hb; exact text_any k u t la pa sa ra ln lc pn pc sn sc rn rc w hn hu ht hg
theorem full_size (k : Int) (u : Nat) (t : ByteArray) (n : Nat) (hu : u < 18446744073709551616) : (⟨(fullS k u t n).toArray⟩ : ByteArray).size ≤ 35184372088800 := by
  rw [lsize]
  unfold fullS
  split
  · rename_i hf
    have h4 := fits_size hf
    have q1 := quoteL_len t
    have q2 := quoteL_len ⟨(hexL t.data.toList).toArray⟩
    rw [lsize, hexL_len, len_bytes] at q2
    have d1 := nDig_le u hu
    have hx := H.hx_len 16 u []
    rw [← H.textL_hx u hu, List.length_nil] at hx
    have r := toI (u : Int) (by omega)
    have i1 : (Lib.itoa (IntKind.i64.wrap u)).length ≤ 21 := by
      unfold Lib.itoa
      split
      · have := nDig_le (IntKind.i64.wrap (u : Int)).natAbs (by rw [r]; split <;> omega)
        rw [List.length_cons]; omega
      · have := nDig_le (IntKind.i64.wrap (u : Int)).toNat (by rw [r]; split <;> omega)
        omega
    have b1 : (doubleL u).length ≤ 18 := by
      unfold doubleL
      (repeat' split) <;> first | decide | (rw [List.length_append, hx]; decide)
    unfold textS
    (repeat' split) <;> first
      | (show 4 ≤ _; omega)
      | (show 5 ≤ _; omega)
      | omega
      | (rw [List.length_append]; show 1 + _ ≤ _; omega)
  · exact Nat.zero_le _
def PVok (p : PV) : Prop := p.e = 0 ∨ (p.k = 0 ∧ p.b = 0 ∧ p.t = ⟨#[]⟩)
theorem pvok_ite {c : Prop} [Decidable c] {a b : PV} (ha : PVok a) (hb : PVok b) : PVok (if c then a else b) := by split <;> assumption
theorem pvok_err (x : Int) : PVok (PV.err x) := .inr ⟨rfl, rfl, rfl⟩
theorem pvok_ok (k : Int) (b : Nat) (t : ByteArray) : PVok ⟨k, b, t, 0⟩ := .inl rfl
theorem pvok_txt (k : Int) (s : ByteArray) : PVok (txtP k s) := by
  unfold txtP
  repeat' first | exact pvok_err _ | exact pvok_ok _ _ _ | refine pvok_ite ?_ ?_
theorem pvok_num (k : Int) (l : List UInt8) : PVok (numP k l) := by
  unfold numP
  refine pvok_ite (pvok_err _) ?_
  cases numB k l with
  | none => exact pvok_err _
  | some b => exact pvok_ite (pvok_ok _ _ _) (pvok_err _)
theorem pvok_dbl (l : List UInt8) : PVok (dblP l) := by
  unfold dblP
  refine pvok_ite (pvok_ok _ _ _) (pvok_ite (pvok_ok _ _ _) (pvok_ite (pvok_ok _ _ _) ?_))
  cases hexO l with
  | none => exact pvok_err _
  | some b => exact pvok_ite (pvok_ok _ _ _) (pvok_err _)
theorem par_bad {k : Int} {s : ByteArray} (h : (parP k s).e ≠ 0) : (parP k s).k = 0 ∧ (parP k s).b = 0 ∧ (parP k s).t = ⟨#[]⟩ := by
  have key : PVok (parP k s) := by
    unfold parP
    exact pvok_ite (pvok_err _) (pvok_ite (pvok_ite (pvok_ok _ _ _) (pvok_ite (pvok_ok _ _ _) (pvok_err _))) (pvok_ite (pvok_dbl _) (pvok_ite (pvok_txt _ _) (pvok_ite (pvok_ite (pvok_txt _ _) (pvok_err _)) (pvok_num _ _)))))
  exact key.resolve_left h
set_option maxRecDepth 100000 in
set_option maxHeartbeats 4000000 in
theorem round_law (k : Int) (u : Nat) (t : ByteArray) (la pa sa ra : Option Addr) (ln lc pn pc sn sc rn rc : Nat) (q : Int) (s : ByteArray) (w : World) (hs : s.size ≤ 35184372088800) (hn : ln ≤ 2305843009213693951 ∧ pn ≤ 2305843009213693951 ∧ sn ≤ 2305843009213693951 ∧ rn ≤ 2305843009213693951) (ht : t.size ≤ 4611686018427387900) (hu : u < 18446744073709551616) (hg : Gs w) : Calls Tryd.prog 4 #[.agg #[.int .i64 k, .int .u64 (u : Int), .string t, .slice la ln lc, .slice pa pn pc, .slice sa sn sc, .slice ra rn rc], .int .i64 q, .string s] w fun e w' => e = .returned (.bool true) ∧ Below w.heap.size w w' := by
  obtain ⟨nu, hnu⟩ : ∃ nu : Nat, normS k (u : Int) = (nu : Int) := ⟨(normS k (u : Int)).toNat, by have := normS_bd k (u : Int) (by omega); omega⟩
  have hb : 0 ≤ (u : Int) ∧ (u : Int) < 18446744073709551616 := by omega
  have hnlt : nu < 18446744073709551616 := by have := normS_bd k (u : Int) (by omega); omega
  have HP1 := fun (w : World) (hg : Gs w) => parse_any k ⟨(fullS k nu t (ln + pn + sn + rn)).toArray⟩ w (full_size k nu t _ hnlt) hg
  have HP2 := fun (w : World) (hg : Gs w) => parse_any q s w hs hg
  have A : fitsS k k u t (ln + pn + sn + rn) = true → (parP k ⟨(fullS k nu t (ln + pn + sn + rn)).toArray⟩).k = k ∧ (parP k ⟨(fullS k nu t (ln + pn + sn + rn)).toArray⟩).b = nu ∧ (parP k ⟨(fullS k nu t (ln + pn + sn + rn)).toArray⟩).t = t ∧ (parP k ⟨(fullS k nu t (ln + pn + sn + rn)).toArray⟩).e = 0 ∧ ln = 0 ∧ pn = 0 ∧ sn = 0 ∧ rn = 0 := by
    intro hf
    have hf2 : fitsS k k nu t (ln + pn + sn + rn) = true := by rw [← hnu, fits_norm]; exact hf
    have hp := par_text hnlt hf2 (by rw [← hnu, norm_norm])
    have hz := (fits_parts hf).2.1
    have e : fullS k nu t (ln + pn + sn + rn) = textS k nu t := by unfold fullS; rw [if_pos hf2]
    rw [e, hp]
    exact ⟨rfl, rfl, rfl, rfl, by omega, by omega, by omega, by omega⟩
  have B := fun h => par_back (k := q) (s := s) h
  have C := fun h => par_bad (k := q) (s := s) h
  have hb2 : (parP q s).b < 18446744073709551616 := by
    by_cases h : (parP q s).e = 0
    · exact (B h).2.1
    · rw [(C h).2.1]; decide
  have hb2i : 0 ≤ ((parP q s).b : Int) ∧ ((parP q s).b : Int) < 18446744073709551616 := by omega
  have ht2 : (parP q s).t.size ≤ 4611686018427387900 := by
    by_cases h : (parP q s).e = 0
    · have := fits_size (B h).2.2.1; omega
    · rw [(C h).2.2]; decide
  replace B : (parP q s).e = 0 → (parP q s).k = q ∧ fitsS q q (parP q s).b (parP q s).t (0 + 0 + 0 + 0) = true ∧ normS q (parP q s).b = (parP q s).b ∧ textS q (parP q s).b (parP q s).t = s.data.toList := fun h => ⟨(B h).1, (B h).2.2.1, (B h).2.2.2.1, (B h).2.2.2.2⟩
  generalize parP k ⟨(fullS k nu t (ln + pn + sn + rn)).toArray⟩ = p1 at HP1 A
  generalize parP q s = p2 at HP2 B C hb2 ht2 hb2i
  obtain ⟨k1, b1, t1, e1⟩ := p1
  obtain ⟨k2, b2, t2, e2⟩ := p2
  dsimp only at HP1 HP2 A B C hb2 ht2 hb2i
  refine sx_enter Tryd.func4 rfl Tryd.ntmps4 rfl rfl ?_
  repeat' (first | refine sc_seq ?_ | refine sc_region ?_ | refine sq_then ?_ | refine sc_ret ?_ | refine sc_skip ?_ | refine sc_block ?_ | refine sc_exit ?_ | refine sq_pass_ret ?_ | refine sq_pass_exit ?_ | refine sq_blk_normal ?_ | refine sq_blk_ret ?_ | refine sq_blk_hit ?_ | refine sq_blk_miss rfl ?_)
  repeat' (first | refine sc_seq ?_ | refine sc_region ?_ | refine sq_then ?_ | refine sc_ret ?_ | refine sc_skip ?_ | refine sc_block ?_ | refine sc_exit ?_ | refine sq_pass_ret ?_ | refine sq_pass_exit ?_ | refine sq_blk_normal ?_ | refine sq_blk_ret ?_ | refine sq_blk_hit ?_ | refine sq_blk_miss rfl ?_ | refine sc_regionD follows_any rfl (by kernel_rfl) ?_ | refine sx_nil ?_ | refine sr_nil0 ?_ | (refine sr_nil1 ?_; intro g) | ((first | refine' sx_v rfl ?_ rfl rfl ?_ | refine' sr_v rfl ?_ rfl rfl rfl ?_); rotate_left; first | exact vo_un tok rfl rfl rfl rfl | exact vo_bin tok rfl rfl rfl rfl rfl rfl | exact vo_or rfl rfl rfl rfl rfl | exact vo_and rfl rfl rfl rfl rfl | exact vo_load tok 0 rfl rfl rfl rfl rfl | exact vo_load tok 1 rfl rfl rfl rfl rfl | exact vo_load tok 2 rfl rfl rfl rfl rfl | exact vo_load tok 3 rfl rfl rfl rfl rfl | exact vo_load tok 4 rfl rfl rfl rfl rfl | exact vo_eqs tok eqOK rfl rfl rfl rfl rfl rfl (by kernel_rfl) | exact vo_nes tok eqOK rfl rfl rfl rfl rfl rfl (by kernel_rfl) | exact vo_len tok rfl rfl rfl rfl rfl rfl rfl | exact vo_max rfl rfl rfl rfl rfl | exact vo_min rfl rfl rfl rfl rfl | exact vo_sh rfl rfl rfl rfl rfl rfl rfl | exact vo_build tok rfl rfl trivial rfl rfl rfl | exact vo_build tok rfl rfl ⟨rfl, trivial⟩ rfl rfl rfl | exact vo_build tok rfl rfl ⟨rfl, rfl, trivial⟩ rfl rfl rfl | exact vo_build tok rfl rfl ⟨rfl, rfl, rfl, trivial⟩ rfl rfl rfl | exact vo_build tok rfl rfl ⟨rfl, rfl, rfl, rfl, trivial⟩ rfl rfl rfl | exact vo_build tok rfl rfl ⟨rfl, rfl, rfl, rfl, rfl, trivial⟩ rfl rfl rfl | exact vo_build tok rfl rfl ⟨rfl, rfl, rfl, rfl, rfl, rfl, trivial⟩ rfl rfl rfl | exact vo_build tok rfl rfl ⟨rfl, rfl, rfl, rfl, rfl, rfl, rfl, trivial⟩ rfl rfl rfl | exact vo_build tok rfl rfl ⟨rfl, rfl, rfl, rfl, rfl, rfl, rfl, rfl, trivial⟩ rfl rfl rfl) | refine sx_call rfl (callOp rfl rfl rfl rfl ⟨rfl, trivial⟩ rfl (by kernel_rfl)) (fun w hm => norm_any _ _ _ _ _ _ _ _ _ _ _ _ _ _ _ w hb) rfl rfl ?_ | refine sr_call rfl (callOp rfl rfl rfl rfl ⟨rfl, trivial⟩ rfl (by kernel_rfl)) rfl (fun w hm => norm_any _ _ _ _ _ _ _ _ _ _ _ _ _ _ _ w hb) rfl rfl ?_ | refine sx_call rfl (callOp rfl rfl rfl rfl ⟨rfl, trivial⟩ rfl (by kernel_rfl)) (fun w hm => textI_any _ _ nu _ _ _ _ _ _ _ _ _ _ _ _ _ w hnu hn hnlt ht (hg.keep hm.below)) rfl rfl ?_ | refine sr_call rfl (callOp rfl rfl rfl rfl ⟨rfl, trivial⟩ rfl (by kernel_rfl)) rfl (fun w hm => textI_any _ _ nu _ _ _ _ _ _ _ _ _ _ _ _ _ w hnu hn hnlt ht (hg.keep hm.below)) rfl rfl ?_ | refine sx_call rfl (callOp rfl rfl rfl rfl ⟨rfl, rfl, trivial⟩ rfl (by kernel_rfl)) (fun w hm => HP1 w (hg.keep hm.below)) rfl rfl ?_ | refine sr_call rfl (callOp rfl rfl rfl rfl ⟨rfl, rfl, trivial⟩ rfl (by kernel_rfl)) rfl (fun w hm => HP1 w (hg.keep hm.below)) rfl rfl ?_ | refine sx_call rfl (callOp rfl rfl rfl rfl ⟨rfl, rfl, trivial⟩ rfl (by kernel_rfl)) (fun w hm => rfits_any _ _ _ _ _ _ _ _ _ _ _ _ _ _ _ _ w ht) rfl rfl ?_ | refine sr_call rfl (callOp rfl rfl rfl rfl ⟨rfl, rfl, trivial⟩ rfl (by kernel_rfl)) rfl (fun w hm => rfits_any _ _ _ _ _ _ _ _ _ _ _ _ _ _ _ _ w ht) rfl rfl ?_ | refine sx_call rfl (callOp rfl rfl rfl rfl ⟨rfl, rfl, trivial⟩ rfl (by kernel_rfl)) (fun w hm => same_any _ _ _ _ _ _ _ _ _ _ _ _ _ _ _ _ _ _ _ _ _ _ _ _ _ _ _ _ _ _ w) rfl rfl ?_ | refine sr_call rfl (callOp rfl rfl rfl rfl ⟨rfl, rfl, trivial⟩ rfl (by kernel_rfl)) rfl (fun w hm => same_any _ _ _ _ _ _ _ _ _ _ _ _ _ _ _ _ _ _ _ _ _ _ _ _ _ _ _ _ _ _ w) rfl rfl ?_ | (refine sx_box rfl rfl rfl rfl rfl rfl ?_; intro g) | (refine sx_alloc tok rfl rfl rfl rfl rfl rfl ?_; intro g) | refine sr_alloc tok rfl rfl rfl rfl rfl rfl ?_ | refine sr_box rfl rfl rfl rfl rfl rfl ?_ | refine sx_store tok 0 rfl rfl rfl rfl rfl rfl rfl rfl rfl rfl rfl rfl ?_ | refine sx_store tok 1 rfl rfl rfl rfl rfl rfl rfl rfl rfl rfl rfl rfl ?_ | refine sx_store tok 2 rfl rfl rfl rfl rfl rfl rfl rfl rfl rfl rfl rfl ?_ | refine sx_store tok 3 rfl rfl rfl rfl rfl rfl rfl rfl rfl rfl rfl rfl ?_ | refine sx_store tok 4 rfl rfl rfl rfl rfl rfl rfl rfl rfl rfl rfl rfl ?_)
  refine sc_false rfl ?_ ?_
  · by_cases hf : fitsS k k u t (ln + pn + sn + rn) = true
    · obtain ⟨p1, p2, p3, p4, l1, l2, l3, l4⟩ := A hf
      rw [p1, p2, p3, p4, l1, l2, l3, l4, hnu]; simp
    · have : fitsS k k u t (ln + pn + sn + rn) = false := by simpa using hf
      rw [this]; rfl
  repeat' (first | refine sc_seq ?_ | refine sc_region ?_ | refine sq_then ?_ | refine sc_ret ?_ | refine sc_skip ?_ | refine sc_block ?_ | refine sc_exit ?_ | refine sq_pass_ret ?_ | refine sq_pass_exit ?_ | refine sq_blk_normal ?_ | refine sq_blk_ret ?_ | refine sq_blk_hit ?_ | refine sq_blk_miss rfl ?_ | refine sc_regionD follows_any rfl (by kernel_rfl) ?_ | refine sx_nil ?_ | refine sr_nil0 ?_ | (refine sr_nil1 ?_; intro g) | ((first | refine' sx_v rfl ?_ rfl rfl ?_ | refine' sr_v rfl ?_ rfl rfl rfl ?_); rotate_left; first | exact vo_un tok rfl rfl rfl rfl | exact vo_bin tok rfl rfl rfl rfl rfl rfl | exact vo_or rfl rfl rfl rfl rfl | exact vo_and rfl rfl rfl rfl rfl | exact vo_load tok 0 rfl rfl rfl rfl rfl | exact vo_load tok 1 rfl rfl rfl rfl rfl | exact vo_load tok 2 rfl rfl rfl rfl rfl | exact vo_load tok 3 rfl rfl rfl rfl rfl | exact vo_load tok 4 rfl rfl rfl rfl rfl | exact vo_load tok 5 rfl rfl rfl rfl rfl | exact vo_eqs tok eqOK rfl rfl rfl rfl rfl rfl (by kernel_rfl) | exact vo_nes tok eqOK rfl rfl rfl rfl rfl rfl (by kernel_rfl) | exact vo_len tok rfl rfl rfl rfl rfl rfl rfl | exact vo_max rfl rfl rfl rfl rfl | exact vo_min rfl rfl rfl rfl rfl | exact vo_sh rfl rfl rfl rfl rfl rfl rfl | exact vo_build tok rfl rfl trivial rfl rfl rfl | exact vo_build tok rfl rfl ⟨rfl, trivial⟩ rfl rfl rfl | exact vo_build tok rfl rfl ⟨rfl, rfl, trivial⟩ rfl rfl rfl | exact vo_build tok rfl rfl ⟨rfl, rfl, rfl, trivial⟩ rfl rfl rfl | exact vo_build tok rfl rfl ⟨rfl, rfl, rfl, rfl, trivial⟩ rfl rfl rfl | exact vo_build tok rfl rfl ⟨rfl, rfl, rfl, rfl, rfl, trivial⟩ rfl rfl rfl | exact vo_build tok rfl rfl ⟨rfl, rfl, rfl, rfl, rfl, rfl, trivial⟩ rfl rfl rfl | exact vo_build tok rfl rfl ⟨rfl, rfl, rfl, rfl, rfl, rfl, rfl, trivial⟩ rfl rfl rfl | exact vo_build tok rfl rfl ⟨rfl, rfl, rfl, rfl, rfl, rfl, rfl, rfl, trivial⟩ rfl rfl rfl) | refine sx_call rfl (callOp rfl rfl rfl rfl ⟨rfl, rfl, trivial⟩ rfl (by kernel_rfl)) (fun w hm => HP2 w (hg.keep hm.below)) rfl rfl ?_ | refine sr_call rfl (callOp rfl rfl rfl rfl ⟨rfl, rfl, trivial⟩ rfl (by kernel_rfl)) rfl (fun w hm => HP2 w (hg.keep hm.below)) rfl rfl ?_ | (refine sx_box rfl rfl rfl rfl rfl rfl ?_; intro g) | (refine sx_alloc tok rfl rfl rfl rfl rfl rfl ?_; intro g) | refine sr_alloc tok rfl rfl rfl rfl rfl rfl ?_ | refine sr_box rfl rfl rfl rfl rfl rfl ?_ | refine sx_store tok 0 rfl rfl rfl rfl rfl rfl rfl rfl rfl rfl rfl rfl ?_ | refine sx_store tok 1 rfl rfl rfl rfl rfl rfl rfl rfl rfl rfl rfl rfl ?_ | refine sx_store tok 2 rfl rfl rfl rfl rfl rfl rfl rfl rfl rfl rfl rfl ?_ | refine sx_store tok 3 rfl rfl rfl rfl rfl rfl rfl rfl rfl rfl rfl rfl ?_ | refine sx_store tok 4 rfl rfl rfl rfl rfl rfl rfl rfl rfl rfl rfl rfl ?_ | refine sx_store tok 5 rfl rfl rfl rfl rfl rfl rfl rfl rfl rfl rfl rfl ?_)
  by_cases he : e2 = 0
  · obtain ⟨r1, r3, r4, r5⟩ := B he
    subst he; subst r1
    refine sc_false rfl rfl ?_
    repeat' (first | refine sc_seq ?_ | refine sc_region ?_ | refine sq_then ?_ | refine sc_ret ?_ | refine sc_skip ?_ | refine sc_block ?_ | refine sc_exit ?_ | refine sq_pass_ret ?_ | refine sq_pass_exit ?_ | refine sq_blk_normal ?_ | refine sq_blk_ret ?_ | refine sq_blk_hit ?_ | refine sq_blk_miss rfl ?_ | refine sc_regionD follows_any rfl (by kernel_rfl) ?_ | refine sx_nil ?_ | refine sr_nil0 ?_ | (refine sr_nil1 ?_; intro g) | ((first | refine' sx_v rfl ?_ rfl rfl ?_ | refine' sr_v rfl ?_ rfl rfl rfl ?_); rotate_left; first | exact vo_un tok rfl rfl rfl rfl | exact vo_bin tok rfl rfl rfl rfl rfl rfl | exact vo_or rfl rfl rfl rfl rfl | exact vo_and rfl rfl rfl rfl rfl | exact vo_load tok 0 rfl rfl rfl rfl rfl | exact vo_load tok 1 rfl rfl rfl rfl rfl | exact vo_load tok 2 rfl rfl rfl rfl rfl | exact vo_load tok 3 rfl rfl rfl rfl rfl | exact vo_load tok 4 rfl rfl rfl rfl rfl | exact vo_load tok 5 rfl rfl rfl rfl rfl | exact vo_eqs tok eqOK rfl rfl rfl rfl rfl rfl (by kernel_rfl) | exact vo_nes tok eqOK rfl rfl rfl rfl rfl rfl (by kernel_rfl) | exact vo_len tok rfl rfl rfl rfl rfl rfl rfl | exact vo_max rfl rfl rfl rfl rfl | exact vo_min rfl rfl rfl rfl rfl | exact vo_sh rfl rfl rfl rfl rfl rfl rfl | exact vo_build tok rfl rfl trivial rfl rfl rfl | exact vo_build tok rfl rfl ⟨rfl, trivial⟩ rfl rfl rfl | exact vo_build tok rfl rfl ⟨rfl, rfl, trivial⟩ rfl rfl rfl | exact vo_build tok rfl rfl ⟨rfl, rfl, rfl, trivial⟩ rfl rfl rfl | exact vo_build tok rfl rfl ⟨rfl, rfl, rfl, rfl, trivial⟩ rfl rfl rfl | exact vo_build tok rfl rfl ⟨rfl, rfl, rfl, rfl, rfl, trivial⟩ rfl rfl rfl | exact vo_build tok rfl rfl ⟨rfl, rfl, rfl, rfl, rfl, rfl, trivial⟩ rfl rfl rfl | exact vo_build tok rfl rfl ⟨rfl, rfl, rfl, rfl, rfl, rfl, rfl, trivial⟩ rfl rfl rfl | exact vo_build tok rfl rfl ⟨rfl, rfl, rfl, rfl, rfl, rfl, rfl, rfl, trivial⟩ rfl rfl rfl) | refine sx_call rfl (callOp rfl rfl rfl rfl ⟨rfl, rfl, trivial⟩ rfl (by kernel_rfl)) (fun w hm => fits_any _ _ _ _ _ _ _ _ _ _ _ _ _ _ _ _ w (by decide) ht2) rfl rfl ?_ | refine sr_call rfl (callOp rfl rfl rfl rfl ⟨rfl, rfl, trivial⟩ rfl (by kernel_rfl)) rfl (fun w hm => fits_any _ _ _ _ _ _ _ _ _ _ _ _ _ _ _ _ w (by decide) ht2) rfl rfl ?_ | refine sx_call rfl (callOp rfl rfl rfl rfl ⟨rfl, trivial⟩ rfl (by kernel_rfl)) (fun w hm => norm_any _ _ _ _ _ _ _ _ _ _ _ _ _ _ _ w hb2i) rfl rfl ?_ | refine sr_call rfl (callOp rfl rfl rfl rfl ⟨rfl, trivial⟩ rfl (by kernel_rfl)) rfl (fun w hm => norm_any _ _ _ _ _ _ _ _ _ _ _ _ _ _ _ w hb2i) rfl rfl ?_ | refine sx_call rfl (callOp rfl rfl rfl rfl ⟨rfl, rfl, trivial⟩ rfl (by kernel_rfl)) (fun w hm => same_any _ _ _ _ _ _ _ _ _ _ _ _ _ _ _ _ _ _ _ _ _ _ _ _ _ _ _ _ _ _ w) rfl rfl ?_ | refine sr_call rfl (callOp rfl rfl rfl rfl ⟨rfl, rfl, trivial⟩ rfl (by kernel_rfl)) rfl (fun w hm => same_any _ _ _ _ _ _ _ _ _ _ _ _ _ _ _ _ _ _ _ _ _ _ _ _ _ _ _ _ _ _ w) rfl rfl ?_ | refine sx_call rfl (callOp rfl rfl rfl rfl ⟨rfl, trivial⟩ rfl (by kernel_rfl)) (fun w hm => textI_any _ _ b2 _ _ _ _ _ _ _ _ _ _ _ _ _ w rfl (by decide) hb2 ht2 (hg.keep hm.below)) rfl rfl ?_ | refine sr_call rfl (callOp rfl rfl rfl rfl ⟨rfl, trivial⟩ rfl (by kernel_rfl)) rfl (fun w hm => textI_any _ _ b2 _ _ _ _ _ _ _ _ _ _ _ _ _ w rfl (by decide) hb2 ht2 (hg.keep hm.below)) rfl rfl ?_ | refine sx_call rfl (callOp rfl rfl rfl rfl trivial rfl (by kernel_rfl)) (fun w hm => awake_any w (hg.keep hm.below)) rfl rfl ?_ | refine sr_call rfl (callOp rfl rfl rfl rfl trivial rfl (by kernel_rfl)) rfl (fun w hm => awake_any w (hg.keep hm.below)) rfl rfl ?_ | (refine sx_box rfl rfl rfl rfl rfl rfl ?_; intro g) | (refine sx_alloc tok rfl rfl rfl rfl rfl rfl ?_; intro g) | refine sr_alloc tok rfl rfl rfl rfl rfl rfl ?_ | refine sr_box rfl rfl rfl rfl rfl rfl ?_ | refine sx_store tok 0 rfl rfl rfl rfl rfl rfl rfl rfl rfl rfl rfl rfl ?_ | refine sx_store tok 1 rfl rfl rfl rfl rfl rfl rfl rfl rfl rfl rfl rfl ?_ | refine sx_store tok 2 rfl rfl rfl rfl rfl rfl rfl rfl rfl rfl rfl rfl ?_ | refine sx_store tok 3 rfl rfl rfl rfl rfl rfl rfl rfl rfl rfl rfl rfl ?_ | refine sx_store tok 4 rfl rfl rfl rfl rfl rfl rfl rfl rfl rfl rfl rfl ?_ | refine sx_store tok 5 rfl rfl rfl rfl rfl rfl rfl rfl rfl rfl rfl rfl ?_)
    refine sq_ret tok (fun _ => 0) rfl rfl trivial rfl fun w hm => ⟨?_, hm.below⟩
    refine ret_bool ?_
    rw [r3, r4]
    have : (⟨(fullS k2 b2 t2 (0 + 0 + 0 + 0)).toArray⟩ : ByteArray) = s := by
      unfold fullS; rw [if_pos r3, r5]
    rw [this]; simp
  · obtain ⟨r1, r2, r3⟩ := C he
    subst r1; subst r2; subst r3
    refine sc_true rfl (by simp [he]) ?_
    repeat' (first | refine sc_seq ?_ | refine sc_region ?_ | refine sq_then ?_ | refine sc_ret ?_ | refine sc_skip ?_ | refine sc_block ?_ | refine sc_exit ?_ | refine sq_pass_ret ?_ | refine sq_pass_exit ?_ | refine sq_blk_normal ?_ | refine sq_blk_ret ?_ | refine sq_blk_hit ?_ | refine sq_blk_miss rfl ?_ | refine sc_regionD follows_any rfl (by kernel_rfl) ?_ | refine sx_nil ?_ | refine sr_nil0 ?_ | (refine sr_nil1 ?_; intro g) | ((first | refine' sx_v rfl ?_ rfl rfl ?_ | refine' sr_v rfl ?_ rfl rfl rfl ?_); rotate_left; first | exact vo_un tok rfl rfl rfl rfl | exact vo_bin tok rfl rfl rfl rfl rfl rfl | exact vo_or rfl rfl rfl rfl rfl | exact vo_and rfl rfl rfl rfl rfl | exact vo_load tok 0 rfl rfl rfl rfl rfl | exact vo_load tok 1 rfl rfl rfl rfl rfl | exact vo_load tok 2 rfl rfl rfl rfl rfl | exact vo_load tok 3 rfl rfl rfl rfl rfl | exact vo_load tok 4 rfl rfl rfl rfl rfl | exact vo_load tok 5 rfl rfl rfl rfl rfl | exact vo_eqs tok eqOK rfl rfl rfl rfl rfl rfl (by kernel_rfl) | exact vo_nes tok eqOK rfl rfl rfl rfl rfl rfl (by kernel_rfl) | exact vo_len tok rfl rfl rfl rfl rfl rfl rfl | exact vo_max rfl rfl rfl rfl rfl | exact vo_min rfl rfl rfl rfl rfl | exact vo_sh rfl rfl rfl rfl rfl rfl rfl | exact vo_build tok rfl rfl trivial rfl rfl rfl | exact vo_build tok rfl rfl ⟨rfl, trivial⟩ rfl rfl rfl | exact vo_build tok rfl rfl ⟨rfl, rfl, trivial⟩ rfl rfl rfl | exact vo_build tok rfl rfl ⟨rfl, rfl, rfl, trivial⟩ rfl rfl rfl | exact vo_build tok rfl rfl ⟨rfl, rfl, rfl, rfl, trivial⟩ rfl rfl rfl | exact vo_build tok rfl rfl ⟨rfl, rfl, rfl, rfl, rfl, trivial⟩ rfl rfl rfl | exact vo_build tok rfl rfl ⟨rfl, rfl, rfl, rfl, rfl, rfl, trivial⟩ rfl rfl rfl | exact vo_build tok rfl rfl ⟨rfl, rfl, rfl, rfl, rfl, rfl, rfl, trivial⟩ rfl rfl rfl | exact vo_build tok rfl rfl ⟨rfl, rfl, rfl, rfl, rfl, rfl, rfl, rfl, trivial⟩ rfl rfl rfl) | refine sx_call rfl (callOp rfl rfl rfl rfl ⟨rfl, rfl, trivial⟩ rfl (by kernel_rfl)) (fun w hm => same_any _ _ _ _ _ _ _ _ _ _ _ _ _ _ _ _ _ _ _ _ _ _ _ _ _ _ _ _ _ _ w) rfl rfl ?_ | refine sr_call rfl (callOp rfl rfl rfl rfl ⟨rfl, rfl, trivial⟩ rfl (by kernel_rfl)) rfl (fun w hm => same_any _ _ _ _ _ _ _ _ _ _ _ _ _ _ _ _ _ _ _ _ _ _ _ _ _ _ _ _ _ _ w) rfl rfl ?_ | refine sx_call rfl (callOp rfl rfl rfl rfl trivial rfl (by kernel_rfl)) (fun w hm => awake_any w (hg.keep hm.below)) rfl rfl ?_ | refine sr_call rfl (callOp rfl rfl rfl rfl trivial rfl (by kernel_rfl)) rfl (fun w hm => awake_any w (hg.keep hm.below)) rfl rfl ?_ | (refine sx_box rfl rfl rfl rfl rfl rfl ?_; intro g) | (refine sx_alloc tok rfl rfl rfl rfl rfl rfl ?_; intro g) | refine sr_alloc tok rfl rfl rfl rfl rfl rfl ?_ | refine sr_box rfl rfl rfl rfl rfl rfl ?_ | refine sx_store tok 0 rfl rfl rfl rfl rfl rfl rfl rfl rfl rfl rfl rfl ?_ | refine sx_store tok 1 rfl rfl rfl rfl rfl rfl rfl rfl rfl rfl rfl rfl ?_ | refine sx_store tok 2 rfl rfl rfl rfl rfl rfl rfl rfl rfl rfl rfl rfl ?_ | refine sx_store tok 3 rfl rfl rfl rfl rfl rfl rfl rfl rfl rfl rfl rfl ?_ | refine sx_store tok 4 rfl rfl rfl rfl rfl rfl rfl rfl rfl rfl rfl rfl ?_ | refine sx_store tok 5 rfl rfl rfl rfl rfl rfl rfl rfl rfl rfl rfl rfl ?_)
    refine sq_ret tok (fun _ => 0) rfl rfl trivial rfl fun w hm => ⟨?_, hm.below⟩
    refine ret_bool ?_
    simp
end Go.Proofs.YtihpeophmijaaaaDoor.Y
