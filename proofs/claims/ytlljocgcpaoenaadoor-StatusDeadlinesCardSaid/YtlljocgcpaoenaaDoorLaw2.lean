/- The walks of the laws StatusDeadlines, StatusWhole and StatusPacks. -/
import Derived.Test.YtlljocgcpaoenaaDoorLaw
namespace Go.Proofs.YtlljocgcpaoenaaDoor
open Go.RowKit

theorem ear_facts (a b : Int) : earS b a = earS a b ∧ (1 ≤ a → 1 ≤ earS a b ∧ earS a b ≤ a) ∧ (a < 1 → b < 1 → earS a b = 0) := by
  unfold earS; (repeat' split) <;> omega
theorem after_left (n d : Int) (h0 : 0 ≤ n) (h1 : n < d) (h2 : d ≤ 1099511627776) : leftS n d = d - n ∧ aftS n (d - n) = d := by
  unfold leftS aftS bndS
  constructor
  · (repeat' split) <;> omega
  · (repeat' split) <;> omega
theorem left_zero (n d : Int) (h0 : 1 ≤ d) (h1 : d ≤ n) : leftS n d = 0 := by unfold leftS; (repeat' split) <;> omega
set_option maxHeartbeats 4000000 in
set_option maxRecDepth 100000 in
theorem deadlines_law (n a b : Int) (w : World) (hg : Gs w) (ha9 : a ≤ 9223372036854775807) :
    Calls Tryd.prog 11 #[.int .i64 n, .int .i64 a, .int .i64 b] w (AnsB true w) := by
  obtain ⟨f1, f2, f3⟩ := ear_facts a b
  obtain ⟨c, hc⟩ : ∃ c, earS a b = c := ⟨_, rfl⟩
  rw [hc] at f1 f2 f3
  have HC := Lib.hid hc; have HC2 := Lib.hid f1; clear hc f1
  have hcc : (c == c) = true := by simp
  by_cases h1 : a < 1
  · clear f2 hcc
    by_cases h2 : b < 1
    · obtain rfl : c = 0 := f3 h1 h2
      clear f3
      by_cases h3 : n < 0
      · skip
        have HB0 := Lib.hid (show Below w.heap.size w w from Below.refl _ _)
        have HG0 := Lib.hid hg; clear hg
        go_enter Tryd.func11, Tryd.ntmps11
        go_wp2_with fail
        refine (ear_ok a b 0 _ HC.out).mono ?_; rintro e w1 ⟨rfl, rfl⟩
        go_wp2_with fail
        refine (ear_ok b a 0 _ HC2.out).mono ?_; rintro e w2 ⟨rfl, rfl⟩
        go_wp2_with fail
        refine (awake_any _ HG0.out).mono ?_; rintro e w3 ⟨rfl, hb3⟩
        have HB3 := Lib.hid (HB0.out.trans (hb3.mono HB0.out.size))
        have HG3 := Lib.hid (HG0.out.below hb3); clear HG0
        clear HB0 hb3
        go_wp2_with fail
        go_ret
        exact ⟨rfl, HB3.out⟩
      by_cases h4 : 1099511627776 < n
      · skip
        have HB0 := Lib.hid (show Below w.heap.size w w from Below.refl _ _)
        have HG0 := Lib.hid hg; clear hg
        go_enter Tryd.func11, Tryd.ntmps11
        go_wp2_with fail
        refine (ear_ok a b 0 _ HC.out).mono ?_; rintro e w1 ⟨rfl, rfl⟩
        go_wp2_with fail
        refine (ear_ok b a 0 _ HC2.out).mono ?_; rintro e w2 ⟨rfl, rfl⟩
        go_wp2_with fail
        refine (awake_any _ HG0.out).mono ?_; rintro e w3 ⟨rfl, hb3⟩
        have HB3 := Lib.hid (HB0.out.trans (hb3.mono HB0.out.size))
        have HG3 := Lib.hid (HG0.out.below hb3); clear HG0
        clear HB0 hb3
        go_wp2_with fail
        go_ret
        exact ⟨rfl, HB3.out⟩
      have HB0 := Lib.hid (show Below w.heap.size w w from Below.refl _ _)
      have HG0 := Lib.hid hg; clear hg
      go_enter Tryd.func11, Tryd.ntmps11
      go_wp2_with fail
      refine (ear_ok a b 0 _ HC.out).mono ?_; rintro e w1 ⟨rfl, rfl⟩
      go_wp2_with fail
      refine (ear_ok b a 0 _ HC2.out).mono ?_; rintro e w2 ⟨rfl, rfl⟩
      go_wp2_with fail
      refine (awake_any _ HG0.out).mono ?_; rintro e w3 ⟨rfl, hb3⟩
      have HB3 := Lib.hid (HB0.out.trans (hb3.mono HB0.out.size))
      have HG3 := Lib.hid (HG0.out.below hb3); clear HG0
      clear HB0 hb3
      go_wp2_with fail
      go_ret
      exact ⟨rfl, HB3.out⟩
    · clear f3
      by_cases h3 : n < 0
      · skip
        have HB0 := Lib.hid (show Below w.heap.size w w from Below.refl _ _)
        have HG0 := Lib.hid hg; clear hg
        go_enter Tryd.func11, Tryd.ntmps11
        go_wp2_with fail
        refine (ear_ok a b c _ HC.out).mono ?_; rintro e w1 ⟨rfl, rfl⟩
        go_wp2_with fail
        refine (ear_ok b a c _ HC2.out).mono ?_; rintro e w2 ⟨rfl, rfl⟩
        go_wp2_with fail
        refine (awake_any _ HG0.out).mono ?_; rintro e w3 ⟨rfl, hb3⟩
        have HB3 := Lib.hid (HB0.out.trans (hb3.mono HB0.out.size))
        have HG3 := Lib.hid (HG0.out.below hb3); clear HG0
        clear HB0 hb3
        go_wp2_with fail
        go_ret
        exact ⟨rfl, HB3.out⟩
      by_cases h4 : 1099511627776 < n
      · skip
        have HB0 := Lib.hid (show Below w.heap.size w w from Below.refl _ _)
        have HG0 := Lib.hid hg; clear hg
        go_enter Tryd.func11, Tryd.ntmps11
        go_wp2_with fail
        refine (ear_ok a b c _ HC.out).mono ?_; rintro e w1 ⟨rfl, rfl⟩
        go_wp2_with fail
        refine (ear_ok b a c _ HC2.out).mono ?_; rintro e w2 ⟨rfl, rfl⟩
        go_wp2_with fail
        refine (awake_any _ HG0.out).mono ?_; rintro e w3 ⟨rfl, hb3⟩
        have HB3 := Lib.hid (HB0.out.trans (hb3.mono HB0.out.size))
        have HG3 := Lib.hid (HG0.out.below hb3); clear HG0
        clear HB0 hb3
        go_wp2_with fail
        go_ret
        exact ⟨rfl, HB3.out⟩
      have HB0 := Lib.hid (show Below w.heap.size w w from Below.refl _ _)
      have HG0 := Lib.hid hg; clear hg
      go_enter Tryd.func11, Tryd.ntmps11
      go_wp2_with fail
      refine (ear_ok a b c _ HC.out).mono ?_; rintro e w1 ⟨rfl, rfl⟩
      go_wp2_with fail
      refine (ear_ok b a c _ HC2.out).mono ?_; rintro e w2 ⟨rfl, rfl⟩
      go_wp2_with fail
      refine (awake_any _ HG0.out).mono ?_; rintro e w3 ⟨rfl, hb3⟩
      have HB3 := Lib.hid (HB0.out.trans (hb3.mono HB0.out.size))
      have HG3 := Lib.hid (HG0.out.below hb3); clear HG0
      clear HB0 hb3
      go_wp2_with fail
      go_ret
      exact ⟨rfl, HB3.out⟩
  · obtain ⟨g1, g2⟩ := f2 (by omega)
    clear f2 f3 hcc
    by_cases h3 : n < 0
    · skip
      have HB0 := Lib.hid (show Below w.heap.size w w from Below.refl _ _)
      have HG0 := Lib.hid hg; clear hg
      go_enter Tryd.func11, Tryd.ntmps11
      go_wp2_with fail
      refine (ear_ok a b c _ HC.out).mono ?_; rintro e w1 ⟨rfl, rfl⟩
      go_wp2_with fail
      refine (ear_ok b a c _ HC2.out).mono ?_; rintro e w2 ⟨rfl, rfl⟩
      go_wp2_with fail
      refine (awake_any _ HG0.out).mono ?_; rintro e w3 ⟨rfl, hb3⟩
      have HB3 := Lib.hid (HB0.out.trans (hb3.mono HB0.out.size))
      have HG3 := Lib.hid (HG0.out.below hb3); clear HG0
      clear HB0 hb3
      go_wp2_with fail
      go_ret
      exact ⟨rfl, HB3.out⟩
    by_cases h4 : 1099511627776 < n
    · skip
      have HB0 := Lib.hid (show Below w.heap.size w w from Below.refl _ _)
      have HG0 := Lib.hid hg; clear hg
      go_enter Tryd.func11, Tryd.ntmps11
      go_wp2_with fail
      refine (ear_ok a b c _ HC.out).mono ?_; rintro e w1 ⟨rfl, rfl⟩
      go_wp2_with fail
      refine (ear_ok b a c _ HC2.out).mono ?_; rintro e w2 ⟨rfl, rfl⟩
      go_wp2_with fail
      refine (awake_any _ HG0.out).mono ?_; rintro e w3 ⟨rfl, hb3⟩
      have HB3 := Lib.hid (HB0.out.trans (hb3.mono HB0.out.size))
      have HG3 := Lib.hid (HG0.out.below hb3); clear HG0
      clear HB0 hb3
      go_wp2_with fail
      go_ret
      exact ⟨rfl, HB3.out⟩
    by_cases h5 : 1099511627776 < a
    · skip
      have HB0 := Lib.hid (show Below w.heap.size w w from Below.refl _ _)
      have HG0 := Lib.hid hg; clear hg
      go_enter Tryd.func11, Tryd.ntmps11
      go_wp2_with fail
      refine (ear_ok a b c _ HC.out).mono ?_; rintro e w1 ⟨rfl, rfl⟩
      go_wp2_with fail
      refine (ear_ok b a c _ HC2.out).mono ?_; rintro e w2 ⟨rfl, rfl⟩
      go_wp2_with fail
      refine (awake_any _ HG0.out).mono ?_; rintro e w3 ⟨rfl, hb3⟩
      have HB3 := Lib.hid (HB0.out.trans (hb3.mono HB0.out.size))
      have HG3 := Lib.hid (HG0.out.below hb3); clear HG0
      clear HB0 hb3
      go_wp2_with fail
      go_ret
      exact ⟨rfl, HB3.out⟩
    by_cases h6 : n < a
    · obtain ⟨k1, k2⟩ := after_left n a (by omega) h6 (by omega)
      obtain ⟨x, hx⟩ : ∃ x, a - n = x := ⟨_, rfl⟩
      rw [hx] at k1 k2
      have HX := Lib.hid k1; have HY := Lib.hid k2
      have x1 : 0 < x := by omega
      have x2 : x ≤ a := by omega
      clear hx k1 k2
      have HB0 := Lib.hid (show Below w.heap.size w w from Below.refl _ _)
      have HG0 := Lib.hid hg; clear hg
      go_enter Tryd.func11, Tryd.ntmps11
      go_wp2_with fail
      refine (ear_ok a b c _ HC.out).mono ?_; rintro e w1 ⟨rfl, rfl⟩
      go_wp2_with fail
      refine (ear_ok b a c _ HC2.out).mono ?_; rintro e w2 ⟨rfl, rfl⟩
      go_wp2_with fail
      refine (left_ok n a x _ ha9 HX.out).mono ?_; rintro e w3 ⟨rfl, rfl⟩
      go_wp2_with fail
      refine (aft_ok n x a _ HY.out).mono ?_; rintro e w4 ⟨rfl, rfl⟩
      go_wp2_with fail
      refine (awake_any _ HG0.out).mono ?_; rintro e w5 ⟨rfl, hb5⟩
      have HB5 := Lib.hid (HB0.out.trans (hb5.mono HB0.out.size))
      have HG5 := Lib.hid (HG0.out.below hb5); clear HG0
      clear HB0 hb5
      go_wp2_with fail
      go_ret
      exact ⟨rfl, HB5.out⟩
    · have HX := Lib.hid (left_zero n a (by omega) (by omega))
      have HB0 := Lib.hid (show Below w.heap.size w w from Below.refl _ _)
      have HG0 := Lib.hid hg; clear hg
      go_enter Tryd.func11, Tryd.ntmps11
      go_wp2_with fail
      refine (ear_ok a b c _ HC.out).mono ?_; rintro e w1 ⟨rfl, rfl⟩
      go_wp2_with fail
      refine (ear_ok b a c _ HC2.out).mono ?_; rintro e w2 ⟨rfl, rfl⟩
      go_wp2_with fail
      refine (left_ok n a 0 _ ha9 HX.out).mono ?_; rintro e w3 ⟨rfl, rfl⟩
      go_wp2_with fail
      refine (awake_any _ HG0.out).mono ?_; rintro e w4 ⟨rfl, hb4⟩
      have HB4 := Lib.hid (HB0.out.trans (hb4.mono HB0.out.size))
      have HG4 := Lib.hid (HG0.out.below hb4); clear HG0
      clear HB0 hb4
      go_wp2_with fail
      go_ret
      exact ⟨rfl, HB4.out⟩
theorem whole_in : ((List.range 26).all fun k => (checkS (rc (k : Int)) (ofT (k : Int)) == 0) && decide (rcN k < 14) && decide (0 ≤ rcN k) && (decide (rcN k = 0) == decide (k = 0))) = true := by kernel_rfl
theorem whole_out : checkS 11 ⟨#[117, 110, 107, 110, 111, 119, 110]⟩ = 0 := by kernel_rfl
theorem whole_code : ∀ k : Fin 14, codeS (nm k.1) = (k.1, 0) := by decide
theorem whole_all (e : Int) : checkS (rc e) (ofT e) = 0 ∧ ∃ k : Nat, k < 14 ∧ rc e = k ∧ (k = 0 ↔ e = 0) := by
  by_cases h : e < 0 ∨ 26 ≤ e
  · rw [rc_out e h, ofT_ne (by omega), em_out e h]
    exact ⟨whole_out, 11, by omega, rfl, by omega⟩
  · obtain ⟨k, rfl⟩ : ∃ k : Nat, e = k := ⟨e.toNat, by omega⟩
    have := List.all_eq_true.1 whole_in k (by simp; omega)
    simp only [Bool.and_eq_true, beq_iff_eq, decide_eq_true_eq, decide_eq_decide] at this
    obtain ⟨⟨⟨h1, h2⟩, h3⟩, h4⟩ := this
    refine ⟨h1, (rcN k).toNat, by omega, by rw [rc_nat]; omega, ?_⟩
    rw [rc_nat] at *
    constructor
    · intro hh; have := h4.1 (by omega); omega
    · intro hh; have := h4.2 (by omega); omega
set_option maxHeartbeats 4000000 in
set_option maxRecDepth 100000 in
theorem whole_law (a : Int) (w : World) (hg : Gs w) : Calls Tryd.prog 10 #[.int .i64 a] w (AnsB true w) := by
  by_cases h0 : a = 0
  · subst h0
    have HR := Lib.hid (show rc 0 = 0 by rfl)
    have HT := Lib.hid (show ofT 0 = ⟨#[]⟩ by rfl)
    have HCK := Lib.hid (show checkS 0 ⟨#[]⟩ = 0 by rfl)
    have HSZ := Lib.hid (show (⟨#[]⟩ : ByteArray).size ≤ 4611686018427387900 by decide)
    have HN := Lib.hid (show nmI 0 = [111, 107] by rfl)
    have HCD := Lib.hid (show codeS (⟨#[111, 107]⟩ : ByteArray).data.toList = (0, 0) by rfl)
    have HB0 := Lib.hid (show Below w.heap.size w w from Below.refl _ _)
    have HG0 := Lib.hid hg; clear hg
    go_enter Tryd.func10, Tryd.ntmps10
    go_wp2_with fail
    refine (of_ok 0 0 ⟨#[]⟩ _ HG0.out HR.out HT.out).mono ?_; rintro e w1 ⟨rfl, hb1⟩
    have HB1 := Lib.hid (HB0.out.trans (hb1.mono HB0.out.size))
    have HG1 := Lib.hid (HG0.out.below hb1); clear HG0
    clear HB0 hb1
    have HB2a := Lib.hid (show Below w.heap.size w (w1.alloc (.cells #[.int .i64 0, .string ⟨#[]⟩] 29)) from HB1.out.alloc HB1.out.size _)
    have HG2a := Lib.hid (HG1.out.below (show Below w1.heap.size w1 (w1.alloc (.cells #[.int .i64 0, .string ⟨#[]⟩] 29)) from (Below.refl _ _).alloc (Nat.le_refl _) _)); clear HG1
    have HKA2 := Lib.hid (Bk.new w1 29 #[.int .i64 0, .string ⟨#[]⟩])
    clear HB1
    have cA0 : (w1.alloc (.cells #[.int .i64 0, .string ⟨#[]⟩] 29)).cell? ⟨w1.heap.size, 0, none⟩ = some (.int .i64 0) := HKA2.out.at_ 0 rfl
    have cA1 : (w1.alloc (.cells #[.int .i64 0, .string ⟨#[]⟩] 29)).cell? ⟨w1.heap.size, 1, none⟩ = some (.string ⟨#[]⟩) := HKA2.out.at_ 1 rfl
    go_wp2_with fail
    refine (name_ok 0 [111, 107] _ HG2a.out HN.out).mono ?_; rintro e w3 ⟨rfl, rfl⟩
    go_wp2_with fail
    refine (code_ok ⟨#[111, 107]⟩ 0 0 _ HG2a.out HCD.out).mono ?_; rintro e w4 ⟨rfl, rfl⟩
    go_wp2_with fail
    refine (chk_ok _ 0 0 ⟨#[]⟩ HCK.out (fun w => check_any 0 ⟨#[]⟩ w HSZ.out) _).mono ?_; rintro e w5 ⟨rfl, hb5⟩
    have HB5 := Lib.hid (HB2a.out.trans (hb5.mono HB2a.out.size))
    have HG5 := Lib.hid (HG2a.out.below hb5); clear HG2a
    have HKA5 := Lib.hid (HKA2.out.keep hb5); clear HKA2
    clear HB2a hb5
    clear cA0 cA1
    have cA0 : w5.cell? ⟨w1.heap.size, 0, none⟩ = some (.int .i64 0) := HKA5.out.at_ 0 rfl
    have cA1 : w5.cell? ⟨w1.heap.size, 1, none⟩ = some (.string ⟨#[]⟩) := HKA5.out.at_ 1 rfl
    go_wp2_with fail
    refine (awake_any _ HG5.out).mono ?_; rintro e w6 ⟨rfl, hb6⟩
    have HB6 := Lib.hid (HB5.out.trans (hb6.mono HB5.out.size))
    have HG6 := Lib.hid (HG5.out.below hb6); clear HG5
    have HKA6 := Lib.hid (HKA5.out.keep hb6); clear HKA5
    clear HB5 hb6
    clear cA0 cA1
    go_wp2_with fail
    go_ret
    exact ⟨rfl, HB6.out⟩
  · obtain ⟨h1, k, hk, hr, hz⟩ := whole_all a
    rw [hr] at h1
    obtain ⟨t, ht⟩ : ∃ t, ofT a = t := ⟨_, rfl⟩
    rw [ht] at h1
    have HCK := Lib.hid h1; have HR := Lib.hid hr; have HT := Lib.hid ht
    have HSZ := Lib.hid (show t.size ≤ 4611686018427387900 by have := checkS_ok h1; omega)
    have HN := Lib.hid (nmI_nat k hk)
    have HCD := Lib.hid (show codeS (⟨(nm k).toArray⟩ : ByteArray).data.toList = (k, 0) from whole_code ⟨k, hk⟩)
    clear h1 hr ht
    have q1 := byte_eq h0
    have q2 := byte_eq (show (k : Int) ≠ 0 by intro e; exact h0 (hz.1 (by omega)))
    obtain ⟨q3, q4⟩ := q1
    obtain ⟨q5, q6⟩ := q2
    clear hz h0
    generalize nm k = N at *
    have HB0 := Lib.hid (show Below w.heap.size w w from Below.refl _ _)
    have HG0 := Lib.hid hg; clear hg
    go_enter Tryd.func10, Tryd.ntmps10
    go_wp2_with fail
    refine (of_ok a k t _ HG0.out HR.out HT.out).mono ?_; rintro e w1 ⟨rfl, hb1⟩
    have HB1 := Lib.hid (HB0.out.trans (hb1.mono HB0.out.size))
    have HG1 := Lib.hid (HG0.out.below hb1); clear HG0
    clear HB0 hb1
    have HB2a := Lib.hid (show Below w.heap.size w (w1.alloc (.cells #[.int .i64 k, .string t] 29)) from HB1.out.alloc HB1.out.size _)
    have HG2a := Lib.hid (HG1.out.below (show Below w1.heap.size w1 (w1.alloc (.cells #[.int .i64 k, .string t] 29)) from (Below.refl _ _).alloc (Nat.le_refl _) _)); clear HG1
    have HKA2 := Lib.hid (Bk.new w1 29 #[.int .i64 k, .string t])
    clear HB1
    have cA0 : (w1.alloc (.cells #[.int .i64 k, .string t] 29)).cell? ⟨w1.heap.size, 0, none⟩ = some (.int .i64 k) := HKA2.out.at_ 0 rfl
    have cA1 : (w1.alloc (.cells #[.int .i64 k, .string t] 29)).cell? ⟨w1.heap.size, 1, none⟩ = some (.string t) := HKA2.out.at_ 1 rfl
    go_wp2_with fail
    refine (name_ok k N _ HG2a.out HN.out).mono ?_; rintro e w3 ⟨rfl, rfl⟩
    go_wp2_with fail
    refine (code_ok ⟨N.toArray⟩ k 0 _ HG2a.out HCD.out).mono ?_; rintro e w4 ⟨rfl, rfl⟩
    go_wp2_with fail
    refine (chk_ok _ k 0 t HCK.out (fun w => check_any k t w HSZ.out) _).mono ?_; rintro e w5 ⟨rfl, hb5⟩
    have HB5 := Lib.hid (HB2a.out.trans (hb5.mono HB2a.out.size))
    have HG5 := Lib.hid (HG2a.out.below hb5); clear HG2a
    have HKA5 := Lib.hid (HKA2.out.keep hb5); clear HKA2
    clear HB2a hb5
    clear cA0 cA1
    have cA0 : w5.cell? ⟨w1.heap.size, 0, none⟩ = some (.int .i64 k) := HKA5.out.at_ 0 rfl
    have cA1 : w5.cell? ⟨w1.heap.size, 1, none⟩ = some (.string t) := HKA5.out.at_ 1 rfl
    go_wp2_with fail
    refine (awake_any _ HG5.out).mono ?_; rintro e w6 ⟨rfl, hb6⟩
    have HB6 := Lib.hid (HB5.out.trans (hb6.mono HB5.out.size))
    have HG6 := Lib.hid (HG5.out.below hb6); clear HG5
    have HKA6 := Lib.hid (HKA5.out.keep hb6); clear HKA5
    clear HB5 hb6
    clear cA0 cA1
    go_wp2_with fail
    go_ret
    exact ⟨rfl, HB6.out⟩
end Go.Proofs.YtlljocgcpaoenaaDoor
