/- The walk of the law StatusRoundTrips. -/
import Derived.Test.YtlljocgcpaoenaaDoorLaw3
namespace Go.Proofs.YtlljocgcpaoenaaDoor
open Go.RowKit

theorem spanN_len (n : Nat) (h : n ≤ 1099511627776) : (spanN n).length ≤ 281474976710656 := by
  unfold spanN; split
  · simp
  · have := dec_len (n / unitAt (unitOf n)) (by have := Nat.div_le_self n (unitAt (unitOf n)); omega)
    simp; omega
set_option maxHeartbeats 4000000 in
set_option maxRecDepth 100000 in
theorem trips_law (c : Int) (t d x : ByteArray) (m : Int) (w : World) (hg : Gs w) (ht : t.size ≤ 140737488351232) (hd : d.size ≤ 140737488351232) (hx : x.size ≤ 140737488351232) :
    Calls Tryd.prog 9 #[.agg #[.int .i64 c, .string t], .string d, .int .i64 m, .string x] w (AnsB true w) := by
  have HB0 := Lib.hid (show Below w.heap.size w (w.alloc (.cells #[.int .i64 c, .string t] 29)) from (Below.refl _ _).alloc (Nat.le_refl _) _)
  have HG0 := Lib.hid (hg.below HB0.out); clear hg
  by_cases hlong : 5000 < t.size ∨ 5000 < d.size ∨ 5000 < x.size
  · by_cases h1 : 5000 < t.size
    · clear hlong
      go_enter Tryd.func9, Tryd.ntmps9
      go_wp2_with fail
      refine (awake_any _ HG0.out).mono ?_; rintro e w1 ⟨rfl, hb1⟩
      go_wp2_with fail
      go_ret
      exact ⟨rfl, HB0.out.trans (hb1.mono HB0.out.size)⟩
    by_cases h2 : 5000 < d.size
    · clear hlong
      go_enter Tryd.func9, Tryd.ntmps9
      go_wp2_with fail
      refine (awake_any _ HG0.out).mono ?_; rintro e w1 ⟨rfl, hb1⟩
      go_wp2_with fail
      go_ret
      exact ⟨rfl, HB0.out.trans (hb1.mono HB0.out.size)⟩
    · have h3 : 5000 < x.size := by omega
      clear hlong
      go_enter Tryd.func9, Tryd.ntmps9
      go_wp2_with fail
      refine (awake_any _ HG0.out).mono ?_; rintro e w1 ⟨rfl, hb1⟩
      go_wp2_with fail
      go_ret
      exact ⟨rfl, HB0.out.trans (hb1.mono HB0.out.size)⟩
  have h1 : ¬ 5000 < t.size := by omega
  have h2 : ¬ 5000 < d.size := by omega
  have h3 : ¬ 5000 < x.size := by omega
  clear hlong
  obtain ⟨A, hA⟩ : ∃ A, checkS c t = A := ⟨_, rfl⟩
  obtain ⟨P, hP⟩ : ∃ P, packS c t = P := ⟨_, rfl⟩
  have HC := Lib.hid (chk_ok _ c A t hA fun w => check_any c t w (by omega))
  have HP := Lib.hid (pk_ok _ c t P hP fun w => pack_any c t w (by omega))
  have HPA := Lib.hid (fun (h : A = 0) => show unpackS P = ⟨c, t, 0⟩ from by rw [← hP]; exact trip_A (hA.trans h))
  have HPN := Lib.hid (fun (h : A ≠ 0) => show P = ⟨#[]⟩ from by rw [← hP]; unfold packS; rw [if_neg (by rw [hA]; exact h)])
  have HPS := Lib.hid (fun (h : A = 0) => show P.size ≤ 4611686018427387900 from by
    obtain ⟨q1, q2, _, q4, _⟩ := checkS_ok (hA.trans h)
    rw [← hP]; unfold packS; rw [if_pos (hA.trans h)]; unfold catB; rw [ByteArray.size_append, mk_sz]; have := putL_len c.toNat; omega)
  obtain ⟨⟨c2, t2, r⟩, hU⟩ : ∃ u, unpackS d = u := ⟨_, rfl⟩
  have HU := Lib.hid (fun w => unpack_ok d _ w (by omega) hU)
  have HU0 := Lib.hid (fun (h : r = 0) => trip_B (by rw [h] at hU; exact hU))
  have HU1 := Lib.hid (fun (h : r ≠ 0) => unp_err hU h)
  obtain ⟨⟨k, g⟩, hS⟩ : ∃ u, parseSp x.data.toList = u := ⟨_, rfl⟩
  have HS := Lib.hid (fun w hg => psp_ok x k g w hg (by omega) hS)
  have HS0 := Lib.hid (fun (h : g = 0) => show k ≤ 1099511627776 ∧ spanN k = x.data.toList from by have := parse_ok x.data.toList (by rw [hS]; exact h); rw [hS] at this; exact this)
  have HS1 := Lib.hid (fun (h : g ≠ 0) => show k = 0 from by
    rcases parse_code x.data.toList with q | q | q
    · rw [hS] at q; exact absurd q h
    · rw [hS] at q; exact (Prod.mk.inj q).1
    · rw [hS] at q; exact (Prod.mk.inj q).1)
  clear hA hP hU hS ht hd hx
  go_enter Tryd.func9, Tryd.ntmps9
  go_wp2_with fail
  refine (HC.out _).mono ?_; rintro e w1 ⟨rfl, hb1⟩
  have HB1 := Lib.hid (HB0.out.trans (hb1.mono HB0.out.size)); have HG1 := Lib.hid (HG0.out.below hb1); clear HB0 HG0
  have HKS1 := Lib.hid ((Bk.new w 29 #[.int .i64 c, .string t]).keep hb1); clear hb1
  go_upto_if 34 with fail
  go_cut [] (fun wx => Below w.heap.size w wx ∧ Gs wx)
  case first =>
    have hcc : (c == c) = true := by simp
    have htt : (t.toList == t.toList) = true := by simp
    by_cases hA : A = 0
    · subst hA
      have HPQ := Lib.hid (HPA.out rfl)
      have HPZ := Lib.hid (HPS.out rfl)
      have cS0 : w1.cell? ⟨w.heap.size, 0, none⟩ = some (.int .i64 c) := HKS1.out.at_ 0 rfl
      have cS1 : w1.cell? ⟨w.heap.size, 1, none⟩ = some (.string t) := HKS1.out.at_ 1 rfl
      go_wp2_with fail
      refine (HP.out _).mono ?_; rintro e w2 ⟨rfl, hb2⟩
      have HB2 := Lib.hid (HB1.out.trans (hb2.mono HB1.out.size))
      have HG2 := Lib.hid (HG1.out.below hb2); clear HG1
      have HKS2 := Lib.hid (HKS1.out.keep hb2); clear HKS1
      clear HB1 hb2
      clear cS0 cS1
      go_wp2_with fail
      refine (unpack_ok P _ _ HPZ.out HPQ.out).mono ?_; rintro e w3 ⟨rfl, hb3⟩
      have HB3 := Lib.hid (HB2.out.trans (hb3.mono HB2.out.size))
      have HG3 := Lib.hid (HG2.out.below hb3); clear HG2
      have HKS3 := Lib.hid (HKS2.out.keep hb3); clear HKS2
      clear HB2 hb3
      have HB4a := Lib.hid (show Below w.heap.size w (w3.alloc (.cells #[.int .i64 c, .string t] 29)) from HB3.out.alloc HB3.out.size _)
      have HG4a := Lib.hid (HG3.out.below (show Below w3.heap.size w3 (w3.alloc (.cells #[.int .i64 c, .string t] 29)) from (Below.refl _ _).alloc (Nat.le_refl _) _)); clear HG3
      have HKS4 := Lib.hid (HKS3.out.more (.cells #[.int .i64 c, .string t] 29)); clear HKS3
      have HKU4 := Lib.hid (Bk.new w3 29 #[.int .i64 c, .string t])
      clear HB3
      have cS0 : (w3.alloc (.cells #[.int .i64 c, .string t] 29)).cell? ⟨w.heap.size, 0, none⟩ = some (.int .i64 c) := HKS4.out.at_ 0 rfl
      have cS1 : (w3.alloc (.cells #[.int .i64 c, .string t] 29)).cell? ⟨w.heap.size, 1, none⟩ = some (.string t) := HKS4.out.at_ 1 rfl
      have cU0 : (w3.alloc (.cells #[.int .i64 c, .string t] 29)).cell? ⟨w3.heap.size, 0, none⟩ = some (.int .i64 c) := HKU4.out.at_ 0 rfl
      have cU1 : (w3.alloc (.cells #[.int .i64 c, .string t] 29)).cell? ⟨w3.heap.size, 1, none⟩ = some (.string t) := HKU4.out.at_ 1 rfl
      go_wp2_with fail
      go_meet
      exact ⟨HB4a.out, HG4a.out⟩
    · obtain ⟨q1, q2⟩ := byte_eq hA
      obtain rfl : P = ⟨#[]⟩ := HPN.out hA
      clear hA
      have cS0 : w1.cell? ⟨w.heap.size, 0, none⟩ = some (.int .i64 c) := HKS1.out.at_ 0 rfl
      have cS1 : w1.cell? ⟨w.heap.size, 1, none⟩ = some (.string t) := HKS1.out.at_ 1 rfl
      go_wp2_with fail
      refine (HP.out _).mono ?_; rintro e w2 ⟨rfl, hb2⟩
      have HB2 := Lib.hid (HB1.out.trans (hb2.mono HB1.out.size))
      have HG2 := Lib.hid (HG1.out.below hb2); clear HG1
      have HKS2 := Lib.hid (HKS1.out.keep hb2); clear HKS1
      clear HB1 hb2
      clear cS0 cS1
      go_wp2_with fail
      go_meet
      exact ⟨HB2.out, HG2.out⟩
  case rest =>
    clear HKS1 HB1 HG1 HPA HPN HPS HP HC
    obtain ⟨hb, hg⟩ := hcut
    have HB2 := Lib.hid hb; have HG2 := Lib.hid hg; clear hb hg
    go_wp2_with fail
    refine (HU.out _).mono ?_; rintro e w3 ⟨rfl, hb3⟩
    have HB3 := Lib.hid (HB2.out.trans (hb3.mono HB2.out.size))
    have HG3 := Lib.hid (HG2.out.below hb3); clear HG2
    clear HB2 hb3
    have HB4a := Lib.hid (show Below w.heap.size w (w3.alloc (.cells #[.int .i64 c2, .string t2] 29)) from HB3.out.alloc HB3.out.size _)
    have HG4a := Lib.hid (HG3.out.below (show Below w3.heap.size w3 (w3.alloc (.cells #[.int .i64 c2, .string t2] 29)) from (Below.refl _ _).alloc (Nat.le_refl _) _)); clear HG3
    have HKV4 := Lib.hid (Bk.new w3 29 #[.int .i64 c2, .string t2])
    clear HB3
    go_upto_region 10 with fail
    go_cut [91] (fun s91 wx => s91 = .bool false ∧ Below w.heap.size w wx ∧ Gs wx)
    case first =>
      by_cases hr : r = 0
      · subst hr
        have HQ1 := Lib.hid (HU0.out rfl).1; have HQ2 := Lib.hid (HU0.out rfl).2
        have HQZ := Lib.hid (show t2.size ≤ 4611686018427387900 by have := checkS_ok HQ1.out; omega)
        have hdd : (d.toList == d.toList) = true := by simp
        have cV0 : (w3.alloc (.cells #[.int .i64 c2, .string t2] 29)).cell? ⟨w3.heap.size, 0, none⟩ = some (.int .i64 c2) := HKV4.out.at_ 0 rfl
        have cV1 : (w3.alloc (.cells #[.int .i64 c2, .string t2] 29)).cell? ⟨w3.heap.size, 1, none⟩ = some (.string t2) := HKV4.out.at_ 1 rfl
        go_wp2_with fail
        refine (chk_ok _ c2 0 t2 HQ1.out (fun w => check_any c2 t2 w HQZ.out) _).mono ?_; rintro e w5 ⟨rfl, hb5⟩
        have HB5 := Lib.hid (HB4a.out.trans (hb5.mono HB4a.out.size))
        have HG5 := Lib.hid (HG4a.out.below hb5); clear HG4a
        have HKV5 := Lib.hid (HKV4.out.keep hb5); clear HKV4
        clear HB4a hb5
        clear cV0 cV1
        have cV0 : w5.cell? ⟨w3.heap.size, 0, none⟩ = some (.int .i64 c2) := HKV5.out.at_ 0 rfl
        have cV1 : w5.cell? ⟨w3.heap.size, 1, none⟩ = some (.string t2) := HKV5.out.at_ 1 rfl
        go_wp2_with fail
        refine (pk_ok _ c2 t2 d HQ2.out (fun w => pack_any c2 t2 w HQZ.out) _).mono ?_; rintro e w6 ⟨rfl, hb6⟩
        have HB6 := Lib.hid (HB5.out.trans (hb6.mono HB5.out.size))
        have HG6 := Lib.hid (HG5.out.below hb6); clear HG5
        have HKV6 := Lib.hid (HKV5.out.keep hb6); clear HKV5
        clear HB5 hb6
        clear cV0 cV1
        go_wp2_with fail
        go_meet
        exact ⟨rfl, HB6.out, HG6.out⟩
      · obtain ⟨q1, q2⟩ := byte_eq hr
        obtain ⟨rfl, rfl⟩ := HU1.out hr
        clear hr
        have cV0 : (w3.alloc (.cells #[.int .i64 0, .string ⟨#[]⟩] 29)).cell? ⟨w3.heap.size, 0, none⟩ = some (.int .i64 0) := HKV4.out.at_ 0 rfl
        have cV1 : (w3.alloc (.cells #[.int .i64 0, .string ⟨#[]⟩] 29)).cell? ⟨w3.heap.size, 1, none⟩ = some (.string ⟨#[]⟩) := HKV4.out.at_ 1 rfl
        go_wp2_with fail
        go_meet
        exact ⟨rfl, HB4a.out, HG4a.out⟩
    case rest =>
      clear HB4a HG4a HKV4 HU HU0 HU1
      obtain ⟨rfl, hb, hg⟩ := hcut
      have HB9 := Lib.hid hb; have HG9 := Lib.hid hg; clear hb hg
      have hkk : ((k : Int) == (k : Int)) = true := by simp
      by_cases hm : 0 ≤ m ∧ m ≤ 1099511627776
      · obtain ⟨n, rfl⟩ : ∃ n : Nat, m = n := ⟨m.toNat, by omega⟩
        have hn : n ≤ 1099511627776 := by omega
        have HSP := Lib.hid (show spanL (n : Int) = spanN n from spanL_nat n hn)
        have HPP := Lib.hid (show parseSp (⟨(spanN n).toArray⟩ : ByteArray).data.toList = (n, 0) from parse_span n hn)
        have HZZ := Lib.hid (show (⟨(spanN n).toArray⟩ : ByteArray).size ≤ 281474976710656 by rw [mk_sz]; exact spanN_len n hn)
        have hnn : ((n : Int) == (n : Int)) = true := by simp
        have hm1 : (0 : Int) ≤ n := by omega
        have hm2 : (n : Int) ≤ 1099511627776 := by omega
        generalize spanN n = Q at *
        clear hm hn
        go_wp2_with fail
        refine (span_ok n Q _ HG9.out HSP.out).mono ?_; rintro e w10 ⟨rfl, hb10⟩
        have HB10 := Lib.hid (HB9.out.trans (hb10.mono HB9.out.size))
        have HG10 := Lib.hid (HG9.out.below hb10); clear HG9
        clear HB9 hb10
        go_wp2_with fail
        refine (psp_ok _ n 0 _ HG10.out HZZ.out HPP.out).mono ?_; rintro e w11 ⟨rfl, hb11⟩
        have HB11 := Lib.hid (HB10.out.trans (hb11.mono HB10.out.size))
        have HG11 := Lib.hid (HG10.out.below hb11); clear HG10
        clear HB10 hb11
        go_wp2_with fail
        refine (HS.out _ HG11.out).mono ?_; rintro e w12 ⟨rfl, hb12⟩
        have HB12 := Lib.hid (HB11.out.trans (hb12.mono HB11.out.size))
        have HG12 := Lib.hid (HG11.out.below hb12); clear HG11
        clear HB11 hb12
        by_cases hg0 : g = 0
        · subst hg0
          obtain ⟨k1, k2⟩ := HS0.out rfl
          have HK := Lib.hid (show spanL (k : Int) = x.data.toList by rw [spanL_nat k k1, k2])
          have hk2 : (k : Int) ≤ 1099511627776 := by omega
          have hxx : (x.toList == x.toList) = true := by simp
          clear k1 k2
          go_wp2_with fail
          refine (span_ok k x.data.toList _ HG12.out HK.out).mono ?_; rintro e w13 ⟨rfl, hb13⟩
          have HB13 := Lib.hid (HB12.out.trans (hb13.mono HB12.out.size))
          have HG13 := Lib.hid (HG12.out.below hb13); clear HG12
          clear HB12 hb13
          go_wp2_with fail
          refine (awake_any _ HG13.out).mono ?_; rintro e w14 ⟨rfl, hb14⟩
          have HB14 := Lib.hid (HB13.out.trans (hb14.mono HB13.out.size))
          have HG14 := Lib.hid (HG13.out.below hb14); clear HG13
          clear HB13 hb14
          go_wp2_with fail
          go_ret
          exact ⟨rfl, HB14.out⟩
        · obtain ⟨q1, q2⟩ := byte_eq hg0
          obtain rfl : k = 0 := HS1.out hg0
          clear hg0
          go_wp2_with fail
          refine (awake_any _ HG12.out).mono ?_; rintro e w13 ⟨rfl, hb13⟩
          have HB13 := Lib.hid (HB12.out.trans (hb13.mono HB12.out.size))
          have HG13 := Lib.hid (HG12.out.below hb13); clear HG12
          clear HB12 hb13
          go_wp2_with fail
          go_ret
          exact ⟨rfl, HB13.out⟩
      · by_cases hm0 : 0 ≤ m
        · have hm1 : ¬ m ≤ 1099511627776 := by omega
          clear hm
          go_wp2_with fail
          refine (HS.out _ HG9.out).mono ?_; rintro e w10 ⟨rfl, hb10⟩
          have HB10 := Lib.hid (HB9.out.trans (hb10.mono HB9.out.size))
          have HG10 := Lib.hid (HG9.out.below hb10); clear HG9
          clear HB9 hb10
          by_cases hg0 : g = 0
          · subst hg0
            obtain ⟨k1, k2⟩ := HS0.out rfl
            have HK := Lib.hid (show spanL (k : Int) = x.data.toList by rw [spanL_nat k k1, k2])
            have hk2 : (k : Int) ≤ 1099511627776 := by omega
            have hxx : (x.toList == x.toList) = true := by simp
            clear k1 k2
            go_wp2_with fail
            refine (span_ok k x.data.toList _ HG10.out HK.out).mono ?_; rintro e w11 ⟨rfl, hb11⟩
            have HB11 := Lib.hid (HB10.out.trans (hb11.mono HB10.out.size))
            have HG11 := Lib.hid (HG10.out.below hb11); clear HG10
            clear HB10 hb11
            go_wp2_with fail
            refine (awake_any _ HG11.out).mono ?_; rintro e w12 ⟨rfl, hb12⟩
            have HB12 := Lib.hid (HB11.out.trans (hb12.mono HB11.out.size))
            have HG12 := Lib.hid (HG11.out.below hb12); clear HG11
            clear HB11 hb12
            go_wp2_with fail
            go_ret
            exact ⟨rfl, HB12.out⟩
          · obtain ⟨q1, q2⟩ := byte_eq hg0
            obtain rfl : k = 0 := HS1.out hg0
            clear hg0
            go_wp2_with fail
            refine (awake_any _ HG10.out).mono ?_; rintro e w11 ⟨rfl, hb11⟩
            have HB11 := Lib.hid (HB10.out.trans (hb11.mono HB10.out.size))
            have HG11 := Lib.hid (HG10.out.below hb11); clear HG10
            clear HB10 hb11
            go_wp2_with fail
            go_ret
            exact ⟨rfl, HB11.out⟩
        · clear hm
          go_wp2_with fail
          refine (HS.out _ HG9.out).mono ?_; rintro e w10 ⟨rfl, hb10⟩
          have HB10 := Lib.hid (HB9.out.trans (hb10.mono HB9.out.size))
          have HG10 := Lib.hid (HG9.out.below hb10); clear HG9
          clear HB9 hb10
          by_cases hg0 : g = 0
          · subst hg0
            obtain ⟨k1, k2⟩ := HS0.out rfl
            have HK := Lib.hid (show spanL (k : Int) = x.data.toList by rw [spanL_nat k k1, k2])
            have hk2 : (k : Int) ≤ 1099511627776 := by omega
            have hxx : (x.toList == x.toList) = true := by simp
            clear k1 k2
            go_wp2_with fail
            refine (span_ok k x.data.toList _ HG10.out HK.out).mono ?_; rintro e w11 ⟨rfl, hb11⟩
            have HB11 := Lib.hid (HB10.out.trans (hb11.mono HB10.out.size))
            have HG11 := Lib.hid (HG10.out.below hb11); clear HG10
            clear HB10 hb11
            go_wp2_with fail
            refine (awake_any _ HG11.out).mono ?_; rintro e w12 ⟨rfl, hb12⟩
            have HB12 := Lib.hid (HB11.out.trans (hb12.mono HB11.out.size))
            have HG12 := Lib.hid (HG11.out.below hb12); clear HG11
            clear HB11 hb12
            go_wp2_with fail
            go_ret
            exact ⟨rfl, HB12.out⟩
          · obtain ⟨q1, q2⟩ := byte_eq hg0
            obtain rfl : k = 0 := HS1.out hg0
            clear hg0
            go_wp2_with fail
            refine (awake_any _ HG10.out).mono ?_; rintro e w11 ⟨rfl, hb11⟩
            have HB11 := Lib.hid (HB10.out.trans (hb11.mono HB10.out.size))
            have HG11 := Lib.hid (HG10.out.below hb11); clear HG10
            clear HB10 hb11
            go_wp2_with fail
            go_ret
            exact ⟨rfl, HB11.out⟩
end Go.Proofs.YtlljocgcpaoenaaDoor
