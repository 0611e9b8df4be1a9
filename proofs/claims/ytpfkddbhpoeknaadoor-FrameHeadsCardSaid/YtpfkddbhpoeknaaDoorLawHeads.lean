/- FrameHeads: the law's own walk. -/
import Derived.Test.YtpfkddbhpoeknaaDoorAwake
import Derived.Test.YtpfkddbhpoeknaaDoorLong
namespace Go.Proofs.YtpfkddbhpoeknaaDoor
open Go.RowKit
theorem sized_size (x : ByteArray) : x.size ≤ (sized x).length := by
  have e : x.size = x.data.toList.length := by rw [Array.length_toList]; rfl
  unfold sized; rw [List.length_append, ← e]; omega
theorem hdSz_of {h : HdV} (hl : (headL h).length < 4294967281) : HdSz h := by
  unfold headL at hl
  simp only [List.length_append] at hl
  have h1 := sized_size h.svc
  have h2 := sized_size h.mth
  refine ⟨by omega, by omega, fun m hm => ?_⟩
  have h3 : (metaB m).length ≤ (h.metas.flatMap metaB).length := by
    obtain ⟨a, b, e⟩ := List.append_of_mem hm
    rw [e, List.flatMap_append, List.flatMap_cons]; simp only [List.length_append]; omega
  have h4 := sized_size m.1
  have h5 := sized_size m.2
  have h6 : (metaB m).length = (sized m.1).length + (sized m.2).length := by unfold metaB; rw [List.length_append]
  exact ⟨by omega, by omega⟩
theorem sized_le (x : ByteArray) (h : x.size ≤ 500) : (sized x).length ≤ 510 := by
  have e : x.size = x.data.toList.length := by rw [Array.length_toList]; rfl
  have := (putL_len x.size).2
  unfold sized; rw [List.length_append, ← e]; omega
theorem flat_le (ms : List (ByteArray × ByteArray)) (h : ∀ m ∈ ms, m.1.size ≤ 500 ∧ m.2.size ≤ 500) : (ms.flatMap metaB).length ≤ 1020 * ms.length := by
  induction ms with
  | nil => simp
  | cons m r ih =>
    have h1 := h m (List.mem_cons_self ..)
    have h2 := ih (fun m' hm => h m' (List.mem_cons_of_mem _ hm))
    have h3 := sized_le m.1 h1.1
    have h4 := sized_le m.2 h1.2
    have h6 : (metaB m).length = (sized m.1).length + (sized m.2).length := by unfold metaB; rw [List.length_append]
    rw [List.flatMap_cons, List.length_append, h6, List.length_cons]
    omega
theorem longB_len {h : HdV} (hl : longB h = false) : (headL h).length < 4294967281 := by
  unfold longB at hl
  rw [Bool.or_eq_false_iff, decide_eq_false_iff_not, List.any_eq_false] at hl
  obtain ⟨h1, h2⟩ := hl
  have a := sized_le h.svc (by omega)
  have b := sized_le h.mth (by omega)
  have c := (putL_len h.late.toNat).2
  have d := (putL_len h.metas.length).2
  have e := flat_le h.metas (fun m hm => by have := h2 m hm; unfold longM at this; simp at this; omega)
  unfold headL
  simp only [List.length_append]
  omega
theorem hdRead_metas (s : ByteArray) : (hdRead s).head.metas.length ≤ 16 := by
  by_cases h : (hdRead s).err = 0
  · exact (headE_late (hdRead_good h).1).2.2
  · have : (hdRead s).head = hdZero := by
      unfold hdRead hdEnd at h ⊢
      simp only at h ⊢
      (repeat' split) <;> first | rfl | (exfalso; simp_all)
    rw [this]; exact Nat.zero_le _
set_option maxHeartbeats 8000000 in
set_option maxRecDepth 100000 in
theorem heads_law (h : HdV) (v : Value) (s : ByteArray) (w : World) (hg : MLen w) (hm : MsIn w v h.metas) : Calls Tryd.prog 4 #[.agg (hcells h v), .string s] w fun e w' => e = .returned (.bool true) ∧ Below w.heap.size w w' := by
  have HA := Lib.hid (fun w hg => awake_any w hg)
  have HLO := Lib.hid (fun w hm => long_any h v w hm)
  have HMS := Lib.hid hm; clear hm
  obtain ⟨svc, mth, late, ms⟩ := h
  obtain ⟨sa, scap, rfl, _⟩ := HMS.out
  have HB0a := Lib.hid (below_box w (.cells #[.string svc, .string mth, .int .i64 late, .slice sa ms.length scap] HT))
  have HK0a := Lib.hid (Bk.new w HT #[.string svc, .string mth, .int .i64 late, .slice sa ms.length scap])
  have HG := Lib.hid hg; clear hg
  have HM0 := Lib.hid (HMS.out.below HB0a.out); have HG0 := Lib.hid (HG.out.below HB0a.out)
  cases hlo : longB ⟨svc, mth, late, ms⟩ with
  | true =>
    rw [hlo] at HLO
    go_enter Tryd.func4, Tryd.ntmps4
    go_wp2_with fail
    refine (HLO.out _ HM0.out).mono ?_; rintro e w1 ⟨rfl, hb1⟩
    have HB1 := Lib.hid (HB0a.out.trans (hb1.mono HB0a.out.size)); clear hb1
    go_wp2_with fail
    refine (HA.out _ (HG.out.below HB1.out)).mono ?_; rintro e w2 ⟨rfl, hb2⟩
    go_wp2_with fail
    go_ret
    exact ⟨rfl, HB1.out.trans (hb2.mono HB1.out.size)⟩
  | false =>
  rw [hlo] at HLO
  by_cases hs : 3000 < s.size
  · have hd := decide_eq_true (show (3000 : Int) < (s.size : Int) by omega)
    go_enter Tryd.func4, Tryd.ntmps4
    go_wp2_with fail
    refine (HLO.out _ HM0.out).mono ?_; rintro e w1 ⟨rfl, hb1⟩
    have HB1 := Lib.hid (HB0a.out.trans (hb1.mono HB0a.out.size)); clear hb1
    go_wp2_with fail
    refine (HA.out _ (HG.out.below HB1.out)).mono ?_; rintro e w2 ⟨rfl, hb2⟩
    go_wp2_with fail
    go_ret
    exact ⟨rfl, HB1.out.trans (hb2.mono HB1.out.size)⟩
  have hd := decide_eq_false (show ¬ (3000 : Int) < (s.size : Int) by omega)
  have hz := longB_sz hlo
  have HZ := Lib.hid hz.1
  have HH1 := Lib.hid (fun w hg hm => head_any ⟨svc, mth, late, ms⟩ (.slice sa ms.length scap) w hg hm HZ.out)
  have HH2 := Lib.hid (fun w hm => rhead_any ⟨svc, mth, late, ms⟩ (.slice sa ms.length scap) w hm HZ.out)
  have HR1 := Lib.hid (fun w hg => headRead_any s w hg (by omega))
  have HR2 := Lib.hid (fun w => rheadRead_any s w (by omega))
  have HRM := Lib.hid (show (hdRead s).head.metas.length < 4294967296 by have := hdRead_metas s; omega)
  have HMM := Lib.hid (show ms.length < 4294967296 by have : ms.length ≤ 20 := hz.2; omega)
  have HGOOD := Lib.hid (fun (h : (hdRead s).err = 0) => show headW (hdRead s).head = ⟨s.data.toList, 0⟩ by
    obtain ⟨g1, g2⟩ := hdRead_good h; unfold headW; rw [if_pos g1, g2])
  have HGZ := Lib.hid (fun (h : (hdRead s).err = 0) => show HdSz (hdRead s).head from hdSz_of (by rw [(hdRead_good h).2, Array.length_toList]; show s.size < _; omega))
  have HBACK := Lib.hid (fun (h : (headW ⟨svc, mth, late, ms⟩).err = 0) => show hdRead ⟨(headW ⟨svc, mth, late, ms⟩).bytes.toArray⟩ = ⟨⟨svc, mth, late, ms⟩, 0⟩ by
    by_cases he : headE ⟨svc, mth, late, ms⟩ = 0
    · unfold headW; rw [if_pos he]; exact hdRead_headL he HZ.out
    · unfold headW at h; rw [if_neg he] at h; exact absurd h he)
  have HBL := Lib.hid (show (headW ⟨svc, mth, late, ms⟩).bytes.length < 4294967281 by
    unfold headW; split
    · exact longB_len hlo
    · exact (by decide : 0 < 4294967281))
  clear hlo hs hz
  generalize hR : hdRead s = R at *
  generalize hW : headW ⟨svc, mth, late, ms⟩ = W at *
  obtain ⟨⟨rs, rm, rl, rms⟩, rc⟩ := R
  obtain ⟨wb, wc⟩ := W
  simp only at HRM HGOOD HGZ HBACK HBL
  clear hR hW
  unfold HdPost at HR1 HR2
  go_enter Tryd.func4, Tryd.ntmps4
  go_wp2_with fail
  refine (HLO.out _ HM0.out).mono ?_; rintro e w1 ⟨rfl, hb1⟩
  have HB1 := Lib.hid (HB0a.out.trans (hb1.mono HB0a.out.size)); have HK1 := Lib.hid (HK0a.out.keep hb1); clear hb1
  have c0 : w1.cell? ⟨w.heap.size, 0, none⟩ = some (.string svc) := HK1.out.at_ 0 rfl
  have c1 : w1.cell? ⟨w.heap.size, 1, none⟩ = some (.string mth) := HK1.out.at_ 1 rfl
  have c2 : w1.cell? ⟨w.heap.size, 2, none⟩ = some (.int .i64 late) := HK1.out.at_ 2 rfl
  have c3 : w1.cell? ⟨w.heap.size, 3, none⟩ = some (.slice sa ms.length scap) := HK1.out.at_ 3 rfl
  go_wp2_with fail
  refine (HH1.out _ (HG.out.below HB1.out) (HMS.out.below HB1.out)).mono ?_; rintro e w2 ⟨rfl, hb2⟩
  have HB2 := Lib.hid (HB1.out.trans (hb2.mono HB1.out.size)); have HK2 := Lib.hid (HK1.out.keep hb2); clear hb2 c0 c1 c2 c3
  have c0 : w2.cell? ⟨w.heap.size, 0, none⟩ = some (.string svc) := HK2.out.at_ 0 rfl
  have c1 : w2.cell? ⟨w.heap.size, 1, none⟩ = some (.string mth) := HK2.out.at_ 1 rfl
  have c2 : w2.cell? ⟨w.heap.size, 2, none⟩ = some (.int .i64 late) := HK2.out.at_ 2 rfl
  have c3 : w2.cell? ⟨w.heap.size, 3, none⟩ = some (.slice sa ms.length scap) := HK2.out.at_ 3 rfl
  go_wp2_with fail
  refine (HH2.out _ (HMS.out.below HB2.out)).mono ?_; rintro e w3 ⟨rfl, hb3⟩
  have HB3 := Lib.hid (HB2.out.trans (hb3.mono HB2.out.size)); have HK3 := Lib.hid (HK2.out.keep hb3); clear hb3 c0 c1 c2 c3
  go_wp2_with fail
  refine (HR1.out _ (HG.out.below HB3.out)).mono ?_; rintro e w4 ⟨v1, rfl, hm4, hb4⟩
  obtain ⟨xa, xcap, rfl, hx4⟩ := id hm4
  have HB4 := Lib.hid (HB3.out.trans (hb4.mono HB3.out.size)); have HK4 := Lib.hid (HK3.out.keep hb4); have HMX := Lib.hid hm4; clear hb4 hm4 hx4
  have HB4a := Lib.hid (HB4.out.alloc HB4.out.size (.cells #[.string rs, .string rm, .int .i64 rl, .slice xa rms.length xcap] HT))
  have HK4a := Lib.hid (HK4.out.more (.cells #[.string rs, .string rm, .int .i64 rl, .slice xa rms.length xcap] HT))
  have HX4a := Lib.hid (Bk.new w4 HT #[.string rs, .string rm, .int .i64 rl, .slice xa rms.length xcap])
  have HMX4 := Lib.hid (HMX.out.below (below_box w4 (.cells #[.string rs, .string rm, .int .i64 rl, .slice xa rms.length xcap] HT)))
  clear HMX HB4 HK4
  go_wp2_with fail
  refine (HR2.out _).mono ?_; rintro e w5 ⟨v2, rfl, hm5, hb5⟩
  obtain ⟨ya, ycap, rfl, hx5⟩ := id hm5
  have HB5 := Lib.hid (HB4a.out.trans (hb5.mono HB4a.out.size)); have HK5 := Lib.hid (HK4a.out.keep hb5); have HX5 := Lib.hid (HX4a.out.keep hb5); have HMX5 := Lib.hid (HMX4.out.below hb5); have HMY := Lib.hid hm5; clear hb5 hm5 hx5
  have HB5a := Lib.hid (HB5.out.alloc HB5.out.size (.cells #[.string rs, .string rm, .int .i64 rl, .slice ya rms.length ycap] HT))
  have HK5a := Lib.hid (HK5.out.more (.cells #[.string rs, .string rm, .int .i64 rl, .slice ya rms.length ycap] HT))
  have HX5a := Lib.hid (HX5.out.more (.cells #[.string rs, .string rm, .int .i64 rl, .slice ya rms.length ycap] HT))
  have HMX5a := Lib.hid (HMX5.out.below (below_box w5 (.cells #[.string rs, .string rm, .int .i64 rl, .slice ya rms.length ycap] HT)))
  have HMY5a := Lib.hid (HMY.out.below (below_box w5 (.cells #[.string rs, .string rm, .int .i64 rl, .slice ya rms.length ycap] HT)))
  have HSA := Lib.hid (fun w hm hm' => sameHead_any ⟨rs, rm, rl, rms⟩ (.slice xa rms.length xcap) (.slice ya rms.length ycap) w HRM.out hm hm')
  clear HB5 HK5 HX5 HMX5 HMY
  have x0 : (w5.alloc (.cells #[.string rs, .string rm, .int .i64 rl, .slice ya rms.length ycap] HT)).cell? ⟨w4.heap.size, 0, none⟩ = some (.string rs) := HX5a.out.at_ 0 rfl
  have x1 : (w5.alloc (.cells #[.string rs, .string rm, .int .i64 rl, .slice ya rms.length ycap] HT)).cell? ⟨w4.heap.size, 1, none⟩ = some (.string rm) := HX5a.out.at_ 1 rfl
  have x2 : (w5.alloc (.cells #[.string rs, .string rm, .int .i64 rl, .slice ya rms.length ycap] HT)).cell? ⟨w4.heap.size, 2, none⟩ = some (.int .i64 rl) := HX5a.out.at_ 2 rfl
  have x3 : (w5.alloc (.cells #[.string rs, .string rm, .int .i64 rl, .slice ya rms.length ycap] HT)).cell? ⟨w4.heap.size, 3, none⟩ = some (.slice xa rms.length xcap) := HX5a.out.at_ 3 rfl
  go_wp2_with fail
  refine (HSA.out _ HMX5a.out HMY5a.out).mono ?_; rintro e w6 ⟨rfl, hb6⟩
  have HB6 := Lib.hid (HB5a.out.trans (hb6.mono HB5a.out.size)); have HK6 := Lib.hid (HK5a.out.keep hb6); have HX6 := Lib.hid (HX5a.out.keep hb6); have HMX6 := Lib.hid (HMX5a.out.below hb6)
  clear hb6 x0 x1 x2 x3 HX5a HK5a HB5a HMX5a HMY5a
  -- the head that was written
  by_cases hc : wc = 0
  · subst hc
    have hbk := HBACK.out rfl
    have HR3 := Lib.hid (fun w hg => (headRead_any ⟨wb.toArray⟩ w hg (by show wb.toArray.size < _; rw [List.size_toArray]; exact HBL.out)).mono fun e w' he => (show ∃ v, e = .returned (.tuple #[.agg #[.string svc, .string mth, .int .i64 late, v], .int .i64 0]) ∧ MsIn w' v ms ∧ Below w.heap.size w w' by unfold HdPost at he; rw [hbk] at he; exact he))
    clear hbk
    go_wp2_with fail
    refine (HR3.out _ (HG.out.below HB6.out)).mono ?_; rintro e w7 ⟨v3, rfl, hm7, hb7⟩
    obtain ⟨za, zcap, rfl, hx7⟩ := id hm7
    have HB7 := Lib.hid (HB6.out.trans (hb7.mono HB6.out.size)); have HK7 := Lib.hid (HK6.out.keep hb7); have HX7 := Lib.hid (HX6.out.keep hb7); have HMX7 := Lib.hid (HMX6.out.below hb7); have HMZ := Lib.hid hm7; clear hb7 hm7 hx7
    have HB7a := Lib.hid (HB7.out.alloc HB7.out.size (.cells #[.string svc, .string mth, .int .i64 late, .slice za ms.length zcap] HT))
    have HK7a := Lib.hid (HK7.out.more (.cells #[.string svc, .string mth, .int .i64 late, .slice za ms.length zcap] HT))
    have HX7a := Lib.hid (HX7.out.more (.cells #[.string svc, .string mth, .int .i64 late, .slice za ms.length zcap] HT))
    have HMX7a := Lib.hid (HMX7.out.below (below_box w7 (.cells #[.string svc, .string mth, .int .i64 late, .slice za ms.length zcap] HT)))
    have HMZ7a := Lib.hid (HMZ.out.below (below_box w7 (.cells #[.string svc, .string mth, .int .i64 late, .slice za ms.length zcap] HT)))
    have HSB := Lib.hid (fun w hm hm' => sameHead_any ⟨svc, mth, late, ms⟩ (.slice za ms.length zcap) (.slice sa ms.length scap) w HMM.out hm hm')
    clear HB7 HK7 HX7 HMX7 HMZ
    have c0 : (w7.alloc (.cells #[.string svc, .string mth, .int .i64 late, .slice za ms.length zcap] HT)).cell? ⟨w.heap.size, 0, none⟩ = some (.string svc) := HK7a.out.at_ 0 rfl
    have c1 : (w7.alloc (.cells #[.string svc, .string mth, .int .i64 late, .slice za ms.length zcap] HT)).cell? ⟨w.heap.size, 1, none⟩ = some (.string mth) := HK7a.out.at_ 1 rfl
    have c2 : (w7.alloc (.cells #[.string svc, .string mth, .int .i64 late, .slice za ms.length zcap] HT)).cell? ⟨w.heap.size, 2, none⟩ = some (.int .i64 late) := HK7a.out.at_ 2 rfl
    have c3 : (w7.alloc (.cells #[.string svc, .string mth, .int .i64 late, .slice za ms.length zcap] HT)).cell? ⟨w.heap.size, 3, none⟩ = some (.slice sa ms.length scap) := HK7a.out.at_ 3 rfl
    go_wp2_with fail
    refine (HSB.out _ HMZ7a.out (HMS.out.below HB7a.out)).mono ?_; rintro e w8 ⟨rfl, hb8⟩
    have HB8 := Lib.hid (HB7a.out.trans (hb8.mono HB7a.out.size)); have HX8 := Lib.hid (HX7a.out.keep hb8); have HMX8 := Lib.hid (HMX7a.out.below hb8)
    clear hb8 c0 c1 c2 c3
    by_cases hr : rc = 0
    · subst hr
      have hgd := HGOOD.out rfl
      have HH3 := Lib.hid (fun w hg hm => (head_any ⟨rs, rm, rl, rms⟩ (.slice xa rms.length xcap) w hg hm (HGZ.out rfl)).mono fun e w' he => (show e = .returned (.tuple #[.string s, .int .i64 0]) ∧ Below w.heap.size w w' by rw [hgd] at he; exact he))
      clear hgd
      have x0 : w8.cell? ⟨w4.heap.size, 0, none⟩ = some (.string rs) := HX8.out.at_ 0 rfl
      have x1 : w8.cell? ⟨w4.heap.size, 1, none⟩ = some (.string rm) := HX8.out.at_ 1 rfl
      have x2 : w8.cell? ⟨w4.heap.size, 2, none⟩ = some (.int .i64 rl) := HX8.out.at_ 2 rfl
      have x3 : w8.cell? ⟨w4.heap.size, 3, none⟩ = some (.slice xa rms.length xcap) := HX8.out.at_ 3 rfl
      go_wp2_with fail
      refine (HH3.out _ (HG.out.below HB8.out) HMX8.out).mono ?_; rintro e w9 ⟨rfl, hb9⟩
      have HB9 := Lib.hid (HB8.out.trans (hb9.mono HB8.out.size)); clear hb9 x0 x1 x2 x3
      go_wp2_with fail
      refine (HA.out _ (HG.out.below HB9.out)).mono ?_; rintro e w10 ⟨rfl, hb10⟩
      go_wp2_with fail
      go_ret
      exact ⟨rfl, HB9.out.trans (hb10.mono HB9.out.size)⟩
    · obtain ⟨p1, p2⟩ := byte_eq hr
      clear hr
      go_wp2_with fail
      refine (HA.out _ (HG.out.below HB8.out)).mono ?_; rintro e w9 ⟨rfl, hb9⟩
      go_wp2_with fail
      go_ret
      exact ⟨rfl, HB8.out.trans (hb9.mono HB8.out.size)⟩
  · obtain ⟨q1, q2⟩ := byte_eq hc
    clear hc
    by_cases hr : rc = 0
    · subst hr
      have hgd := HGOOD.out rfl
      have HH3 := Lib.hid (fun w hg hm => (head_any ⟨rs, rm, rl, rms⟩ (.slice xa rms.length xcap) w hg hm (HGZ.out rfl)).mono fun e w' he => (show e = .returned (.tuple #[.string s, .int .i64 0]) ∧ Below w.heap.size w w' by rw [hgd] at he; exact he))
      clear hgd
      have x0 : w6.cell? ⟨w4.heap.size, 0, none⟩ = some (.string rs) := HX6.out.at_ 0 rfl
      have x1 : w6.cell? ⟨w4.heap.size, 1, none⟩ = some (.string rm) := HX6.out.at_ 1 rfl
      have x2 : w6.cell? ⟨w4.heap.size, 2, none⟩ = some (.int .i64 rl) := HX6.out.at_ 2 rfl
      have x3 : w6.cell? ⟨w4.heap.size, 3, none⟩ = some (.slice xa rms.length xcap) := HX6.out.at_ 3 rfl
      go_wp2_with fail
      refine (HH3.out _ (HG.out.below HB6.out) HMX6.out).mono ?_; rintro e w9 ⟨rfl, hb9⟩
      have HB9 := Lib.hid (HB6.out.trans (hb9.mono HB6.out.size)); clear hb9 x0 x1 x2 x3
      go_wp2_with fail
      refine (HA.out _ (HG.out.below HB9.out)).mono ?_; rintro e w10 ⟨rfl, hb10⟩
      go_wp2_with fail
      go_ret
      exact ⟨rfl, HB9.out.trans (hb10.mono HB9.out.size)⟩
    · obtain ⟨p1, p2⟩ := byte_eq hr
      clear hr
      go_wp2_with fail
      refine (HA.out _ (HG.out.below HB6.out)).mono ?_; rintro e w9 ⟨rfl, hb9⟩
      go_wp2_with fail
      go_ret
      exact ⟨rfl, HB6.out.trans (hb9.mono HB6.out.size)⟩
end Go.Proofs.YtpfkddbhpoeknaaDoor
