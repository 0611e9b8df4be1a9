/- Heads: their bytes, the reference's Head. -/
import Derived.Test.YtpfkddbhpoeknaaGreatDoorHead3
namespace Go.Proofs.YtpfkddbhpoeknaaGreatDoor
open Go.RowKit

set_option maxHeartbeats 4000000 in
set_option maxRecDepth 100000 in
theorem rhead_some (svc mth : ByteArray) (late : Int) (ms : List (ByteArray × ByteArray)) (g o cap : Nat) (w : World) (hgl : g < w.heap.size) (hcs : ∀ i (h : i < ms.length), w.cell? ⟨g, o + i * 2, none⟩ = some (.string ms[i].1) ∧ w.cell? ⟨g, o + i * 2 + 1, none⟩ = some (.string ms[i].2)) (hz : HdSz ⟨svc, mth, late, ms⟩) (he : headE ⟨svc, mth, late, ms⟩ = 0) :
    Calls Tryz.prog 47 #[.agg #[.string svc, .string mth, .int .i64 late, .slice (some ⟨g, o, none⟩) ms.length cap]] w fun e w' => e = .returned (.tuple #[.string ⟨(headL ⟨svc, mth, late, ms⟩).toArray⟩, .int .i64 0]) ∧ Below w.heap.size w w' := by
  obtain ⟨hl1, hl2, hl3⟩ := headE_ok he
  have hl1 : 0 ≤ late := hl1
  have hl2 : late ≤ 1099511627776 := hl2
  have hl3 : ms.length ≤ 16 := hl3
  obtain ⟨lt, rfl⟩ : ∃ n : Nat, late = n := ⟨late.toNat, by omega⟩
  have HE := Lib.hid (fun w hgl hcs => int_ok he (hcheck_some svc mth lt ms g o cap w hgl hcs hz))
  have hp1 := sized_len svc; have hp2 := sized_len mth; have hp3 := putL_len lt; have hp4 := putL_len ms.length
  have z1 : svc.size < 4294967281 := hz.1
  have z2 : mth.size < 4294967281 := hz.2.1
  have HZ := Lib.hid hz
  have HS1 := Lib.hid (fun w => rtext_any svc w (by omega)); have HS2 := Lib.hid (fun w => rtext_any mth w (by omega))
  have HP1 := Lib.hid (fun w => refPut_any lt w (by omega)); have HP2 := Lib.hid (fun w => refPut_any ms.length w (by omega))
  have HB0 := Lib.hid (show Below w.heap.size w (w.alloc (.cells #[.string svc, .string mth, .int .i64 lt, .slice (some ⟨g, o, none⟩) ms.length cap] HT)) from (Below.refl _ _).alloc (Nat.le_refl _) _)
  have HK0 := Lib.hid (Bk.new w HT #[.string svc, .string mth, .int .i64 lt, .slice (some ⟨g, o, none⟩) ms.length cap])
  have HC := Lib.hid hcs
  have HC0 := Lib.hid (show ∀ i (h : i < ms.length), (w.alloc (.cells #[.string svc, .string mth, .int .i64 lt, .slice (some ⟨g, o, none⟩) ms.length cap] HT)).cell? ⟨g, o + i * 2, none⟩ = some (.string ms[i].1) ∧ (w.alloc (.cells #[.string svc, .string mth, .int .i64 lt, .slice (some ⟨g, o, none⟩) ms.length cap] HT)).cell? ⟨g, o + i * 2 + 1, none⟩ = some (.string ms[i].2) from fun i h => ⟨(HB0.out.cell (p := ⟨g, o + i * 2, none⟩) hgl).trans (hcs i h).1, (HB0.out.cell (p := ⟨g, o + i * 2 + 1, none⟩) hgl).trans (hcs i h).2⟩)
  have hgl0 : g < (w.alloc (.cells #[.string svc, .string mth, .int .i64 lt, .slice (some ⟨g, o, none⟩) ms.length cap] HT)).heap.size := by simp; omega
  have HGL0 := Lib.hid hgl0; clear hgl0 hcs
  have hwl : IntKind.u64.wrap (lt : Int) = lt := by rw [IntKind.wrap_u64]; omega
  have hwn : IntKind.u64.wrap (ms.length : Int) = ms.length := by rw [IntKind.wrap_u64]; omega
  clear hz he hl1 hl2
  go_enter Tryz.func47, Tryz.ntmps47
  go_wp2_with fail
  refine (HE.out _ HGL0.out HC0.out).mono ?_; rintro e w1 ⟨rfl, hb1⟩
  have HB1 := Lib.hid (HB0.out.trans (hb1.mono HB0.out.size)); have HK1 := Lib.hid (HK0.out.keep hb1); clear hb1
  go_wp2_with fail
  have k0 : w1.cell? ⟨w.heap.size, 0, none⟩ = some (.string svc) := HK1.out.at_ 0 rfl
  have k1 : w1.cell? ⟨w.heap.size, 1, none⟩ = some (.string mth) := HK1.out.at_ 1 rfl
  have k2 : w1.cell? ⟨w.heap.size, 2, none⟩ = some (.int .i64 lt) := HK1.out.at_ 2 rfl
  have k3 : w1.cell? ⟨w.heap.size, 3, none⟩ = some (.slice (some ⟨g, o, none⟩) ms.length cap) := HK1.out.at_ 3 rfl
  have HN0 := Lib.hid (show w.heap.size + 1 ≤ w1.heap.size from HK1.out.here)
  have HBB0 := Lib.hid (Below.refl (w.heap.size + 1) w1)
  have HAL := Lib.hid (accK_len ⟨svc, mth, lt, ms⟩ HZ.out)
  have HA0 := Lib.hid (show accK ⟨svc, mth, lt, ms⟩ 0 = sized svc ++ sized mth ++ putL lt ++ putL ms.length by unfold accK; simp)
  have hs1 := full_size (sized svc); have hs2 := full_size (sized mth); have hs3 := full_size (putL lt); have hs4 := full_size (putL ms.length)
  have hn1 : ¬ 9223372036854775807 < (sized svc).length + (sized mth).length := by omega
  have hn2 : ¬ 9223372036854775807 < (sized svc).length + (sized mth).length + (putL lt).length := by omega
  have hn3 : ¬ 9223372036854775807 < (sized svc).length + (sized mth).length + (putL lt).length + (putL ms.length).length := by omega
  have HX := Lib.hid (show (⟨(sized svc).toArray⟩ ++ ⟨(sized mth).toArray⟩ ++ ⟨(putL lt).toArray⟩ ++ ⟨(putL ms.length).toArray⟩ : ByteArray) = ⟨(accK ⟨svc, mth, lt, ms⟩ 0).toArray⟩ by rw [HA0.out]; refine ByteArray.ext (Array.ext' ?_); simp [ByteArray.data_append])
  clear z1 z2
  generalize hAA : sized svc = A at *
  generalize hBB : sized mth = B at *
  generalize hCC : putL lt = C at *
  generalize hDD : putL ms.length = D at *
  clear hAA hBB hCC hDD
  refine wp_region_T (InvB (w.heap.size + 1) w1) kf4 (by kernel_rfl) (by kernel_rfl) (InvB.refl _ _).drew ?_
  (first | (refine wpT_skip rfl (fun K hK => ?_); try go_simp; refine hK _ _ ?_; clear hK K) | (refine wpT_pure rfl rfl _ (fun w' hI => by unfold InvB at hI; go_simp; rfl) (fun K hK => ?_); try go_simp; refine hK _ _ ?_; clear hK K) | (refine wpT_pure rfl rfl _ (fun w' hI => by go_simp; rfl) (fun K hK => ?_); try go_simp; refine hK _ _ ?_; clear hK K) | (refine wpT_read rfl rfl rfl _ (by go_simp; rfl) (fun K hK => ?_); try go_simp; refine hK _ _ ?_; clear hK K))
  (first | (refine wpT_skip rfl (fun K hK => ?_); try go_simp; refine hK _ _ ?_; clear hK K) | (refine wpT_pure rfl rfl _ (fun w' hI => by unfold InvB at hI; go_simp; rfl) (fun K hK => ?_); try go_simp; refine hK _ _ ?_; clear hK K) | (refine wpT_pure rfl rfl _ (fun w' hI => by go_simp; rfl) (fun K hK => ?_); try go_simp; refine hK _ _ ?_; clear hK K) | (refine wpT_read rfl rfl rfl _ (by go_simp; rfl) (fun K hK => ?_); try go_simp; refine hK _ _ ?_; clear hK K))
  refine wpT_act rfl rfl rfl (fun K hK => ?_); go_simp
  refine (HS1.out _).mono ?_; rintro e x1 ⟨rfl, hb1⟩; try go_simp
  have HI1 := Lib.hid ((InvB.refl _ _).drew.below hb1 (show w.heap.size + 1 ≤ _ from HN0.out)); have HS1 := Lib.hid (Nat.le_trans HN0.out hb1.size)
  have HBB1 := Lib.hid (HBB0.out.drew.trans (hb1.mono (show w.heap.size + 1 ≤ _ from HN0.out)))
  refine hK _ _ ⟨HI1.out, ?_⟩; clear hK K hb1
  (first | (refine wpT_skip rfl (fun K hK => ?_); try go_simp; refine hK _ _ ?_; clear hK K) | (refine wpT_pure rfl rfl _ (fun w' hI => by unfold InvB at hI; go_simp; rfl) (fun K hK => ?_); try go_simp; refine hK _ _ ?_; clear hK K) | (refine wpT_pure rfl rfl _ (fun w' hI => by go_simp; rfl) (fun K hK => ?_); try go_simp; refine hK _ _ ?_; clear hK K) | (refine wpT_read rfl rfl rfl _ (by go_simp; rfl) (fun K hK => ?_); try go_simp; refine hK _ _ ?_; clear hK K))
  (first | (refine wpT_skip rfl (fun K hK => ?_); try go_simp; refine hK _ _ ?_; clear hK K) | (refine wpT_pure rfl rfl _ (fun w' hI => by unfold InvB at hI; go_simp; rfl) (fun K hK => ?_); try go_simp; refine hK _ _ ?_; clear hK K) | (refine wpT_pure rfl rfl _ (fun w' hI => by go_simp; rfl) (fun K hK => ?_); try go_simp; refine hK _ _ ?_; clear hK K) | (refine wpT_read rfl rfl rfl _ (by go_simp; rfl) (fun K hK => ?_); try go_simp; refine hK _ _ ?_; clear hK K))
  refine wpT_act rfl rfl rfl (fun K hK => ?_); go_simp
  refine (HS2.out _).mono ?_; rintro e x2 ⟨rfl, hb2⟩; try go_simp
  have HI2 := Lib.hid (HI1.out.below hb2 HS1.out); have HS2 := Lib.hid (Nat.le_trans HS1.out hb2.size)
  have HBB2 := Lib.hid (HBB1.out.trans (hb2.mono HS1.out))
  refine hK _ _ ⟨HI2.out, ?_⟩; clear hK K hb2
  (first | (refine wpT_skip rfl (fun K hK => ?_); try go_simp; refine hK _ _ ?_; clear hK K) | (refine wpT_pure rfl rfl _ (fun w' hI => by unfold InvB at hI; go_simp; rfl) (fun K hK => ?_); try go_simp; refine hK _ _ ?_; clear hK K) | (refine wpT_pure rfl rfl _ (fun w' hI => by go_simp; rfl) (fun K hK => ?_); try go_simp; refine hK _ _ ?_; clear hK K) | (refine wpT_read rfl rfl rfl _ (by go_simp; rfl) (fun K hK => ?_); try go_simp; refine hK _ _ ?_; clear hK K))
  (first | (refine wpT_skip rfl (fun K hK => ?_); try go_simp; refine hK _ _ ?_; clear hK K) | (refine wpT_pure rfl rfl _ (fun w' hI => by unfold InvB at hI; go_simp; rfl) (fun K hK => ?_); try go_simp; refine hK _ _ ?_; clear hK K) | (refine wpT_pure rfl rfl _ (fun w' hI => by go_simp; rfl) (fun K hK => ?_); try go_simp; refine hK _ _ ?_; clear hK K) | (refine wpT_read rfl rfl rfl _ (by go_simp; rfl) (fun K hK => ?_); try go_simp; refine hK _ _ ?_; clear hK K))
  (first | (refine wpT_skip rfl (fun K hK => ?_); try go_simp; refine hK _ _ ?_; clear hK K) | (refine wpT_pure rfl rfl _ (fun w' hI => by unfold InvB at hI; go_simp; rfl) (fun K hK => ?_); try go_simp; refine hK _ _ ?_; clear hK K) | (refine wpT_pure rfl rfl _ (fun w' hI => by go_simp; rfl) (fun K hK => ?_); try go_simp; refine hK _ _ ?_; clear hK K) | (refine wpT_read rfl rfl rfl _ (by go_simp; rfl) (fun K hK => ?_); try go_simp; refine hK _ _ ?_; clear hK K))
  (first | (refine wpT_skip rfl (fun K hK => ?_); try go_simp; refine hK _ _ ?_; clear hK K) | (refine wpT_pure rfl rfl _ (fun w' hI => by unfold InvB at hI; go_simp; rfl) (fun K hK => ?_); try go_simp; refine hK _ _ ?_; clear hK K) | (refine wpT_pure rfl rfl _ (fun w' hI => by go_simp; rfl) (fun K hK => ?_); try go_simp; refine hK _ _ ?_; clear hK K) | (refine wpT_read rfl rfl rfl _ (by go_simp; rfl) (fun K hK => ?_); try go_simp; refine hK _ _ ?_; clear hK K))
  refine wpT_act rfl rfl rfl (fun K hK => ?_); go_simp
  refine (HP1.out _).mono ?_; rintro e x3 ⟨rfl, hb3⟩; try go_simp
  have HI3 := Lib.hid (HI2.out.below hb3 HS2.out); have HS3 := Lib.hid (Nat.le_trans HS2.out hb3.size)
  have HBB3 := Lib.hid (HBB2.out.trans (hb3.mono HS2.out))
  refine hK _ _ ⟨HI3.out, ?_⟩; clear hK K hb3
  (first | (refine wpT_skip rfl (fun K hK => ?_); try go_simp; refine hK _ _ ?_; clear hK K) | (refine wpT_pure rfl rfl _ (fun w' hI => by unfold InvB at hI; go_simp; rfl) (fun K hK => ?_); try go_simp; refine hK _ _ ?_; clear hK K) | (refine wpT_pure rfl rfl _ (fun w' hI => by go_simp; rfl) (fun K hK => ?_); try go_simp; refine hK _ _ ?_; clear hK K) | (refine wpT_read rfl rfl rfl _ (by go_simp; rfl) (fun K hK => ?_); try go_simp; refine hK _ _ ?_; clear hK K))
  (first | (refine wpT_skip rfl (fun K hK => ?_); try go_simp; refine hK _ _ ?_; clear hK K) | (refine wpT_pure rfl rfl _ (fun w' hI => by unfold InvB at hI; go_simp; rfl) (fun K hK => ?_); try go_simp; refine hK _ _ ?_; clear hK K) | (refine wpT_pure rfl rfl _ (fun w' hI => by go_simp; rfl) (fun K hK => ?_); try go_simp; refine hK _ _ ?_; clear hK K) | (refine wpT_read rfl rfl rfl _ (by go_simp; rfl) (fun K hK => ?_); try go_simp; refine hK _ _ ?_; clear hK K))
  (first | (refine wpT_skip rfl (fun K hK => ?_); try go_simp; refine hK _ _ ?_; clear hK K) | (refine wpT_pure rfl rfl _ (fun w' hI => by unfold InvB at hI; go_simp; rfl) (fun K hK => ?_); try go_simp; refine hK _ _ ?_; clear hK K) | (refine wpT_pure rfl rfl _ (fun w' hI => by go_simp; rfl) (fun K hK => ?_); try go_simp; refine hK _ _ ?_; clear hK K) | (refine wpT_read rfl rfl rfl _ (by go_simp; rfl) (fun K hK => ?_); try go_simp; refine hK _ _ ?_; clear hK K))
  (first | (refine wpT_skip rfl (fun K hK => ?_); try go_simp; refine hK _ _ ?_; clear hK K) | (refine wpT_pure rfl rfl _ (fun w' hI => by unfold InvB at hI; go_simp; rfl) (fun K hK => ?_); try go_simp; refine hK _ _ ?_; clear hK K) | (refine wpT_pure rfl rfl _ (fun w' hI => by go_simp; rfl) (fun K hK => ?_); try go_simp; refine hK _ _ ?_; clear hK K) | (refine wpT_read rfl rfl rfl _ (by go_simp; rfl) (fun K hK => ?_); try go_simp; refine hK _ _ ?_; clear hK K))
  (first | (refine wpT_skip rfl (fun K hK => ?_); try go_simp; refine hK _ _ ?_; clear hK K) | (refine wpT_pure rfl rfl _ (fun w' hI => by unfold InvB at hI; go_simp; rfl) (fun K hK => ?_); try go_simp; refine hK _ _ ?_; clear hK K) | (refine wpT_pure rfl rfl _ (fun w' hI => by go_simp; rfl) (fun K hK => ?_); try go_simp; refine hK _ _ ?_; clear hK K) | (refine wpT_read rfl rfl rfl _ (by go_simp; rfl) (fun K hK => ?_); try go_simp; refine hK _ _ ?_; clear hK K))
  refine wpT_act rfl rfl rfl (fun K hK => ?_); go_simp
  refine (HP2.out _).mono ?_; rintro e x4 ⟨rfl, hb4⟩; try go_simp
  have HI4 := Lib.hid (HI3.out.below hb4 HS3.out); have HS4 := Lib.hid (Nat.le_trans HS3.out hb4.size)
  have HBB4 := Lib.hid (HBB3.out.trans (hb4.mono HS3.out))
  refine hK _ _ ⟨HI4.out, ?_⟩; clear hK K hb4
  (first | (refine wpT_skip rfl (fun K hK => ?_); try go_simp; refine hK _ _ ?_; clear hK K) | (refine wpT_pure rfl rfl _ (fun w' hI => by unfold InvB at hI; go_simp; rfl) (fun K hK => ?_); try go_simp; refine hK _ _ ?_; clear hK K) | (refine wpT_pure rfl rfl _ (fun w' hI => by go_simp; rfl) (fun K hK => ?_); try go_simp; refine hK _ _ ?_; clear hK K) | (refine wpT_read rfl rfl rfl _ (by go_simp; rfl) (fun K hK => ?_); try go_simp; refine hK _ _ ?_; clear hK K))
  (first | (refine wpT_skip rfl (fun K hK => ?_); try go_simp; refine hK _ _ ?_; clear hK K) | (refine wpT_pure rfl rfl _ (fun w' hI => by unfold InvB at hI; go_simp; rfl) (fun K hK => ?_); try go_simp; refine hK _ _ ?_; clear hK K) | (refine wpT_pure rfl rfl _ (fun w' hI => by go_simp; rfl) (fun K hK => ?_); try go_simp; refine hK _ _ ?_; clear hK K) | (refine wpT_read rfl rfl rfl _ (by go_simp; rfl) (fun K hK => ?_); try go_simp; refine hK _ _ ?_; clear hK K))
  refine wpT_nil ?_
  rw [HX.out]
  have k3' : x4.cell? ⟨w.heap.size, 3, none⟩ = some (.slice (some ⟨g, o, none⟩) ms.length cap) := (HI4.out _ _ (Nat.lt_succ_self _)).trans k3
  clear k0 k1 k2 k3 hs1 hs2 hs3 hs4 hn1 hn2 hn3 hp1 hp2 hp3 hp4 hwl hwn HS1 HS2 HP1 HP2 HI1 HI2 HI3 HI4 HX
  go_wp2_with fail
  have hb16 : (ms.length : Int) ≤ 16 := by omega
  go_loopw [5, 6] (fun s x wr => ∃ k : Nat, k ≤ ms.length ∧ x = .int .i64 k ∧ s = .string ⟨(accK ⟨svc, mth, lt, ms⟩ k).toArray⟩ ∧ Below (w.heap.size + 1) w1 wr) (fun _ x _ => ms.length - (intOf x).toNat)
  case atStart => exact ⟨0, Nat.zero_le _, rfl, rfl, HBB4.out⟩
  case round =>
    obtain ⟨k, hk, rfl, rfl, hbw1⟩ := hrel
    have HBW := Lib.hid hbw1
    have hbw : Below w.heap.size w wr := HB1.out.trans (hbw1.mono (Nat.le_succ _))
    have HBW0 := Lib.hid hbw
    have hcr3 : wr.cell? ⟨w.heap.size, 3, none⟩ = some (.slice (some ⟨g, o, none⟩) ms.length cap) := (hbw1.cell (p := ⟨w.heap.size, 3, none⟩) (Nat.lt_succ_self _)).trans (HK1.out.at_ 3 rfl)
    by_cases hlt : k < ms.length
    · have hck := HC.out k hlt
      have hc4 : wr.cell? ⟨g, o + k * 2, none⟩ = some (.string ms[k].1) := (hbw.cell (p := ⟨g, o + k * 2, none⟩) hgl).trans hck.1
      have hc5 : wr.cell? ⟨g, o + k * 2 + 1, none⟩ = some (.string ms[k].2) := (hbw.cell (p := ⟨g, o + k * 2 + 1, none⟩) hgl).trans hck.2
      have HAS := Lib.hid (accK_succ ⟨svc, mth, lt, ms⟩ (k := k) hlt)
      have hal := HAL.out k (by show k ≤ ms.length; omega)
      have hgN : g < w.heap.size + 1 := by omega
      obtain ⟨y1, y2⟩ := HZ.out.2.2 ms[k] (List.getElem_mem hlt)
      have HBN := Lib.hid (show w.heap.size + 1 ≤ wr.heap.size from Nat.le_trans HK1.out.here hbw1.size)
      have hl1 := sized_len ms[k].1; have hl2 := sized_len ms[k].2
      have HV1 := Lib.hid (fun w => rtext_any ms[k].1 w (by omega)); have HV2 := Lib.hid (fun w => rtext_any ms[k].2 w (by omega))
      have HXQ := Lib.hid (show (⟨(accK ⟨svc, mth, lt, ms⟩ k).toArray⟩ ++ (⟨(sized ms[k].1).toArray⟩ ++ ⟨(sized ms[k].2).toArray⟩) : ByteArray) = ⟨(accK ⟨svc, mth, lt, ms⟩ (k + 1)).toArray⟩ by rw [HAS.out]; refine ByteArray.ext (Array.ext' ?_); simp [ByteArray.data_append, metaB])
      clear hbw hbw1 hck HAS
      have hs0 := full_size (accK ⟨svc, mth, lt, ms⟩ k); have hs1 := full_size (sized ms[k].1); have hs2 := full_size (sized ms[k].2)
      have hn1 : ¬ 9223372036854775807 < (sized ms[k].1).length + (sized ms[k].2).length := by omega
      have hn2 : ¬ 9223372036854775807 < (accK ⟨svc, mth, lt, ms⟩ k).length + ((sized ms[k].1).length + (sized ms[k].2).length) := by omega
      generalize hA : sized ms[k].1 = A at *
      generalize hB : sized ms[k].2 = B at *
      clear hA hB y1 y2 hl1 hl2 hal
      generalize hky : ms[k].1 = ky at *
      generalize hvl : ms[k].2 = vl at *
      generalize hac : accK ⟨svc, mth, lt, ms⟩ k = acc at *
      clear hky hvl
      by_cases hk0 : k = 0
      · subst hk0
        have hc4' : wr.cell? ⟨g, o, none⟩ = some (.string ky) := by simpa using hc4
        have hc5' : wr.cell? ⟨g, o + 1, none⟩ = some (.string vl) := by simpa using hc5
        clear hc4 hc5 hac
        go_wp2_with fail
        refine wp_region_T (InvB (w.heap.size + 1) wr) kf4 (by kernel_rfl) (by kernel_rfl) (InvB.refl _ _).drew ?_
        iterate 7 (first | (refine wpT_skip rfl (fun K hK => ?_); try go_simp; refine hK _ _ ?_; clear hK K) | (refine wpT_pure rfl rfl _ (fun w' hI => by unfold InvB at hI; go_simp; rfl) (fun K hK => ?_); try go_simp; refine hK _ _ ?_; clear hK K) | (refine wpT_pure rfl rfl _ (fun w' hI => by go_simp; rfl) (fun K hK => ?_); try go_simp; refine hK _ _ ?_; clear hK K) | (refine wpT_read rfl rfl rfl _ (by go_simp; rfl) (fun K hK => ?_); try go_simp; refine hK _ _ ?_; clear hK K))
        refine wpT_act rfl rfl rfl (fun K hK => ?_); go_simp
        refine (HV1.out _).mono ?_; rintro e y7 ⟨rfl, hb7⟩; try go_simp
        have HJ7 := Lib.hid ((InvB.refl _ _).drew.below hb7 (show w.heap.size + 1 ≤ _ from HBN.out)); have HR7 := Lib.hid (Nat.le_trans HBN.out hb7.size)
        have HBC7 := Lib.hid (HBW.out.drew.trans (hb7.mono (show w.heap.size + 1 ≤ _ from HBN.out)))
        refine hK _ _ ⟨HJ7.out, ?_⟩; clear hK K hb7
        iterate 6 (first | (refine wpT_skip rfl (fun K hK => ?_); try go_simp; refine hK _ _ ?_; clear hK K) | (refine wpT_pure rfl rfl _ (fun w' hI => by unfold InvB at hI; go_simp; rfl) (fun K hK => ?_); try go_simp; refine hK _ _ ?_; clear hK K) | (refine wpT_pure rfl rfl _ (fun w' hI => by go_simp; rfl) (fun K hK => ?_); try go_simp; refine hK _ _ ?_; clear hK K) | (refine wpT_read rfl rfl rfl _ (by go_simp; rfl) (fun K hK => ?_); try go_simp; refine hK _ _ ?_; clear hK K))
        refine wpT_act rfl rfl rfl (fun K hK => ?_); go_simp
        refine (HV2.out _).mono ?_; rintro e y8 ⟨rfl, hb8⟩; try go_simp
        have HJ8 := Lib.hid (HJ7.out.below hb8 HR7.out)
        have HBC8 := Lib.hid (HBC7.out.trans (hb8.mono HR7.out))
        refine hK _ _ ⟨HJ8.out, ?_⟩; clear hK K hb8
        iterate 3 (first | (refine wpT_skip rfl (fun K hK => ?_); try go_simp; refine hK _ _ ?_; clear hK K) | (refine wpT_pure rfl rfl _ (fun w' hI => by unfold InvB at hI; go_simp; rfl) (fun K hK => ?_); try go_simp; refine hK _ _ ?_; clear hK K) | (refine wpT_pure rfl rfl _ (fun w' hI => by go_simp; rfl) (fun K hK => ?_); try go_simp; refine hK _ _ ?_; clear hK K) | (refine wpT_read rfl rfl rfl _ (by go_simp; rfl) (fun K hK => ?_); try go_simp; refine hK _ _ ?_; clear hK K))
        refine wpT_nil ?_
        rw [HXQ.out]
        go_wp2_with fail
        go_roundw
        case rel => exact ⟨0 + 1, hlt, by go_num, rfl, HBC8.out⟩
        case measure => simp [intOf]; omega
      · clear hac
        go_wp2_with fail
        refine wp_region_T (InvB (w.heap.size + 1) wr) kf4 (by kernel_rfl) (by kernel_rfl) (InvB.refl _ _).drew ?_
        iterate 7 (first | (refine wpT_skip rfl (fun K hK => ?_); try go_simp; refine hK _ _ ?_; clear hK K) | (refine wpT_pure rfl rfl _ (fun w' hI => by unfold InvB at hI; go_simp; rfl) (fun K hK => ?_); try go_simp; refine hK _ _ ?_; clear hK K) | (refine wpT_pure rfl rfl _ (fun w' hI => by go_simp; rfl) (fun K hK => ?_); try go_simp; refine hK _ _ ?_; clear hK K) | (refine wpT_read rfl rfl rfl _ (by go_simp; rfl) (fun K hK => ?_); try go_simp; refine hK _ _ ?_; clear hK K))
        refine wpT_act rfl rfl rfl (fun K hK => ?_); go_simp
        refine (HV1.out _).mono ?_; rintro e y7 ⟨rfl, hb7⟩; try go_simp
        have HJ7 := Lib.hid ((InvB.refl _ _).drew.below hb7 (show w.heap.size + 1 ≤ _ from HBN.out)); have HR7 := Lib.hid (Nat.le_trans HBN.out hb7.size)
        have HBC7 := Lib.hid (HBW.out.drew.trans (hb7.mono (show w.heap.size + 1 ≤ _ from HBN.out)))
        refine hK _ _ ⟨HJ7.out, ?_⟩; clear hK K hb7
        iterate 6 (first | (refine wpT_skip rfl (fun K hK => ?_); try go_simp; refine hK _ _ ?_; clear hK K) | (refine wpT_pure rfl rfl _ (fun w' hI => by unfold InvB at hI; go_simp; rfl) (fun K hK => ?_); try go_simp; refine hK _ _ ?_; clear hK K) | (refine wpT_pure rfl rfl _ (fun w' hI => by go_simp; rfl) (fun K hK => ?_); try go_simp; refine hK _ _ ?_; clear hK K) | (refine wpT_read rfl rfl rfl _ (by go_simp; rfl) (fun K hK => ?_); try go_simp; refine hK _ _ ?_; clear hK K))
        refine wpT_act rfl rfl rfl (fun K hK => ?_); go_simp
        refine (HV2.out _).mono ?_; rintro e y8 ⟨rfl, hb8⟩; try go_simp
        have HJ8 := Lib.hid (HJ7.out.below hb8 HR7.out)
        have HBC8 := Lib.hid (HBC7.out.trans (hb8.mono HR7.out))
        refine hK _ _ ⟨HJ8.out, ?_⟩; clear hK K hb8
        iterate 3 (first | (refine wpT_skip rfl (fun K hK => ?_); try go_simp; refine hK _ _ ?_; clear hK K) | (refine wpT_pure rfl rfl _ (fun w' hI => by unfold InvB at hI; go_simp; rfl) (fun K hK => ?_); try go_simp; refine hK _ _ ?_; clear hK K) | (refine wpT_pure rfl rfl _ (fun w' hI => by go_simp; rfl) (fun K hK => ?_); try go_simp; refine hK _ _ ?_; clear hK K) | (refine wpT_read rfl rfl rfl _ (by go_simp; rfl) (fun K hK => ?_); try go_simp; refine hK _ _ ?_; clear hK K))
        refine wpT_nil ?_
        rw [HXQ.out]
        go_wp2_with fail
        go_roundw
        case rel => exact ⟨k + 1, hlt, by go_num, rfl, HBC8.out⟩
        case measure => simp [intOf]; omega
    · obtain rfl : k = ms.length := by omega
      have HL := Lib.hid (accK_all ⟨svc, mth, lt, ms⟩)
      have HL2 := Lib.hid (show (⟨(accK ⟨svc, mth, lt, ms⟩ ms.length).toArray⟩ : ByteArray) = ⟨(headL ⟨svc, mth, lt, ms⟩).toArray⟩ by rw [← HL.out])
      clear hbw hbw1
      go_wp2_with fail
      go_ret2
      exact ⟨v_ret_strE HL2.out rfl, HBW0.out⟩
set_option maxHeartbeats 4000000 in
set_option maxRecDepth 100000 in
theorem rhead_nil (svc mth : ByteArray) (late : Int) (a : Option Addr) (cap : Nat) (w : World) (hz : HdSz ⟨svc, mth, late, []⟩) (he : headE ⟨svc, mth, late, []⟩ = 0) :
    Calls Tryz.prog 47 #[.agg #[.string svc, .string mth, .int .i64 late, .slice a 0 cap]] w fun e w' => e = .returned (.tuple #[.string ⟨(headL ⟨svc, mth, late, []⟩).toArray⟩, .int .i64 0]) ∧ Below w.heap.size w w' := by
  obtain ⟨hl1, hl2, hl3⟩ := headE_ok he
  have hl1 : 0 ≤ late := hl1
  have hl2 : late ≤ 1099511627776 := hl2

  obtain ⟨lt, rfl⟩ : ∃ n : Nat, late = n := ⟨late.toNat, by omega⟩
  have HE := Lib.hid (fun w => int_ok he (hcheck_nil svc mth lt a cap w hz))
  have hp1 := sized_len svc; have hp2 := sized_len mth; have hp3 := putL_len lt; have hp4 := putL_len 0
  have z1 : svc.size < 4294967281 := hz.1
  have z2 : mth.size < 4294967281 := hz.2.1
  have HZ := Lib.hid hz
  have HS1 := Lib.hid (fun w => rtext_any svc w (by omega)); have HS2 := Lib.hid (fun w => rtext_any mth w (by omega))
  have HP1 := Lib.hid (fun w => refPut_any lt w (by omega)); have HP2 := Lib.hid (fun w => refPut_any 0 w (by omega))
  have HB0 := Lib.hid (show Below w.heap.size w (w.alloc (.cells #[.string svc, .string mth, .int .i64 lt, .slice a 0 cap] HT)) from (Below.refl _ _).alloc (Nat.le_refl _) _)
  have HK0 := Lib.hid (Bk.new w HT #[.string svc, .string mth, .int .i64 lt, .slice a 0 cap])
  have hwl : IntKind.u64.wrap (lt : Int) = lt := by rw [IntKind.wrap_u64]; omega

  clear hz he hl1 hl2
  go_enter Tryz.func47, Tryz.ntmps47
  go_wp2_with fail
  refine (HE.out _).mono ?_; rintro e w1 ⟨rfl, hb1⟩
  have HB1 := Lib.hid (HB0.out.trans (hb1.mono HB0.out.size)); have HK1 := Lib.hid (HK0.out.keep hb1); clear hb1
  go_wp2_with fail
  have k0 : w1.cell? ⟨w.heap.size, 0, none⟩ = some (.string svc) := HK1.out.at_ 0 rfl
  have k1 : w1.cell? ⟨w.heap.size, 1, none⟩ = some (.string mth) := HK1.out.at_ 1 rfl
  have k2 : w1.cell? ⟨w.heap.size, 2, none⟩ = some (.int .i64 lt) := HK1.out.at_ 2 rfl
  have k3 : w1.cell? ⟨w.heap.size, 3, none⟩ = some (.slice a 0 cap) := HK1.out.at_ 3 rfl
  have HN0 := Lib.hid (show w.heap.size + 1 ≤ w1.heap.size from HK1.out.here)
  have HBB0 := Lib.hid (Below.refl (w.heap.size + 1) w1)
  have HAL := Lib.hid (accK_len ⟨svc, mth, lt, []⟩ HZ.out)
  have HA0 := Lib.hid (show accK ⟨svc, mth, lt, []⟩ 0 = sized svc ++ sized mth ++ putL lt ++ putL 0 by unfold accK; simp)
  have hs1 := full_size (sized svc); have hs2 := full_size (sized mth); have hs3 := full_size (putL lt); have hs4 := full_size (putL 0)
  have hn1 : ¬ 9223372036854775807 < (sized svc).length + (sized mth).length := by omega
  have hn2 : ¬ 9223372036854775807 < (sized svc).length + (sized mth).length + (putL lt).length := by omega
  have hn3 : ¬ 9223372036854775807 < (sized svc).length + (sized mth).length + (putL lt).length + (putL 0).length := by omega
  have HX := Lib.hid (show (⟨(sized svc).toArray⟩ ++ ⟨(sized mth).toArray⟩ ++ ⟨(putL lt).toArray⟩ ++ ⟨(putL 0).toArray⟩ : ByteArray) = ⟨(accK ⟨svc, mth, lt, []⟩ 0).toArray⟩ by rw [HA0.out]; refine ByteArray.ext (Array.ext' ?_); simp [ByteArray.data_append])
  clear z1 z2
  generalize hAA : sized svc = A at *
  generalize hBB : sized mth = B at *
  generalize hCC : putL lt = C at *
  generalize hDD : putL 0 = D at *
  clear hAA hBB hCC hDD
  refine wp_region_T (InvB (w.heap.size + 1) w1) kf4 (by kernel_rfl) (by kernel_rfl) (InvB.refl _ _).drew ?_
  (first | (refine wpT_skip rfl (fun K hK => ?_); try go_simp; refine hK _ _ ?_; clear hK K) | (refine wpT_pure rfl rfl _ (fun w' hI => by unfold InvB at hI; go_simp; rfl) (fun K hK => ?_); try go_simp; refine hK _ _ ?_; clear hK K) | (refine wpT_pure rfl rfl _ (fun w' hI => by go_simp; rfl) (fun K hK => ?_); try go_simp; refine hK _ _ ?_; clear hK K) | (refine wpT_read rfl rfl rfl _ (by go_simp; rfl) (fun K hK => ?_); try go_simp; refine hK _ _ ?_; clear hK K))
  (first | (refine wpT_skip rfl (fun K hK => ?_); try go_simp; refine hK _ _ ?_; clear hK K) | (refine wpT_pure rfl rfl _ (fun w' hI => by unfold InvB at hI; go_simp; rfl) (fun K hK => ?_); try go_simp; refine hK _ _ ?_; clear hK K) | (refine wpT_pure rfl rfl _ (fun w' hI => by go_simp; rfl) (fun K hK => ?_); try go_simp; refine hK _ _ ?_; clear hK K) | (refine wpT_read rfl rfl rfl _ (by go_simp; rfl) (fun K hK => ?_); try go_simp; refine hK _ _ ?_; clear hK K))
  refine wpT_act rfl rfl rfl (fun K hK => ?_); go_simp
  refine (HS1.out _).mono ?_; rintro e x1 ⟨rfl, hb1⟩; try go_simp
  have HI1 := Lib.hid ((InvB.refl _ _).drew.below hb1 (show w.heap.size + 1 ≤ _ from HN0.out)); have HS1 := Lib.hid (Nat.le_trans HN0.out hb1.size)
  have HBB1 := Lib.hid (HBB0.out.drew.trans (hb1.mono (show w.heap.size + 1 ≤ _ from HN0.out)))
  refine hK _ _ ⟨HI1.out, ?_⟩; clear hK K hb1
  (first | (refine wpT_skip rfl (fun K hK => ?_); try go_simp; refine hK _ _ ?_; clear hK K) | (refine wpT_pure rfl rfl _ (fun w' hI => by unfold InvB at hI; go_simp; rfl) (fun K hK => ?_); try go_simp; refine hK _ _ ?_; clear hK K) | (refine wpT_pure rfl rfl _ (fun w' hI => by go_simp; rfl) (fun K hK => ?_); try go_simp; refine hK _ _ ?_; clear hK K) | (refine wpT_read rfl rfl rfl _ (by go_simp; rfl) (fun K hK => ?_); try go_simp; refine hK _ _ ?_; clear hK K))
  (first | (refine wpT_skip rfl (fun K hK => ?_); try go_simp; refine hK _ _ ?_; clear hK K) | (refine wpT_pure rfl rfl _ (fun w' hI => by unfold InvB at hI; go_simp; rfl) (fun K hK => ?_); try go_simp; refine hK _ _ ?_; clear hK K) | (refine wpT_pure rfl rfl _ (fun w' hI => by go_simp; rfl) (fun K hK => ?_); try go_simp; refine hK _ _ ?_; clear hK K) | (refine wpT_read rfl rfl rfl _ (by go_simp; rfl) (fun K hK => ?_); try go_simp; refine hK _ _ ?_; clear hK K))
  refine wpT_act rfl rfl rfl (fun K hK => ?_); go_simp
  refine (HS2.out _).mono ?_; rintro e x2 ⟨rfl, hb2⟩; try go_simp
  have HI2 := Lib.hid (HI1.out.below hb2 HS1.out); have HS2 := Lib.hid (Nat.le_trans HS1.out hb2.size)
  have HBB2 := Lib.hid (HBB1.out.trans (hb2.mono HS1.out))
  refine hK _ _ ⟨HI2.out, ?_⟩; clear hK K hb2
  (first | (refine wpT_skip rfl (fun K hK => ?_); try go_simp; refine hK _ _ ?_; clear hK K) | (refine wpT_pure rfl rfl _ (fun w' hI => by unfold InvB at hI; go_simp; rfl) (fun K hK => ?_); try go_simp; refine hK _ _ ?_; clear hK K) | (refine wpT_pure rfl rfl _ (fun w' hI => by go_simp; rfl) (fun K hK => ?_); try go_simp; refine hK _ _ ?_; clear hK K) | (refine wpT_read rfl rfl rfl _ (by go_simp; rfl) (fun K hK => ?_); try go_simp; refine hK _ _ ?_; clear hK K))
  (first | (refine wpT_skip rfl (fun K hK => ?_); try go_simp; refine hK _ _ ?_; clear hK K) | (refine wpT_pure rfl rfl _ (fun w' hI => by unfold InvB at hI; go_simp; rfl) (fun K hK => ?_); try go_simp; refine hK _ _ ?_; clear hK K) | (refine wpT_pure rfl rfl _ (fun w' hI => by go_simp; rfl) (fun K hK => ?_); try go_simp; refine hK _ _ ?_; clear hK K) | (refine wpT_read rfl rfl rfl _ (by go_simp; rfl) (fun K hK => ?_); try go_simp; refine hK _ _ ?_; clear hK K))
  (first | (refine wpT_skip rfl (fun K hK => ?_); try go_simp; refine hK _ _ ?_; clear hK K) | (refine wpT_pure rfl rfl _ (fun w' hI => by unfold InvB at hI; go_simp; rfl) (fun K hK => ?_); try go_simp; refine hK _ _ ?_; clear hK K) | (refine wpT_pure rfl rfl _ (fun w' hI => by go_simp; rfl) (fun K hK => ?_); try go_simp; refine hK _ _ ?_; clear hK K) | (refine wpT_read rfl rfl rfl _ (by go_simp; rfl) (fun K hK => ?_); try go_simp; refine hK _ _ ?_; clear hK K))
  (first | (refine wpT_skip rfl (fun K hK => ?_); try go_simp; refine hK _ _ ?_; clear hK K) | (refine wpT_pure rfl rfl _ (fun w' hI => by unfold InvB at hI; go_simp; rfl) (fun K hK => ?_); try go_simp; refine hK _ _ ?_; clear hK K) | (refine wpT_pure rfl rfl _ (fun w' hI => by go_simp; rfl) (fun K hK => ?_); try go_simp; refine hK _ _ ?_; clear hK K) | (refine wpT_read rfl rfl rfl _ (by go_simp; rfl) (fun K hK => ?_); try go_simp; refine hK _ _ ?_; clear hK K))
  refine wpT_act rfl rfl rfl (fun K hK => ?_); go_simp
  refine (HP1.out _).mono ?_; rintro e x3 ⟨rfl, hb3⟩; try go_simp
  have HI3 := Lib.hid (HI2.out.below hb3 HS2.out); have HS3 := Lib.hid (Nat.le_trans HS2.out hb3.size)
  have HBB3 := Lib.hid (HBB2.out.trans (hb3.mono HS2.out))
  refine hK _ _ ⟨HI3.out, ?_⟩; clear hK K hb3
  (first | (refine wpT_skip rfl (fun K hK => ?_); try go_simp; refine hK _ _ ?_; clear hK K) | (refine wpT_pure rfl rfl _ (fun w' hI => by unfold InvB at hI; go_simp; rfl) (fun K hK => ?_); try go_simp; refine hK _ _ ?_; clear hK K) | (refine wpT_pure rfl rfl _ (fun w' hI => by go_simp; rfl) (fun K hK => ?_); try go_simp; refine hK _ _ ?_; clear hK K) | (refine wpT_read rfl rfl rfl _ (by go_simp; rfl) (fun K hK => ?_); try go_simp; refine hK _ _ ?_; clear hK K))
  (first | (refine wpT_skip rfl (fun K hK => ?_); try go_simp; refine hK _ _ ?_; clear hK K) | (refine wpT_pure rfl rfl _ (fun w' hI => by unfold InvB at hI; go_simp; rfl) (fun K hK => ?_); try go_simp; refine hK _ _ ?_; clear hK K) | (refine wpT_pure rfl rfl _ (fun w' hI => by go_simp; rfl) (fun K hK => ?_); try go_simp; refine hK _ _ ?_; clear hK K) | (refine wpT_read rfl rfl rfl _ (by go_simp; rfl) (fun K hK => ?_); try go_simp; refine hK _ _ ?_; clear hK K))
  (first | (refine wpT_skip rfl (fun K hK => ?_); try go_simp; refine hK _ _ ?_; clear hK K) | (refine wpT_pure rfl rfl _ (fun w' hI => by unfold InvB at hI; go_simp; rfl) (fun K hK => ?_); try go_simp; refine hK _ _ ?_; clear hK K) | (refine wpT_pure rfl rfl _ (fun w' hI => by go_simp; rfl) (fun K hK => ?_); try go_simp; refine hK _ _ ?_; clear hK K) | (refine wpT_read rfl rfl rfl _ (by go_simp; rfl) (fun K hK => ?_); try go_simp; refine hK _ _ ?_; clear hK K))
  (first | (refine wpT_skip rfl (fun K hK => ?_); try go_simp; refine hK _ _ ?_; clear hK K) | (refine wpT_pure rfl rfl _ (fun w' hI => by unfold InvB at hI; go_simp; rfl) (fun K hK => ?_); try go_simp; refine hK _ _ ?_; clear hK K) | (refine wpT_pure rfl rfl _ (fun w' hI => by go_simp; rfl) (fun K hK => ?_); try go_simp; refine hK _ _ ?_; clear hK K) | (refine wpT_read rfl rfl rfl _ (by go_simp; rfl) (fun K hK => ?_); try go_simp; refine hK _ _ ?_; clear hK K))
  (first | (refine wpT_skip rfl (fun K hK => ?_); try go_simp; refine hK _ _ ?_; clear hK K) | (refine wpT_pure rfl rfl _ (fun w' hI => by unfold InvB at hI; go_simp; rfl) (fun K hK => ?_); try go_simp; refine hK _ _ ?_; clear hK K) | (refine wpT_pure rfl rfl _ (fun w' hI => by go_simp; rfl) (fun K hK => ?_); try go_simp; refine hK _ _ ?_; clear hK K) | (refine wpT_read rfl rfl rfl _ (by go_simp; rfl) (fun K hK => ?_); try go_simp; refine hK _ _ ?_; clear hK K))
  refine wpT_act rfl rfl rfl (fun K hK => ?_); go_simp
  refine (HP2.out _).mono ?_; rintro e x4 ⟨rfl, hb4⟩; try go_simp
  have HI4 := Lib.hid (HI3.out.below hb4 HS3.out); have HS4 := Lib.hid (Nat.le_trans HS3.out hb4.size)
  have HBB4 := Lib.hid (HBB3.out.trans (hb4.mono HS3.out))
  refine hK _ _ ⟨HI4.out, ?_⟩; clear hK K hb4
  (first | (refine wpT_skip rfl (fun K hK => ?_); try go_simp; refine hK _ _ ?_; clear hK K) | (refine wpT_pure rfl rfl _ (fun w' hI => by unfold InvB at hI; go_simp; rfl) (fun K hK => ?_); try go_simp; refine hK _ _ ?_; clear hK K) | (refine wpT_pure rfl rfl _ (fun w' hI => by go_simp; rfl) (fun K hK => ?_); try go_simp; refine hK _ _ ?_; clear hK K) | (refine wpT_read rfl rfl rfl _ (by go_simp; rfl) (fun K hK => ?_); try go_simp; refine hK _ _ ?_; clear hK K))
  (first | (refine wpT_skip rfl (fun K hK => ?_); try go_simp; refine hK _ _ ?_; clear hK K) | (refine wpT_pure rfl rfl _ (fun w' hI => by unfold InvB at hI; go_simp; rfl) (fun K hK => ?_); try go_simp; refine hK _ _ ?_; clear hK K) | (refine wpT_pure rfl rfl _ (fun w' hI => by go_simp; rfl) (fun K hK => ?_); try go_simp; refine hK _ _ ?_; clear hK K) | (refine wpT_read rfl rfl rfl _ (by go_simp; rfl) (fun K hK => ?_); try go_simp; refine hK _ _ ?_; clear hK K))
  refine wpT_nil ?_
  rw [HX.out]
  have k3' : x4.cell? ⟨w.heap.size, 3, none⟩ = some (.slice a 0 cap) := (HI4.out _ _ (Nat.lt_succ_self _)).trans k3
  clear k0 k1 k2 k3 hs1 hs2 hs3 hs4 hn1 hn2 hn3 hp1 hp2 hp3 hp4 hwl  HS1 HS2 HP1 HP2 HI1 HI2 HI3 HI4 HX
  have HL := Lib.hid (accK_all ⟨svc, mth, lt, []⟩)
  have HL2 := Lib.hid (show (⟨(accK ⟨svc, mth, lt, []⟩ 0).toArray⟩ : ByteArray) = ⟨(headL ⟨svc, mth, lt, []⟩).toArray⟩ by rw [← HL.out]; rfl)
  go_wp2_with fail
  refine wp_loop_rounds 1 ?_
  rw [rounds_succ]
  go_wp2_with fail
  go_ret2
  exact ⟨v_ret_strE HL2.out rfl, HB1.out.trans (HBB4.out.mono (Nat.le_succ _))⟩
theorem rhead_bad (h : HdV) (v : Value) (w : World) (hm : MsIn w v h.metas) (hz : HdSz h) (he : headE h ≠ 0) :
    Calls Tryz.prog 47 #[.agg (hcells h v)] w fun e w' => e = .returned (.tuple #[.string ⟨#[]⟩, .int .i64 (headE h)]) ∧ Below w.heap.size w w' := by
  have HB0 := Lib.hid (show Below w.heap.size w (w.alloc (.cells (hcells h v) HT)) from (Below.refl _ _).alloc (Nat.le_refl _) _)
  have HC := Lib.hid (hcheck_any h v (w.alloc (.cells (hcells h v) HT)) (hm.below HB0.out) hz)
  obtain ⟨svc, mth, late, ms⟩ := h
  generalize headE ⟨svc, mth, late, ms⟩ = E at *
  obtain ⟨q1, q2⟩ := byte_eq he
  clear he hm
  go_enter Tryz.func47, Tryz.ntmps47
  go_wp2_with fail
  refine (HC.out).mono ?_; rintro e w1 ⟨rfl, hb1⟩
  go_wp2_with fail
  go_ret2
  exact ⟨rfl, HB0.out.trans (hb1.mono HB0.out.size)⟩
theorem rhead_any (h : HdV) (v : Value) (w : World) (hm : MsIn w v h.metas) (hz : HdSz h) :
    Calls Tryz.prog 47 #[.agg (hcells h v)] w fun e w' => e = .returned (.tuple #[.string ⟨(headW h).bytes.toArray⟩, .int .i64 (headW h).err]) ∧ Below w.heap.size w w' := by
  by_cases he : headE h = 0
  · rw [headW_good he]
    obtain ⟨svc, mth, late, ms⟩ := h
    obtain ⟨a, cap, rfl, hcs⟩ := hm
    cases ms with
    | nil => exact rhead_nil svc mth late a cap w hz he
    | cons m r =>
      obtain ⟨g, o, rfl, hgl, hc⟩ := hcs (by simp)
      exact rhead_some svc mth late (m :: r) g o cap w hgl hc hz he
  · rw [headW_bad he]
    exact rhead_bad h v w hm hz he
end Go.Proofs.YtpfkddbhpoeknaaGreatDoor
