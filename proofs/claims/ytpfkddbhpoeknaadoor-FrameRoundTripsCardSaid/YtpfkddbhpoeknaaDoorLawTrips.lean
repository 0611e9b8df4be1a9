/- FrameRoundTrips: the law's own walk. -/
import Derived.Test.YtpfkddbhpoeknaaDoorSplit
namespace Go.Proofs.YtpfkddbhpoeknaaDoor
open Go.RowKit
set_option maxHeartbeats 8000000 in
set_option maxRecDepth 100000 in
theorem trips_law (f : FrV) (t : ByteArray) (w : World) (hg : MLen w) : Calls Tryd.prog 7 #[.agg (fcells f), .string t] w fun e w' => e = .returned (.bool true) ∧ Below w.heap.size w w' := by
  have HG := Lib.hid hg; clear hg
  have HA := Lib.hid (fun w hg => awake_any w hg)
  have HB0 := Lib.hid (below_box w (.cells (fcells f) FT))
  by_cases h1 : 20000 < f.data.size
  · have hd := decide_eq_true (show (20000 : Int) < (f.data.size : Int) by omega)
    go_enter Tryd.func7, Tryd.ntmps7
    go_wp2_with fail
    refine (HA.out _ (HG.out.below HB0.out)).mono ?_; rintro e w1 ⟨rfl, hb1⟩
    go_wp2_with fail
    go_ret
    exact ⟨rfl, HB0.out.trans (hb1.mono HB0.out.size)⟩
  have hd := decide_eq_false (show ¬ (20000 : Int) < (f.data.size : Int) by omega)
  by_cases h2 : 3000 < t.size
  · have hd2 := decide_eq_true (show (3000 : Int) < (t.size : Int) by omega)
    go_enter Tryd.func7, Tryd.ntmps7
    go_wp2_with fail
    refine (HA.out _ (HG.out.below HB0.out)).mono ?_; rintro e w1 ⟨rfl, hb1⟩
    go_wp2_with fail
    go_ret
    exact ⟨rfl, HB0.out.trans (hb1.mono HB0.out.size)⟩
  have hd2 := decide_eq_false (show ¬ (3000 : Int) < (t.size : Int) by omega)
  have HW := Lib.hid (fun w hg => write_any f w hg (by omega))
  by_cases hc : frameE f = 0
  · have hwr : writeF f = ⟨frB f, 0⟩ := by unfold writeF; rw [if_pos hc]
    rw [hwr] at HW
    have hz := frB_size f
    have hk : hdLen f ≤ 31 := by
      have a := (putL_len f.strm.toNat).2; have b := (putL_len f.num.toNat).2; have c := (putL_len f.data.size).2
      unfold hdLen; omega
    have hR := readL_frB f hc t.data.toList
    have hS := splitL_one f hc
    have HR := Lib.hid (fun w hg => (read_any (frB f ++ t) w hg (by rw [full_cat]; omega)).mono fun e w' he => (show e = .returned (.tuple #[.agg (fcells f), .int .i64 (frB f).size, .int .i64 0]) ∧ Below w.heap.size w w' by
      unfold RdPost at he; rw [show (frB f ++ t).data.toList = (frB f).data.toList ++ t.data.toList by simp [ByteArray.data_append]] at he; rw [hR] at he; exact he))
    have HS := Lib.hid (fun w hg => (split_frames (frB f) w hg (by omega)).mono fun e w' he => (show ∃ v, e = .returned (.tuple #[v, .string ⟨#[]⟩, .int .i64 0]) ∧ FsIn w' v [f] ∧ Below w.heap.size w w' by
      unfold SpPost at he; rw [hS] at he; exact he))
    clear hR hS hwr hc
    have hcat : ¬ 9223372036854775807 < (frB f).size + t.size := by omega
    clear h1 h2 hz hk
    generalize frB f = B at *
    obtain ⟨fk, ft, fn, fd⟩ := f
    have HK0 := Lib.hid (Bk.new w FT #[.int .i64 fk, .int .i64 ft, .int .i64 fn, .string fd])
    go_enter Tryd.func7, Tryd.ntmps7
    go_wp2_with fail
    refine (HW.out _ (HG.out.below HB0.out)).mono ?_; rintro e w1 ⟨rfl, hb1⟩
    have HB1 := Lib.hid (HB0.out.trans (hb1.mono HB0.out.size)); have HK1 := Lib.hid (HK0.out.keep hb1); clear hb1
    go_wp2_with fail
    refine (HR.out _ (HG.out.below HB1.out)).mono ?_; rintro e w2 ⟨rfl, hb2⟩
    have HB2 := Lib.hid (HB1.out.trans (hb2.mono HB1.out.size)); have HK2 := Lib.hid (HK1.out.keep hb2); clear hb2
    have HB2a := Lib.hid (HB2.out.alloc HB2.out.size (.cells #[.int .i64 fk, .int .i64 ft, .int .i64 fn, .string fd] FT)); have HK2a := Lib.hid (HK2.out.more (.cells #[.int .i64 fk, .int .i64 ft, .int .i64 fn, .string fd] FT)); have HF2 := Lib.hid (Bk.new w2 FT #[.int .i64 fk, .int .i64 ft, .int .i64 fn, .string fd])
    go_wp2_with fail
    refine (HS.out _ (HG.out.below HB2a.out)).mono ?_; rintro e w3 ⟨v, rfl, hf3, hb3⟩
    have HB3 := Lib.hid (HB2a.out.trans (hb3.mono HB2a.out.size)); have HK3 := Lib.hid (HK2a.out.keep hb3); have HF3 := Lib.hid (HF2.out.keep hb3); clear hb3
    obtain ⟨sa, cap, rfl, _, hc3⟩ := hf3
    obtain ⟨g, o, rfl, hg3, hcl⟩ := hc3 (by simp)
    have s0 : w3.cell? ⟨g, o, none⟩ = some (.int .i64 fk) := hcl 0 _ rfl
    have s1 : w3.cell? ⟨g, o + 1, none⟩ = some (.int .i64 ft) := hcl 1 _ rfl
    have s2 : w3.cell? ⟨g, o + 2, none⟩ = some (.int .i64 fn) := hcl 2 _ rfl
    have s3 : w3.cell? ⟨g, o + 3, none⟩ = some (.string fd) := hcl 3 _ rfl
    clear hc3 hcl hg3
    have k0 : w3.cell? ⟨w.heap.size, 0, none⟩ = some (.int .i64 fk) := HK3.out.at_ 0 rfl
    have k1 : w3.cell? ⟨w.heap.size, 1, none⟩ = some (.int .i64 ft) := HK3.out.at_ 1 rfl
    have k2 : w3.cell? ⟨w.heap.size, 2, none⟩ = some (.int .i64 fn) := HK3.out.at_ 2 rfl
    have k3 : w3.cell? ⟨w.heap.size, 3, none⟩ = some (.string fd) := HK3.out.at_ 3 rfl
    have m0 : w3.cell? ⟨w2.heap.size, 0, none⟩ = some (.int .i64 fk) := HF3.out.at_ 0 rfl
    have m1 : w3.cell? ⟨w2.heap.size, 1, none⟩ = some (.int .i64 ft) := HF3.out.at_ 1 rfl
    have m2 : w3.cell? ⟨w2.heap.size, 2, none⟩ = some (.int .i64 fn) := HF3.out.at_ 2 rfl
    have m3 : w3.cell? ⟨w2.heap.size, 3, none⟩ = some (.string fd) := HF3.out.at_ 3 rfl
    go_wp2_with fail
    refine wp_region_T (fun _ => True) kf0 (by kernel_rfl) (by kernel_rfl) trivial ?_
    iterate 34 (first | (refine wpT_skip rfl (fun K hK => ?_); try go_simp; refine hK _ _ ?_; clear hK K) | (refine wpT_pure rfl rfl _ (fun w' hI => by unfold InvB at hI; go_simp; rfl) (fun K hK => ?_); try go_simp; refine hK _ _ ?_; clear hK K) | (refine wpT_pure rfl rfl _ (fun w' hI => by go_simp; rfl) (fun K hK => ?_); try go_simp; refine hK _ _ ?_; clear hK K) | (refine wpT_read rfl rfl rfl _ (by go_simp; rfl) (fun K hK => ?_); try go_simp; refine hK _ _ ?_; clear hK K))
    refine wpT_act0 rfl rfl rfl (fun K hK => ?_); go_simp
    refine (HA.out _ (HG.out.below (show Below w.heap.size w w3.drew from HB3.out.drew))).mono ?_; rintro e w4 ⟨rfl, hb4⟩; try go_simp
    refine hK _ _ ?_; clear hK K
    iterate 2 (first | (refine wpT_skip rfl (fun K hK => ?_); try go_simp; refine hK _ _ ?_; clear hK K) | (refine wpT_pure rfl rfl _ (fun w' hI => by unfold InvB at hI; go_simp; rfl) (fun K hK => ?_); try go_simp; refine hK _ _ ?_; clear hK K) | (refine wpT_pure rfl rfl _ (fun w' hI => by go_simp; rfl) (fun K hK => ?_); try go_simp; refine hK _ _ ?_; clear hK K) | (refine wpT_read rfl rfl rfl _ (by go_simp; rfl) (fun K hK => ?_); try go_simp; refine hK _ _ ?_; clear hK K))
    refine wpT_nil ?_
    go_wp2_with fail
    go_ret
    exact ⟨rfl, HB3.out.drew.trans (hb4.mono HB3.out.drew.size)⟩
  · have hwr : writeF f = ⟨⟨#[]⟩, frameE f⟩ := by unfold writeF; rw [if_neg hc]
    rw [hwr] at HW
    have HC := Lib.hid (fun w hg => fcheck_any f w hg (by omega))
    obtain ⟨q1, q2⟩ := byte_eq hc
    generalize frameE f = c at *
    obtain ⟨fk, ft, fn, fd⟩ := f
    have HK0 := Lib.hid (Bk.new w FT #[.int .i64 fk, .int .i64 ft, .int .i64 fn, .string fd])
    clear hc hwr h1 h2
    go_enter Tryd.func7, Tryd.ntmps7
    go_wp2_with fail
    refine (HW.out _ (HG.out.below HB0.out)).mono ?_; rintro e w1 ⟨rfl, hb1⟩
    have HB1 := Lib.hid (HB0.out.trans (hb1.mono HB0.out.size)); have HK1 := Lib.hid (HK0.out.keep hb1); clear hb1
    have k0 : w1.cell? ⟨w.heap.size, 0, none⟩ = some (.int .i64 fk) := HK1.out.at_ 0 rfl
    have k1 : w1.cell? ⟨w.heap.size, 1, none⟩ = some (.int .i64 ft) := HK1.out.at_ 1 rfl
    have k2 : w1.cell? ⟨w.heap.size, 2, none⟩ = some (.int .i64 fn) := HK1.out.at_ 2 rfl
    have k3 : w1.cell? ⟨w.heap.size, 3, none⟩ = some (.string fd) := HK1.out.at_ 3 rfl
    go_wp2_with fail
    refine (HC.out _ (HG.out.below HB1.out)).mono ?_; rintro e w2 ⟨rfl, hb2⟩
    have HB2 := Lib.hid (HB1.out.trans (hb2.mono HB1.out.size)); clear hb2
    go_wp2_with fail
    refine (HA.out _ (HG.out.below HB2.out)).mono ?_; rintro e w3 ⟨rfl, hb3⟩
    go_wp2_with fail
    go_ret
    exact ⟨rfl, HB2.out.trans (hb3.mono HB2.out.size)⟩
end Go.Proofs.YtpfkddbhpoeknaaDoor
