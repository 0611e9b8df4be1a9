/- FrameReads: the law's own walk. -/
import Derived.Test.YtpfkddbhpoeknaaDoorAwake
namespace Go.Proofs.YtpfkddbhpoeknaaDoor
open Go.RowKit
set_option maxHeartbeats 4000000 in
set_option maxRecDepth 100000 in
theorem reads_law (s : ByteArray) (w : World) (hg : MLen w) : Calls Tryd.prog 3 #[.string s] w fun e w' => e = .returned (.bool true) ∧ Below w.heap.size w w' := by
  have HG := Lib.hid hg; clear hg
  have HA := Lib.hid (fun w hg => awake_any w hg)
  by_cases hs : 20000 < s.size
  · have hd := decide_eq_true (show (20000 : Int) < (s.size : Int) by omega)
    go_enter Tryd.func3, Tryd.ntmps3
    go_wp2_with fail
    refine (HA.out _ HG.out).mono ?_; rintro e w1 ⟨rfl, hb1⟩
    go_wp2_with fail
    go_ret
    exact ⟨rfl, hb1⟩
  · have hd := decide_eq_false (show ¬ (20000 : Int) < (s.size : Int) by omega)
    have HR := Lib.hid (fun w hg => read_any s w hg (by omega))
    have HQ := Lib.hid (fun w hg => rread_any s w hg (by omega))
    generalize readL s.data.toList = R at *
    obtain ⟨⟨k, t, n, d⟩, m, c⟩ := R
    unfold RdPost at HR HQ
    clear hs
    go_enter Tryd.func3, Tryd.ntmps3
    go_wp2_with fail
    refine (HR.out _ HG.out).mono ?_; rintro e w1 ⟨rfl, hb1⟩
    have HB1 := Lib.hid hb1; clear hb1
    have HK1 := Lib.hid (Bk.new w1 FT #[.int .i64 k, .int .i64 t, .int .i64 n, .string d])
    have HB1a := Lib.hid (HB1.out.alloc HB1.out.size (.cells #[.int .i64 k, .int .i64 t, .int .i64 n, .string d] FT))
    go_wp2_with fail
    refine (HQ.out _ (HG.out.below HB1a.out)).mono ?_; rintro e w2 ⟨rfl, hb2⟩
    have HB2 := Lib.hid (HB1a.out.trans (hb2.mono HB1a.out.size)); have HK2 := Lib.hid (HK1.out.keep hb2); clear hb2
    have HK3 := Lib.hid (HK2.out.more (.cells #[.int .i64 k, .int .i64 t, .int .i64 n, .string d] FT))
    have HB3 := Lib.hid (HB2.out.alloc HB2.out.size (.cells #[.int .i64 k, .int .i64 t, .int .i64 n, .string d] FT))
    have k0 : (w2.alloc (.cells #[.int .i64 k, .int .i64 t, .int .i64 n, .string d] FT)).cell? ⟨w1.heap.size, 0, none⟩ = some (.int .i64 k) := HK3.out.at_ 0 rfl
    have k1 : (w2.alloc (.cells #[.int .i64 k, .int .i64 t, .int .i64 n, .string d] FT)).cell? ⟨w1.heap.size, 1, none⟩ = some (.int .i64 t) := HK3.out.at_ 1 rfl
    have k2 : (w2.alloc (.cells #[.int .i64 k, .int .i64 t, .int .i64 n, .string d] FT)).cell? ⟨w1.heap.size, 2, none⟩ = some (.int .i64 n) := HK3.out.at_ 2 rfl
    have k3 : (w2.alloc (.cells #[.int .i64 k, .int .i64 t, .int .i64 n, .string d] FT)).cell? ⟨w1.heap.size, 3, none⟩ = some (.string d) := HK3.out.at_ 3 rfl
    go_wp2_with fail
    refine (HA.out _ (HG.out.below HB3.out)).mono ?_; rintro e w4 ⟨rfl, hb4⟩
    go_wp2_with fail
    go_ret
    exact ⟨rfl, HB3.out.trans (hb4.mono HB3.out.size)⟩
end Go.Proofs.YtpfkddbhpoeknaaDoor
