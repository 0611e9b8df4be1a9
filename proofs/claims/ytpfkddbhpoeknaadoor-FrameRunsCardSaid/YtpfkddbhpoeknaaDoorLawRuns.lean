/- FrameRuns: the law's own walk. -/
import Derived.Test.YtpfkddbhpoeknaaDoorSplit
namespace Go.Proofs.YtpfkddbhpoeknaaDoor
open Go.RowKit
set_option maxHeartbeats 8000000 in
set_option maxRecDepth 100000 in
theorem runs_law (s : ByteArray) (w : World) (hg : MLen w) : Calls Tryd.prog 6 #[.string s] w fun e w' => e = .returned (.bool true) ∧ Below w.heap.size w w' := by
  have HG := Lib.hid hg; clear hg
  have HA := Lib.hid (fun w hg => awake_any w hg)
  have HB0 := Lib.hid (Below.refl w.heap.size w)
  by_cases hs : 20000 < s.size
  · have hd := decide_eq_true (show (20000 : Int) < (s.size : Int) by omega)
    go_enter Tryd.func6, Tryd.ntmps6
    go_wp2_with fail
    refine (HA.out _ (HG.out.below HB0.out)).mono ?_; rintro e w1 ⟨rfl, hb1⟩
    go_wp2_with fail
    go_ret
    exact ⟨rfl, HB0.out.trans (hb1.mono HB0.out.size)⟩
  · have hd := decide_eq_false (show ¬ (20000 : Int) < (s.size : Int) by omega)
    have HR := Lib.hid (fun w hg => split_frames s w hg (by omega))
    have HQ := Lib.hid (fun w hg => rsplit_frames s w hg (by omega))
    have hl := (splitL_len s.data.toList.length s.data.toList (Nat.le_refl _)).1
    rw [Array.length_toList] at hl
    have HL := Lib.hid (show (splitL s.data.toList).frames.length < 4294967296 by have : (splitL s.data.toList).frames.length ≤ s.size := hl; omega)
    generalize splitL s.data.toList = R at *
    obtain ⟨fs, rest, c⟩ := R
    unfold SpPost at HR HQ
    simp only at HL
    clear hs hl
    go_enter Tryd.func6, Tryd.ntmps6
    go_wp2_with fail
    refine (HR.out _ HG.out).mono ?_; rintro e w1 ⟨v1, rfl, hf1, hb1⟩
    have HB1 := Lib.hid hb1; have HF1 := Lib.hid hf1; clear hb1 hf1
    go_wp2_with fail
    refine (HQ.out _ (HG.out.below HB1.out)).mono ?_; rintro e w2 ⟨v2, rfl, hf2, hb2⟩
    have HB2 := Lib.hid (HB1.out.trans (hb2.mono HB1.out.size)); have HF2 := Lib.hid (HF1.out.below hb2); have HX2 := Lib.hid hf2; clear hb2 hf2
    go_wp2_with fail
    refine (same_any fs v1 v2 _ HL.out HF2.out HX2.out).mono ?_; rintro e w3 ⟨rfl, hb3⟩
    have HB3 := Lib.hid (HB2.out.trans (hb3.mono HB2.out.size)); clear hb3
    go_wp2_with fail
    refine (HA.out _ (HG.out.below HB3.out)).mono ?_; rintro e w4 ⟨rfl, hb4⟩
    go_wp2_with fail
    go_ret
    exact ⟨rfl, HB3.out.trans (hb4.mono HB3.out.size)⟩
end Go.Proofs.YtpfkddbhpoeknaaDoor
