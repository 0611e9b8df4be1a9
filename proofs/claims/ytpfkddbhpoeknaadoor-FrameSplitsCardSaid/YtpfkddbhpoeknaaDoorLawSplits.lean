/- FrameSplits: the law's own walk. -/
import Derived.Test.YtpfkddbhpoeknaaDoorSplit
namespace Go.Proofs.YtpfkddbhpoeknaaDoor
open Go.RowKit
set_option maxHeartbeats 8000000 in
set_option maxRecDepth 100000 in
theorem splits_law (s : ByteArray) (u : Nat) (w : World) (hg : MLen w) (hu : u < 65536) : Calls Tryd.prog 8 #[.string s, .int .u16 u] w fun e w' => e = .returned (.bool true) ∧ Below w.heap.size w w' := by
  have HG := Lib.hid hg; clear hg
  have HA := Lib.hid (fun w hg => awake_any w hg)
  have HB0 := Lib.hid (Below.refl w.heap.size w)
  by_cases hs : 20000 < s.size
  · have hd := decide_eq_true (show (20000 : Int) < (s.size : Int) by omega)
    go_enter Tryd.func8, Tryd.ntmps8
    go_wp2_with fail
    refine (HA.out _ (HG.out.below HB0.out)).mono ?_; rintro e w1 ⟨rfl, hb1⟩
    go_wp2_with fail
    go_ret
    exact ⟨rfl, HB0.out.trans (hb1.mono HB0.out.size)⟩
  have hd := decide_eq_false (show ¬ (20000 : Int) < (s.size : Int) by omega)
  have hll : s.data.toList.length = s.size := by rw [Array.length_toList]; rfl
  have HR := Lib.hid (fun w hg => split_frames s w hg (by omega))
  by_cases hc : (splitL s.data.toList).err = 0
  case neg =>
    obtain ⟨q1, q2⟩ := byte_eq hc
    obtain ⟨b1, b2⟩ := splitL_bad _ _ (Nat.le_refl _) hc
    generalize splitL s.data.toList = R at *
    obtain ⟨fs, rest, c⟩ := R
    simp only at b1 b2 q1 q2
    subst b1 b2
    unfold SpPost at HR
    clear hs hll hc
    go_enter Tryd.func8, Tryd.ntmps8
    go_wp2_with fail
    refine (HR.out _ HG.out).mono ?_; rintro e w1 ⟨v1, rfl, hf1, hb1⟩
    obtain ⟨sa, cap, rfl, _⟩ := hf1
    have HB1 := Lib.hid hb1; clear hb1
    go_wp2_with fail
    refine (HA.out _ (HG.out.below HB1.out)).mono ?_; rintro e w2 ⟨rfl, hb2⟩
    go_wp2_with fail
    go_ret
    exact ⟨rfl, HB1.out.trans (hb2.mono HB1.out.size)⟩
  case pos =>
  obtain ⟨k, hk⟩ : ∃ k, k = u % (s.size + 1) := ⟨_, rfl⟩
  have hks : k ≤ s.size := by rw [hk]; have := Nat.mod_lt u (show 0 < s.size + 1 by omega); omega
  have hkm : ((u : Int) % ((s.size : Int) + 1)) = (k : Int) := by rw [hk]; simp
  have hkt : ((u : Int).tmod ((s.size : Int) + 1)) = (k : Int) := by rw [Int.tmod_eq_emod_of_nonneg (by omega)]; exact hkm
  have hp : (s.extract 0 k).data.toList = s.data.toList.take k := by rw [ext_toL]; simp
  have hq : (s.extract k s.size).data.toList = s.data.toList.drop k := ext_drop s k
  obtain ⟨g1, g2, g3, g4, g5⟩ := splitL_app _ (s.data.toList.take k) (s.data.toList.drop k) (Nat.le_refl _) (by rw [List.take_append_drop]; exact hc)
  rw [List.take_append_drop] at g4 g5
  have HP := Lib.hid (fun w hg => split_frames (s.extract 0 k) w hg (by rw [ByteArray.size_extract]; omega))
  rw [hp] at HP
  have hl1 := (splitL_len _ (s.data.toList.take k) (Nat.le_refl _))
  have hl2 := (splitL_len _ s.data.toList (Nat.le_refl _))
  rw [List.length_take] at hl1 g2
  obtain ⟨⟨fs2, r2, c2⟩, hP⟩ : ∃ P, splitL (s.data.toList.take k) = P := ⟨_, rfl⟩
  rw [hP] at g1 g2 g3 g4 g5 HP hl1
  simp only at g1 g2 g3 g4 g5 hl1
  subst g1
  have HT := Lib.hid (fun w hg => (split_frames (⟨r2.toArray⟩ ++ s.extract k s.size) w hg (by rw [full_cat, ByteArray.size_extract]; show r2.toArray.size + _ < _; rw [List.size_toArray]; omega)).mono fun e w' he => (show SpPost (splitL (r2 ++ s.data.toList.drop k)) w e w' by
    rw [← hq]; simpa [ByteArray.data_append] using he))
  obtain ⟨⟨fs3, r3, c3⟩, hT⟩ : ∃ P, splitL (r2 ++ s.data.toList.drop k) = P := ⟨_, rfl⟩
  rw [hT] at g3 g4 g5 HT
  simp only at g3 g4 g5
  subst g3 g4
  have hRR : splitL s.data.toList = ⟨fs2 ++ fs3, (splitL s.data.toList).rest, 0⟩ := by
    have : splitL s.data.toList = ⟨(splitL s.data.toList).frames, (splitL s.data.toList).rest, (splitL s.data.toList).err⟩ := rfl
    rw [hc, ← g5] at this; exact this
  rw [← g5] at hl2
  rw [hRR] at HR
  generalize (splitL s.data.toList).rest = r at *
  have HN := Lib.hid (show (fs2 ++ fs3).length ≤ 20000 by have := hl2.1; omega)
  have HN2 := Lib.hid (show fs2.length ≤ 20000 by have := HN.out; rw [List.length_append] at this; omega)
  have hr2 : (⟨r2.toArray⟩ : ByteArray).size ≤ k := by show r2.toArray.size ≤ k; rw [List.size_toArray]; omega
  have hns : (s.extract k s.size).size = s.size - k := by rw [ByteArray.size_extract]; omega
  have hcat : ¬ 9223372036854775807 < (⟨r2.toArray⟩ : ByteArray).size + (s.extract k s.size).size := by omega
  have hcmp := decide_eq_false (show ¬ (k : Int) < ((⟨r2.toArray⟩ : ByteArray).size : Int) by omega)
  unfold SpPost at HR HP HT
  simp only at HR HP HT
  clear hp hq hP hT hRR hl1 hl2 g2 g5 hk hc hll hns
  have hsb : s.size < 4294967296 := by omega
  clear hs
  generalize hX2 : (⟨r2.toArray⟩ : ByteArray) = X2 at *
  clear hX2
  go_enter Tryd.func8, Tryd.ntmps8
  go_wp2_with fail
  refine (HR.out _ HG.out).mono ?_; rintro e w1 ⟨v1, rfl, hf1, hb1⟩
  obtain ⟨sa1, cp1, hv1, _⟩ := id hf1; subst hv1
  have HB1 := Lib.hid hb1; have HF1 := Lib.hid hf1; clear hb1 hf1
  go_wp2_with fail
  refine (HP.out _ (HG.out.below HB1.out)).mono ?_; rintro e w2 ⟨v2, rfl, hf2, hb2⟩
  obtain ⟨sa2, cp2, hv2, _⟩ := id hf2; subst hv2
  have HB2 := Lib.hid (HB1.out.trans (hb2.mono HB1.out.size)); have HF1b := Lib.hid (HF1.out.below hb2); have HF2 := Lib.hid hf2; clear hb2 hf2 HF1
  go_wp2_with fail
  refine (HT.out _ (HG.out.below HB2.out)).mono ?_; rintro e w3 ⟨v3, rfl, hf3, hb3⟩
  obtain ⟨sa3, cp3, hv3, _⟩ := id hf3; subst hv3
  have HB3 := Lib.hid (HB2.out.trans (hb3.mono HB2.out.size)); have HF1c := Lib.hid (HF1b.out.below hb3); have HF2b := Lib.hid (HF2.out.below hb3); have HF3 := Lib.hid hf3; clear hb3 hf3 HF1b HF2
  go_upto_region 12 with fail
  clear hkm hkt hu hr2 hcat hcmp hsb hks hd
  go_upto_region 13 with (at_builtin; refine wpList_append_fs rfl _ _ rfl w3.heap.size (.slice none 0 0) 0 [] rfl (World.ownsRow_nil _ _ _ _) (.slice sa2 fs2.length cp2) fs2 rfl HF2b.out (by have := HN2.out; omega) (Nat.le_refl _) ?_; intro v4 w4 ho4 hg4; rw [Nat.zero_add, List.nil_append] at ho4; obtain ⟨a4, c4, hv4⟩ : ∃ ao cp, v4 = .slice ao fs2.length cp := (by rcases ho4.2 with ⟨h, h0⟩ | ⟨g, cap, cur, h, _⟩ <;> first | (rw [h0]; exact ⟨_, _, h⟩) | exact ⟨_, _, h⟩); subst hv4; have HO4 := Lib.hid ho4; have HB4 := Lib.hid ((Below.refl w3.heap.size w3).grown hg4 (Nat.le_refl _) (fun k hk => by cases hk)); clear ho4 hg4; have HF3b := Lib.hid (HF3.out.below HB4.out))
  go_wp2_with (at_builtin; refine wpList_append_fs rfl _ _ rfl w3.heap.size (.slice a4 fs2.length c4) fs2.length (cellsF fs2) rfl HO4.out (.slice sa3 fs3.length cp3) fs3 rfl HF3b.out (by have := HN.out; (try rw [List.length_append] at this); omega) HB4.out.size ?_; intro v5 w5 ho5 hg5; obtain ⟨a5, c5, hv5⟩ : ∃ ao cp, v5 = .slice ao (fs2.length + fs3.length) cp := (by rcases ho5.2 with ⟨h, h0⟩ | ⟨g, cap, cur, h, _⟩ <;> first | (rw [h0]; exact ⟨_, _, h⟩) | exact ⟨_, _, h⟩); subst hv5; have HO5 := Lib.hid ho5; have HB5 := Lib.hid (HB4.out.grown hg5 HB4.out.size (fun g hg => (HO4.out.lt g hg).1)); clear ho5 hg5)
  have HF5 := Lib.hid (FsIn.own (fs := fs2 ++ fs3) (show w5.ownsRow w3.heap.size FT 4 (.slice a5 (fs2.length + fs3.length) c5) (fs2 ++ fs3).length (cellsF (fs2 ++ fs3)) by
    have := HO5.out; rw [cellsF_app, List.length_append]; exact this))
  have HF1d := Lib.hid (show FsIn w5 (.slice sa1 (fs2.length + fs3.length) cp1) (fs2 ++ fs3) by have := HF1c.out.below HB5.out; (try rw [List.length_append] at this); exact this)
  have HB6 := Lib.hid (HB3.out.trans (HB5.out.mono HB3.out.size))
  refine (same_any (fs2 ++ fs3) (.slice a5 (fs2.length + fs3.length) c5) (.slice sa1 (fs2.length + fs3.length) cp1) _ (by have := HN.out; omega) HF5.out HF1d.out).mono ?_; rintro e w6 ⟨rfl, hb6⟩
  have HB7 := Lib.hid (HB6.out.trans (hb6.mono HB6.out.size)); clear hb6
  go_wp2_with fail
  refine (HA.out _ (HG.out.below HB7.out)).mono ?_; rintro e w8 ⟨rfl, hb8⟩
  go_wp2_with fail
  go_ret
  exact ⟨rfl, HB7.out.trans (hb8.mono HB7.out.size)⟩
end Go.Proofs.YtpfkddbhpoeknaaDoor
