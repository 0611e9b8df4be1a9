/- The walks of the laws DigestOpens, DigestSteps and DigestBytes. -/
import Derived.Test.YtngdndkgmbcnpaaDoorLawT
import Derived.Test.YtngdndkgmbcnpaaDoorDiff
import Derived.Test.YtngdndkgmbcnpaaDoorBs
namespace Go.Proofs.YtngdndkgmbcnpaaDoor
open Go.RowKit

theorem open_ok (s t : ByteArray) (c : Int) (w : World) (hs : s.size ≤ 281474976710656) (h : openB s = (t, c)) :
    Calls Tryd.prog 20 #[.string s] w fun e w' => e = .returned (.tuple #[.string t, .int .i64 c]) ∧ Below w.heap.size w w' :=
  (open_any s w hs).mono fun _ _ ⟨he, hb⟩ => ⟨by rw [he, h], hb⟩
theorem refOpen_ok (s t : ByteArray) (c : Int) (w : World) (hs : s.size ≤ 281474976710656) (h : openB s = (t, c)) :
    Calls Tryd.prog 21 #[.string s] w fun e w' => e = .returned (.tuple #[.string t, .int .i64 c]) ∧ Below w.heap.size w w' :=
  (refOpen_any s w hs).mono fun _ _ ⟨he, hb⟩ => ⟨by rw [he, h], hb⟩
theorem openB_code (s : ByteArray) : (openB s).2 = 0 ∨ (openB s).2 = 4 ∨ (openB s).2 = 25 := by
  unfold openB; split
  · exact .inr (.inl rfl)
  · split
    · exact .inl rfl
    · exact .inr (.inr rfl)
theorem openB_back (s : ByteArray) (h : (openB s).2 = 0) : ((sealB (openB s).1).toList == s.toList) = true ∧ (openB s).1.size ≤ s.size := by
  unfold openB at *
  split at h
  · cases h
  · rename_i h4
    split at h
    · rename_i hq
      rw [if_neg h4, if_pos hq]
      exact ⟨hq, by show (s.extract 0 (s.size - 4)).size ≤ _; rw [ByteArray.size_extract]; omega⟩
    · cases h
theorem long_law (w : World) (s : ByteArray) (hs : 3000 < s.size) (hg : Gv w) : Calls Tryd.prog 7 #[.string s] w (AnsB true w) := by
  have HG := Lib.hid hg; clear hg
  go_enter Tryd.func7, Tryd.ntmps7
  go_wp2_with fail
  refine (awake_any _ HG.out).mono ?_; rintro e w8 ⟨rfl, hb8⟩
  go_wp2_with fail
  go_ret
  exact ⟨rfl, hb8⟩
theorem opens_law (s : ByteArray) (w : World) (hg : Gv w) : Calls Tryd.prog 7 #[.string s] w (AnsB true w) := by
  by_cases hs : 3000 < s.size
  · exact long_law w s hs hg
  have HG := Lib.hid hg; clear hg
  have HS := Lib.hid (show s.size ≤ 281474976710656 by omega)
  have hc := openB_code s
  have hk := openB_back s
  obtain ⟨t, c, hP⟩ : ∃ t c, openB s = (t, c) := ⟨_, _, rfl⟩
  rw [hP] at hc hk
  have HP := Lib.hid hP; clear hP
  rcases hc with hc | hc | hc <;> (change c = _ at hc; subst hc)
  · obtain ⟨hk1, hk2⟩ := hk rfl
    have hq : ((sealB t).toList == s.toList) = true := hk1
    have HT := Lib.hid (show t.size ≤ 281474976710656 by have := HS.out; have : t.size ≤ s.size := hk2; omega)
    clear hk hk1 hk2
    go_enter Tryd.func7, Tryd.ntmps7
    go_wp2_with fail
    refine (open_ok s t 0 _ HS.out HP.out).mono ?_; rintro e w1 ⟨rfl, hb1⟩
    have HG1 := Lib.hid (HG.out.below hb1)
    go_wp2_with fail
    refine (refOpen_ok s t 0 _ HS.out HP.out).mono ?_; rintro e w2 ⟨rfl, hb2⟩
    have HG2 := Lib.hid (HG1.out.below hb2)
    go_wp2_with fail
    refine (seal_any s _ HS.out).mono ?_; rintro e w3 ⟨rfl, hb3⟩
    have HG3 := Lib.hid (HG2.out.below hb3)
    go_wp2_with fail
    refine (refSeal_any s _ HS.out).mono ?_; rintro e w4 ⟨rfl, hb4⟩
    have HG4 := Lib.hid (HG3.out.below hb4)
    go_wp2_with fail
    refine (seal_any t _ HT.out).mono ?_; rintro e w5 ⟨rfl, hb5⟩
    have HG5 := Lib.hid (HG4.out.below hb5)
    go_wp2_with fail
    refine (awake_any _ HG5.out).mono ?_; rintro e w6 ⟨rfl, hb6⟩
    go_wp2_with fail
    go_ret
    have s1 := hb1.size; have s2 := hb2.size; have s3 := hb3.size; have s4 := hb4.size; have s5 := hb5.size
    exact ⟨rfl, hb1.trans ((hb2.mono s1).trans ((hb3.mono (by omega)).trans ((hb4.mono (by omega)).trans ((hb5.mono (by omega)).trans (hb6.mono (by omega))))))⟩
  all_goals
    clear hk
    go_enter Tryd.func7, Tryd.ntmps7
    go_wp2_with fail
    refine (open_ok s t _ _ HS.out HP.out).mono ?_; rintro e w1 ⟨rfl, hb1⟩
    have HG1 := Lib.hid (HG.out.below hb1)
    go_wp2_with fail
    refine (refOpen_ok s t _ _ HS.out HP.out).mono ?_; rintro e w2 ⟨rfl, hb2⟩
    have HG2 := Lib.hid (HG1.out.below hb2)
    go_wp2_with fail
    refine (seal_any s _ HS.out).mono ?_; rintro e w3 ⟨rfl, hb3⟩
    have HG3 := Lib.hid (HG2.out.below hb3)
    go_wp2_with fail
    refine (refSeal_any s _ HS.out).mono ?_; rintro e w4 ⟨rfl, hb4⟩
    have HG4 := Lib.hid (HG3.out.below hb4)
    go_wp2_with fail
    refine (awake_any _ HG4.out).mono ?_; rintro e w6 ⟨rfl, hb6⟩
    go_wp2_with fail
    go_ret
    have s1 := hb1.size; have s2 := hb2.size; have s3 := hb3.size; have s4 := hb4.size
    exact ⟨rfl, hb1.trans ((hb2.mono s1).trans ((hb3.mono (by omega)).trans ((hb4.mono (by omega)).trans (hb6.mono (by omega)))))⟩
theorem conv_one (W : World) (b : UInt8) : (convert 29 9 (.slice (some ⟨W.heap.size, 0, none⟩) 1 1)).run Tryd.prog (W.alloc (.cells #[.int .u8 (b.toNat : Int)] 5)) = .ok (.string ⟨[b].toArray⟩) (W.alloc (.cells #[.int .u8 (b.toNat : Int)] 5)) :=
  conv_new W _ [b] 1 1 rfl (by intro j hj; obtain rfl : j = 0 := (by simpa using hj); rfl)
theorem steps_law (s : ByteArray) (b : UInt8) (w : World) (hg : Gv w) : Calls Tryd.prog 5 #[.string s, .int .u8 (b.toNat : Int)] w (AnsB true w) := by
  have HG := Lib.hid hg; clear hg
  by_cases hs : 3000 < s.size
  · go_enter Tryd.func5, Tryd.ntmps5
    go_wp2_with fail
    refine (awake_any _ HG.out).mono ?_; rintro e w8 ⟨rfl, hb8⟩
    go_wp2_with fail
    go_ret
    exact ⟨rfl, hb8⟩
  · have HS := Lib.hid (show s.size ≤ 3000 by omega)
    have hcv := fun W => conv_one W b
    have hno : ¬ 9223372036854775807 < s.size + 1 := by omega
    have hd : (s ++ ⟨[b].toArray⟩ : ByteArray).data.toList = s.data.toList ++ [b] := by simp [ByteArray.data_append]
    have hsz : (⟨[b].toArray⟩ : ByteArray).size = 1 := rfl
    have HF := Lib.hid (show fnvI (s ++ ⟨[b].toArray⟩ : ByteArray).data.toList = fnvStep (fnvI s.data.toList) b by rw [hd, fnv_snoc])
    have H1 := Lib.hid (show (s ++ ⟨[b].toArray⟩ : ByteArray).size ≤ 9223372036854775806 by rw [ByteArray.size_append, hsz]; omega)
    clear hd
    have hw := wrap64_byte b
    have HE := Lib.hid (show fnvI [] = 14695981039346656037 from rfl)
    have HST := Lib.hid (show ∀ h, IntKind.u64.wrap (bits .xor .u64 h (b.toNat : Int) * 1099511628211) = fnvStep h b from fun _ => rfl)
    go_enter Tryd.func5, Tryd.ntmps5
    go_wp2_with fail
    refine (fnv_any _ _ H1.out).mono ?_; rintro e w1 ⟨rfl, rfl⟩
    rw [HF.out]
    go_wp2_with fail
    refine (fnv_any s _ (by have := HS.out; omega)).mono ?_; rintro e w2 ⟨rfl, rfl⟩
    generalize fnvI s.data.toList = F
    have hst := HST.out F
    go_wp2_with fail
    refine (fnv_any _ _ (by decide)).mono ?_; rintro e w3 ⟨rfl, rfl⟩
    rw [show fnvI _ = _ from HE.out]
    go_wp2_with fail
    refine (awake_any _ (HG.out.below ((Below.refl _ _).alloc (Nat.le_refl _) _))).mono ?_; rintro e w4 ⟨rfl, hb4⟩
    go_wp2_with fail
    go_ret
    exact ⟨rfl, ((Below.refl _ _).alloc (Nat.le_refl _) _).trans (hb4.mono (by simp))⟩
end Go.Proofs.YtngdndkgmbcnpaaDoor
