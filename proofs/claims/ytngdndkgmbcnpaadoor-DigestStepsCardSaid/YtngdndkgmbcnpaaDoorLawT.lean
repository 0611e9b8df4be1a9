/- The walks of awake and of the laws DigestTexts, DigestOpens, DigestSteps. -/
import Derived.Test.YtngdndkgmbcnpaaDoorRWalk
import Derived.Test.YtngdndkgmbcnpaaDoorSeal
namespace Go.Proofs.YtngdndkgmbcnpaaDoor
open Go.RowKit

def AnsB (b : Bool) (w : World) (e : Ending) (w' : World) : Prop := e = .returned (.bool b) ∧ Below w.heap.size w w'
/-- what the road reads of the package-level variables. -/
def Gv (w : World) : Prop := Gl w ∧ w.cell? ⟨5, 15, none⟩ = some (.int .u8 4)
theorem Gv.below {w w' : World} (h : Gv w) (hb : Below w.heap.size w w') : Gv w' := ⟨h.1.below hb, (hb.cell (p := ⟨5, 15, none⟩) (cell_lt h.2)).trans h.2⟩
theorem awake_fnv : fnvI [97] = 12638187200555641996 := by kernel_rfl
theorem awake_crc : crcV [49, 50, 51, 52, 53, 54, 55, 56, 57] = 3421780262 := by kernel_rfl
theorem awake_text : textL 255 = [48, 48, 48, 48, 48, 48, 48, 48, 48, 48, 48, 48, 48, 48, 102, 102] := by kernel_rfl
theorem awake_pu : Pu [48, 48, 48, 48, 48, 48, 48, 48, 48, 48, 48, 48, 48, 48, 102, 102] = (255, 0) := by kernel_rfl
theorem dparse_ok (s : ByteArray) (N : Nat) (c : Int) (w : World) (hs : s.size ≤ 281474976710656) (h : Pu s.data.toList = (N, c)) (hg : Gv w) :
    Calls Tryd.prog 9 #[.string s] w fun e w' => e = .returned (.tuple #[.int .u64 N, .int .i64 c]) ∧ Below w.heap.size w w' :=
  (dparse_any s w hs hg.1 hg.2).mono fun _ _ ⟨he, hb⟩ => ⟨by rw [he, h], hb⟩
theorem awake_any (w : World) (hg : Gv w) : Calls Tryd.prog 13 #[] w (AnsB true w) := by
  have HG := Lib.hid hg; clear hg
  go_enter Tryd.func13, Tryd.ntmps13
  go_wp2_with fail
  refine (dparse_ok _ 255 0 _ (by decide) awake_pu HG.out).mono ?_; rintro e w1 ⟨rfl, hb1⟩
  go_wp2_with fail
  refine (fnv_any _ _ (by decide)).mono ?_; rintro e w2 ⟨rfl, rfl⟩
  rw [show fnvI _ = _ from awake_fnv]
  go_wp2_with fail
  refine (crc_any _ _ (by decide)).mono ?_; rintro e w2 ⟨rfl, rfl⟩
  rw [show 4294967295 - crcR _ = _ from awake_crc]
  go_wp2_with fail
  refine (text_any 255 _ (by decide) (HG.out.below hb1).2).mono ?_; rintro e w2 ⟨rfl, hb2⟩
  rw [awake_text]
  go_wp2_with fail
  go_ret
  exact ⟨rfl, hb1.trans (hb2.mono hb1.size)⟩
theorem refParse_ok (s : ByteArray) (N : Nat) (c : Int) (w : World) (h : Pu s.data.toList = (N, c)) :
    Calls Tryd.prog 11 #[.string s] w fun e w' => e = .returned (.tuple #[.int .u64 N, .int .i64 c]) ∧ w = w' :=
  (refParse_any s w).mono fun _ _ ⟨he, hb⟩ => ⟨by rw [he, ← Pu_eq, h], hb⟩
theorem mk_data (l : List UInt8) : (⟨l.toArray⟩ : ByteArray).data.toList = l := rfl
theorem textL_len (u : Nat) (h : u < 18446744073709551616) : (textL u).length = 16 := by rw [textL_hx u h, hx_len]; rfl
theorem Pu_lt (l : List UInt8) : (Pu l).1 < 18446744073709551616 := by
  unfold Pu; split
  · exact pu16_lt l
  · decide
theorem Pu_code (l : List UInt8) : (Pu l).2 = 0 ∨ (Pu l).2 = 2 := by
  unfold Pu; split
  · exact .inl rfl
  · exact .inr rfl
theorem texts_law (u : Nat) (s : ByteArray) (w : World) (hu : u < 18446744073709551616) (hs : s.size ≤ 281474976710656) (hg : Gv w) :
    Calls Tryd.prog 3 #[.int .u64 u, .string s] w (AnsB true w) := by
  have HG := Lib.hid hg; clear hg
  have hN := Pu_lt s.data.toList
  have hc := Pu_code s.data.toList
  have ht := text_Pu s.data.toList
  obtain ⟨N, c, hP⟩ : ∃ N c, Pu s.data.toList = (N, c) := ⟨_, _, rfl⟩
  rw [hP] at hN hc ht
  have HP := Lib.hid hP; clear hP
  have HU := Lib.hid hu; have HS := Lib.hid hs; have HN := Lib.hid (show N < 18446744073709551616 from hN); clear hu hs hN
  have HT := Lib.hid ht; clear ht
  have HL := Lib.hid (show (⟨(textL u).toArray⟩ : ByteArray).size ≤ 281474976710656 by show (textL u).toArray.size ≤ _; simp [textL_len u HU.out])
  rcases hc with hc | hc <;> (change c = _ at hc; subst hc)
  · have HE := Lib.hid (show textL N = s.data.toList from HT.out rfl)
    have he : (textL N == s.toList) = true := by rw [HE.out, ByteArray.toList_eq]; simp
    go_enter Tryd.func3, Tryd.ntmps3
    go_wp2_with fail
    refine (text_any u _ HU.out HG.out.2).mono ?_; rintro e w1 ⟨rfl, hb1⟩
    have HG1 := Lib.hid (HG.out.below hb1)
    go_wp2_with fail
    refine (dparse_ok _ u 0 _ HL.out (Pu_text u HU.out) HG1.out).mono ?_; rintro e w2 ⟨rfl, hb2⟩
    have HG2 := Lib.hid (HG1.out.below hb2)
    go_wp2_with fail
    refine (dparse_ok _ N 0 _ HS.out HP.out HG2.out).mono ?_; rintro e w3 ⟨rfl, hb3⟩
    have HG3 := Lib.hid (HG2.out.below hb3)
    go_wp2_with fail
    refine (refParse_ok _ N 0 _ HP.out).mono ?_; rintro e w4 ⟨rfl, rfl⟩
    go_wp2_with fail
    refine (text_any u _ HU.out HG3.out.2).mono ?_; rintro e w5 ⟨rfl, hb5⟩
    have HG5 := Lib.hid (HG3.out.below hb5)
    go_wp2_with fail
    refine (refText_any u _ HU.out).mono ?_; rintro e w6 ⟨rfl, rfl⟩
    go_wp2_with fail
    refine (text_any N _ HN.out HG5.out.2).mono ?_; rintro e w7 ⟨rfl, hb7⟩
    have HG7 := Lib.hid (HG5.out.below hb7)
    go_wp2_with fail
    refine (awake_any _ HG7.out).mono ?_; rintro e w8 ⟨rfl, hb8⟩
    go_wp2_with fail
    go_ret
    have s1 := hb1.size; have s2 := hb2.size; have s3 := hb3.size; have s5 := hb5.size; have s7 := hb7.size
    exact ⟨rfl, hb1.trans ((hb2.mono s1).trans ((hb3.mono (by omega)).trans ((hb5.mono (by omega)).trans ((hb7.mono (by omega)).trans (hb8.mono (by omega))))))⟩
  · go_enter Tryd.func3, Tryd.ntmps3
    go_wp2_with fail
    refine (text_any u _ HU.out HG.out.2).mono ?_; rintro e w1 ⟨rfl, hb1⟩
    have HG1 := Lib.hid (HG.out.below hb1)
    go_wp2_with fail
    refine (dparse_ok _ u 0 _ HL.out (Pu_text u HU.out) HG1.out).mono ?_; rintro e w2 ⟨rfl, hb2⟩
    have HG2 := Lib.hid (HG1.out.below hb2)
    go_wp2_with fail
    refine (dparse_ok _ N 2 _ HS.out HP.out HG2.out).mono ?_; rintro e w3 ⟨rfl, hb3⟩
    have HG3 := Lib.hid (HG2.out.below hb3)
    go_wp2_with fail
    refine (refParse_ok _ N 2 _ HP.out).mono ?_; rintro e w4 ⟨rfl, rfl⟩
    go_wp2_with fail
    refine (text_any u _ HU.out HG3.out.2).mono ?_; rintro e w5 ⟨rfl, hb5⟩
    have HG5 := Lib.hid (HG3.out.below hb5)
    go_wp2_with fail
    refine (refText_any u _ HU.out).mono ?_; rintro e w6 ⟨rfl, rfl⟩
    go_wp2_with fail
    refine (awake_any _ HG5.out).mono ?_; rintro e w8 ⟨rfl, hb8⟩
    go_wp2_with fail
    go_ret
    have s1 := hb1.size; have s2 := hb2.size; have s3 := hb3.size; have s5 := hb5.size
    exact ⟨rfl, hb1.trans ((hb2.mono s1).trans ((hb3.mono (by omega)).trans ((hb5.mono (by omega)).trans (hb8.mono (by omega)))))⟩
end Go.Proofs.YtngdndkgmbcnpaaDoor
