/- The walks of awake and of the laws of layer 42. -/
import Derived.Test.YtlljocgcpaoenaaDoorTimes
import Derived.Test.YtlljocgcpaoenaaDoorRPSpan
import Derived.Test.YtlljocgcpaoenaaDoorROf
namespace Go.Proofs.YtlljocgcpaoenaaDoor
open Go.RowKit

def AnsB (b : Bool) (w : World) (e : Ending) (w' : World) : Prop := e = .returned (.bool b) ∧ Below w.heap.size w w'
theorem code_ok (s : ByteArray) (k : Nat) (c : Int) (w : World) (hg : Gs w) (h : codeS s.data.toList = (k, c)) :
    Calls Tryd.prog 13 #[.string s] w fun e w' => e = .returned (.tuple #[.int .i64 k, .int .i64 c]) ∧ w = w' :=
  (code_any s w hg).mono fun _ _ ⟨he, hb⟩ => ⟨by rw [he, h], hb⟩
theorem refCode_ok (s : ByteArray) (k : Nat) (c : Int) (w : World) (h : codeS s.data.toList = (k, c)) :
    Calls Tryd.prog 14 #[.string s] w fun e w' => e = .returned (.tuple #[.int .i64 k, .int .i64 c]) ∧ w = w' :=
  (refCode_any s w).mono fun _ _ ⟨he, hb⟩ => ⟨by rw [he, h], hb⟩
theorem unpack_ok (s : ByteArray) (u : UnS) (w : World) (hs : s.size ≤ 4611686018427387900) (h : unpackS s = u) :
    Calls Tryd.prog 21 #[.string s] w fun e w' => e = .returned (.tuple #[.agg #[.int .i64 u.code, .string u.text], .int .i64 u.err]) ∧ Below w.heap.size w w' := by subst h; exact unpack_any s w hs
theorem refUnpack_ok (s : ByteArray) (u : UnS) (w : World) (hs : s.size ≤ 4611686018427387900) (h : unpackS s = u) :
    Calls Tryd.prog 22 #[.string s] w fun e w' => e = .returned (.tuple #[.agg #[.int .i64 u.code, .string u.text], .int .i64 u.err]) ∧ Below w.heap.size w w' := by subst h; exact refUnpack_any s w hs
theorem of_ok (e : Int) (c : Int) (t : ByteArray) (w : World) (hg : Gs w) (h1 : rc e = c) (h2 : ofT e = t) :
    Calls Tryd.prog 23 #[.int .i64 e] w fun r w' => r = .returned (.agg #[.int .i64 c, .string t]) ∧ Below w.heap.size w w' := by subst h1; subst h2; exact of_any e w hg
theorem refOf_ok (e : Int) (c : Int) (t : ByteArray) (w : World) (h1 : rc e = c) (h2 : ofT e = t) :
    Calls Tryd.prog 24 #[.int .i64 e] w fun r w' => r = .returned (.agg #[.int .i64 c, .string t]) ∧ Below w.heap.size w w' := by subst h1; subst h2; exact refOf_any e w
theorem psp_ok (s : ByteArray) (k : Nat) (c : Int) (w : World) (hg : Gs w) (hs : s.size ≤ 281474976710656) (h : parseSp s.data.toList = (k, c)) :
    Calls Tryd.prog 25 #[.string s] w fun e w' => e = .returned (.tuple #[.int .i64 k, .int .i64 c]) ∧ Below w.heap.size w w' :=
  (pspan_any s w hg hs).mono fun _ _ ⟨he, hb⟩ => ⟨by rw [he, h], hb⟩
theorem refPsp_ok (s : ByteArray) (k : Nat) (c : Int) (w : World) (hs : s.size ≤ 281474976710656) (h : parseSp s.data.toList = (k, c)) :
    Calls Tryd.prog 26 #[.string s] w fun e w' => e = .returned (.tuple #[.int .i64 k, .int .i64 c]) ∧ Below w.heap.size w w' :=
  (rpspan_any s w hs).mono fun _ _ ⟨he, hb⟩ => ⟨by rw [he, h], hb⟩
theorem span_ok (n : Int) (s : List UInt8) (w : World) (hg : Gs w) (h : spanL n = s) :
    Calls Tryd.prog 27 #[.int .i64 n] w fun e w' => e = .returned (.string ⟨s.toArray⟩) ∧ Below w.heap.size w w' := by subst h; exact span_any n w hg
theorem name_ok (c : Int) (s : List UInt8) (w : World) (hg : Gs w) (h : nmI c = s) :
    Calls Tryd.prog 15 #[.int .i64 c] w fun e w' => e = .returned (.string ⟨s.toArray⟩) ∧ w = w' := by subst h; exact name_any c w hg
theorem pack_ok (c : Int) (s t : ByteArray) (w : World) (hs : s.size ≤ 4611686018427387900) (h : packS c s = t) :
    Calls Tryd.prog 19 #[.agg #[.int .i64 c, .string s]] w fun e w' => e = .returned (.string t) ∧ Below w.heap.size w w' := by subst h; exact pack_any c s w hs
theorem ear_ok (a b c : Int) (w : World) (h : earS a b = c) : Calls Tryd.prog 29 #[.int .i64 a, .int .i64 b] w fun e w' => e = .returned (.int .i64 c) ∧ w = w' := by subst h; exact ear_any a b w
theorem left_ok (a b c : Int) (w : World) (hb : b ≤ 9223372036854775807) (h : leftS a b = c) : Calls Tryd.prog 31 #[.int .i64 a, .int .i64 b] w fun e w' => e = .returned (.int .i64 c) ∧ w = w' := by subst h; exact left_any a b w hb
theorem aft_ok (a b c : Int) (w : World) (h : aftS a b = c) : Calls Tryd.prog 33 #[.int .i64 a, .int .i64 b] w fun e w' => e = .returned (.int .i64 c) ∧ w = w' := by subst h; exact aft_any a b w
theorem dec2 : Lib.decDigits 2 = [50] := by rw [Lib.decDigits]; rfl
theorem aw_u1 : unpackS ⟨#[4, 103, 111, 110, 101]⟩ = ⟨4, ⟨#[103, 111, 110, 101]⟩, 0⟩ := by rfl
theorem aw_u2 : unpackS ⟨#[0, 97]⟩ = ⟨0, ⟨#[]⟩, 1⟩ := by rfl
theorem aw_p1 : parseSp [57, 48, 83] = (90000, 0) := by
  have e : Lib.decDigits 90 = [57, 48] := by rw [Lib.decDigits]; simp [Lib.decDigits]
  show parseSp ([57, 48] ++ [83]) = _
  rw [parseSp_snoc]; unfold parseDB
  have h1 : unitN 83 = 1000 := rfl
  have h2 : valN [57, 48] = 90 := rfl
  have h3 : decOk [57, 48] = true := rfl
  have h4 : spanN 90000 = [57, 48, 83] := by
    unfold spanN; rw [if_neg (by omega)]; show Lib.decDigits 90 ++ [83] = _; rw [e]; rfl
  rw [h1, h2, h3, if_neg (by simp), if_neg (by omega), if_neg (by rw [h4]; simp)]
theorem aw_p2 : parseSp [54, 48, 83] = (0, 2) := by
  have e : Lib.decDigits 1 = [49] := by rw [Lib.decDigits]; rfl
  show parseSp ([54, 48] ++ [83]) = _
  rw [parseSp_snoc]; unfold parseDB
  have h1 : unitN 83 = 1000 := rfl
  have h2 : valN [54, 48] = 60 := rfl
  have h3 : decOk [54, 48] = true := rfl
  have h4 : spanN 60000 = [49, 77] := by
    unfold spanN; rw [if_neg (by omega)]; show Lib.decDigits 1 ++ [77] = _; rw [e]; rfl
  rw [h1, h2, h3, if_neg (by simp), if_neg (by omega), if_pos (by rw [h4]; decide)]
theorem aw_s : spanL 7200000 = [50, 72] := by
  show spanN 7200000 = _
  unfold spanN; rw [if_neg (by omega)]; show Lib.decDigits 2 ++ [72] = _; rw [dec2]; rfl
theorem aw_pk : packS 4 ⟨#[103, 111, 110, 101]⟩ = ⟨#[4, 103, 111, 110, 101]⟩ := by rfl
theorem aw_ck : checkS 4 ⟨#[103, 111, 110, 101]⟩ = 0 := by rfl
set_option maxHeartbeats 4000000 in
set_option maxRecDepth 100000 in
theorem awake_any (w : World) (hg : Gs w) : Calls Tryd.prog 12 #[] w (AnsB true w) := by
  have HB0 := Lib.hid (show Below w.heap.size w w from Below.refl _ _)
  have HG0 := Lib.hid hg; clear hg
  go_enter Tryd.func12, Tryd.ntmps12
  go_wp2_with fail
  refine (code_ok _ 0 8 _ HG0.out (by rfl)).mono ?_; rintro e w1 ⟨rfl, rfl⟩
  go_wp2_with fail
  refine (code_ok _ 4 0 _ HG0.out (by rfl)).mono ?_; rintro e w2 ⟨rfl, rfl⟩
  go_wp2_with fail
  refine (unpack_ok _ _ _ (by decide) aw_u1).mono ?_; rintro e w3 ⟨rfl, hb3⟩
  have HB3 := Lib.hid (HB0.out.trans (hb3.mono HB0.out.size))
  have HG3 := Lib.hid (HG0.out.below hb3); clear HG0
  clear HB0 hb3
  have HB4a := Lib.hid (show Below w.heap.size w (w3.alloc (.cells #[.int .i64 4, .string ⟨#[103, 111, 110, 101]⟩] 29)) from HB3.out.alloc HB3.out.size _)
  have HG4a := Lib.hid (HG3.out.below (show Below w3.heap.size w3 (w3.alloc (.cells #[.int .i64 4, .string ⟨#[103, 111, 110, 101]⟩] 29)) from (Below.refl _ _).alloc (Nat.le_refl _) _)); clear HG3
  have HKA4 := Lib.hid (Bk.new w3 29 #[.int .i64 4, .string ⟨#[103, 111, 110, 101]⟩])
  clear HB3
  go_wp2_with fail
  refine (unpack_ok _ _ _ (by decide) aw_u2).mono ?_; rintro e w5 ⟨rfl, hb5⟩
  have HB5 := Lib.hid (HB4a.out.trans (hb5.mono HB4a.out.size))
  have HG5 := Lib.hid (HG4a.out.below hb5); clear HG4a
  have HKA5 := Lib.hid (HKA4.out.keep hb5); clear HKA4
  clear HB4a hb5
  have HB6a := Lib.hid (show Below w.heap.size w (w5.alloc (.cells #[.int .i64 0, .string ⟨#[]⟩] 29)) from HB5.out.alloc HB5.out.size _)
  have HG6a := Lib.hid (HG5.out.below (show Below w5.heap.size w5 (w5.alloc (.cells #[.int .i64 0, .string ⟨#[]⟩] 29)) from (Below.refl _ _).alloc (Nat.le_refl _) _)); clear HG5
  have HKA6 := Lib.hid (HKA5.out.more (.cells #[.int .i64 0, .string ⟨#[]⟩] 29)); clear HKA5
  have HKB6 := Lib.hid (Bk.new w5 29 #[.int .i64 0, .string ⟨#[]⟩])
  clear HB5
  go_wp2_with fail
  refine (of_ok 7 2 ⟨#[117, 116, 102]⟩ _ HG6a.out (by rfl) (by rfl)).mono ?_; rintro e w7 ⟨rfl, hb7⟩
  have HB7 := Lib.hid (HB6a.out.trans (hb7.mono HB6a.out.size))
  have HG7 := Lib.hid (HG6a.out.below hb7); clear HG6a
  have HKA7 := Lib.hid (HKA6.out.keep hb7); clear HKA6
  have HKB7 := Lib.hid (HKB6.out.keep hb7); clear HKB6
  clear HB6a hb7
  have HB8a := Lib.hid (show Below w.heap.size w (w7.alloc (.cells #[.int .i64 2, .string ⟨#[117, 116, 102]⟩] 29)) from HB7.out.alloc HB7.out.size _)
  have HG8a := Lib.hid (HG7.out.below (show Below w7.heap.size w7 (w7.alloc (.cells #[.int .i64 2, .string ⟨#[117, 116, 102]⟩] 29)) from (Below.refl _ _).alloc (Nat.le_refl _) _)); clear HG7
  have HKA8 := Lib.hid (HKA7.out.more (.cells #[.int .i64 2, .string ⟨#[117, 116, 102]⟩] 29)); clear HKA7
  have HKB8 := Lib.hid (HKB7.out.more (.cells #[.int .i64 2, .string ⟨#[117, 116, 102]⟩] 29)); clear HKB7
  have HKC8 := Lib.hid (Bk.new w7 29 #[.int .i64 2, .string ⟨#[117, 116, 102]⟩])
  clear HB7
  go_wp2_with fail
  refine (psp_ok _ 90000 0 _ HG8a.out (by decide) aw_p1).mono ?_; rintro e w9 ⟨rfl, hb9⟩
  have HB9 := Lib.hid (HB8a.out.trans (hb9.mono HB8a.out.size))
  have HG9 := Lib.hid (HG8a.out.below hb9); clear HG8a
  have HKA9 := Lib.hid (HKA8.out.keep hb9); clear HKA8
  have HKB9 := Lib.hid (HKB8.out.keep hb9); clear HKB8
  have HKC9 := Lib.hid (HKC8.out.keep hb9); clear HKC8
  clear HB8a hb9
  go_wp2_with fail
  refine (psp_ok _ 0 2 _ HG9.out (by decide) aw_p2).mono ?_; rintro e w10 ⟨rfl, hb10⟩
  have HB10 := Lib.hid (HB9.out.trans (hb10.mono HB9.out.size))
  have HG10 := Lib.hid (HG9.out.below hb10); clear HG9
  have HKA10 := Lib.hid (HKA9.out.keep hb10); clear HKA9
  have HKB10 := Lib.hid (HKB9.out.keep hb10); clear HKB9
  have HKC10 := Lib.hid (HKC9.out.keep hb10); clear HKC9
  clear HB9 hb10
  go_wp2_with fail
  refine (name_ok 13 [100, 97, 116, 97, 95, 108, 111, 115, 115] _ HG10.out (by rfl)).mono ?_; rintro e w11 ⟨rfl, rfl⟩
  have cA0 : w10.cell? ⟨w3.heap.size, 0, none⟩ = some (.int .i64 4) := HKA10.out.at_ 0 rfl
  have cA1 : w10.cell? ⟨w3.heap.size, 1, none⟩ = some (.string ⟨#[103, 111, 110, 101]⟩) := HKA10.out.at_ 1 rfl
  go_wp2_with fail
  refine (pack_ok 4 _ _ _ (by decide) aw_pk).mono ?_; rintro e w12 ⟨rfl, hb12⟩
  have HB12 := Lib.hid (HB10.out.trans (hb12.mono HB10.out.size))
  have HG12 := Lib.hid (HG10.out.below hb12); clear HG10
  have HKA12 := Lib.hid (HKA10.out.keep hb12); clear HKA10
  have HKB12 := Lib.hid (HKB10.out.keep hb12); clear HKB10
  have HKC12 := Lib.hid (HKC10.out.keep hb12); clear HKC10
  clear HB10 hb12
  clear cA0 cA1
  have cA0 : w12.cell? ⟨w3.heap.size, 0, none⟩ = some (.int .i64 4) := HKA12.out.at_ 0 rfl
  have cA1 : w12.cell? ⟨w3.heap.size, 1, none⟩ = some (.string ⟨#[103, 111, 110, 101]⟩) := HKA12.out.at_ 1 rfl
  go_wp2_with fail
  refine (chk_ok _ 4 0 ⟨#[103, 111, 110, 101]⟩ aw_ck (fun w => check_any 4 _ w (by decide)) _).mono ?_; rintro e w13 ⟨rfl, hb13⟩
  have HB13 := Lib.hid (HB12.out.trans (hb13.mono HB12.out.size))
  have HG13 := Lib.hid (HG12.out.below hb13); clear HG12
  have HKA13 := Lib.hid (HKA12.out.keep hb13); clear HKA12
  have HKB13 := Lib.hid (HKB12.out.keep hb13); clear HKB12
  have HKC13 := Lib.hid (HKC12.out.keep hb13); clear HKC12
  clear HB12 hb13
  clear cA0 cA1
  have cC0 : w13.cell? ⟨w7.heap.size, 0, none⟩ = some (.int .i64 2) := HKC13.out.at_ 0 rfl
  have cC1 : w13.cell? ⟨w7.heap.size, 1, none⟩ = some (.string ⟨#[117, 116, 102]⟩) := HKC13.out.at_ 1 rfl
  go_wp2_with fail
  refine (span_ok 7200000 [50, 72] _ HG13.out aw_s).mono ?_; rintro e w14 ⟨rfl, hb14⟩
  have HB14 := Lib.hid (HB13.out.trans (hb14.mono HB13.out.size))
  have HG14 := Lib.hid (HG13.out.below hb14); clear HG13
  have HKA14 := Lib.hid (HKA13.out.keep hb14); clear HKA13
  have HKB14 := Lib.hid (HKB13.out.keep hb14); clear HKB13
  have HKC14 := Lib.hid (HKC13.out.keep hb14); clear HKC13
  clear HB13 hb14
  clear cC0 cC1
  go_wp2_with fail
  refine (ear_ok 0 7 7 _ (by rfl)).mono ?_; rintro e w15 ⟨rfl, rfl⟩
  go_wp2_with fail
  refine (left_ok 5 7 2 _ (by decide) (by rfl)).mono ?_; rintro e w16 ⟨rfl, rfl⟩
  go_wp2_with fail
  refine (aft_ok 5 7 12 _ (by rfl)).mono ?_; rintro e w17 ⟨rfl, rfl⟩
  go_wp2_with fail
  go_ret
  exact ⟨rfl, HB14.out⟩
set_option maxHeartbeats 4000000 in
set_option maxRecDepth 100000 in
theorem times_law (a b : Int) (w : World) (hg : Gs w) (hb : b ≤ 9223372036854775807) : Calls Tryd.prog 8 #[.int .i64 a, .int .i64 b] w (AnsB true w) := by
  have HB0 := Lib.hid (show Below w.heap.size w w from Below.refl _ _)
  have HG0 := Lib.hid hg; clear hg
  go_enter Tryd.func8, Tryd.ntmps8
  go_wp2_with fail
  refine (ear_any a b _).mono ?_; rintro e w1 ⟨rfl, rfl⟩
  go_wp2_with fail
  refine (refEar_any a b _).mono ?_; rintro e w2 ⟨rfl, rfl⟩
  go_wp2_with fail
  refine (left_any a b _ hb).mono ?_; rintro e w3 ⟨rfl, rfl⟩
  go_wp2_with fail
  refine (refLeft_any a b _ hb).mono ?_; rintro e w4 ⟨rfl, rfl⟩
  go_wp2_with fail
  refine (aft_any a b _).mono ?_; rintro e w5 ⟨rfl, rfl⟩
  go_wp2_with fail
  refine (refAft_any a b _).mono ?_; rintro e w6 ⟨rfl, rfl⟩
  go_wp2_with fail
  refine (awake_any _ HG0.out).mono ?_; rintro e w7 ⟨rfl, hb7⟩
  have HB7 := Lib.hid (HB0.out.trans (hb7.mono HB0.out.size))
  have HG7 := Lib.hid (HG0.out.below hb7); clear HG0
  clear HB0 hb7
  go_wp2_with fail
  go_ret
  exact ⟨rfl, HB7.out⟩
theorem refName_ok (c : Int) (s : List UInt8) (w : World) (h : nmI c = s) :
    Calls Tryd.prog 16 #[.int .i64 c] w fun e w' => e = .returned (.string ⟨s.toArray⟩) ∧ w = w' := by subst h; exact refName_any c w
set_option maxHeartbeats 4000000 in
set_option maxRecDepth 100000 in
theorem names_law (a : Int) (s : ByteArray) (w : World) (hg : Gs w) : Calls Tryd.prog 3 #[.int .i64 a, .string s] w (AnsB true w) := by
  by_cases hs : 300 < s.size
  · have HB0 := Lib.hid (show Below w.heap.size w w from Below.refl _ _)
    have HG0 := Lib.hid hg; clear hg
    go_enter Tryd.func3, Tryd.ntmps3
    go_wp2_with fail
    refine (awake_any _ HG0.out).mono ?_; rintro e w1 ⟨rfl, hb1⟩
    have HB1 := Lib.hid (HB0.out.trans (hb1.mono HB0.out.size))
    have HG1 := Lib.hid (HG0.out.below hb1); clear HG0
    clear HB0 hb1
    go_wp2_with fail
    go_ret
    exact ⟨rfl, HB1.out⟩
  · have HB0 := Lib.hid (show Below w.heap.size w w from Below.refl _ _)
    have HG0 := Lib.hid hg; clear hg
    obtain ⟨k, c, hc⟩ : ∃ k c, codeS s.data.toList = (k, c) := ⟨_, _, rfl⟩
    have HC := Lib.hid hc; clear hc
    have hst : ((nmI a) == (nmI a)) = true := by simp
    generalize hN : nmI a = N at hst
    have HN := Lib.hid hN; clear hN
    go_enter Tryd.func3, Tryd.ntmps3
    go_wp2_with fail
    refine (code_ok s k c _ HG0.out HC.out).mono ?_; rintro e w1 ⟨rfl, rfl⟩
    go_wp2_with fail
    refine (refCode_ok s k c _ HC.out).mono ?_; rintro e w2 ⟨rfl, rfl⟩
    go_wp2_with fail
    refine (name_ok a N _ HG0.out HN.out).mono ?_; rintro e w3 ⟨rfl, rfl⟩
    go_wp2_with fail
    refine (refName_ok a N _ HN.out).mono ?_; rintro e w4 ⟨rfl, rfl⟩
    go_wp2_with fail
    refine (awake_any _ HG0.out).mono ?_; rintro e w5 ⟨rfl, hb5⟩
    have HB5 := Lib.hid (HB0.out.trans (hb5.mono HB0.out.size))
    have HG5 := Lib.hid (HG0.out.below hb5); clear HG0
    clear HB0 hb5
    go_wp2_with fail
    go_ret
    exact ⟨rfl, HB5.out⟩
set_option maxHeartbeats 4000000 in
set_option maxRecDepth 100000 in
theorem unpacks_law (s : ByteArray) (w : World) (hg : Gs w) : Calls Tryd.prog 5 #[.string s] w (AnsB true w) := by
  by_cases hs : 5000 < s.size
  · have HB0 := Lib.hid (show Below w.heap.size w w from Below.refl _ _)
    have HG0 := Lib.hid hg; clear hg
    go_enter Tryd.func5, Tryd.ntmps5
    go_wp2_with fail
    refine (awake_any _ HG0.out).mono ?_; rintro e w1 ⟨rfl, hb1⟩
    have HB1 := Lib.hid (HB0.out.trans (hb1.mono HB0.out.size))
    have HG1 := Lib.hid (HG0.out.below hb1); clear HG0
    clear HB0 hb1
    go_wp2_with fail
    go_ret
    exact ⟨rfl, HB1.out⟩
  · have HB0 := Lib.hid (show Below w.heap.size w w from Below.refl _ _)
    have HG0 := Lib.hid hg; clear hg
    obtain ⟨u, hu⟩ : ∃ u, unpackS s = u := ⟨_, rfl⟩
    have HU := Lib.hid hu; clear hu
    obtain ⟨c, t, r⟩ := u
    have HSZ := Lib.hid (show s.size ≤ 4611686018427387900 by omega)
    have hst : (t.toList == t.toList) = true := by simp
    go_enter Tryd.func5, Tryd.ntmps5
    go_wp2_with fail
    refine (unpack_ok s _ _ HSZ.out HU.out).mono ?_; rintro e w1 ⟨rfl, hb1⟩
    have HB1 := Lib.hid (HB0.out.trans (hb1.mono HB0.out.size))
    have HG1 := Lib.hid (HG0.out.below hb1); clear HG0
    clear HB0 hb1
    have HB2a := Lib.hid (show Below w.heap.size w (w1.alloc (.cells #[.int .i64 c, .string t] 29)) from HB1.out.alloc HB1.out.size _)
    have HG2a := Lib.hid (HG1.out.below (show Below w1.heap.size w1 (w1.alloc (.cells #[.int .i64 c, .string t] 29)) from (Below.refl _ _).alloc (Nat.le_refl _) _)); clear HG1
    have HKA2 := Lib.hid (Bk.new w1 29 #[.int .i64 c, .string t])
    clear HB1
    go_wp2_with fail
    refine (refUnpack_ok s _ _ HSZ.out HU.out).mono ?_; rintro e w3 ⟨rfl, hb3⟩
    have HB3 := Lib.hid (HB2a.out.trans (hb3.mono HB2a.out.size))
    have HG3 := Lib.hid (HG2a.out.below hb3); clear HG2a
    have HKA3 := Lib.hid (HKA2.out.keep hb3); clear HKA2
    clear HB2a hb3
    have HB4a := Lib.hid (show Below w.heap.size w (w3.alloc (.cells #[.int .i64 c, .string t] 29)) from HB3.out.alloc HB3.out.size _)
    have HG4a := Lib.hid (HG3.out.below (show Below w3.heap.size w3 (w3.alloc (.cells #[.int .i64 c, .string t] 29)) from (Below.refl _ _).alloc (Nat.le_refl _) _)); clear HG3
    have HKA4 := Lib.hid (HKA3.out.more (.cells #[.int .i64 c, .string t] 29)); clear HKA3
    have HKB4 := Lib.hid (Bk.new w3 29 #[.int .i64 c, .string t])
    clear HB3
    have cA0 : (w3.alloc (.cells #[.int .i64 c, .string t] 29)).cell? ⟨w1.heap.size, 0, none⟩ = some (.int .i64 c) := HKA4.out.at_ 0 rfl
    have cA1 : (w3.alloc (.cells #[.int .i64 c, .string t] 29)).cell? ⟨w1.heap.size, 1, none⟩ = some (.string t) := HKA4.out.at_ 1 rfl
    have cB0 : (w3.alloc (.cells #[.int .i64 c, .string t] 29)).cell? ⟨w3.heap.size, 0, none⟩ = some (.int .i64 c) := HKB4.out.at_ 0 rfl
    have cB1 : (w3.alloc (.cells #[.int .i64 c, .string t] 29)).cell? ⟨w3.heap.size, 1, none⟩ = some (.string t) := HKB4.out.at_ 1 rfl
    go_wp2_with fail
    refine (awake_any _ HG4a.out).mono ?_; rintro e w5 ⟨rfl, hb5⟩
    have HB5 := Lib.hid (HB4a.out.trans (hb5.mono HB4a.out.size))
    have HG5 := Lib.hid (HG4a.out.below hb5); clear HG4a
    have HKA5 := Lib.hid (HKA4.out.keep hb5); clear HKA4
    have HKB5 := Lib.hid (HKB4.out.keep hb5); clear HKB4
    clear HB4a hb5
    clear cA0 cA1
    clear cB0 cB1
    go_wp2_with fail
    go_ret
    exact ⟨rfl, HB5.out⟩
set_option maxHeartbeats 4000000 in
set_option maxRecDepth 100000 in
theorem ofs_law (a : Int) (w : World) (hg : Gs w) : Calls Tryd.prog 6 #[.int .i64 a] w (AnsB true w) := by
  have HB0 := Lib.hid (show Below w.heap.size w w from Below.refl _ _)
  have HG0 := Lib.hid hg; clear hg
  obtain ⟨c, hc⟩ : ∃ c, rc a = c := ⟨_, rfl⟩
  obtain ⟨t, ht⟩ : ∃ t, ofT a = t := ⟨_, rfl⟩
  have H1 := Lib.hid hc; have H2 := Lib.hid ht; clear hc ht
  have hst : (t.toList == t.toList) = true := by simp
  go_enter Tryd.func6, Tryd.ntmps6
  go_wp2_with fail
  refine (of_ok a c t _ HG0.out H1.out H2.out).mono ?_; rintro e w1 ⟨rfl, hb1⟩
  have HB1 := Lib.hid (HB0.out.trans (hb1.mono HB0.out.size))
  have HG1 := Lib.hid (HG0.out.below hb1); clear HG0
  clear HB0 hb1
  have HB2a := Lib.hid (show Below w.heap.size w (w1.alloc (.cells #[.int .i64 c, .string t] 29)) from HB1.out.alloc HB1.out.size _)
  have HG2a := Lib.hid (HG1.out.below (show Below w1.heap.size w1 (w1.alloc (.cells #[.int .i64 c, .string t] 29)) from (Below.refl _ _).alloc (Nat.le_refl _) _)); clear HG1
  have HKA2 := Lib.hid (Bk.new w1 29 #[.int .i64 c, .string t])
  clear HB1
  go_wp2_with fail
  refine (refOf_ok a c t _ H1.out H2.out).mono ?_; rintro e w3 ⟨rfl, hb3⟩
  have HB3 := Lib.hid (HB2a.out.trans (hb3.mono HB2a.out.size))
  have HG3 := Lib.hid (HG2a.out.below hb3); clear HG2a
  have HKA3 := Lib.hid (HKA2.out.keep hb3); clear HKA2
  clear HB2a hb3
  have HB4a := Lib.hid (show Below w.heap.size w (w3.alloc (.cells #[.int .i64 c, .string t] 29)) from HB3.out.alloc HB3.out.size _)
  have HG4a := Lib.hid (HG3.out.below (show Below w3.heap.size w3 (w3.alloc (.cells #[.int .i64 c, .string t] 29)) from (Below.refl _ _).alloc (Nat.le_refl _) _)); clear HG3
  have HKA4 := Lib.hid (HKA3.out.more (.cells #[.int .i64 c, .string t] 29)); clear HKA3
  have HKB4 := Lib.hid (Bk.new w3 29 #[.int .i64 c, .string t])
  clear HB3
  have cA0 : (w3.alloc (.cells #[.int .i64 c, .string t] 29)).cell? ⟨w1.heap.size, 0, none⟩ = some (.int .i64 c) := HKA4.out.at_ 0 rfl
  have cA1 : (w3.alloc (.cells #[.int .i64 c, .string t] 29)).cell? ⟨w1.heap.size, 1, none⟩ = some (.string t) := HKA4.out.at_ 1 rfl
  have cB0 : (w3.alloc (.cells #[.int .i64 c, .string t] 29)).cell? ⟨w3.heap.size, 0, none⟩ = some (.int .i64 c) := HKB4.out.at_ 0 rfl
  have cB1 : (w3.alloc (.cells #[.int .i64 c, .string t] 29)).cell? ⟨w3.heap.size, 1, none⟩ = some (.string t) := HKB4.out.at_ 1 rfl
  go_wp2_with fail
  refine (awake_any _ HG4a.out).mono ?_; rintro e w5 ⟨rfl, hb5⟩
  have HB5 := Lib.hid (HB4a.out.trans (hb5.mono HB4a.out.size))
  have HG5 := Lib.hid (HG4a.out.below hb5); clear HG4a
  have HKA5 := Lib.hid (HKA4.out.keep hb5); clear HKA4
  have HKB5 := Lib.hid (HKB4.out.keep hb5); clear HKB4
  clear HB4a hb5
  clear cA0 cA1
  clear cB0 cB1
  go_wp2_with fail
  go_ret
  exact ⟨rfl, HB5.out⟩
theorem refSpan_ok (n : Int) (s : List UInt8) (w : World) (h : spanL n = s) :
    Calls Tryd.prog 28 #[.int .i64 n] w fun e w' => e = .returned (.string ⟨s.toArray⟩) ∧ Below w.heap.size w w' := by subst h; exact refSpan_any n w
set_option maxHeartbeats 4000000 in
set_option maxRecDepth 100000 in
theorem spans_law (a : Int) (s : ByteArray) (w : World) (hg : Gs w) : Calls Tryd.prog 7 #[.int .i64 a, .string s] w (AnsB true w) := by
  by_cases hs : 300 < s.size
  · have HB0 := Lib.hid (show Below w.heap.size w w from Below.refl _ _)
    have HG0 := Lib.hid hg; clear hg
    go_enter Tryd.func7, Tryd.ntmps7
    go_wp2_with fail
    refine (awake_any _ HG0.out).mono ?_; rintro e w1 ⟨rfl, hb1⟩
    have HB1 := Lib.hid (HB0.out.trans (hb1.mono HB0.out.size))
    have HG1 := Lib.hid (HG0.out.below hb1); clear HG0
    clear HB0 hb1
    go_wp2_with fail
    go_ret
    exact ⟨rfl, HB1.out⟩
  · have HB0 := Lib.hid (show Below w.heap.size w w from Below.refl _ _)
    have HG0 := Lib.hid hg; clear hg
    obtain ⟨k, c, hc⟩ : ∃ k c, parseSp s.data.toList = (k, c) := ⟨_, _, rfl⟩
    have HC := Lib.hid hc; clear hc
    obtain ⟨t, ht⟩ : ∃ t, spanL a = t := ⟨_, rfl⟩
    have HT := Lib.hid ht; clear ht
    have HSZ := Lib.hid (show s.size ≤ 281474976710656 by omega)
    go_enter Tryd.func7, Tryd.ntmps7
    go_wp2_with fail
    refine (psp_ok s k c _ HG0.out HSZ.out HC.out).mono ?_; rintro e w1 ⟨rfl, hb1⟩
    have HB1 := Lib.hid (HB0.out.trans (hb1.mono HB0.out.size))
    have HG1 := Lib.hid (HG0.out.below hb1); clear HG0
    clear HB0 hb1
    go_wp2_with fail
    refine (refPsp_ok s k c _ HSZ.out HC.out).mono ?_; rintro e w2 ⟨rfl, hb2⟩
    have HB2 := Lib.hid (HB1.out.trans (hb2.mono HB1.out.size))
    have HG2 := Lib.hid (HG1.out.below hb2); clear HG1
    clear HB1 hb2
    go_wp2_with fail
    refine (span_ok a t _ HG2.out HT.out).mono ?_; rintro e w3 ⟨rfl, hb3⟩
    have HB3 := Lib.hid (HB2.out.trans (hb3.mono HB2.out.size))
    have HG3 := Lib.hid (HG2.out.below hb3); clear HG2
    clear HB2 hb3
    go_wp2_with fail
    refine (refSpan_ok a t _ HT.out).mono ?_; rintro e w4 ⟨rfl, hb4⟩
    have HB4 := Lib.hid (HB3.out.trans (hb4.mono HB3.out.size))
    have HG4 := Lib.hid (HG3.out.below hb4); clear HG3
    clear HB3 hb4
    go_wp2_with fail
    refine (awake_any _ HG4.out).mono ?_; rintro e w5 ⟨rfl, hb5⟩
    have HB5 := Lib.hid (HB4.out.trans (hb5.mono HB4.out.size))
    have HG5 := Lib.hid (HG4.out.below hb5); clear HG4
    clear HB4 hb5
    go_wp2_with fail
    go_ret
    exact ⟨rfl, HB5.out⟩
end Go.Proofs.YtlljocgcpaoenaaDoor
