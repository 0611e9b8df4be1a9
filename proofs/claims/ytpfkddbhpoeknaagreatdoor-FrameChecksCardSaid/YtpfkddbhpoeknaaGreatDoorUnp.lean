/- Statuses: Unpack, the program's and the reference's. -/
import Derived.Test.YtpfkddbhpoeknaaGreatDoorStat
import Derived.Test.YtpfkddbhpoeknaaGreatDoorBlk
namespace Go.Proofs.YtpfkddbhpoeknaaGreatDoor
open Go.RowKit

theorem aggSt : AggT Tryz.prog 40 2 := ⟨by kernel_rfl, by kernel_rfl⟩
theorem takeC (f : FuncId) (s : ByteArray) (u n : Nat) (c : Int) (h : TakeS s = (u, n, c)) (hc : ∀ w, Calls Tryz.prog f #[.string s] w fun e w' => e = .returned (.tuple #[.int .u64 ((TakeS s).1 : Nat), .int .i64 ((TakeS s).2.1 : Nat), .int .i64 (TakeS s).2.2]) ∧ w = w') (w : World) :
    Calls Tryz.prog f #[.string s] w fun e w' => e = .returned (.tuple #[.int .u64 u, .int .i64 n, .int .i64 c]) ∧ w = w' := by
  have := hc w; rw [h] at this; exact this
set_option maxHeartbeats 1000000 in
theorem unpack_any (s : ByteArray) (w : World) (hs : s.size ≤ 4611686018427387900) :
    Calls Tryz.prog 19 #[.string s] w fun e w' => e = .returned (.tuple #[.agg #[.int .i64 (unpackS s).code, .string (unpackS s).text], .int .i64 (unpackS s).err]) ∧ Below w.heap.size w w' := by
  obtain ⟨u, n, c, hP⟩ : ∃ u n c, TakeS s = (u, n, c) := ⟨_, _, _, rfl⟩
  have HT := Lib.hid (takeC _ s u n c hP fun w => take_any s w (by omega))
  by_cases hc : c = 0
  · subst hc
    have HPP := Lib.hid (show unpackS s = unpackU s u n by unfold unpackS; rw [hP]; rfl)
    have hu64 := takeS_lt hP
    obtain ⟨hn0, hn10, hns⟩ := takeL_ok hP
    have hl : s.data.toList.length = s.size := by rw [Array.length_toList]; rfl
    rw [hl] at hns
    have HL := Lib.hid (fun w => len_any u w hu64)
    have HUN := Lib.hid (show ∀ x, unpackU s u n = x → unpackS s = x from fun x e => HPP.out.trans e)
    clear hP hl HPP
    by_cases h1 : n = (putL u).length
    · have hq := (byte_eq' (show (n : Int) = ((putL u).length : Int) by omega)).2
      by_cases h2 : 13 < u
      · have HR := Lib.hid (HUN.out ⟨0, ⟨#[]⟩, 6⟩ (by unfold unpackU; rw [if_neg (by omega), if_pos h2]))
        clear h1 hu64
        go_enter Tryz.func19, Tryz.ntmps19
        go_wp2_with fail
        refine (HT.out _).mono ?_; rintro e w1 ⟨rfl, rfl⟩
        go_wp2_with fail
        refine (HL.out _).mono ?_; rintro e w2 ⟨rfl, rfl⟩
        go_wp2_with fail
        exact bodyPost_ret (v := .tuple #[.agg #[.int .i64 0, .string ⟨#[]⟩], .int .i64 6]) (by simp [results, Tryz.results19, go_sem]) rfl ⟨by rw [HR.out], (Below.refl _ _).alloc (Nat.le_refl _) _⟩
      · have hd : (s.extract n s.size).size ≤ 4611686018427387900 := by rw [ByteArray.size_extract]; omega
        by_cases h3 : checkS u (s.extract n s.size) = 0
        · have HR := Lib.hid (HUN.out ⟨u, s.extract n s.size, 0⟩ (by unfold unpackU; rw [if_neg (by omega), if_neg h2, if_pos h3]))
          have HC := Lib.hid (chk_ok _ (u : Int) 0 _ h3 fun w => check_any _ _ w hd)
          clear h1 h3 hu64 hd
          go_enter Tryz.func19, Tryz.ntmps19
          go_wp2_with fail
          refine (HT.out _).mono ?_; rintro e w1 ⟨rfl, rfl⟩
          go_wp2_with fail
          refine (HL.out _).mono ?_; rintro e w2 ⟨rfl, rfl⟩
          go_wp2_with fail
          refine (HC.out _).mono ?_; rintro e w3 ⟨rfl, hb3⟩
          have K0 := ((Bk.new w 40 #[.int .i64 0, .string ⟨#[]⟩]).more _).keep hb3
          have K1 := (Bk.new (w.alloc (.cells #[.int .i64 0, .string ⟨#[]⟩] 40)) 40 #[.int .i64 (u : Int), .string (s.extract n s.size)]).keep hb3
          have HB := Lib.hid (show Below w.heap.size w w3 from (((Below.refl _ _).alloc (Nat.le_refl _) _).alloc (by simp) _).trans (hb3.mono (by simp; omega)))
          have c0 := K0.at_ 0 rfl
          have c1 := K0.at_ 1 rfl
          have c2 := K1.at_ 0 rfl
          have c3 := K1.at_ 1 rfl
          rw [show (w.alloc (.cells #[.int .i64 0, .string ⟨#[]⟩] 40)).heap.size = w.heap.size + 1 by simp] at c2 c3
          have f0 := K0.free
          have HK := Lib.hid K0
          clear hb3 K0 K1
          go_wp2_with fail
          exact bodyPost_ret (res_ct Tryz.results19 _ rfl rfl ((HK.out.put 0 _).put 1 _) aggSt) rfl ⟨by rw [HR.out]; rfl, (HB.out.setCell (Nat.le_refl _) _).setCell (Nat.le_refl _) _⟩
        · obtain ⟨d, hdd⟩ : ∃ d, checkS u (s.extract n s.size) = d := ⟨_, rfl⟩
          have HR := Lib.hid (HUN.out ⟨0, ⟨#[]⟩, d⟩ (by unfold unpackU; rw [if_neg (by omega), if_neg h2, if_neg h3, hdd]))
          have HC := Lib.hid (chk_ok _ (u : Int) d _ hdd fun w => check_any _ _ w hd)
          obtain ⟨hq1, hq2⟩ := byte_eq (show d ≠ 0 by omega)
          clear h1 h3 hu64 hd hdd
          go_enter Tryz.func19, Tryz.ntmps19
          go_wp2_with fail
          refine (HT.out _).mono ?_; rintro e w1 ⟨rfl, rfl⟩
          go_wp2_with fail
          refine (HL.out _).mono ?_; rintro e w2 ⟨rfl, rfl⟩
          go_wp2_with fail
          refine (HC.out _).mono ?_; rintro e w3 ⟨rfl, hb3⟩
          have K0 := ((Bk.new w 40 #[.int .i64 0, .string ⟨#[]⟩]).more _).keep hb3
          have K1 := (Bk.new (w.alloc (.cells #[.int .i64 0, .string ⟨#[]⟩] 40)) 40 #[.int .i64 (u : Int), .string (s.extract n s.size)]).keep hb3
          have HB := Lib.hid (show Below w.heap.size w w3 from (((Below.refl _ _).alloc (Nat.le_refl _) _).alloc (by simp) _).trans (hb3.mono (by simp; omega)))
          have c0 := K0.at_ 0 rfl
          have c1 := K0.at_ 1 rfl
          have c2 := K1.at_ 0 rfl
          have c3 := K1.at_ 1 rfl
          rw [show (w.alloc (.cells #[.int .i64 0, .string ⟨#[]⟩] 40)).heap.size = w.heap.size + 1 by simp] at c2 c3
          have f0 := K0.free
          have HK := Lib.hid K0
          clear hb3 K0 K1
          go_wp2_with fail
          exact bodyPost_ret (res_ct Tryz.results19 _ rfl rfl ((HK.out.put 0 _).put 1 _) aggSt) rfl ⟨by rw [HR.out]; rfl, (HB.out.setCell (Nat.le_refl _) _).setCell (Nat.le_refl _) _⟩
    · have hq := (byte_eq (show (n : Int) ≠ ((putL u).length : Int) by omega)).2
      have HR := Lib.hid (HUN.out ⟨0, ⟨#[]⟩, 5⟩ (by unfold unpackU; rw [if_pos h1]))
      clear h1 hu64
      go_enter Tryz.func19, Tryz.ntmps19
      go_wp2_with fail
      refine (HT.out _).mono ?_; rintro e w1 ⟨rfl, rfl⟩
      go_wp2_with fail
      refine (HL.out _).mono ?_; rintro e w2 ⟨rfl, rfl⟩
      go_wp2_with fail
      exact bodyPost_ret (v := .tuple #[.agg #[.int .i64 0, .string ⟨#[]⟩], .int .i64 5]) (by simp [results, Tryz.results19, go_sem]) rfl ⟨by rw [HR.out], (Below.refl _ _).alloc (Nat.le_refl _) _⟩
  · have HR := Lib.hid (show unpackS s = ⟨0, ⟨#[]⟩, c⟩ by unfold unpackS; rw [hP, if_neg hc])
    obtain ⟨hq1, hq2⟩ := byte_eq hc
    clear hP hc
    go_enter Tryz.func19, Tryz.ntmps19
    go_wp2_with fail
    refine (HT.out _).mono ?_; rintro e w1 ⟨rfl, rfl⟩
    go_wp2_with fail
    exact bodyPost_ret (v := .tuple #[.agg #[.int .i64 0, .string ⟨#[]⟩], .int .i64 c]) (by simp [results, Tryz.results19, go_sem]) rfl ⟨by rw [HR.out], (Below.refl _ _).alloc (Nat.le_refl _) _⟩
set_option maxHeartbeats 1000000 in
theorem refUnpack_any (s : ByteArray) (w : World) (hs : s.size ≤ 4611686018427387900) :
    Calls Tryz.prog 23 #[.string s] w fun e w' => e = .returned (.tuple #[.agg #[.int .i64 (unpackS s).code, .string (unpackS s).text], .int .i64 (unpackS s).err]) ∧ Below w.heap.size w w' := by
  obtain ⟨u, n, c, hP⟩ : ∃ u n c, TakeS s = (u, n, c) := ⟨_, _, _, rfl⟩
  have HT := Lib.hid (takeC _ s u n c hP fun w => refTake_any s w (by omega))
  by_cases hc : c = 0
  · subst hc
    have HPP := Lib.hid (show unpackS s = unpackU s u n by unfold unpackS; rw [hP]; rfl)
    have hu64 := takeS_lt hP
    obtain ⟨hn0, hn10, hns⟩ := takeL_ok hP
    have hl : s.data.toList.length = s.size := by rw [Array.length_toList]; rfl
    rw [hl] at hns
    have hesz : (s.extract 0 n).size = n := by rw [ByteArray.size_extract]; omega
    have HL0 := Lib.hid (fun w => refShort_any (s.extract 0 n) u n w (by omega) hu64 (takeS_cut hP) hesz.symm)
    have HSH := Lib.hid (show decide (putL u = (s.extract 0 n).data.toList) = decide (n = (putL u).length) by
      rw [decide_eq_decide, ext_take]
      constructor
      · intro e; rw [e, List.length_take, hl]; omega
      · intro e; exact putL_take hP e)
    rw [HSH.out] at HL0
    clear hesz
    have HUN := Lib.hid (show ∀ x, unpackU s u n = x → unpackS s = x from fun x e => HPP.out.trans e)
    clear hP hl HPP
    by_cases h1 : n = (putL u).length
    · have HL := Lib.hid (fun w => (HL0.out w).mono fun e w' h => (show e = .returned (.bool true) ∧ Below w.heap.size w w' by rw [decide_eq_true h1] at h; exact h))
      by_cases h2 : 13 < u
      · have HR := Lib.hid (HUN.out ⟨0, ⟨#[]⟩, 6⟩ (by unfold unpackU; rw [if_neg (by omega), if_pos h2]))
        clear h1 hu64
        go_enter Tryz.func23, Tryz.ntmps23
        go_wp2_with fail
        refine (HT.out _).mono ?_; rintro e w1 ⟨rfl, rfl⟩
        go_wp2_with fail
        refine (HL.out _).mono ?_; rintro e w2 ⟨rfl, hb2⟩
        obtain ⟨hcb2, hfb2⟩ := bcell hb2
        have s2 := hb2.size
        go_wp2_with fail
        exact bodyPost_ret (v := .tuple #[.agg #[.int .i64 0, .string ⟨#[]⟩], .int .i64 6]) (by simp [results, Tryz.results23, go_sem, hcb2]) rfl ⟨by rw [HR.out], ((((Below.refl _ _).alloc (Nat.le_refl _) _).trans (hb2.mono (by simp))).setCell (Nat.le_refl _) _).setCell (Nat.le_refl _) _⟩
      · have hd : (s.extract n s.size).size ≤ 4611686018427387900 := by rw [ByteArray.size_extract]; omega
        by_cases h3 : checkS u (s.extract n s.size) = 0
        · have HR := Lib.hid (HUN.out ⟨u, s.extract n s.size, 0⟩ (by unfold unpackU; rw [if_neg (by omega), if_neg h2, if_pos h3]))
          have HC := Lib.hid (chk_ok _ (u : Int) 0 _ h3 fun w => refCheck_any _ _ w hd)
          clear h1 h3 hu64 hd
          go_enter Tryz.func23, Tryz.ntmps23
          go_wp2_with fail
          refine (HT.out _).mono ?_; rintro e w1 ⟨rfl, rfl⟩
          go_wp2_with fail
          refine (HL.out _).mono ?_; rintro e w2 ⟨rfl, hb2⟩
          obtain ⟨hcb2, hfb2⟩ := bcell hb2
          have s2 := hb2.size
          have hz2 : w.heap.size + 1 ≤ w2.heap.size := by simp at s2; omega
          go_wp2_with fail
          refine (HC.out _).mono ?_; rintro e w3 ⟨rfl, hb3⟩
          have K0 := (((Bk.new w 40 #[.int .i64 0, .string ⟨#[]⟩]).keep hb2).more _).keep hb3
          have K1 := (Bk.new w2 40 #[.int .i64 (u : Int), .string (s.extract n s.size)]).keep hb3
          have HB := Lib.hid (show Below w.heap.size w w3 from (((Below.refl _ _).alloc (Nat.le_refl _) _).trans (hb2.mono (by simp))).trans (((Below.refl _ _).alloc (Nat.le_refl _) _).trans (hb3.mono (by simp)) |>.mono (by simp at s2; omega)))
          have c0 := K0.at_ 0 rfl
          have c1 := K0.at_ 1 rfl
          have c2 := K1.at_ 0 rfl
          have c3 := K1.at_ 1 rfl
          have f0 := K0.free
          have HK := Lib.hid K0
          clear hb3 K0 K1 hcb2 hfb2
          go_wp2_with fail
          exact bodyPost_ret (res_ct Tryz.results23 _ rfl rfl ((HK.out.put 0 _).put 1 _) aggSt) rfl ⟨by rw [HR.out]; rfl, (HB.out.setCell (Nat.le_refl _) _).setCell (Nat.le_refl _) _⟩
        · obtain ⟨d, hdd⟩ : ∃ d, checkS u (s.extract n s.size) = d := ⟨_, rfl⟩
          have HR := Lib.hid (HUN.out ⟨0, ⟨#[]⟩, d⟩ (by unfold unpackU; rw [if_neg (by omega), if_neg h2, if_neg h3, hdd]))
          have HC := Lib.hid (chk_ok _ (u : Int) d _ hdd fun w => refCheck_any _ _ w hd)
          obtain ⟨hq1, hq2⟩ := byte_eq (show d ≠ 0 by omega)
          clear h1 h3 hu64 hd hdd
          go_enter Tryz.func23, Tryz.ntmps23
          go_wp2_with fail
          refine (HT.out _).mono ?_; rintro e w1 ⟨rfl, rfl⟩
          go_wp2_with fail
          refine (HL.out _).mono ?_; rintro e w2 ⟨rfl, hb2⟩
          obtain ⟨hcb2, hfb2⟩ := bcell hb2
          have s2 := hb2.size
          have hz2 : w.heap.size + 1 ≤ w2.heap.size := by simp at s2; omega
          go_wp2_with fail
          refine (HC.out _).mono ?_; rintro e w3 ⟨rfl, hb3⟩
          have K0 := (((Bk.new w 40 #[.int .i64 0, .string ⟨#[]⟩]).keep hb2).more _).keep hb3
          have K1 := (Bk.new w2 40 #[.int .i64 (u : Int), .string (s.extract n s.size)]).keep hb3
          have HB := Lib.hid (show Below w.heap.size w w3 from (((Below.refl _ _).alloc (Nat.le_refl _) _).trans (hb2.mono (by simp))).trans (((Below.refl _ _).alloc (Nat.le_refl _) _).trans (hb3.mono (by simp)) |>.mono (by simp at s2; omega)))
          have c0 := K0.at_ 0 rfl
          have c1 := K0.at_ 1 rfl
          have c2 := K1.at_ 0 rfl
          have c3 := K1.at_ 1 rfl
          have f0 := K0.free
          have HK := Lib.hid K0
          clear hb3 K0 K1 hcb2 hfb2
          go_wp2_with fail
          exact bodyPost_ret (res_ct Tryz.results23 _ rfl rfl ((HK.out.put 0 _).put 1 _) aggSt) rfl ⟨by rw [HR.out]; rfl, (HB.out.setCell (Nat.le_refl _) _).setCell (Nat.le_refl _) _⟩
    · have HL := Lib.hid (fun w => (HL0.out w).mono fun e w' h => (show e = .returned (.bool false) ∧ Below w.heap.size w w' by rw [decide_eq_false h1] at h; exact h))
      have HR := Lib.hid (HUN.out ⟨0, ⟨#[]⟩, 5⟩ (by unfold unpackU; rw [if_pos h1]))
      clear h1 hu64
      go_enter Tryz.func23, Tryz.ntmps23
      go_wp2_with fail
      refine (HT.out _).mono ?_; rintro e w1 ⟨rfl, rfl⟩
      go_wp2_with fail
      refine (HL.out _).mono ?_; rintro e w2 ⟨rfl, hb2⟩
      obtain ⟨hcb2, hfb2⟩ := bcell hb2
      have s2 := hb2.size
      go_wp2_with fail
      exact bodyPost_ret (v := .tuple #[.agg #[.int .i64 0, .string ⟨#[]⟩], .int .i64 5]) (by simp [results, Tryz.results23, go_sem, hcb2]) rfl ⟨by rw [HR.out], ((((Below.refl _ _).alloc (Nat.le_refl _) _).trans (hb2.mono (by simp))).setCell (Nat.le_refl _) _).setCell (Nat.le_refl _) _⟩
  · have HR := Lib.hid (show unpackS s = ⟨0, ⟨#[]⟩, c⟩ by unfold unpackS; rw [hP, if_neg hc])
    obtain ⟨hq1, hq2⟩ := byte_eq hc
    clear hP hc
    go_enter Tryz.func23, Tryz.ntmps23
    go_wp2_with fail
    refine (HT.out _).mono ?_; rintro e w1 ⟨rfl, rfl⟩
    go_wp2_with fail
    exact bodyPost_ret (v := .tuple #[.agg #[.int .i64 0, .string ⟨#[]⟩], .int .i64 c]) (by simp [results, Tryz.results23, go_sem]) rfl ⟨by rw [HR.out], (Below.refl _ _).alloc (Nat.le_refl _) _⟩
end Go.Proofs.YtpfkddbhpoeknaaGreatDoor
