/- UTF-8: what utf.Bad and utf.Valid, and the reference's Size, Bad and Valid return; they leave what lay in memory alone. -/
import Derived.Test.YtiodkdafoocofaaGreatDoorUtfLaw
import Derived.Test.YtiodkdafoocofaaGreatDoorShelf
import Derived.WalkKit
import Derived.WalkSpells
import Derived.WalkLawsBesides
import Derived.Lib.Hide
import Derived.Lib.OthersKept
import Derived.WalkSmall
import Derived.Below
namespace Go.Proofs.YtiodkdafoocofaaGreatDoor
open Go.RowKit

theorem at_elem (s : ByteArray) {i k : Nat} (h : i + k < s.size) : (s[i + k].toNat : Nat) = atL (s.data.toList.drop i) k := by
  rw [← get_at]
  congr 1
  show s.data[i + k] = s.data[i + k]!
  rw [getElem!_pos]
theorem u_ret_bool {a b : Bool} (h : a = b) : Ending.returned (.bool a) = .returned (.bool b) := by rw [h]
theorem u_ret_int {k : IntKind} {a b : Int} (h : a = b) : Ending.returned (.int k a) = .returned (.int k b) := by rw [h]
theorem between_any (s : ByteArray) (i lo hi : Nat) (w : World) (_ : i ≤ 9223372036854775807) (_ : s.size ≤ 9223372036854775807) :
    Calls Tryz.prog 89 #[.string s, .int .i64 i, .int .u8 lo, .int .u8 hi] w fun e w' => e = .returned (.bool (btw (s.data.toList.drop i) 0 lo hi)) ∧ w = w' := by
  have hb := btw_iff (s.data.toList.drop i) 0 lo hi
  rw [← size_drop] at hb
  by_cases h1 : i < s.size
  · have ha := at_elem s (i := i) (k := 0) h1
    have HA := Lib.hid (show btw (s.data.toList.drop i) 0 lo hi = (decide (lo ≤ s[i].toNat) && decide (s[i].toNat ≤ hi)) by
      rw [Bool.eq_iff_iff, hb, ← ha]; simp [h1])
    clear hb ha
    generalize btw (s.data.toList.drop i) 0 lo hi = R at *
    by_cases h2 : lo ≤ s[i].toNat
    · go_enter Tryz.func89, Tryz.ntmps89
      go_wp2
      go_ret
      refine ⟨u_ret_bool ?_, rfl⟩
      rw [HA.out, decide_eq_true h2, Bool.true_and]
    · go_enter Tryz.func89, Tryz.ntmps89
      go_wp2
      go_ret
      exact ⟨u_ret_bool (by rw [HA.out, decide_eq_false h2]; rfl), rfl⟩
  · have HA := Lib.hid (show btw (s.data.toList.drop i) 0 lo hi = false by rw [Bool.eq_false_iff]; intro h; exact h1 (hb.1 h).1)
    clear hb
    go_enter Tryz.func89, Tryz.ntmps89
    go_wp2
    go_ret
    exact ⟨u_ret_bool HA.out.symm, rfl⟩
theorem btw_drop (l : List UInt8) (j k lo hi : Nat) : btw (l.drop j) k lo hi = btw l (j + k) lo hi := by
  unfold btw atL
  rw [List.length_drop, List.getD_eq_getElem?_getD, List.getElem?_drop, List.getD_eq_getElem?_getD]
  congr 2
  rw [decide_eq_decide]; omega
theorem tailB_drop : ∀ (n : Nat) (l : List UInt8) (j k : Nat), tailB n (l.drop j) k = tailB n l (j + k)
  | 0, _, _, _ => rfl
  | n + 1, l, j, k => by rw [tailB, tailB, btw_drop, tailB_drop n, Nat.add_assoc]
theorem between_ok (s : ByteArray) (i lo hi : Nat) (b : Bool) (w : World) (hi2 : i ≤ 9223372036854775807) (hs : s.size ≤ 9223372036854775807) (h : btw (s.data.toList.drop i) 0 lo hi = b) :
    Calls Tryz.prog 89 #[.string s, .int .i64 i, .int .u8 lo, .int .u8 hi] w fun e w' => e = .returned (.bool b) ∧ w = w' := by
  subst h; exact between_any s i lo hi w hi2 hs
theorem tail_any (s : ByteArray) (i n : Nat) (w : World) (hn : n ≤ 100) (hi2 : i ≤ 4611686018427387904) (hs : s.size ≤ 9223372036854775807) :
    Calls Tryz.prog 88 #[.string s, .int .i64 i, .int .i64 n] w fun e w' => e = .returned (.bool (tailB n (s.data.toList.drop i) 0)) ∧ w = w' := by
  have HB := Lib.hid (fun (k : Nat) (b : Bool) (w : World) (hk : k ≤ 100) (h : btw (s.data.toList.drop i) k 128 191 = b) => between_ok s (i + k) 128 191 b w (by omega) hs (by rw [← List.drop_drop, btw_drop]; exact h))
  go_enter Tryz.func88, Tryz.ntmps88
  go_wp2
  go_loop [7] (fun x => ∃ k : Nat, k ≤ n ∧ x = .int .i64 k ∧ tailB n (s.data.toList.drop i) 0 = tailB (n - k) (s.data.toList.drop i) k) (fun x => n - (intOf x).toNat)
  case atStart => exact ⟨0, Nat.zero_le _, rfl, rfl⟩
  case round =>
    obtain ⟨k, hk, rfl, hx⟩ := hrel
    by_cases hlt : k < n
    · rw [show n - k = (n - (k + 1)) + 1 by omega, tailB] at hx
      have HX := Lib.hid hx; clear hx
      cases hb : btw (s.data.toList.drop i) k 128 191 with
      | true =>
        have HC := Lib.hid (HB.out k true · (by omega) hb)
        have HD := Lib.hid hb; clear hb
        go_wp2_with fail
        refine (HC.out _).mono ?_; rintro e w1 ⟨rfl, rfl⟩
        go_wp2_with fail
        go_round
        case rel => exact ⟨k + 1, hlt, by go_num, by rw [HX.out, HD.out, Bool.true_and]⟩
        case measure => simp [intOf]; omega
      | false =>
        have HC := Lib.hid (HB.out k false · (by omega) hb)
        have HD := Lib.hid hb; clear hb
        go_wp2_with fail
        refine (HC.out _).mono ?_; rintro e w1 ⟨rfl, rfl⟩
        go_wp2_with fail
        go_ret
        exact ⟨u_ret_bool (by rw [HX.out, HD.out, Bool.false_and]), rfl⟩
    · have HX := Lib.hid (show tailB n (s.data.toList.drop i) 0 = true by rw [hx, show n - k = 0 by omega]; rfl)
      clear hx
      go_wp2_with fail
      go_ret
      exact ⟨u_ret_bool HX.out.symm, rfl⟩
theorem tail_ok (s : ByteArray) (i n : Nat) (b : Bool) (w : World) (hn : n ≤ 100) (hi2 : i ≤ 4611686018427387904) (hs : s.size ≤ 9223372036854775807) (h : tailB n (s.data.toList.drop i) 0 = b) :
    Calls Tryz.prog 88 #[.string s, .int .i64 i, .int .i64 n] w fun e w' => e = .returned (.bool b) ∧ w = w' := by
  subst h; exact tail_any s i n w hn hi2 hs
theorem tail_at (s : ByteArray) (I N : Int) (i n : Nat) (b : Bool) (w : World) (hI : I = i) (hN : N = n) (hn : n ≤ 100) (hi2 : i ≤ 4611686018427387904) (hs : s.size ≤ 9223372036854775807) (h : tailB n (s.data.toList.drop i) 0 = b) :
    Calls Tryz.prog 88 #[.string s, .int .i64 I, .int .i64 N] w fun e w' => e = .returned (.bool b) ∧ w = w' := by
  subst hI; subst hN; exact tail_ok s i n b w hn hi2 hs h
theorem between_at (s : ByteArray) (I L H : Int) (i lo hi : Nat) (b : Bool) (w : World) (hI : I = i) (hL : L = lo) (hH : H = hi) (hi2 : i ≤ 9223372036854775807) (hs : s.size ≤ 9223372036854775807) (h : btw (s.data.toList.drop i) 0 lo hi = b) :
    Calls Tryz.prog 89 #[.string s, .int .i64 I, .int .u8 L, .int .u8 H] w fun e w' => e = .returned (.bool b) ∧ w = w' := by
  subst hI; subst hL; subst hH; exact between_ok s i lo hi b w hi2 hs h
theorem byte_eq {a c : Int} (h : a ≠ c) : (a == c) = false ∧ (a != c) = true := by
  have : (a == c) = false := by simpa using h
  exact ⟨this, by rw [bne, this]; rfl⟩
theorem byte_eq' {a c : Int} (h : a = c) : (a == c) = true ∧ (a != c) = false := by
  have : (a == c) = true := by simpa using h
  exact ⟨this, by rw [bne, this]; rfl⟩
set_option maxHeartbeats 1000000 in
set_option maxRecDepth 100000 in
theorem size_r0 (s : ByteArray) (i : Nat) (w : World) (h : i < s.size) (hs : s.size ≤ 4611686018427387900) (hr : 0 ≤ s[i].toNat ∧ s[i].toNat < 128) :
    Calls Tryz.prog 67 #[.string s, .int .i64 i] w fun e w' => e = .returned (.int .i64 (szL (s.data.toList.drop i))) ∧ w = w' := by
  have ha : s[i].toNat = atL (s.data.toList.drop i) 0 := at_elem s (i := i) (k := 0) h
  have hib : i ≤ 4611686018427387900 := by omega
  have HS := Lib.hid hs; clear hs
  obtain ⟨hq224, hn224⟩ := byte_eq (show (s[i].toNat : Int) ≠ 224 by omega)
  obtain ⟨hq237, hn237⟩ := byte_eq (show (s[i].toNat : Int) ≠ 237 by omega)
  obtain ⟨hq240, hn240⟩ := byte_eq (show (s[i].toNat : Int) ≠ 240 by omega)
  obtain ⟨hq244, hn244⟩ := byte_eq (show (s[i].toNat : Int) ≠ 244 by omega)
  have hr2 := hr
  obtain ⟨hr3, hr4⟩ := hr2
  have HZ0 : szL (s.data.toList.drop i) = 1 := by
    unfold szL
    repeat' split
    all_goals omega
  have HZ := Lib.hid HZ0; clear HZ0
  clear ha hr
  go_enter Tryz.func67, Tryz.ntmps67
  go_wp2_with fail
  go_ret
  exact ⟨u_ret_int (by rw [HZ.out]; rfl), rfl⟩
set_option maxHeartbeats 1000000 in
set_option maxRecDepth 100000 in
theorem size_r1 (s : ByteArray) (i : Nat) (w : World) (h : i < s.size) (hs : s.size ≤ 4611686018427387900) (hr : 128 ≤ s[i].toNat ∧ s[i].toNat < 194) :
    Calls Tryz.prog 67 #[.string s, .int .i64 i] w fun e w' => e = .returned (.int .i64 (szL (s.data.toList.drop i))) ∧ w = w' := by
  have ha : s[i].toNat = atL (s.data.toList.drop i) 0 := at_elem s (i := i) (k := 0) h
  have hib : i ≤ 4611686018427387900 := by omega
  have HS := Lib.hid hs; clear hs
  obtain ⟨hq224, hn224⟩ := byte_eq (show (s[i].toNat : Int) ≠ 224 by omega)
  obtain ⟨hq237, hn237⟩ := byte_eq (show (s[i].toNat : Int) ≠ 237 by omega)
  obtain ⟨hq240, hn240⟩ := byte_eq (show (s[i].toNat : Int) ≠ 240 by omega)
  obtain ⟨hq244, hn244⟩ := byte_eq (show (s[i].toNat : Int) ≠ 244 by omega)
  have hr2 := hr
  obtain ⟨hr3, hr4⟩ := hr2
  have HZ0 : szL (s.data.toList.drop i) = 0 := by
    unfold szL
    repeat' split
    all_goals omega
  have HZ := Lib.hid HZ0; clear HZ0
  clear ha hr
  go_enter Tryz.func67, Tryz.ntmps67
  go_wp2_with fail
  go_ret
  exact ⟨u_ret_int (by rw [HZ.out]; rfl), rfl⟩
set_option maxHeartbeats 1000000 in
set_option maxRecDepth 100000 in
theorem size_r2 (s : ByteArray) (i : Nat) (w : World) (h : i < s.size) (hs : s.size ≤ 4611686018427387900) (hr : 194 ≤ s[i].toNat ∧ s[i].toNat ≤ 223) :
    Calls Tryz.prog 67 #[.string s, .int .i64 i] w fun e w' => e = .returned (.int .i64 (szL (s.data.toList.drop i))) ∧ w = w' := by
  have ha : s[i].toNat = atL (s.data.toList.drop i) 0 := at_elem s (i := i) (k := 0) h
  have hib : i ≤ 4611686018427387900 := by omega
  have HS := Lib.hid hs; clear hs
  obtain ⟨hq224, hn224⟩ := byte_eq (show (s[i].toNat : Int) ≠ 224 by omega)
  obtain ⟨hq237, hn237⟩ := byte_eq (show (s[i].toNat : Int) ≠ 237 by omega)
  obtain ⟨hq240, hn240⟩ := byte_eq (show (s[i].toNat : Int) ≠ 240 by omega)
  obtain ⟨hq244, hn244⟩ := byte_eq (show (s[i].toNat : Int) ≠ 244 by omega)
  have hr2 := hr
  obtain ⟨hr3, hr4⟩ := hr2
  cases ht : tailB 1 (s.data.toList.drop i) 1 with
  | true =>
    have HZ0 : szL (s.data.toList.drop i) = 2 := by
      unfold szL
      simp [ht]
      repeat' split
      all_goals omega
    have HZ := Lib.hid HZ0; clear HZ0
    have HT := Lib.hid (fun w => tail_at s ((i : Int) + 1) 1 (i + 1) 1 true w (by omega) rfl (by omega) (by have := HS.out; omega) (by have := HS.out; omega) (by rw [← List.drop_drop, tailB_drop]; exact ht))
    clear ha hr ht
    go_enter Tryz.func67, Tryz.ntmps67
    go_wp2_with fail
    refine (HT.out _).mono ?_; rintro e w1 ⟨rfl, rfl⟩
    go_wp2_with fail
    go_ret
    exact ⟨u_ret_int (by rw [HZ.out]; rfl), rfl⟩
  | false =>
    have HZ0 : szL (s.data.toList.drop i) = 0 := by
      unfold szL
      simp [ht]
      repeat' split
      all_goals omega
    have HZ := Lib.hid HZ0; clear HZ0
    have HT := Lib.hid (fun w => tail_at s ((i : Int) + 1) 1 (i + 1) 1 false w (by omega) rfl (by omega) (by have := HS.out; omega) (by have := HS.out; omega) (by rw [← List.drop_drop, tailB_drop]; exact ht))
    clear ha hr ht
    go_enter Tryz.func67, Tryz.ntmps67
    go_wp2_with fail
    refine (HT.out _).mono ?_; rintro e w1 ⟨rfl, rfl⟩
    go_wp2_with fail
    go_ret
    exact ⟨u_ret_int (by rw [HZ.out]; rfl), rfl⟩
set_option maxHeartbeats 1000000 in
set_option maxRecDepth 100000 in
theorem size_r3 (s : ByteArray) (i : Nat) (w : World) (h : i < s.size) (hs : s.size ≤ 4611686018427387900) (hr : s[i].toNat = 224) :
    Calls Tryz.prog 67 #[.string s, .int .i64 i] w fun e w' => e = .returned (.int .i64 (szL (s.data.toList.drop i))) ∧ w = w' := by
  have ha : s[i].toNat = atL (s.data.toList.drop i) 0 := at_elem s (i := i) (k := 0) h
  have hib : i ≤ 4611686018427387900 := by omega
  have HS := Lib.hid hs; clear hs
  obtain ⟨hq224, hn224⟩ := byte_eq' (show (s[i].toNat : Int) = 224 by omega)
  obtain ⟨hq237, hn237⟩ := byte_eq (show (s[i].toNat : Int) ≠ 237 by omega)
  obtain ⟨hq240, hn240⟩ := byte_eq (show (s[i].toNat : Int) ≠ 240 by omega)
  obtain ⟨hq244, hn244⟩ := byte_eq (show (s[i].toNat : Int) ≠ 244 by omega)
  have hr2 :  224 ≤ s[i].toNat ∧ s[i].toNat ≤  224 := by omega
  obtain ⟨hr3, hr4⟩ := hr2
  cases hb : btw (s.data.toList.drop i) 1 160 191 with
  | false =>
    have HZ0 : szL (s.data.toList.drop i) = 0 := by
      unfold szL
      simp [hb]
      repeat' split
      all_goals omega
    have HZ := Lib.hid HZ0; clear HZ0
    have HB := Lib.hid (fun w => between_at s ((i : Int) + 1) 160 191 (i + 1) 160 191 false w (by omega) rfl rfl (by have := HS.out; omega) (by have := HS.out; omega) (by rw [← List.drop_drop, btw_drop]; exact hb))
    clear ha hr hb
    go_enter Tryz.func67, Tryz.ntmps67
    go_wp2_with fail
    refine (HB.out _).mono ?_; rintro e w1 ⟨rfl, rfl⟩
    go_wp2_with fail
    go_ret
    exact ⟨u_ret_int (by rw [HZ.out]; rfl), rfl⟩
  | true =>
    cases ht : tailB 1 (s.data.toList.drop i) 2 with
    | true =>
      have HZ0 : szL (s.data.toList.drop i) = 3 := by
        unfold szL
        simp [hb, ht]
        repeat' split
        all_goals omega
      have HZ := Lib.hid HZ0; clear HZ0
      have HB := Lib.hid (fun w => between_at s ((i : Int) + 1) 160 191 (i + 1) 160 191 true w (by omega) rfl rfl (by have := HS.out; omega) (by have := HS.out; omega) (by rw [← List.drop_drop, btw_drop]; exact hb))
      have HT := Lib.hid (fun w => tail_at s ((i : Int) + 2) 1 (i + 2) 1 true w (by omega) rfl (by omega) (by have := HS.out; omega) (by have := HS.out; omega) (by rw [← List.drop_drop, tailB_drop]; exact ht))
      clear ha hr hb ht
      go_enter Tryz.func67, Tryz.ntmps67
      go_wp2_with fail
      refine (HB.out _).mono ?_; rintro e w1 ⟨rfl, rfl⟩
      go_wp2_with fail
      refine (HT.out _).mono ?_; rintro e w1 ⟨rfl, rfl⟩
      go_wp2_with fail
      go_ret
      exact ⟨u_ret_int (by rw [HZ.out]; rfl), rfl⟩
    | false =>
      have HZ0 : szL (s.data.toList.drop i) = 0 := by
        unfold szL
        simp [hb, ht]
        repeat' split
        all_goals omega
      have HZ := Lib.hid HZ0; clear HZ0
      have HB := Lib.hid (fun w => between_at s ((i : Int) + 1) 160 191 (i + 1) 160 191 true w (by omega) rfl rfl (by have := HS.out; omega) (by have := HS.out; omega) (by rw [← List.drop_drop, btw_drop]; exact hb))
      have HT := Lib.hid (fun w => tail_at s ((i : Int) + 2) 1 (i + 2) 1 false w (by omega) rfl (by omega) (by have := HS.out; omega) (by have := HS.out; omega) (by rw [← List.drop_drop, tailB_drop]; exact ht))
      clear ha hr hb ht
      go_enter Tryz.func67, Tryz.ntmps67
      go_wp2_with fail
      refine (HB.out _).mono ?_; rintro e w1 ⟨rfl, rfl⟩
      go_wp2_with fail
      refine (HT.out _).mono ?_; rintro e w1 ⟨rfl, rfl⟩
      go_wp2_with fail
      go_ret
      exact ⟨u_ret_int (by rw [HZ.out]; rfl), rfl⟩
set_option maxHeartbeats 1000000 in
set_option maxRecDepth 100000 in
theorem size_r4 (s : ByteArray) (i : Nat) (w : World) (h : i < s.size) (hs : s.size ≤ 4611686018427387900) (hr : 225 ≤ s[i].toNat ∧ s[i].toNat ≤ 236) :
    Calls Tryz.prog 67 #[.string s, .int .i64 i] w fun e w' => e = .returned (.int .i64 (szL (s.data.toList.drop i))) ∧ w = w' := by
  have ha : s[i].toNat = atL (s.data.toList.drop i) 0 := at_elem s (i := i) (k := 0) h
  have hib : i ≤ 4611686018427387900 := by omega
  have HS := Lib.hid hs; clear hs
  obtain ⟨hq224, hn224⟩ := byte_eq (show (s[i].toNat : Int) ≠ 224 by omega)
  obtain ⟨hq237, hn237⟩ := byte_eq (show (s[i].toNat : Int) ≠ 237 by omega)
  obtain ⟨hq240, hn240⟩ := byte_eq (show (s[i].toNat : Int) ≠ 240 by omega)
  obtain ⟨hq244, hn244⟩ := byte_eq (show (s[i].toNat : Int) ≠ 244 by omega)
  have hr2 := hr
  obtain ⟨hr3, hr4⟩ := hr2
  cases ht : tailB 2 (s.data.toList.drop i) 1 with
  | true =>
    have HZ0 : szL (s.data.toList.drop i) = 3 := by
      unfold szL
      simp [ht]
      repeat' split
      all_goals omega
    have HZ := Lib.hid HZ0; clear HZ0
    have HT := Lib.hid (fun w => tail_at s ((i : Int) + 1) 2 (i + 1) 2 true w (by omega) rfl (by omega) (by have := HS.out; omega) (by have := HS.out; omega) (by rw [← List.drop_drop, tailB_drop]; exact ht))
    clear ha hr ht
    go_enter Tryz.func67, Tryz.ntmps67
    go_wp2_with fail
    refine (HT.out _).mono ?_; rintro e w1 ⟨rfl, rfl⟩
    go_wp2_with fail
    go_ret
    exact ⟨u_ret_int (by rw [HZ.out]; rfl), rfl⟩
  | false =>
    have HZ0 : szL (s.data.toList.drop i) = 0 := by
      unfold szL
      simp [ht]
      repeat' split
      all_goals omega
    have HZ := Lib.hid HZ0; clear HZ0
    have HT := Lib.hid (fun w => tail_at s ((i : Int) + 1) 2 (i + 1) 2 false w (by omega) rfl (by omega) (by have := HS.out; omega) (by have := HS.out; omega) (by rw [← List.drop_drop, tailB_drop]; exact ht))
    clear ha hr ht
    go_enter Tryz.func67, Tryz.ntmps67
    go_wp2_with fail
    refine (HT.out _).mono ?_; rintro e w1 ⟨rfl, rfl⟩
    go_wp2_with fail
    go_ret
    exact ⟨u_ret_int (by rw [HZ.out]; rfl), rfl⟩
set_option maxHeartbeats 1000000 in
set_option maxRecDepth 100000 in
theorem size_r5 (s : ByteArray) (i : Nat) (w : World) (h : i < s.size) (hs : s.size ≤ 4611686018427387900) (hr : s[i].toNat = 237) :
    Calls Tryz.prog 67 #[.string s, .int .i64 i] w fun e w' => e = .returned (.int .i64 (szL (s.data.toList.drop i))) ∧ w = w' := by
  have ha : s[i].toNat = atL (s.data.toList.drop i) 0 := at_elem s (i := i) (k := 0) h
  have hib : i ≤ 4611686018427387900 := by omega
  have HS := Lib.hid hs; clear hs
  obtain ⟨hq224, hn224⟩ := byte_eq (show (s[i].toNat : Int) ≠ 224 by omega)
  obtain ⟨hq237, hn237⟩ := byte_eq' (show (s[i].toNat : Int) = 237 by omega)
  obtain ⟨hq240, hn240⟩ := byte_eq (show (s[i].toNat : Int) ≠ 240 by omega)
  obtain ⟨hq244, hn244⟩ := byte_eq (show (s[i].toNat : Int) ≠ 244 by omega)
  have hr2 :  237 ≤ s[i].toNat ∧ s[i].toNat ≤  237 := by omega
  obtain ⟨hr3, hr4⟩ := hr2
  cases hb : btw (s.data.toList.drop i) 1 128 159 with
  | false =>
    have HZ0 : szL (s.data.toList.drop i) = 0 := by
      unfold szL
      simp [hb]
      repeat' split
      all_goals omega
    have HZ := Lib.hid HZ0; clear HZ0
    have HB := Lib.hid (fun w => between_at s ((i : Int) + 1) 128 159 (i + 1) 128 159 false w (by omega) rfl rfl (by have := HS.out; omega) (by have := HS.out; omega) (by rw [← List.drop_drop, btw_drop]; exact hb))
    clear ha hr hb
    go_enter Tryz.func67, Tryz.ntmps67
    go_wp2_with fail
    refine (HB.out _).mono ?_; rintro e w1 ⟨rfl, rfl⟩
    go_wp2_with fail
    go_ret
    exact ⟨u_ret_int (by rw [HZ.out]; rfl), rfl⟩
  | true =>
    cases ht : tailB 1 (s.data.toList.drop i) 2 with
    | true =>
      have HZ0 : szL (s.data.toList.drop i) = 3 := by
        unfold szL
        simp [hb, ht]
        repeat' split
        all_goals omega
      have HZ := Lib.hid HZ0; clear HZ0
      have HB := Lib.hid (fun w => between_at s ((i : Int) + 1) 128 159 (i + 1) 128 159 true w (by omega) rfl rfl (by have := HS.out; omega) (by have := HS.out; omega) (by rw [← List.drop_drop, btw_drop]; exact hb))
      have HT := Lib.hid (fun w => tail_at s ((i : Int) + 2) 1 (i + 2) 1 true w (by omega) rfl (by omega) (by have := HS.out; omega) (by have := HS.out; omega) (by rw [← List.drop_drop, tailB_drop]; exact ht))
      clear ha hr hb ht
      go_enter Tryz.func67, Tryz.ntmps67
      go_wp2_with fail
      refine (HB.out _).mono ?_; rintro e w1 ⟨rfl, rfl⟩
      go_wp2_with fail
      refine (HT.out _).mono ?_; rintro e w1 ⟨rfl, rfl⟩
      go_wp2_with fail
      go_ret
      exact ⟨u_ret_int (by rw [HZ.out]; rfl), rfl⟩
    | false =>
      have HZ0 : szL (s.data.toList.drop i) = 0 := by
        unfold szL
        simp [hb, ht]
        repeat' split
        all_goals omega
      have HZ := Lib.hid HZ0; clear HZ0
      have HB := Lib.hid (fun w => between_at s ((i : Int) + 1) 128 159 (i + 1) 128 159 true w (by omega) rfl rfl (by have := HS.out; omega) (by have := HS.out; omega) (by rw [← List.drop_drop, btw_drop]; exact hb))
      have HT := Lib.hid (fun w => tail_at s ((i : Int) + 2) 1 (i + 2) 1 false w (by omega) rfl (by omega) (by have := HS.out; omega) (by have := HS.out; omega) (by rw [← List.drop_drop, tailB_drop]; exact ht))
      clear ha hr hb ht
      go_enter Tryz.func67, Tryz.ntmps67
      go_wp2_with fail
      refine (HB.out _).mono ?_; rintro e w1 ⟨rfl, rfl⟩
      go_wp2_with fail
      refine (HT.out _).mono ?_; rintro e w1 ⟨rfl, rfl⟩
      go_wp2_with fail
      go_ret
      exact ⟨u_ret_int (by rw [HZ.out]; rfl), rfl⟩
set_option maxHeartbeats 1000000 in
set_option maxRecDepth 100000 in
theorem size_r6 (s : ByteArray) (i : Nat) (w : World) (h : i < s.size) (hs : s.size ≤ 4611686018427387900) (hr : 238 ≤ s[i].toNat ∧ s[i].toNat ≤ 239) :
    Calls Tryz.prog 67 #[.string s, .int .i64 i] w fun e w' => e = .returned (.int .i64 (szL (s.data.toList.drop i))) ∧ w = w' := by
  have ha : s[i].toNat = atL (s.data.toList.drop i) 0 := at_elem s (i := i) (k := 0) h
  have hib : i ≤ 4611686018427387900 := by omega
  have HS := Lib.hid hs; clear hs
  obtain ⟨hq224, hn224⟩ := byte_eq (show (s[i].toNat : Int) ≠ 224 by omega)
  obtain ⟨hq237, hn237⟩ := byte_eq (show (s[i].toNat : Int) ≠ 237 by omega)
  obtain ⟨hq240, hn240⟩ := byte_eq (show (s[i].toNat : Int) ≠ 240 by omega)
  obtain ⟨hq244, hn244⟩ := byte_eq (show (s[i].toNat : Int) ≠ 244 by omega)
  have hr2 := hr
  obtain ⟨hr3, hr4⟩ := hr2
  cases ht : tailB 2 (s.data.toList.drop i) 1 with
  | true =>
    have HZ0 : szL (s.data.toList.drop i) = 3 := by
      unfold szL
      simp [ht]
      repeat' split
      all_goals omega
    have HZ := Lib.hid HZ0; clear HZ0
    have HT := Lib.hid (fun w => tail_at s ((i : Int) + 1) 2 (i + 1) 2 true w (by omega) rfl (by omega) (by have := HS.out; omega) (by have := HS.out; omega) (by rw [← List.drop_drop, tailB_drop]; exact ht))
    clear ha hr ht
    go_enter Tryz.func67, Tryz.ntmps67
    go_wp2_with fail
    refine (HT.out _).mono ?_; rintro e w1 ⟨rfl, rfl⟩
    go_wp2_with fail
    go_ret
    exact ⟨u_ret_int (by rw [HZ.out]; rfl), rfl⟩
  | false =>
    have HZ0 : szL (s.data.toList.drop i) = 0 := by
      unfold szL
      simp [ht]
      repeat' split
      all_goals omega
    have HZ := Lib.hid HZ0; clear HZ0
    have HT := Lib.hid (fun w => tail_at s ((i : Int) + 1) 2 (i + 1) 2 false w (by omega) rfl (by omega) (by have := HS.out; omega) (by have := HS.out; omega) (by rw [← List.drop_drop, tailB_drop]; exact ht))
    clear ha hr ht
    go_enter Tryz.func67, Tryz.ntmps67
    go_wp2_with fail
    refine (HT.out _).mono ?_; rintro e w1 ⟨rfl, rfl⟩
    go_wp2_with fail
    go_ret
    exact ⟨u_ret_int (by rw [HZ.out]; rfl), rfl⟩
set_option maxHeartbeats 1000000 in
set_option maxRecDepth 100000 in
theorem size_r7 (s : ByteArray) (i : Nat) (w : World) (h : i < s.size) (hs : s.size ≤ 4611686018427387900) (hr : s[i].toNat = 240) :
    Calls Tryz.prog 67 #[.string s, .int .i64 i] w fun e w' => e = .returned (.int .i64 (szL (s.data.toList.drop i))) ∧ w = w' := by
  have ha : s[i].toNat = atL (s.data.toList.drop i) 0 := at_elem s (i := i) (k := 0) h
  have hib : i ≤ 4611686018427387900 := by omega
  have HS := Lib.hid hs; clear hs
  obtain ⟨hq224, hn224⟩ := byte_eq (show (s[i].toNat : Int) ≠ 224 by omega)
  obtain ⟨hq237, hn237⟩ := byte_eq (show (s[i].toNat : Int) ≠ 237 by omega)
  obtain ⟨hq240, hn240⟩ := byte_eq' (show (s[i].toNat : Int) = 240 by omega)
  obtain ⟨hq244, hn244⟩ := byte_eq (show (s[i].toNat : Int) ≠ 244 by omega)
  have hr2 :  240 ≤ s[i].toNat ∧ s[i].toNat ≤  240 := by omega
  obtain ⟨hr3, hr4⟩ := hr2
  cases hb : btw (s.data.toList.drop i) 1 144 191 with
  | false =>
    have HZ0 : szL (s.data.toList.drop i) = 0 := by
      unfold szL
      simp [hb]
      repeat' split
      all_goals omega
    have HZ := Lib.hid HZ0; clear HZ0
    have HB := Lib.hid (fun w => between_at s ((i : Int) + 1) 144 191 (i + 1) 144 191 false w (by omega) rfl rfl (by have := HS.out; omega) (by have := HS.out; omega) (by rw [← List.drop_drop, btw_drop]; exact hb))
    clear ha hr hb
    go_enter Tryz.func67, Tryz.ntmps67
    go_wp2_with fail
    refine (HB.out _).mono ?_; rintro e w1 ⟨rfl, rfl⟩
    go_wp2_with fail
    go_ret
    exact ⟨u_ret_int (by rw [HZ.out]; rfl), rfl⟩
  | true =>
    cases ht : tailB 2 (s.data.toList.drop i) 2 with
    | true =>
      have HZ0 : szL (s.data.toList.drop i) = 4 := by
        unfold szL
        simp [hb, ht]
        repeat' split
        all_goals omega
      have HZ := Lib.hid HZ0; clear HZ0
      have HB := Lib.hid (fun w => between_at s ((i : Int) + 1) 144 191 (i + 1) 144 191 true w (by omega) rfl rfl (by have := HS.out; omega) (by have := HS.out; omega) (by rw [← List.drop_drop, btw_drop]; exact hb))
      have HT := Lib.hid (fun w => tail_at s ((i : Int) + 2) 2 (i + 2) 2 true w (by omega) rfl (by omega) (by have := HS.out; omega) (by have := HS.out; omega) (by rw [← List.drop_drop, tailB_drop]; exact ht))
      clear ha hr hb ht
      go_enter Tryz.func67, Tryz.ntmps67
      go_wp2_with fail
      refine (HB.out _).mono ?_; rintro e w1 ⟨rfl, rfl⟩
      go_wp2_with fail
      refine (HT.out _).mono ?_; rintro e w1 ⟨rfl, rfl⟩
      go_wp2_with fail
      go_ret
      exact ⟨u_ret_int (by rw [HZ.out]; rfl), rfl⟩
    | false =>
      have HZ0 : szL (s.data.toList.drop i) = 0 := by
        unfold szL
        simp [hb, ht]
        repeat' split
        all_goals omega
      have HZ := Lib.hid HZ0; clear HZ0
      have HB := Lib.hid (fun w => between_at s ((i : Int) + 1) 144 191 (i + 1) 144 191 true w (by omega) rfl rfl (by have := HS.out; omega) (by have := HS.out; omega) (by rw [← List.drop_drop, btw_drop]; exact hb))
      have HT := Lib.hid (fun w => tail_at s ((i : Int) + 2) 2 (i + 2) 2 false w (by omega) rfl (by omega) (by have := HS.out; omega) (by have := HS.out; omega) (by rw [← List.drop_drop, tailB_drop]; exact ht))
      clear ha hr hb ht
      go_enter Tryz.func67, Tryz.ntmps67
      go_wp2_with fail
      refine (HB.out _).mono ?_; rintro e w1 ⟨rfl, rfl⟩
      go_wp2_with fail
      refine (HT.out _).mono ?_; rintro e w1 ⟨rfl, rfl⟩
      go_wp2_with fail
      go_ret
      exact ⟨u_ret_int (by rw [HZ.out]; rfl), rfl⟩
set_option maxHeartbeats 1000000 in
set_option maxRecDepth 100000 in
theorem size_r8 (s : ByteArray) (i : Nat) (w : World) (h : i < s.size) (hs : s.size ≤ 4611686018427387900) (hr : 241 ≤ s[i].toNat ∧ s[i].toNat ≤ 243) :
    Calls Tryz.prog 67 #[.string s, .int .i64 i] w fun e w' => e = .returned (.int .i64 (szL (s.data.toList.drop i))) ∧ w = w' := by
  have ha : s[i].toNat = atL (s.data.toList.drop i) 0 := at_elem s (i := i) (k := 0) h
  have hib : i ≤ 4611686018427387900 := by omega
  have HS := Lib.hid hs; clear hs
  obtain ⟨hq224, hn224⟩ := byte_eq (show (s[i].toNat : Int) ≠ 224 by omega)
  obtain ⟨hq237, hn237⟩ := byte_eq (show (s[i].toNat : Int) ≠ 237 by omega)
  obtain ⟨hq240, hn240⟩ := byte_eq (show (s[i].toNat : Int) ≠ 240 by omega)
  obtain ⟨hq244, hn244⟩ := byte_eq (show (s[i].toNat : Int) ≠ 244 by omega)
  have hr2 := hr
  obtain ⟨hr3, hr4⟩ := hr2
  cases ht : tailB 3 (s.data.toList.drop i) 1 with
  | true =>
    have HZ0 : szL (s.data.toList.drop i) = 4 := by
      unfold szL
      simp [ht]
      repeat' split
      all_goals omega
    have HZ := Lib.hid HZ0; clear HZ0
    have HT := Lib.hid (fun w => tail_at s ((i : Int) + 1) 3 (i + 1) 3 true w (by omega) rfl (by omega) (by have := HS.out; omega) (by have := HS.out; omega) (by rw [← List.drop_drop, tailB_drop]; exact ht))
    clear ha hr ht
    go_enter Tryz.func67, Tryz.ntmps67
    go_wp2_with fail
    refine (HT.out _).mono ?_; rintro e w1 ⟨rfl, rfl⟩
    go_wp2_with fail
    go_ret
    exact ⟨u_ret_int (by rw [HZ.out]; rfl), rfl⟩
  | false =>
    have HZ0 : szL (s.data.toList.drop i) = 0 := by
      unfold szL
      simp [ht]
      repeat' split
      all_goals omega
    have HZ := Lib.hid HZ0; clear HZ0
    have HT := Lib.hid (fun w => tail_at s ((i : Int) + 1) 3 (i + 1) 3 false w (by omega) rfl (by omega) (by have := HS.out; omega) (by have := HS.out; omega) (by rw [← List.drop_drop, tailB_drop]; exact ht))
    clear ha hr ht
    go_enter Tryz.func67, Tryz.ntmps67
    go_wp2_with fail
    refine (HT.out _).mono ?_; rintro e w1 ⟨rfl, rfl⟩
    go_wp2_with fail
    go_ret
    exact ⟨u_ret_int (by rw [HZ.out]; rfl), rfl⟩
set_option maxHeartbeats 1000000 in
set_option maxRecDepth 100000 in
theorem size_r9 (s : ByteArray) (i : Nat) (w : World) (h : i < s.size) (hs : s.size ≤ 4611686018427387900) (hr : s[i].toNat = 244) :
    Calls Tryz.prog 67 #[.string s, .int .i64 i] w fun e w' => e = .returned (.int .i64 (szL (s.data.toList.drop i))) ∧ w = w' := by
  have ha : s[i].toNat = atL (s.data.toList.drop i) 0 := at_elem s (i := i) (k := 0) h
  have hib : i ≤ 4611686018427387900 := by omega
  have HS := Lib.hid hs; clear hs
  obtain ⟨hq224, hn224⟩ := byte_eq (show (s[i].toNat : Int) ≠ 224 by omega)
  obtain ⟨hq237, hn237⟩ := byte_eq (show (s[i].toNat : Int) ≠ 237 by omega)
  obtain ⟨hq240, hn240⟩ := byte_eq (show (s[i].toNat : Int) ≠ 240 by omega)
  obtain ⟨hq244, hn244⟩ := byte_eq' (show (s[i].toNat : Int) = 244 by omega)
  have hr2 :  244 ≤ s[i].toNat ∧ s[i].toNat ≤  244 := by omega
  obtain ⟨hr3, hr4⟩ := hr2
  cases hb : btw (s.data.toList.drop i) 1 128 143 with
  | false =>
    have HZ0 : szL (s.data.toList.drop i) = 0 := by
      unfold szL
      simp [hb]
      repeat' split
      all_goals omega
    have HZ := Lib.hid HZ0; clear HZ0
    have HB := Lib.hid (fun w => between_at s ((i : Int) + 1) 128 143 (i + 1) 128 143 false w (by omega) rfl rfl (by have := HS.out; omega) (by have := HS.out; omega) (by rw [← List.drop_drop, btw_drop]; exact hb))
    clear ha hr hb
    go_enter Tryz.func67, Tryz.ntmps67
    go_wp2_with fail
    refine (HB.out _).mono ?_; rintro e w1 ⟨rfl, rfl⟩
    go_wp2_with fail
    go_ret
    exact ⟨u_ret_int (by rw [HZ.out]; rfl), rfl⟩
  | true =>
    cases ht : tailB 2 (s.data.toList.drop i) 2 with
    | true =>
      have HZ0 : szL (s.data.toList.drop i) = 4 := by
        unfold szL
        simp [hb, ht]
        repeat' split
        all_goals omega
      have HZ := Lib.hid HZ0; clear HZ0
      have HB := Lib.hid (fun w => between_at s ((i : Int) + 1) 128 143 (i + 1) 128 143 true w (by omega) rfl rfl (by have := HS.out; omega) (by have := HS.out; omega) (by rw [← List.drop_drop, btw_drop]; exact hb))
      have HT := Lib.hid (fun w => tail_at s ((i : Int) + 2) 2 (i + 2) 2 true w (by omega) rfl (by omega) (by have := HS.out; omega) (by have := HS.out; omega) (by rw [← List.drop_drop, tailB_drop]; exact ht))
      clear ha hr hb ht
      go_enter Tryz.func67, Tryz.ntmps67
      go_wp2_with fail
      refine (HB.out _).mono ?_; rintro e w1 ⟨rfl, rfl⟩
      go_wp2_with fail
      refine (HT.out _).mono ?_; rintro e w1 ⟨rfl, rfl⟩
      go_wp2_with fail
      go_ret
      exact ⟨u_ret_int (by rw [HZ.out]; rfl), rfl⟩
    | false =>
      have HZ0 : szL (s.data.toList.drop i) = 0 := by
        unfold szL
        simp [hb, ht]
        repeat' split
        all_goals omega
      have HZ := Lib.hid HZ0; clear HZ0
      have HB := Lib.hid (fun w => between_at s ((i : Int) + 1) 128 143 (i + 1) 128 143 true w (by omega) rfl rfl (by have := HS.out; omega) (by have := HS.out; omega) (by rw [← List.drop_drop, btw_drop]; exact hb))
      have HT := Lib.hid (fun w => tail_at s ((i : Int) + 2) 2 (i + 2) 2 false w (by omega) rfl (by omega) (by have := HS.out; omega) (by have := HS.out; omega) (by rw [← List.drop_drop, tailB_drop]; exact ht))
      clear ha hr hb ht
      go_enter Tryz.func67, Tryz.ntmps67
      go_wp2_with fail
      refine (HB.out _).mono ?_; rintro e w1 ⟨rfl, rfl⟩
      go_wp2_with fail
      refine (HT.out _).mono ?_; rintro e w1 ⟨rfl, rfl⟩
      go_wp2_with fail
      go_ret
      exact ⟨u_ret_int (by rw [HZ.out]; rfl), rfl⟩
set_option maxHeartbeats 1000000 in
set_option maxRecDepth 100000 in
theorem size_r10 (s : ByteArray) (i : Nat) (w : World) (h : i < s.size) (hs : s.size ≤ 4611686018427387900) (hr : 245 ≤ s[i].toNat) :
    Calls Tryz.prog 67 #[.string s, .int .i64 i] w fun e w' => e = .returned (.int .i64 (szL (s.data.toList.drop i))) ∧ w = w' := by
  have ha : s[i].toNat = atL (s.data.toList.drop i) 0 := at_elem s (i := i) (k := 0) h
  have hib : i ≤ 4611686018427387900 := by omega
  have HS := Lib.hid hs; clear hs
  obtain ⟨hq224, hn224⟩ := byte_eq (show (s[i].toNat : Int) ≠ 224 by omega)
  obtain ⟨hq237, hn237⟩ := byte_eq (show (s[i].toNat : Int) ≠ 237 by omega)
  obtain ⟨hq240, hn240⟩ := byte_eq (show (s[i].toNat : Int) ≠ 240 by omega)
  obtain ⟨hq244, hn244⟩ := byte_eq (show (s[i].toNat : Int) ≠ 244 by omega)
  have hr3 := hr
  have HZ0 : szL (s.data.toList.drop i) = 0 := by
    unfold szL
    repeat' split
    all_goals omega
  have HZ := Lib.hid HZ0; clear HZ0
  clear ha hr
  go_enter Tryz.func67, Tryz.ntmps67
  go_wp2_with fail
  go_ret
  exact ⟨u_ret_int (by rw [HZ.out]; rfl), rfl⟩
theorem size_any (s : ByteArray) (i : Nat) (w : World) (h : i < s.size) (hs : s.size ≤ 4611686018427387900) :
    Calls Tryz.prog 67 #[.string s, .int .i64 i] w fun e w' => e = .returned (.int .i64 (szL (s.data.toList.drop i))) ∧ w = w' := by
  by_cases h0 : 0 ≤ s[i].toNat ∧ s[i].toNat < 128
  · exact size_r0 s i w h hs h0
  by_cases h1 : 128 ≤ s[i].toNat ∧ s[i].toNat < 194
  · exact size_r1 s i w h hs h1
  by_cases h2 : 194 ≤ s[i].toNat ∧ s[i].toNat ≤ 223
  · exact size_r2 s i w h hs h2
  by_cases h3 : s[i].toNat = 224
  · exact size_r3 s i w h hs h3
  by_cases h4 : 225 ≤ s[i].toNat ∧ s[i].toNat ≤ 236
  · exact size_r4 s i w h hs h4
  by_cases h5 : s[i].toNat = 237
  · exact size_r5 s i w h hs h5
  by_cases h6 : 238 ≤ s[i].toNat ∧ s[i].toNat ≤ 239
  · exact size_r6 s i w h hs h6
  by_cases h7 : s[i].toNat = 240
  · exact size_r7 s i w h hs h7
  by_cases h8 : 241 ≤ s[i].toNat ∧ s[i].toNat ≤ 243
  · exact size_r8 s i w h hs h8
  by_cases h9 : s[i].toNat = 244
  · exact size_r9 s i w h hs h9
  exact size_r10 s i w h hs (by omega)
theorem badI_lo (s : ByteArray) (hs : s.size ≤ 4611686018427387900) : -1 ≤ badI s ∧ badI s ≤ 9223372036854775807 := by
  rcases badAt_lo s s.size 0 (by omega) with h | h
  · exact h
  · omega
theorem wrong_any (s : ByteArray) (i : Nat) (c : Int) (w : World) (hi : i ≤ s.size) (_ : s.size ≤ 4611686018427387900) :
    Calls Tryz.prog 86 #[.string s, .int .i64 i, .int .i32 c] w fun e w' => e = .returned (.bool (decide (c = 65533) && !fffd (s.data.toList.drop i))) ∧ w = w' := by
  have he : (s.extract i s.size).data.toList = s.data.toList.drop i := by
    rw [ByteArray.data_extract, Array.toList_extract, List.extract_eq_take_drop, List.take_of_length_le]
    rw [List.length_drop, Array.length_toList]; exact Nat.le_refl _
  have HP := Lib.hid (show ∀ w, Calls Tryz.prog 48 #[.string (s.extract i s.size), .string ⟨#[239, 191, 189]⟩] w fun e w' => e = .returned (.bool (fffd (s.data.toList.drop i))) ∧ w = w' from
    fun w => (Tryz.strings_HasPrefix _ _ w).mono fun e w' ⟨h1, h2⟩ => ⟨by rw [h1, he]; rfl, h2.symm⟩)
  clear he
  by_cases hc : c = 65533
  · subst hc
    go_enter Tryz.func86, Tryz.ntmps86
    go_wp2_with fail
    refine (HP.out _).mono ?_; rintro e w1 ⟨rfl, rfl⟩
    go_wp2_with fail
    go_ret
    exact ⟨u_ret_bool (by simp), rfl⟩
  · obtain ⟨hq, _⟩ := byte_eq hc
    have HR := Lib.hid (show (decide (c = 65533) && !fffd (s.data.toList.drop i)) = false by rw [decide_eq_false hc]; rfl)
    clear hc
    go_enter Tryz.func86, Tryz.ntmps86
    go_wp2_with fail
    go_ret
    exact ⟨u_ret_bool HR.out.symm, rfl⟩
end Go.Proofs.YtiodkdafoocofaaGreatDoor
