/- Variable-length integers: the walks of Take and of the reference's Take and Short. -/
import Derived.Test.YtpfkddbhpoeknaaGreatDoorVar
namespace Go.Proofs.YtpfkddbhpoeknaaGreatDoor
open Go.RowKit

theorem pow7 (n : Nat) : (2 : Nat) ^ (7 * n) = 128 ^ n := by rw [Nat.pow_mul]
theorem nat_or_add (U x n : Nat) (hU : U < 128 ^ n) : U ||| (x * 128 ^ n) = U + x * 128 ^ n := by
  have h := Nat.two_pow_add_eq_or_of_lt (i := 7 * n) (b := U) (by rw [pow7]; exact hU) x
  rw [pow7] at h
  rw [Nat.mul_comm x, Nat.or_comm, ← h, Nat.add_comm]
theorem byte_lim (n c : Nat) (h : n < 9 ∨ (n = 9 ∧ c ≤ 1)) : c % 128 * 128 ^ n ≤ 9223372036854775808 := by
  rcases h with h | ⟨rfl, h⟩
  · have h1 : 128 ^ n ≤ 128 ^ 8 := Nat.pow_le_pow_right (by decide) (by omega)
    have h2 : c % 128 * 128 ^ n ≤ 127 * 128 ^ 8 := Nat.mul_le_mul (by omega) h1
    exact Nat.le_trans h2 (by decide)
  · have h2 : c % 128 * 128 ^ 9 ≤ 1 * 128 ^ 9 := Nat.mul_le_mul_right _ (by omega)
    exact Nat.le_trans h2 (by decide)
theorem pow_lim (n : Nat) (h : n ≤ 9) : 128 ^ n ≤ 9223372036854775808 := Nat.le_trans (Nat.pow_le_pow_right (by decide) h) (by decide)
theorem or_shift (U n : Nat) (c : UInt8) (hU : U < 128 ^ n) (hn : n < 9 ∨ (n = 9 ∧ c.toNat ≤ 1)) :
    bits .or .u64 (U : Int) (IntKind.u64.wrap (IntKind.u64.wrap (bits .and .u8 (c.toNat : Int) 127) * 2 ^ (7 * n))) = ((U + c.toNat % 128 * 128 ^ n : Nat) : Int) := by
  have hc := c.toNat_lt
  have h1 := u8_and_nat c.toNat 127 hc (by omega)
  rw [show ((127 : Nat) : Int) = 127 from rfl] at h1
  rw [h1, show (127 : Nat) = 2 ^ 7 - 1 from rfl, Nat.and_two_pow_sub_one_eq_mod]
  have hl := byte_lim n c.toNat hn
  have hp := pow_lim n (by omega)
  have e : ((c.toNat % 2 ^ 7 : Nat) : Int) * 2 ^ (7 * n) = ((c.toNat % 128 * 128 ^ n : Nat) : Int) := by
    rw [Int.natCast_mul, ← pow7, Int.natCast_pow]; rfl
  have w1 : IntKind.u64.wrap ((c.toNat % 2 ^ 7 : Nat) : Int) = ((c.toNat % 2 ^ 7 : Nat) : Int) := by rw [IntKind.wrap_u64]; omega
  rw [w1, e]
  have w2 : IntKind.u64.wrap ((c.toNat % 128 * 128 ^ n : Nat) : Int) = ((c.toNat % 128 * 128 ^ n : Nat) : Int) := by rw [IntKind.wrap_u64]; omega
  rw [w2, u64_or_nat _ _ (by omega) (by omega), nat_or_add U _ n hU]
theorem or_shift9 (U : Nat) (c : UInt8) (hU : U < 128 ^ 9) (hc : c.toNat ≤ 1) :
    bits .or .u64 (U : Int) (IntKind.u64.wrap (IntKind.u64.wrap (bits .and .u8 (c.toNat : Int) 127) * 9223372036854775808)) = ((U + c.toNat % 128 * 128 ^ 9 : Nat) : Int) := or_shift U 9 c hU (.inr ⟨rfl, hc⟩)
def TakeS (s : ByteArray) : Nat × Nat × Int := takeL s.data.toList
theorem drop_cons (s : ByteArray) {k : Nat} (h : k < s.size) : s.data.toList.drop k = s[k] :: s.data.toList.drop (k + 1) := by
  rw [List.drop_eq_getElem_cons (by simpa using h)]; rfl
theorem drop_end (s : ByteArray) {k : Nat} (h : s.size ≤ k) : s.data.toList.drop k = [] := List.drop_eq_nil_of_le (by rw [Array.length_toList]; exact h)
theorem take_next (s : ByteArray) (n U : Nat) (h : n < s.size) (hn : n ≤ 9) : takeF (10 - n) (s.data.toList.drop n) n U =
    if n = 9 ∧ 1 < s[n].toNat then (0, 0, 6) else if s[n].toNat < 128 then (U + s[n].toNat % 128 * 128 ^ n, n + 1, 0) else takeF (10 - (n + 1)) (s.data.toList.drop (n + 1)) (n + 1) (U + s[n].toNat % 128 * 128 ^ n) := by
  rw [drop_cons s h, show 10 - n = (10 - (n + 1)) + 1 by omega, takeF]
  simp only [show (10 - (n + 1) = 0) ↔ n = 9 by omega]
theorem lt_next {U n c : Nat} (hU : U < 128 ^ n) : U + c % 128 * 128 ^ n < 128 ^ (n + 1) := by
  rw [pow_step]
  have : c % 128 * 128 ^ n ≤ 127 * 128 ^ n := Nat.mul_le_mul_right _ (by omega)
  omega
theorem v_ret3 {a a' b b' c c' : Int} (h1 : a = a') (h2 : b = b') (h3 : c = c') : Ending.returned (.tuple #[.int .u64 a, .int .i64 b, .int .i64 c]) = .returned (.tuple #[.int .u64 a', .int .i64 b', .int .i64 c']) := by rw [h1, h2, h3]
set_option maxRecDepth 100000 in
set_option maxHeartbeats 2000000 in
theorem take_any (s : ByteArray) (w : World) (hs : s.size ≤ 9223372036854775806) :
    Calls Tryz.prog 37 #[.string s] w fun e w' => e = .returned (.tuple #[.int .u64 ((TakeS s).1 : Nat), .int .i64 ((TakeS s).2.1 : Nat), .int .i64 (TakeS s).2.2]) ∧ w = w' := by
  have HT0 := Lib.hid (show TakeS s = takeF 10 s.data.toList 0 0 from rfl)
  generalize TakeS s = R at *
  go_enter Tryz.func37, Tryz.ntmps37
  go_wp2
  go_step3
  go_wp2
  go_step3
  go_wp2
  go_loop [5, 6] (fun x i => ∃ n U : Nat, n ≤ 9 ∧ n ≤ s.size ∧ i = .int .i64 n ∧ x = .int .u64 U ∧ U < 128 ^ n ∧ R = takeF (10 - n) (s.data.toList.drop n) n U) (fun _ i => 10 - (intOf i).toNat)
  case atStart => exact ⟨0, 0, by omega, Nat.zero_le _, rfl, rfl, by decide, HT0.out⟩
  case round =>
    obtain ⟨n, U, hn, hns, rfl, rfl, hU, hT⟩ := hrel
    have HT := Lib.hid hT; clear hT
    by_cases hz : n = s.size
    · have hqs : ((n : Int) == (s.size : Int)) = true := by rw [beq_iff_eq]; omega
      have HR := Lib.hid (show R = (0, 0, 4) by
        rw [HT.out, drop_end s (by omega)]
        obtain ⟨k, hk⟩ : ∃ k, 10 - n = k + 1 := ⟨9 - n, by omega⟩
        rw [hk]; rfl)
      clear hz hU
      go_wp2_with fail
      try rw [Exit.noGoto_ret]
      go_ret3
      exact ⟨v_ret3 (by rw [HR.out]; rfl) (by rw [HR.out]; rfl) (by rw [HR.out]), rfl⟩
    · have hlt : n < s.size := by omega
      have hqs : ((n : Int) == (s.size : Int)) = false := by rw [beq_eq_false_iff_ne]; omega
      have hnx := take_next s n U hlt hn
      by_cases h9 : n = 9 ∧ 1 < s[n].toNat
      · have HR := Lib.hid (show R = (0, 0, 6) by rw [HT.out, hnx, if_pos h9])
        obtain ⟨rfl, h9b⟩ := h9
        have hqs2 : ((9 : Int) == (s.size : Int)) = false := hqs
        clear hz hnx hU hqs
        go_wp2_with fail
        try rw [Exit.noGoto_ret]
        go_ret3
        exact ⟨v_ret3 (by rw [HR.out]; rfl) (by rw [HR.out]; rfl) (by rw [HR.out]), rfl⟩
      · rw [if_neg h9] at hnx
        have hor := or_shift U n s[n] hU (by omega)
        have HL := Lib.hid (lt_next (c := s[n].toNat) hU)
        have HOR9 := Lib.hid (fun (e : n = 9) (h1 : s[n].toNat ≤ 1) => show bits .or .u64 (U : Int) (IntKind.u64.wrap (IntKind.u64.wrap (bits .and .u8 (s[n].toNat : Int) 127) * 9223372036854775808)) = ((U + s[n].toNat % 128 * 128 ^ n : Nat) : Int) by subst e; exact or_shift9 U _ hU h1)
        generalize U + s[n].toNat % 128 * 128 ^ n = V at *
        by_cases h8 : s[n].toNat < 128
        · rw [if_pos h8] at hnx
          have HR := Lib.hid (show R = (V, n + 1, 0) by rw [HT.out, hnx])
          clear hnx hU hz
          by_cases hq : n = 9
          · subst hq
            have h1 : s[9].toNat ≤ 1 := by omega
            have hqs2 : ((9 : Int) == (s.size : Int)) = false := hqs
            have hor9 := HOR9.out rfl h1
            clear h9 h8 hqs hor HOR9
            have h8 : s[9].toNat < 128 := by omega
            go_wp2_with fail
            try rw [Exit.noGoto_ret]
            go_ret3
            exact ⟨v_ret3 (by rw [HR.out]) (by rw [HR.out]; rfl) (by rw [HR.out]), rfl⟩
          · have hq9 : ((n : Int) == 9) = false := by rw [beq_eq_false_iff_ne]; omega
            clear h9 hq
            go_wp2_with fail
            try rw [Exit.noGoto_ret]
            go_ret3
            exact ⟨v_ret3 (by rw [HR.out]) (by rw [HR.out]; rfl) (by rw [HR.out]), rfl⟩
        · rw [if_neg h8] at hnx
          have HR := Lib.hid (show R = takeF (10 - (n + 1)) (s.data.toList.drop (n + 1)) (n + 1) V by rw [HT.out, hnx])
          have hq : n < 9 := by omega
          have hq9 : ((n : Int) == 9) = false := by rw [beq_eq_false_iff_ne]; omega
          have h8' : 128 ≤ s[n].toNat := by omega
          clear hnx hU hz h9 h8
          go_wp2_with fail
          go_round
          case rel => exact ⟨n + 1, V, by omega, by omega, by go_num, rfl, HL.out, HR.out⟩
          case measure => simp [intOf]; omega
set_option maxRecDepth 100000 in
set_option maxHeartbeats 2000000 in
theorem refTake_any (s : ByteArray) (w : World) (hs : s.size ≤ 9223372036854775806) :
    Calls Tryz.prog 46 #[.string s] w fun e w' => e = .returned (.tuple #[.int .u64 ((TakeS s).1 : Nat), .int .i64 ((TakeS s).2.1 : Nat), .int .i64 (TakeS s).2.2]) ∧ w = w' := by
  have HT0 := Lib.hid (show TakeS s = takeF 10 s.data.toList 0 0 from rfl)
  generalize TakeS s = R at *
  go_enter Tryz.func46, Tryz.ntmps46
  go_wp2
  go_loop [5, 6, 7] (fun x y i => ∃ n U W : Nat, n ≤ 9 ∧ n ≤ s.size ∧ i = .int .i64 n ∧ x = .int .u64 U ∧ y = .int .u64 W ∧ W = 128 ^ n ∧ U < W ∧ R = takeF (10 - n) (s.data.toList.drop n) n U) (fun _ _ i => 10 - (intOf i).toNat)
  case atStart => exact ⟨0, 0, 1, by omega, Nat.zero_le _, rfl, rfl, rfl, rfl, by decide, HT0.out⟩
  case round =>
    obtain ⟨n, U, W, hn, hns, rfl, rfl, rfl, hW, hU, hT⟩ := hrel
    have HT := Lib.hid hT; clear hT
    by_cases hz : n = s.size
    · have HR := Lib.hid (show R = (0, 0, 4) by
        rw [HT.out, drop_end s (by omega)]
        obtain ⟨k, hk⟩ : ∃ k, 10 - n = k + 1 := ⟨9 - n, by omega⟩
        rw [hk]; rfl)
      have hge : s.size ≤ n := by omega
      clear hz hU hW
      go_wp2_with fail
      go_ret3
      exact ⟨v_ret3 (by rw [HR.out]; rfl) (by rw [HR.out]; rfl) (by rw [HR.out]), rfl⟩
    · have hlt : n < s.size := by omega
      have hnx := take_next s n U hlt hn
      have hcl := s[n].toNat_lt
      by_cases h9 : n = 9 ∧ 1 < s[n].toNat
      · have HR := Lib.hid (show R = (0, 0, 6) by rw [HT.out, hnx, if_pos h9])
        obtain ⟨rfl, h9b⟩ := h9
        clear hz hnx hU hW
        go_wp2_with fail
        go_ret3
        exact ⟨v_ret3 (by rw [HR.out]; rfl) (by rw [HR.out]; rfl) (by rw [HR.out]), rfl⟩
      · rw [if_neg h9] at hnx
        have hP := byte_lim n s[n].toNat (by omega)
        have hWl := pow_lim n hn
        have HL := Lib.hid (lt_next (c := s[n].toNat) (show U < 128 ^ n by omega))
        rw [← hW] at hnx hP hWl HL
        have hm : ((s[n].toNat : Int) % 128) * (W : Int) = ((s[n].toNat % 128 * W : Nat) : Int) := by rw [Int.natCast_mul]; congr 1
        have hw1 : IntKind.u64.wrap (((s[n].toNat : Int) % 128) * (W : Int)) = ((s[n].toNat % 128 * W : Nat) : Int) := by rw [hm, IntKind.wrap_u64]; omega
        have hw2 : IntKind.u64.wrap ((U : Int) + ((s[n].toNat % 128 * W : Nat) : Int)) = ((U + s[n].toNat % 128 * W : Nat) : Int) := by rw [IntKind.wrap_u64]; omega
        have HWn := Lib.hid (fun (h : n < 9) => show IntKind.u64.wrap ((W : Int) * 128) = ((W * 128 : Nat) : Int) by
          have h1 : 128 ^ n ≤ 128 ^ 8 := Nat.pow_le_pow_right (by decide) (by omega)
          have h2 : W ≤ 72057594037927936 := by rw [hW]; exact Nat.le_trans h1 (by decide)
          rw [IntKind.wrap_u64]; omega)
        have HW := Lib.hid hW
        clear hm hW
        generalize hPd : s[n].toNat % 128 * W = P at *
        clear hPd
        have hV0 : ((U + P : Nat) : Int) = (U : Int) + (P : Int) := by omega
        rw [hV0] at hw2
        clear hV0
        by_cases h8 : s[n].toNat < 128
        · rw [if_pos h8] at hnx
          have HR := Lib.hid (show R = (U + P, n + 1, 0) by rw [HT.out, hnx])
          by_cases hq : n = 9
          · subst hq
            have h1 : s[9].toNat ≤ 1 := by omega
            clear h9 h8 hnx hU hz hP hWl hcl HWn
            have h8 : s[9].toNat < 128 := by omega
            go_wp2_with fail
            go_ret3
            exact ⟨v_ret3 (by rw [HR.out]; rfl) (by rw [HR.out]; rfl) (by rw [HR.out]), rfl⟩
          · have hq9 : ((n : Int) == 9) = false := by rw [beq_eq_false_iff_ne]; omega
            clear h9 hq hnx hU hz hP hWl hcl HWn
            go_wp2_with fail
            go_ret3
            exact ⟨v_ret3 (by rw [HR.out]; rfl) (by rw [HR.out]; rfl) (by rw [HR.out]), rfl⟩
        · rw [if_neg h8] at hnx
          have HR := Lib.hid (show R = takeF (10 - (n + 1)) (s.data.toList.drop (n + 1)) (n + 1) (U + P) by rw [HT.out, hnx])
          have hq : n < 9 := by omega
          have hq9 : ((n : Int) == 9) = false := by rw [beq_eq_false_iff_ne]; omega
          have h8' : 128 ≤ s[n].toNat := by omega
          have hw3 := HWn.out hq
          clear hnx hU hz h9 h8 hP hWl HWn
          go_wp2_with fail
          go_round
          case rel => exact ⟨n + 1, U + P, W * 128, by omega, by omega, by go_num, by go_num, by go_num, by rw [HW.out, pow_step, Nat.mul_comm], by have := HL.out; rw [pow_step, ← HW.out] at this; omega, HR.out⟩
          case measure => simp [intOf]; omega
theorem ext_take (s : ByteArray) (n : Nat) : (s.extract 0 n).data.toList = s.data.toList.take n := by
  rw [ByteArray.data_extract, Array.toList_extract, List.extract_eq_take_drop]; simp
theorem refShort_any (s : ByteArray) (u n : Nat) (w : World) (hs : s.size ≤ 9223372036854775806) (hu : u < 18446744073709551616) (h : TakeS s = (u, n, 0)) (hn : n = s.size) :
    Calls Tryz.prog 48 #[.string s] w fun e w' => e = .returned (.bool (decide (putL u = s.data.toList))) ∧ Below w.heap.size w w' := by
  have HT := Lib.hid (fun w => (refTake_any s w hs).mono fun e w' he => (show e = .returned (.tuple #[.int .u64 u, .int .i64 n, .int .i64 0]) ∧ w = w' by rw [h] at he; exact he))
  have HP := Lib.hid (fun w => refPut_any u w hu)
  have HD := Lib.hid (show ((putL u) == s.toList) = decide (putL u = s.data.toList) by rw [ByteArray.toList_eq, Bool.eq_iff_iff]; simp)
  clear h hu
  have hq : ((n : Int) == (s.size : Int)) = true := by rw [beq_iff_eq]; omega
  clear hn
  generalize decide (putL u = s.data.toList) = B at *
  go_enter Tryz.func48, Tryz.ntmps48
  go_wp2_with fail
  refine (HT.out _).mono ?_; rintro e w1 ⟨rfl, rfl⟩
  go_wp2_with fail
  refine (HP.out _).mono ?_; rintro e w2 ⟨rfl, hb⟩
  have hd := HD.out
  go_wp2_with fail
  go_ret
  exact ⟨rfl, hb⟩
theorem takeS_cut {s : ByteArray} {u n : Nat} (h : TakeS s = (u, n, 0)) : TakeS (s.extract 0 n) = (u, n, 0) := by
  unfold TakeS takeL at *
  have := take_cut 10 _ 0 0 u n h
  rw [ext_take]
  simpa using this
theorem take_lt : ∀ (k : Nat) (l : List UInt8) (n a u m : Nat), n + k = 10 → a < 128 ^ n → takeF k l n a = (u, m, 0) → u < 18446744073709551616
  | 0, _, _, _, _, _, _, _, h => by simp [takeF] at h
  | _ + 1, [], _, _, _, _, _, _, h => by simp [takeF] at h
  | k + 1, c :: l, n, a, u, m, hk, ha, h => by
    unfold takeF at h
    split at h
    · simp at h
    · rename_i h1
      split at h
      · simp only [Prod.mk.injEq] at h
        have := byte_lim n c.toNat (by omega)
        have := pow_lim n (by omega)
        omega
      · exact take_lt k l (n + 1) _ u m (by omega) (lt_next ha) h
theorem takeS_lt {s : ByteArray} {u n : Nat} (h : TakeS s = (u, n, 0)) : u < 18446744073709551616 := take_lt 10 _ 0 0 u n rfl (by decide) h
end Go.Proofs.YtpfkddbhpoeknaaGreatDoor
