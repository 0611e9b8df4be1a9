/- Spans of time: the reference's Span; status.decimal. -/
import Derived.Test.YtlljocgcpaoenaaDoorSpan
namespace Go.Proofs.YtlljocgcpaoenaaDoor
open Go.RowKit

theorem spanN_at (n i : Nat) (h0 : 0 < n) (hi : unitOf n = i) : spanN n = Lib.decDigits (n / unitAt i) ++ [letAt i] := by
  unfold spanN; rw [if_neg (by omega), hi]
theorem spanN_all (n : Nat) (h : n = 0 ∨ unitOf n = 3) : spanN n = Lib.decDigits n ++ [109] := by
  rcases h with rfl | h
  · have e : Lib.decDigits 0 = [48] := by rw [Lib.decDigits]; rfl
    rw [e]; rfl
  · by_cases h0 : n = 0
    · subst h0
      have e : Lib.decDigits 0 = [48] := by rw [Lib.decDigits]; rfl
      rw [e]; rfl
    · rw [spanN_at n 3 (by omega) h]; show Lib.decDigits (n / 1) ++ _ = _; rw [Nat.div_one]; rfl
set_option maxHeartbeats 1000000 in
set_option maxRecDepth 100000 in
theorem refSpan_in (n : Nat) (w : World) (h1 : n ≤ 1099511627776) :
    Calls Tryd.prog 28 #[.int .i64 n] w fun e w' => e = .returned (.string ⟨(spanN n).toArray⟩) ∧ Below w.heap.size w w' := by
  have hlt := unitOf_lt n
  by_cases h0 : n = 0
  · have HS := Lib.hid (spanN_all n (.inl h0))
    have HC := Lib.hid (fun w => refDec_any n w h1)
    subst h0
    have HL := Lib.hid (cat_list (Lib.decDigits 0) [109])
    have hlen := dec_len 0 (by omega)
    have hsz := mk_sz (Lib.decDigits 0)
    have hs1 : (⟨#[109]⟩ : ByteArray).size = 1 := rfl
    have hno : ¬ 9223372036854775807 < (Lib.decDigits 0).length + 1 := by omega
    clear hlt h1
    generalize Lib.decDigits 0 = D at *
    go_enter Tryd.func28, Tryd.ntmps28
    go_wp2_with fail
    refine (HC.out _).mono ?_; rintro e w1 ⟨rfl, hb⟩
    go_wp2_with fail
    go_ret
    exact ⟨v_ret_str (by rw [HS.out, ← HL.out]), hb⟩
  have hpos : (0 : Int) < (n : Int) := by omega
  have hu : unitOf n = 0 ∨ unitOf n = 1 ∨ unitOf n = 2 ∨ unitOf n = 3 := by omega
  have hm := unit_div n
  rcases hu with hu | hu | hu | hu
  · have HS := Lib.hid (spanN_at n 0 (by omega) hu)
    have hr : (n : Int) % 3600000 = 0 := by rw [hu] at hm; change n % 3600000 = 0 at hm; omega
    have HC := Lib.hid (fun w => refDec_any (n / 3600000) w (by omega))
    have HL := Lib.hid (cat_list (Lib.decDigits (n / 3600000)) [72])
    have hlen := dec_len (n / 3600000) (by omega)
    have hsz := mk_sz (Lib.decDigits (n / 3600000))
    have hs1 : (⟨#[72]⟩ : ByteArray).size = 1 := rfl
    have hno : ¬ 9223372036854775807 < (Lib.decDigits (n / 3600000)).length + 1 := by omega
    clear hm hu hlt
    go_enter Tryd.func28, Tryd.ntmps28
    go_wp2_with fail
    refine (HC.out _).mono ?_; rintro e w1 ⟨rfl, hb⟩
    go_wp2_with fail
    go_ret
    exact ⟨v_ret_str (by rw [HS.out]; exact HL.out), hb⟩
  · have HS := Lib.hid (spanN_at n 1 (by omega) hu)
    have hx : n % 3600000 ≠ 0 := by intro e; unfold unitOf at hu; rw [if_pos e] at hu; omega
    have hr0 := (byte_eq (show (n : Int) % 3600000 ≠ 0 by omega)).1
    have hr : (n : Int) % 60000 = 0 := by rw [hu] at hm; change n % 60000 = 0 at hm; omega
    have HC := Lib.hid (fun w => refDec_any (n / 60000) w (by omega))
    have HL := Lib.hid (cat_list (Lib.decDigits (n / 60000)) [77])
    have hlen := dec_len (n / 60000) (by omega)
    have hsz := mk_sz (Lib.decDigits (n / 60000))
    have hs1 : (⟨#[77]⟩ : ByteArray).size = 1 := rfl
    have hno : ¬ 9223372036854775807 < (Lib.decDigits (n / 60000)).length + 1 := by omega
    clear hm hu hlt hx
    go_enter Tryd.func28, Tryd.ntmps28
    go_wp2_with fail
    refine (HC.out _).mono ?_; rintro e w1 ⟨rfl, hb⟩
    go_wp2_with fail
    go_ret
    exact ⟨v_ret_str (by rw [HS.out]; exact HL.out), hb⟩
  · have HS := Lib.hid (spanN_at n 2 (by omega) hu)
    have hx : n % 3600000 ≠ 0 ∧ n % 60000 ≠ 0 := by
      unfold unitOf at hu
      constructor
      · intro e; rw [if_pos e] at hu; omega
      · intro e; (repeat' split at hu) <;> omega
    have hr0 := (byte_eq (show (n : Int) % 3600000 ≠ 0 by omega)).1
    have hr1 := (byte_eq (show (n : Int) % 60000 ≠ 0 by omega)).1
    have hr : (n : Int) % 1000 = 0 := by rw [hu] at hm; change n % 1000 = 0 at hm; omega
    have HC := Lib.hid (fun w => refDec_any (n / 1000) w (by omega))
    have HL := Lib.hid (cat_list (Lib.decDigits (n / 1000)) [83])
    have hlen := dec_len (n / 1000) (by omega)
    have hsz := mk_sz (Lib.decDigits (n / 1000))
    have hs1 : (⟨#[83]⟩ : ByteArray).size = 1 := rfl
    have hno : ¬ 9223372036854775807 < (Lib.decDigits (n / 1000)).length + 1 := by omega
    clear hm hu hlt hx
    go_enter Tryd.func28, Tryd.ntmps28
    go_wp2_with fail
    refine (HC.out _).mono ?_; rintro e w1 ⟨rfl, hb⟩
    go_wp2_with fail
    go_ret
    exact ⟨v_ret_str (by rw [HS.out]; exact HL.out), hb⟩
  · have HS := Lib.hid (spanN_all n (.inr hu))
    have hx : n % 3600000 ≠ 0 ∧ n % 60000 ≠ 0 ∧ n % 1000 ≠ 0 := by
      unfold unitOf at hu
      refine ⟨fun e => ?_, fun e => ?_, fun e => ?_⟩
      · rw [if_pos e] at hu; omega
      · (repeat' split at hu) <;> omega
      · (repeat' split at hu) <;> omega
    have hr0 := (byte_eq (show (n : Int) % 3600000 ≠ 0 by omega)).1
    have hr1 := (byte_eq (show (n : Int) % 60000 ≠ 0 by omega)).1
    have hr2 := (byte_eq (show (n : Int) % 1000 ≠ 0 by omega)).1
    have HC := Lib.hid (fun w => refDec_any n w (by omega))
    have HL := Lib.hid (cat_list (Lib.decDigits n) [109])
    have hlen := dec_len n (by omega)
    have hsz := mk_sz (Lib.decDigits n)
    have hs1 : (⟨#[109]⟩ : ByteArray).size = 1 := rfl
    have hno : ¬ 9223372036854775807 < (Lib.decDigits n).length + 1 := by omega
    clear hm hu hlt hx
    go_enter Tryd.func28, Tryd.ntmps28
    go_wp2_with fail
    refine (HC.out _).mono ?_; rintro e w1 ⟨rfl, hb⟩
    go_wp2_with fail
    go_ret
    exact ⟨v_ret_str (by rw [HS.out]; exact HL.out), hb⟩
theorem refSpan_any (ms : Int) (w : World) :
    Calls Tryd.prog 28 #[.int .i64 ms] w fun e w' => e = .returned (.string ⟨(spanL ms).toArray⟩) ∧ Below w.heap.size w w' := by
  by_cases h1 : ms < 0
  · have HR := Lib.hid (show spanL ms = [] by unfold spanL; rw [if_pos (.inl h1)])
    go_enter Tryd.func28, Tryd.ntmps28
    go_wp2_with fail
    go_ret
    exact ⟨v_ret_str (by rw [HR.out]), Below.refl _ _⟩
  by_cases h2 : 1099511627776 < ms
  · have HR := Lib.hid (show spanL ms = [] by unfold spanL; rw [if_pos (.inr h2)])
    go_enter Tryd.func28, Tryd.ntmps28
    go_wp2_with fail
    go_ret
    exact ⟨v_ret_str (by rw [HR.out]), Below.refl _ _⟩
  · obtain ⟨n, rfl⟩ : ∃ n : Nat, ms = n := ⟨ms.toNat, by omega⟩
    rw [spanL_nat n (by omega)]
    exact refSpan_in n w (by omega)
theorem decOk_pos (s : ByteArray) (h : 0 < s.size) : decOk s.data.toList = (!((s[0].toNat : Int) == 48 && !(s.toList == [48])) && s.data.toList.all isDig) := by
  have hd := drop_cons s h
  rw [List.drop_zero] at hd
  unfold decOk
  have e1 : s.data.toList.isEmpty = false := by rw [hd]; rfl
  have e2 : (s.data.toList.head? == some 48) = ((s[0].toNat : Int) == 48) := by
    rw [hd, List.head?_cons, Bool.eq_iff_iff]
    simp only [beq_iff_eq, Option.some.injEq, ← UInt8.toNat_inj]
    show s[0].toNat = 48 ↔ _; omega
  rw [e1, e2, ByteArray.toList_eq]; rfl
set_option maxRecDepth 100000 in
theorem decimal_any (s : ByteArray) (w : World) (hs : s.size ≤ 9223372036854775806) :
    Calls Tryd.prog 45 #[.string s] w fun e w' => e = .returned (.bool (decOk s.data.toList)) ∧ w = w' := by
  by_cases h0 : s.size = 0
  · obtain ⟨e1, e2⟩ := isE_true h0
    have HR := Lib.hid (show decOk s.data.toList = false by rw [← ByteArray.toList_eq, e2]; rfl)
    clear h0
    go_enter Tryd.func45, Tryd.ntmps45
    go_wp2_with fail
    go_ret
    exact ⟨u_ret_bool HR.out.symm, rfl⟩
  · have hpos : 0 < s.size := by omega
    obtain ⟨e1, e2⟩ := isE_false h0
    have hR := decOk_pos s hpos
    clear h0
    cases hz : ((s[0].toNat : Int) == 48 && !(s.toList == [48])) with
    | true =>
      have HR := Lib.hid (show decOk s.data.toList = false by rw [hR, hz]; rfl)
      have hz1 : ((s[0].toNat : Int) == 48) = true := by cases hh : ((s[0].toNat : Int) == 48) with | true => rfl | false => rw [hh] at hz; cases hz
      have hz2 : (s.toList == [48]) = false := by cases hh : (s.toList == [48]) with | false => rfl | true => rw [hh, hz1] at hz; cases hz
      clear hz hR
      go_enter Tryd.func45, Tryd.ntmps45
      go_wp2_with fail
      go_ret
      exact ⟨u_ret_bool HR.out.symm, rfl⟩
    | false =>
      have HR := Lib.hid (show decOk s.data.toList = s.data.toList.all isDig by rw [hR, hz]; rfl)
      have hzz : ((s[0].toNat : Int) == 48) = false ∨ ((s[0].toNat : Int) == 48) = true ∧ (s.toList == [48]) = true := by
        cases hh : ((s[0].toNat : Int) == 48) with
        | false => exact .inl rfl
        | true => rw [hh] at hz; exact .inr ⟨rfl, by cases hk : (s.toList == [48]) with | true => rfl | false => rw [hk] at hz; cases hz⟩
      clear hz hR
      rcases hzz with hz1 | ⟨hz1, hz2⟩
      all_goals
        go_enter Tryd.func45, Tryd.ntmps45
        go_wp2
        go_loop [17] (fun x => ∃ k : Nat, k ≤ s.size ∧ x = .int .i64 k ∧ decOk s.data.toList = (s.data.toList.drop k).all isDig) (fun x => s.size - (intOf x).toNat)
        case atStart => exact ⟨0, Nat.zero_le _, rfl, HR.out⟩
        case round =>
          obtain ⟨k, hk, rfl, hx⟩ := hrel
          have HX := Lib.hid hx; clear hx
          by_cases hlt : k < s.size
          · have hd := drop_cons s hlt
            by_cases hg : 48 ≤ s[k].toNat ∧ s[k].toNat ≤ 57
            · have HS := Lib.hid (show decOk s.data.toList = (s.data.toList.drop (k + 1)).all isDig by rw [HX.out, hd, List.all_cons, (isDig_iff _).2 hg, Bool.true_and])
              obtain ⟨hg1, hg2⟩ := hg
              clear hd
              go_wp2_with fail
              go_round
              case rel => exact ⟨k + 1, hlt, by go_num, HS.out⟩
              case measure => simp [intOf]; omega
            · have HS := Lib.hid (show decOk s.data.toList = false by
                rw [HX.out, hd, List.all_cons]
                have : isDig s[k] = false := by cases hh : isDig s[k] with | false => rfl | true => exact absurd ((isDig_iff _).1 hh) hg
                rw [this, Bool.false_and])
              clear hd
              have hg' : s[k].toNat < 48 ∨ (48 ≤ s[k].toNat ∧ 57 < s[k].toNat) := by omega
              clear hg
              rcases hg' with hg | ⟨hg1, hg2⟩
              all_goals
                go_wp2_with fail
                go_ret
                exact ⟨u_ret_bool HS.out.symm, rfl⟩
          · have HS := Lib.hid (show decOk s.data.toList = true by rw [HX.out, drop_end s (by omega)]; rfl)
            go_wp2_with fail
            go_ret
            exact ⟨u_ret_bool HS.out.symm, rfl⟩
end Go.Proofs.YtlljocgcpaoenaaDoor
