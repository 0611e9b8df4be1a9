/- Spans of time: the reference's ParseSpan. -/
import Derived.Test.YtlljocgcpaoenaaDoorPSpan
namespace Go.Proofs.YtlljocgcpaoenaaDoor
open Go.RowKit

theorem decOk_cons (c : UInt8) (R : List UInt8) : decOk (c :: R) = (!(decide (c.toNat = 48) && !R.isEmpty) && (c :: R).all isDig) := by
  unfold decOk
  have e2 : ((c :: R).head? == some 48) = decide (c.toNat = 48) := by
    rw [List.head?_cons, Bool.eq_iff_iff]
    simp only [beq_iff_eq, Option.some.injEq, ← UInt8.toNat_inj, decide_eq_true_eq]; exact Iff.rfl
  rw [e2]
  by_cases h : c.toNat = 48
  · have hc : c = 48 := UInt8.toNat_inj.1 h
    subst hc
    cases R <;> simp
  · simp [h]
theorem satF_snoc (a : Nat) (l : List UInt8) (c : UInt8) : satF a (l ++ [c]) = if satF a l ≤ 1099511627776 then satF a l * 10 + (c.toNat - 48) else satF a l := by unfold satF; rw [List.foldl_append]; rfl
theorem satF_le : ∀ (l : List UInt8) (a : Nat), a ≤ 10995116277769 → (l.all isDig) = true → satF a l ≤ 10995116277769
  | [], a, h, _ => h
  | c :: l, a, h, hd => by
    simp only [List.all_cons, Bool.and_eq_true, isDig_iff] at hd
    rw [satF_cons]
    refine satF_le l _ ?_ hd.2
    split <;> omega
theorem take_snoc' (s : ByteArray) {k : Nat} (h : k < s.size) : s.data.toList.take (k + 1) = s.data.toList.take k ++ [s[k]] := by
  rw [List.take_succ_eq_append_getElem (by simpa using h)]; rfl
theorem decOk_take (s : ByteArray) (n : Nat) (hn : s.size = n + 1) (hn1 : 1 ≤ n) (h0 : 0 < s.size) (hz : ¬ (2 ≤ n ∧ s[0].toNat = 48)) : decOk (s.data.toList.take n) = (s.data.toList.take n).all isDig := by
  have hl : s.data.toList.length = n + 1 := by rw [Array.length_toList]; exact hn
  have hd := drop_cons s h0
  rw [List.drop_zero] at hd
  generalize hL : s.data.toList = L at *
  generalize s[0] = c at *
  generalize L.drop (0 + 1) = R at hd
  subst hd
  obtain ⟨m, rfl⟩ : ∃ m, n = m + 1 := ⟨n - 1, by omega⟩
  rw [List.take_succ_cons, decOk_cons]
  have : (!(decide (c.toNat = 48) && !(R.take m).isEmpty)) = true := by
    by_cases h : c.toNat = 48
    · have hm : m = 0 := by omega
      subst hm; simp
    · simp [h]
  rw [this, Bool.true_and]
theorem parse_at (s : ByteArray) (n : Nat) (hn : s.size = n + 1) (hlt : n < s.size) : parseSp s.data.toList =
    if unitN s[n] = 0 ∨ decOk (s.data.toList.take n) = false then (0, 2) else if 1099511627776 < valN (s.data.toList.take n) * unitN s[n] then (0, 6)
    else if spanN (valN (s.data.toList.take n) * unitN s[n]) ≠ s.data.toList then (0, 2) else (valN (s.data.toList.take n) * unitN s[n], 0) := by
  have hP := parseSp_at s (by omega)
  unfold parseDB at hP
  have e : s.size - 1 = n := by omega
  simp only [e, ext_take] at hP
  exact hP
theorem unit_le (b : UInt8) : unitN b ≤ 3600000 := by unfold unitN; (repeat' split) <;> omega
set_option maxHeartbeats 4000000 in
set_option maxRecDepth 100000 in
theorem rpspan_main (s : ByteArray) (n : Nat) (w : World) (hn : s.size = n + 1) (hn1 : 1 ≤ n) (hs : s.size ≤ 281474976710656) (hlt : n < s.size) (h0 : 0 < s.size) (hu : unitN s[n] ≠ 0) (hz : n = 1 ∨ 2 ≤ n ∧ s[0].toNat ≠ 48) :
    Calls Tryd.prog 26 #[.string s] w fun e w' => e = .returned (.tuple #[.int .i64 ((parseSp s.data.toList).1 : Nat), .int .i64 (parseSp s.data.toList).2]) ∧ Below w.heap.size w w' := by
  have HP := Lib.hid (parse_at s n hn hlt)
  have HOK := Lib.hid (decOk_take s n hn hn1 h0 (by omega))
  have hlen : (s.data.toList.take n).length = n := by rw [List.length_take, Array.length_toList]; show min n s.size = n; omega
  have HUN := Lib.hid (fun w => unit_any s[n] w)
  have hul := unit_le s[n]
  have HU := Lib.hid hu
  have hq0 := (byte_eq (show ((unitN s[n] : Nat) : Int) ≠ 0 by omega)).1
  have hz2 : n ≤ 1 ∨ (2 ≤ n ∧ ((s[0].toNat : Int) == 48) = false) := by
    rcases hz with h | ⟨h1, h2⟩
    · exact .inl (by omega)
    · exact .inr ⟨h1, (byte_eq (by omega)).1⟩
  have hst := fun l => str_eq l s
  have HST := Lib.hid hst; clear hst
  generalize parseSp s.data.toList = R at *
  obtain ⟨U, hU⟩ : ∃ U, unitN s[n] = U := ⟨_, rfl⟩
  rw [hU] at HP HUN HU hul hq0
  have hU1 : 1 ≤ U := by have := HU.out; omega
  have hU0 : ¬ U = 0 := HU.out
  clear hz hu hU
  rcases hz2 with hd | ⟨hd1, hd2⟩
  all_goals
    go_enter Tryd.func26, Tryd.ntmps26
    go_wp2_with fail
    refine (HUN.out _).mono ?_; rintro e w1 ⟨rfl, rfl⟩
    go_wp2_with fail
    go_loop [5, 6] (fun x i => ∃ k : Nat, k + 1 ≤ s.size ∧ i = .int .i64 k ∧ x = .int .i64 (satF 0 (s.data.toList.take k) : Nat) ∧ ((s.data.toList.take k).all isDig) = true) (fun _ i => s.size - (intOf i).toNat)
    case atStart => exact ⟨0, by omega, rfl, rfl, rfl⟩
    case round =>
      obtain ⟨k, hk, rfl, rfl, hall⟩ := hrel
      have HALL := Lib.hid hall
      by_cases hkn : k + 1 < s.size
      · have htk := take_snoc' s (k := k) (by omega)
        have hk2 : k < s.size := by omega
        have hsl := satF_le (s.data.toList.take k) 0 (by omega) hall
        have HSN := Lib.hid (satF_snoc 0 (s.data.toList.take k) s[k])
        by_cases hg : 48 ≤ s[k].toNat ∧ s[k].toNat ≤ 57
        · have HA2 := Lib.hid (show ((s.data.toList.take (k + 1)).all isDig) = true by rw [htk, List.all_append, hall, List.all_cons, (isDig_iff _).2 hg]; rfl)
          rw [← htk] at HSN
          clear htk hall
          obtain ⟨hg1, hg2⟩ := hg
          generalize satF 0 (s.data.toList.take k) = S at *
          by_cases hS : S ≤ 1099511627776
          · have HV := Lib.hid (HSN.out.trans (if_pos hS))
            go_wp2_with fail
            go_round
            case rel => exact ⟨k + 1, by omega, by go_num, by rw [HV.out]; go_num, HA2.out⟩
            case measure => simp [intOf]; omega
          · have HV := Lib.hid (HSN.out.trans (if_neg hS))
            go_wp2_with fail
            go_round
            case rel => exact ⟨k + 1, by omega, by go_num, by rw [HV.out], HA2.out⟩
            case measure => simp [intOf]; omega
        · have HR := Lib.hid (show R = (0, 2) by
            rw [HP.out, if_pos]
            refine .inr ?_
            rw [HOK.out]
            cases hh : (s.data.toList.take _).all isDig with
            | false => rfl
            | true =>
              exfalso
              have h1 := List.all_eq_true.1 hh s[k] (by
                rw [List.mem_take_iff_getElem]
                exact ⟨k, by rw [Array.length_toList]; show k < min _ s.size; omega, rfl⟩)
              exact hg ((isDig_iff _).1 h1))
          have hg' : s[k].toNat < 48 ∨ (48 ≤ s[k].toNat ∧ 57 < s[k].toNat) := by omega
          clear hg htk hall
          rcases hg' with hg | ⟨hg1, hg2⟩
          all_goals
            go_wp2_with fail
            go_ret2
            exact ⟨v_ret2 (by rw [HR.out]; rfl) (by rw [HR.out]), Below.refl _ _⟩
      · obtain rfl : k = n := by omega
        have hv := sat_val (s.data.toList.take k) 0 0 (.inl ⟨by omega, rfl⟩)
        have hok : decOk (s.data.toList.take k) = true := HOK.out.trans hall
        have hR := HP.out
        rw [if_neg (by rw [hok]; simp [hU0])] at hR
        change (valN _ ≤ _ ∧ _ = valN _) ∨ (_ < valN _ ∧ _) at hv
        obtain ⟨S, hS⟩ : ∃ S, S = satF 0 (s.data.toList.take k) := ⟨_, rfl⟩
        rw [← hS] at hv ⊢
        obtain ⟨V, hV⟩ : ∃ V, V = valN (s.data.toList.take k) := ⟨_, rfl⟩
        rw [← hV] at hv hR
        clear hS hV hok hall HALL HOK HP hkn
        rcases hv with ⟨hv1, rfl⟩ | ⟨hv1, hv2⟩
        · obtain ⟨Pd, hPd⟩ : ∃ Pd, S * U = Pd := ⟨_, rfl⟩
          rw [hPd] at hR
          have hmul : (S : Int) * (U : Int) = (Pd : Int) := by rw [← hPd]; exact (Int.natCast_mul _ _).symm
          have hPm : Pd ≤ 1099511627776 * 3600000 := by rw [← hPd]; exact Nat.mul_le_mul hv1 hul
          by_cases hmx : 1099511627776 < Pd
          · have HR := Lib.hid (show R = (0, 6) by rw [hR, if_pos hmx])
            clear hR hPd
            go_wp2_with fail
            refine (HUN.out _).mono ?_; rintro e w2 ⟨rfl, rfl⟩
            go_wp2_with fail
            go_ret2
            exact ⟨v_ret2 (by rw [HR.out]; rfl) (by rw [HR.out]), Below.refl _ _⟩
          · rw [if_neg hmx] at hR
            have hPle : Pd ≤ 1099511627776 := by omega
            have HSP := Lib.hid (fun w => refSpan_any (Pd : Int) w)
            rw [spanL_nat Pd hPle] at HSP
            have hst := HST.out (spanN Pd)
            by_cases hfin : spanN Pd = s.data.toList
            · have HR := Lib.hid (show R = (Pd, 0) by rw [hR, if_neg (by simp [hfin])])
              rw [decide_eq_true hfin] at hst
              clear hR hPd hfin hPm
              go_wp2_with fail
              refine (HUN.out _).mono ?_; rintro e w2 ⟨rfl, rfl⟩
              go_wp2_with fail
              refine (HUN.out _).mono ?_; rintro e w2 ⟨rfl, rfl⟩
              go_wp2_with fail
              refine (HSP.out _).mono ?_; rintro e w3 ⟨rfl, hb3⟩
              go_wp2_with fail
              go_ret2
              exact ⟨v_ret2 (by rw [HR.out]) (by rw [HR.out]), hb3⟩
            · have HR := Lib.hid (show R = (0, 2) by rw [hR, if_pos hfin])
              rw [decide_eq_false hfin] at hst
              clear hR hPd hfin hPm
              go_wp2_with fail
              refine (HUN.out _).mono ?_; rintro e w2 ⟨rfl, rfl⟩
              go_wp2_with fail
              refine (HUN.out _).mono ?_; rintro e w2 ⟨rfl, rfl⟩
              go_wp2_with fail
              refine (HSP.out _).mono ?_; rintro e w3 ⟨rfl, hb3⟩
              go_wp2_with fail
              go_ret2
              exact ⟨v_ret2 (by rw [HR.out]; rfl) (by rw [HR.out]), hb3⟩
        · have HR := Lib.hid (show R = (0, 6) by
            rw [hR, if_pos]
            have : V * 1 ≤ V * U := Nat.mul_le_mul_left V hU1
            omega)
          clear hR
          go_wp2_with fail
          go_ret2
          exact ⟨v_ret2 (by rw [HR.out]; rfl) (by rw [HR.out]), Below.refl _ _⟩
theorem rpspan_none (s : ByteArray) (w : World) (hs : s.size ≤ 1) :
    Calls Tryd.prog 26 #[.string s] w fun e w' => e = .returned (.tuple #[.int .i64 ((parseSp s.data.toList).1 : Nat), .int .i64 (parseSp s.data.toList).2]) ∧ Below w.heap.size w w' := by
  have HR := Lib.hid (show parseSp s.data.toList = (0, 2) by
    have hl : s.data.toList.length = s.size := by rw [Array.length_toList]; rfl
    unfold parseSp
    split
    · rfl
    · unfold parseDB
      rw [if_pos (.inr (by rw [show s.data.toList.length - 1 = 0 by omega]; rfl))])
  go_enter Tryd.func26, Tryd.ntmps26
  go_wp2_with fail
  go_ret2
  exact ⟨v_ret2 (by rw [HR.out]; rfl) (by rw [HR.out]), Below.refl _ _⟩
set_option maxHeartbeats 1000000 in
set_option maxRecDepth 100000 in
theorem rpspan_zero (s : ByteArray) (n : Nat) (w : World) (hn : s.size = n + 1) (hn1 : 2 ≤ n) (hs : s.size ≤ 281474976710656) (hlt : n < s.size) (h0 : 0 < s.size) (hz : s[0].toNat = 48) :
    Calls Tryd.prog 26 #[.string s] w fun e w' => e = .returned (.tuple #[.int .i64 ((parseSp s.data.toList).1 : Nat), .int .i64 (parseSp s.data.toList).2]) ∧ Below w.heap.size w w' := by
  have HR := Lib.hid (show parseSp s.data.toList = (0, 2) by
    rw [parse_at s n hn hlt, if_pos]
    refine .inr ?_
    have hl : s.data.toList.length = n + 1 := by rw [Array.length_toList]; exact hn
    have hd := drop_cons s h0
    rw [List.drop_zero] at hd
    generalize s.data.toList = L at *
    generalize s[0] = c at *
    generalize L.drop (0 + 1) = R at hd
    subst hd
    obtain ⟨m, rfl⟩ : ∃ m, n = m + 2 := ⟨n - 2, by omega⟩
    rw [List.take_succ_cons, decOk_cons]
    cases R with
    | nil => simp at hl
    | cons x R => simp [hz])
  have HUN := Lib.hid (fun w => unit_any s[n] w)
  have hq := (byte_eq' (show (s[0].toNat : Int) = 48 by omega)).1
  clear hz
  by_cases hu : unitN s[n] = 0
  · have hq2 := (byte_eq' (show ((unitN s[n] : Nat) : Int) = 0 by omega)).1
    rw [hu] at HUN
    clear hu
    go_enter Tryd.func26, Tryd.ntmps26
    go_wp2_with fail
    refine (HUN.out _).mono ?_; rintro e w2 ⟨rfl, rfl⟩
    go_wp2_with fail
    go_ret2
    exact ⟨v_ret2 (by rw [HR.out]; rfl) (by rw [HR.out]), Below.refl _ _⟩
  · have hq2 := (byte_eq (show ((unitN s[n] : Nat) : Int) ≠ 0 by omega)).1
    clear hu
    go_enter Tryd.func26, Tryd.ntmps26
    go_wp2_with fail
    refine (HUN.out _).mono ?_; rintro e w2 ⟨rfl, rfl⟩
    go_wp2_with fail
    go_ret2
    exact ⟨v_ret2 (by rw [HR.out]; rfl) (by rw [HR.out]), Below.refl _ _⟩
set_option maxRecDepth 100000 in
theorem rpspan_unit (s : ByteArray) (n : Nat) (w : World) (hn : s.size = n + 1) (hn1 : 1 ≤ n) (hs : s.size ≤ 281474976710656) (hlt : n < s.size) (hu : unitN s[n] = 0) :
    Calls Tryd.prog 26 #[.string s] w fun e w' => e = .returned (.tuple #[.int .i64 ((parseSp s.data.toList).1 : Nat), .int .i64 (parseSp s.data.toList).2]) ∧ Below w.heap.size w w' := by
  have HR := Lib.hid (show parseSp s.data.toList = (0, 2) by rw [parse_at s n hn hlt, if_pos (.inl hu)])
  have HUN := Lib.hid (fun w => unit_any s[n] w)
  rw [hu] at HUN
  clear hu
  go_enter Tryd.func26, Tryd.ntmps26
  go_wp2_with fail
  refine (HUN.out _).mono ?_; rintro e w2 ⟨rfl, rfl⟩
  go_wp2_with fail
  go_ret2
  exact ⟨v_ret2 (by rw [HR.out]; rfl) (by rw [HR.out]), Below.refl _ _⟩
theorem rpspan_any (s : ByteArray) (w : World) (hs : s.size ≤ 281474976710656) :
    Calls Tryd.prog 26 #[.string s] w fun e w' => e = .returned (.tuple #[.int .i64 ((parseSp s.data.toList).1 : Nat), .int .i64 (parseSp s.data.toList).2]) ∧ Below w.heap.size w w' := by
  by_cases h1 : s.size ≤ 1
  · exact rpspan_none s w h1
  obtain ⟨n, hn⟩ : ∃ n, s.size = n + 1 := ⟨s.size - 1, by omega⟩
  have hlt : n < s.size := by omega
  have h0 : 0 < s.size := by omega
  by_cases hu : unitN s[n] = 0
  · exact rpspan_unit s n w hn (by omega) hs hlt hu
  by_cases hz : 2 ≤ n ∧ s[0].toNat = 48
  · exact rpspan_zero s n w hn hz.1 hs hlt h0 hz.2
  · exact rpspan_main s n w hn (by omega) hs hlt h0 hu (by omega)
end Go.Proofs.YtlljocgcpaoenaaDoor
