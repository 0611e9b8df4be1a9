/- The walk of the law MethodCounts. -/
import Derived.Test.YtngieldaebnffaaPlain
import Derived.Test.YtngieldaebnffaaLawA
namespace Go.Proofs.Ytngieldaebnffaa
open Go.RowKit

theorem countLaw (ev : ByteArray) (c : Int) (w : World) (hs : ev.size ≤ 9223372036854775806) :
    Calls Try.prog 20 #[.string ev, .int .u8 c] w fun e w' => e = .returned (.int .i64 (cnt ev.data.toList c)) ∧ w = w' := by
  go_enter Try.func20, Try.ntmps20
  go_wp2
  go_loop [5, 6] (fun n i => ∃ k : Nat, k ≤ ev.size ∧ i = .int .i64 k ∧ n = .int .i64 (cnt (ev.data.toList.take k) c)) (fun _ i => ev.size - (intOf i).toNat)
  case atStart => exact ⟨0, Nat.zero_le _, rfl, rfl⟩
  case round =>
    obtain ⟨k, hk, rfl, rfl⟩ := hrel
    have hb := cnt_le (ev.data.toList.take k) c
    have hl : (ev.data.toList.take k).length ≤ k := List.length_take_le _ _
    by_cases hlt : k < ev.size
    · have HS := Lib.hid (cnt_snoc (ev.data.toList.take k) ev[k] c)
      have HT := Lib.hid (take_snoc' ev hlt)
      cases hc : ((ev[k].toNat : Int) == c) with
      | true =>
        go_wp2
        go_round
        case rel => exact ⟨k + 1, by omega, by go_num, by rw [HT.out, HS.out, if_pos hc]⟩
        case measure => simp [intOf]; omega
      | false =>
        go_wp2
        go_round
        case rel => exact ⟨k + 1, by omega, by go_num, by rw [HT.out, HS.out, if_neg (by simp [hc])]; simp⟩
        case measure => simp [intOf]; omega
    · go_wp2
      go_ret
      exact ⟨ret_int (by rw [List.take_of_length_le (by simp; omega)]), rfl⟩
set_option maxHeartbeats 4000000 in
theorem counts_law (s : Int) (ev : ByteArray) (w : World) : Calls Try.prog 6 #[.int .i64 s, .string ev] w (AnsB true w) := by
  by_cases hs : 200 < ev.size
  · go_enter Try.func6, Try.ntmps6
    go_wp2_with fail
    refine (awake_any _).mono ?_; rintro e w1 ⟨rfl, hb⟩
    go_wp2_with fail
    go_ret
    exact ⟨rfl, hb⟩
  · have h1 : ev.size ≤ 200 := by omega
    have h3 : ev.size ≤ 1000000000 := by omega
    clear hs
    have HC := Lib.hid (fun w => complete_any s ev w h3)
    unfold AnsB at HC
    cases hc : completeS s ev.data.toList with
    | false =>
      rw [hc] at HC
      clear hc
      go_enter Try.func6, Try.ntmps6
      go_wp2_with fail
      refine (HC.out _).mono ?_; rintro e w1 ⟨rfl, hb1⟩
      go_wp2_with fail
      refine (awake_any _).mono ?_; rintro e w2 ⟨rfl, hb⟩
      go_wp2_with fail
      go_ret
      exact ⟨rfl, hb1.trans (hb.mono hb1.size)⟩
    | true =>
      rw [hc] at HC
      obtain ⟨i1, i2, i3, i4, i5⟩ := complete_inv s _ hc
      clear hc
      have H15 := Lib.hid (fun w => countLaw ev 115 w (by omega))
      have H20 := Lib.hid (fun w => countLaw ev 120 w (by omega))
      have H01 := Lib.hid (fun w => countLaw ev 101 w (by omega))
      have H13 := Lib.hid (fun w => countLaw ev 113 w (by omega))
      have H14 := Lib.hid (fun w => countLaw ev 114 w (by omega))
      have HK := Lib.hid (fun w => counts s w)
      have b15 := cnt_le ev.data.toList 115
      have b20 := cnt_le ev.data.toList 120
      have b01 := cnt_le ev.data.toList 101
      have b13 := cnt_le ev.data.toList 113
      have b14 := cnt_le ev.data.toList 114
      have hlen : ev.data.toList.length ≤ 200 := by rw [Array.length_toList]; exact h1
      generalize cnt ev.data.toList 115 = n15 at *
      generalize cnt ev.data.toList 120 = n20 at *
      generalize cnt ev.data.toList 101 = n01 at *
      generalize cnt ev.data.toList 113 = n13 at *
      generalize cnt ev.data.toList 114 = n14 at *
      generalize c1 s = a at *
      generalize c2 s = b at *
      generalize c3 s = c at *
      generalize c4 s = d at *
      have j1 : 0 ≤ n15 ∧ n15 ≤ 1 := by omega
      have j2 : 0 ≤ n20 ∧ n20 ≤ 1 := by omega
      have j3 : 0 ≤ n13 ∧ n13 ≤ 200 := by omega
      have j4 : 0 ≤ n14 ∧ n14 ≤ 200 := by omega
      have j5 : 1 ≤ n15 + n20 ∧ n15 + n20 ≤ 1 := by omega
      have i5 : n15 = 0 ∨ (n15 = 1 ∧ (a ≤ n13 ∧ c ≤ n14)) := by omega
      clear b15 b20 b01 b13 b14 i1 hlen
      rcases i3 with i3 | i3 <;> rcases i4 with i4 | i4 <;> rcases i5 with rfl | ⟨rfl, i5⟩
      all_goals
        go_enter Try.func6, Try.ntmps6
        go_wp2_with fail
        refine (HC.out _).mono ?_; rintro e w1 ⟨rfl, hb1⟩
        go_wp2_with fail
        refine (H15.out _).mono ?_; rintro e w2 ⟨rfl, rfl⟩
        go_wp2_with fail
        refine (H20.out _).mono ?_; rintro e w2 ⟨rfl, rfl⟩
        go_wp2_with fail
        refine (H01.out _).mono ?_; rintro e w2 ⟨rfl, rfl⟩
        go_wp2_with fail
        refine (H13.out _).mono ?_; rintro e w2 ⟨rfl, rfl⟩
        go_wp2_with fail
        refine (H14.out _).mono ?_; rintro e w2 ⟨rfl, rfl⟩
        go_wp2_with fail
        refine (HK.out _).mono ?_; rintro e w2 ⟨rfl, rfl⟩
        go_wp2_with fail
        refine (H15.out _).mono ?_; rintro e w2 ⟨rfl, rfl⟩
        go_wp2_with fail
        refine (awake_any _).mono ?_; rintro e w3 ⟨rfl, hb3⟩
        go_wp2_with fail
        go_ret
        exact ⟨rfl, hb1.trans (hb3.mono hb1.size)⟩
end Go.Proofs.Ytngieldaebnffaa
