/- The walks of the laws MethodShapes and MethodEvents: whatever the input, true; what lay in memory lies as it lay. -/
import Derived.Test.YtngieldaebnffaaComplete
namespace Go.Proofs.Ytngieldaebnffaa
open Go.RowKit

theorem refComplete_any (s : Int) (ev : ByteArray) (w : World) (hs : ev.size ≤ 1000000000) :
    Calls Try.prog 18 #[.int .i64 s, .string ev] w (AnsB (completeS s ev.data.toList) w) := by
  have HC := Lib.hid (fun w => refLegal_any s ev w hs)
  cases hl : legalS s ev.data.toList with
  | false =>
    have HR : Hid (completeS s ev.data.toList = false) := Lib.hid (by simp [completeS, hl])
    go_enter Try.func18, Try.ntmps18
    go_wp2_with (go_at_call 16; refine (HC.out _).mono ?_; rw [hl]; rintro e w' ⟨rfl, hb⟩)
    go_ret
    exact ⟨ret_bool HR.out.symm, hb⟩
  | true =>
    by_cases hz : ev.size = 0
    · have HR : Hid (completeS s ev.data.toList = false) := Lib.hid (by simp [completeS, last_none ev hz])
      have hz0 : ev.data.toList = [] := List.length_eq_zero_iff.1 (by rw [Array.length_toList]; exact hz)
      have hz2 : ev.toList.isEmpty = true := by rw [ByteArray.toList_eq, hz0]; rfl
      have hz3 : ev.toList = [] := by simpa using hz2
      clear hz hz0
      go_enter Try.func18, Try.ntmps18
      go_wp2_with (go_at_call 16; refine (HC.out _).mono ?_; rw [hl]; rintro e w' ⟨rfl, hb⟩)
      go_ret
      exact ⟨ret_bool HR.out.symm, hb⟩
    · have hz2 : 0 < ev.size := by omega
      have hz0 : ev.data.toList ≠ [] := fun h => by have := congrArg List.length h; rw [Array.length_toList] at this; exact hz this
      have hz3 : ev.toList.isEmpty = false := by rw [ByteArray.toList_eq]; cases hh : ev.data.toList with | nil => exact absurd hh hz0 | cons => rfl
      have hz4 : ¬ ev.toList = [] := by simpa using hz3
      clear hz hz0
      have hlast := last_some ev hz2
      cases h1 : ((ev[ev.size - 1].toNat : Int) == 115) <;> cases h2 : ((ev[ev.size - 1].toNat : Int) == 120)
      all_goals
        have HR : Hid (completeS s ev.data.toList = _) := Lib.hid (by rw [completeS, hl, hlast, h1, h2])
        clear hlast
        go_enter Try.func18, Try.ntmps18
        go_wp2_with (go_at_call 16; refine (HC.out _).mono ?_; rw [hl]; rintro e w' ⟨rfl, hb⟩)
        go_ret
        exact ⟨ret_bool HR.out.symm, hb⟩

set_option maxHeartbeats 1000000 in
theorem shapes_law (s : Int) (w : World) : Calls Try.prog 3 #[.int .i64 s] w (AnsB true w) := by
  go_enter Try.func3, Try.ntmps3
  go_wp2_with (first | (go_at_call 8; refine (streams _ _).mono ?_; rintro e w' ⟨rfl, rfl⟩) | (go_at_call 9; refine (refStreams _ _).mono ?_; rintro e w' ⟨rfl, rfl⟩) | (go_at_call 10; refine (counts _ _).mono ?_; rintro e w' ⟨rfl, rfl⟩) | (go_at_call 11; refine (refCounts _ _).mono ?_; rintro e w' ⟨rfl, rfl⟩) | (go_at_call 12; refine (awake_any _).mono ?_; rintro e w' ⟨rfl, hb⟩))
  go_ret
  exact ⟨rfl, hb⟩

set_option maxHeartbeats 1000000 in
theorem events_law (s : Int) (ev : ByteArray) (w : World) : Calls Try.prog 4 #[.int .i64 s, .string ev] w (AnsB true w) := by
  by_cases hs : 200 < ev.size
  · go_enter Try.func4, Try.ntmps4
    go_wp2
    go_ret
    exact ⟨rfl, Below.refl _ _⟩
  · have h1 : ev.size ≤ 200 := by omega
    have h2 : ev.size ≤ 4611686018427387904 := by omega
    have h3 : ev.size ≤ 1000000000 := by omega
    clear hs
    go_enter Try.func4, Try.ntmps4
    go_wp2_with fail
    refine (first_any s ev _ h2).mono ?_; rintro e w1 ⟨rfl, hb1⟩
    go_wp2_with fail
    refine (refFirst_any s ev _ h3).mono ?_; rintro e w2 ⟨rfl, hb2⟩
    go_wp2_with fail
    refine (legal_any s ev _ h3).mono ?_; rintro e w3 ⟨rfl, hb3⟩
    go_wp2_with fail
    refine (refLegal_any s ev _ h3).mono ?_; rintro e w4 ⟨rfl, hb4⟩
    go_wp2_with fail
    refine (complete_any s ev _ h3).mono ?_; rintro e w5 ⟨rfl, hb5⟩
    go_wp2_with fail
    refine (refComplete_any s ev _ h3).mono ?_; rintro e w6 ⟨rfl, hb6⟩
    go_wp2_with fail
    refine (awake_any _).mono ?_; rintro e w7 ⟨rfl, hb7⟩
    go_wp2_with fail
    go_ret
    refine ⟨rfl, ?_⟩
    have s1 := hb1.size; have s2 := hb2.size; have s3 := hb3.size; have s4 := hb4.size; have s5 := hb5.size; have s6 := hb6.size
    exact hb1.trans ((hb2.mono s1).trans ((hb3.mono (by omega)).trans ((hb4.mono (by omega)).trans ((hb5.mono (by omega)).trans ((hb6.mono (by omega)).trans (hb7.mono (by omega)))))))
end Go.Proofs.Ytngieldaebnffaa
