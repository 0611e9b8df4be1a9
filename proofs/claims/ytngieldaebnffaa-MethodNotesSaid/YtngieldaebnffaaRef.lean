/- The reference's count, next and First: what each call returns; they leave memory alone. -/
import Derived.Test.YtngieldaebnffaaShapes
import Derived.Test.YtngieldaebnffaaRegion
import Derived.Deep.QuietTactic
import Derived.BigQuiet
import Derived.Lib.Hide
namespace Go.Proofs.Ytngieldaebnffaa
open Go.RowKit

def cnt (l : List UInt8) (c : Int) : Int := (l.filter fun x => (x.toNat : Int) == c).length
theorem cnt_le (l : List UInt8) (c : Int) : 0 ≤ cnt l c ∧ cnt l c ≤ l.length := by
  unfold cnt; exact ⟨by omega, by have := List.length_filter_le (fun x : UInt8 => (x.toNat : Int) == c) l; omega⟩
theorem cnt_snoc (l : List UInt8) (x : UInt8) (c : Int) : cnt (l ++ [x]) c = cnt l c + if ((x.toNat : Int) == c) = true then 1 else 0 := by
  unfold cnt
  rw [List.filter_append]
  by_cases h : ((x.toNat : Int) == c) = true <;> simp [h]
theorem ret_int {k : IntKind} {a b : Int} (h : a = b) : Ending.returned (.int k a) = .returned (.int k b) := by rw [h]
theorem ret_bool {a b : Bool} (h : a = b) : Ending.returned (.bool a) = .returned (.bool b) := by rw [h]
theorem take_snoc' (s : ByteArray) {k : Nat} (h : k < s.size) : s.data.toList.take (k + 1) = s.data.toList.take k ++ [s[k]] := by
  rw [List.take_succ_eq_append_getElem (by simpa using h)]; rfl
theorem countRef (ev : ByteArray) (c : Int) (w : World) (hs : ev.size ≤ 9223372036854775806) :
    Calls Try.prog 35 #[.string ev, .int .u8 c] w fun e w' => e = .returned (.int .i64 (cnt ev.data.toList c)) ∧ w = w' := by
  go_enter Try.func35, Try.ntmps35
  go_wp2
  go_loop [5, 6] (fun n i => ∃ k : Nat, k ≤ ev.size ∧ i = .int .i64 k ∧ n = .int .i64 (cnt (ev.data.toList.take k) c)) (fun _ i => ev.size - (intOf i).toNat)
  case atStart => exact ⟨0, Nat.zero_le _, rfl, rfl⟩
  case round =>
    obtain ⟨k, hk, rfl, rfl⟩ := hrel
    have hb := cnt_le (ev.data.toList.take k) c
    have hl : (ev.data.toList.take k).length ≤ k := List.length_take_le _ _
    by_cases hlt : k < ev.size
    · have HS := Lib.hid (cnt_snoc (ev.data.toList.take k) ev[k] c)
      have HT := Lib.hid (take_snoc' ev hlt)
      cases hc : ((ev[k].toNat : Int) == c) with
      | true =>
        go_wp2
        go_round
        case rel => exact ⟨k + 1, by omega, by go_num, by rw [HT.out, HS.out, if_pos hc]⟩
        case measure => simp [intOf]; omega
      | false =>
        go_wp2
        go_round
        case rel => exact ⟨k + 1, by omega, by go_num, by rw [HT.out, HS.out, if_neg (by simp [hc])]; simp⟩
        case measure => simp [intOf]; omega
    · go_wp2
      go_ret
      exact ⟨ret_int (by rw [List.take_of_length_le (by simp; omega)]), rfl⟩
def refOk (s : Int) (l : List UInt8) (c : Int) : Bool :=
  if !isS s || decide (0 < cnt l 115 + cnt l 120) then false
  else if c = 113 then !decide (0 < cnt l 101) && roomS (cnt l 113) (c2 s)
  else if c = 101 then !decide (0 < cnt l 101) && decide (c1 s ≤ cnt l 113)
  else if c = 114 then roomS (cnt l 114) (c4 s)
  else if c = 115 then decide (c1 s ≤ cnt l 113) && decide (c3 s ≤ cnt l 114) && (decide (0 < cnt l 101) || outS s)
  else c == 120
set_option maxHeartbeats 4000000 in
theorem refNext_no (s : Int) (ev : ByteArray) (c : Int) (w : World) (hs : ev.size ≤ 1000000000) (hv : isS s = false) :
    Calls Try.prog 28 #[.int .i64 s, .string ev, .int .u8 c] w fun e w' => e = .returned (.bool (false)) ∧ w = w' := by
  have hq := cnt_le ev.data.toList 113
  have hr := cnt_le ev.data.toList 114
  have h15 := cnt_le ev.data.toList 115
  have h20 := cnt_le ev.data.toList 120
  have he := cnt_le ev.data.toList 101
  have hl : ev.data.toList.length ≤ 1000000000 := by simpa using hs
  have hs2 : ev.size ≤ 9223372036854775806 := by omega
  cases ht : decide (0 < cnt ev.data.toList 101) <;> cases hen : decide (0 < cnt ev.data.toList 115 + cnt ev.data.toList 120)
  all_goals
    go_enter Try.func28, Try.ntmps28
    go_wp2_with (first | (go_at_call 35; refine (countRef _ _ _ (by assumption)).mono ?_; rintro e w' ⟨rfl, rfl⟩) | (go_at_call 11; refine (refCounts _ _).mono ?_; rintro e w' ⟨rfl, rfl⟩) | (go_at_call 19; refine (refIs _ _).mono ?_; rintro e w' ⟨rfl, rfl⟩))
    go_ret
    exact ⟨rfl, rfl⟩
set_option maxHeartbeats 4000000 in
theorem refNext_ended (s : Int) (ev : ByteArray) (c : Int) (w : World) (hs : ev.size ≤ 1000000000) (hv : isS s = true) (hn : decide (0 < cnt ev.data.toList 115 + cnt ev.data.toList 120) = true) :
    Calls Try.prog 28 #[.int .i64 s, .string ev, .int .u8 c] w fun e w' => e = .returned (.bool (false)) ∧ w = w' := by
  have hq := cnt_le ev.data.toList 113
  have hr := cnt_le ev.data.toList 114
  have h15 := cnt_le ev.data.toList 115
  have h20 := cnt_le ev.data.toList 120
  have he := cnt_le ev.data.toList 101
  have hl : ev.data.toList.length ≤ 1000000000 := by simpa using hs
  have hs2 : ev.size ≤ 9223372036854775806 := by omega
  cases ht : decide (0 < cnt ev.data.toList 101)
  all_goals
    go_enter Try.func28, Try.ntmps28
    go_wp2_with (first | (go_at_call 35; refine (countRef _ _ _ (by assumption)).mono ?_; rintro e w' ⟨rfl, rfl⟩) | (go_at_call 11; refine (refCounts _ _).mono ?_; rintro e w' ⟨rfl, rfl⟩) | (go_at_call 19; refine (refIs _ _).mono ?_; rintro e w' ⟨rfl, rfl⟩))
    go_ret
    exact ⟨rfl, rfl⟩
def rq (s : Int) (l : List UInt8) : Bool := !decide (0 < cnt l 101) && roomS (cnt l 113) (c2 s)
set_option maxHeartbeats 4000000 in
theorem refNext_q (s : Int) (ev : ByteArray) (w : World) (hs : ev.size ≤ 1000000000) (hv : isS s = true) (hn : decide (0 < cnt ev.data.toList 115 + cnt ev.data.toList 120) = false) :
    Calls Try.prog 28 #[.int .i64 s, .string ev, .int .u8 113] w fun e w' => e = .returned (.bool (rq s ev.data.toList)) ∧ w = w' := by
  have hq := cnt_le ev.data.toList 113
  have hr := cnt_le ev.data.toList 114
  have h15 := cnt_le ev.data.toList 115
  have h20 := cnt_le ev.data.toList 120
  have he := cnt_le ev.data.toList 101
  have hl : ev.data.toList.length ≤ 1000000000 := by simpa using hs
  have hs2 : ev.size ≤ 9223372036854775806 := by omega
  cases ht : decide (0 < cnt ev.data.toList 101) <;> cases h2 : decide (c2 s < 0) <;> cases h3 : decide (cnt ev.data.toList 113 < c2 s)
  all_goals
    go_enter Try.func28, Try.ntmps28
    go_wp2_with (first | (go_at_call 35; refine (countRef _ _ _ (by assumption)).mono ?_; rintro e w' ⟨rfl, rfl⟩) | (go_at_call 11; refine (refCounts _ _).mono ?_; rintro e w' ⟨rfl, rfl⟩) | (go_at_call 19; refine (refIs _ _).mono ?_; rintro e w' ⟨rfl, rfl⟩))
    go_ret
    exact ⟨ret_bool (by simp [rq, roomS, ht, h2, h3]), rfl⟩
def re (s : Int) (l : List UInt8) : Bool := !decide (0 < cnt l 101) && decide (c1 s ≤ cnt l 113)
set_option maxHeartbeats 4000000 in
theorem refNext_e (s : Int) (ev : ByteArray) (w : World) (hs : ev.size ≤ 1000000000) (hv : isS s = true) (hn : decide (0 < cnt ev.data.toList 115 + cnt ev.data.toList 120) = false) :
    Calls Try.prog 28 #[.int .i64 s, .string ev, .int .u8 101] w fun e w' => e = .returned (.bool (re s ev.data.toList)) ∧ w = w' := by
  have hq := cnt_le ev.data.toList 113
  have hr := cnt_le ev.data.toList 114
  have h15 := cnt_le ev.data.toList 115
  have h20 := cnt_le ev.data.toList 120
  have he := cnt_le ev.data.toList 101
  have hl : ev.data.toList.length ≤ 1000000000 := by simpa using hs
  have hs2 : ev.size ≤ 9223372036854775806 := by omega
  cases ht : decide (0 < cnt ev.data.toList 101) <;> cases h2 : decide (c1 s ≤ cnt ev.data.toList 113)
  all_goals
    go_enter Try.func28, Try.ntmps28
    go_wp2_with (first | (go_at_call 35; refine (countRef _ _ _ (by assumption)).mono ?_; rintro e w' ⟨rfl, rfl⟩) | (go_at_call 11; refine (refCounts _ _).mono ?_; rintro e w' ⟨rfl, rfl⟩) | (go_at_call 19; refine (refIs _ _).mono ?_; rintro e w' ⟨rfl, rfl⟩))
    go_ret
    exact ⟨ret_bool (by simp [re, ht, h2]), rfl⟩
def rr (s : Int) (l : List UInt8) : Bool := roomS (cnt l 114) (c4 s)
set_option maxHeartbeats 4000000 in
theorem refNext_r (s : Int) (ev : ByteArray) (w : World) (hs : ev.size ≤ 1000000000) (hv : isS s = true) (hn : decide (0 < cnt ev.data.toList 115 + cnt ev.data.toList 120) = false) :
    Calls Try.prog 28 #[.int .i64 s, .string ev, .int .u8 114] w fun e w' => e = .returned (.bool (rr s ev.data.toList)) ∧ w = w' := by
  have hq := cnt_le ev.data.toList 113
  have hr := cnt_le ev.data.toList 114
  have h15 := cnt_le ev.data.toList 115
  have h20 := cnt_le ev.data.toList 120
  have he := cnt_le ev.data.toList 101
  have hl : ev.data.toList.length ≤ 1000000000 := by simpa using hs
  have hs2 : ev.size ≤ 9223372036854775806 := by omega
  cases ht : decide (0 < cnt ev.data.toList 101) <;> cases h2 : decide (c4 s < 0) <;> cases h3 : decide (cnt ev.data.toList 114 < c4 s)
  all_goals
    go_enter Try.func28, Try.ntmps28
    go_wp2_with (first | (go_at_call 35; refine (countRef _ _ _ (by assumption)).mono ?_; rintro e w' ⟨rfl, rfl⟩) | (go_at_call 11; refine (refCounts _ _).mono ?_; rintro e w' ⟨rfl, rfl⟩) | (go_at_call 19; refine (refIs _ _).mono ?_; rintro e w' ⟨rfl, rfl⟩))
    go_ret
    exact ⟨ret_bool (by simp [rr, roomS, h2, h3]), rfl⟩
def rs (s : Int) (l : List UInt8) : Bool := decide (c1 s ≤ cnt l 113) && decide (c3 s ≤ cnt l 114) && (decide (0 < cnt l 101) || outS s)
set_option maxHeartbeats 4000000 in
theorem refNext_s1 (ev : ByteArray) (w : World) (hs : ev.size ≤ 1000000000) (hn : decide (0 < cnt ev.data.toList 115 + cnt ev.data.toList 120) = false) :
    Calls Try.prog 28 #[.int .i64 1, .string ev, .int .u8 115] w fun e w' => e = .returned (.bool (rs 1 ev.data.toList)) ∧ w = w' := by
  have hq := cnt_le ev.data.toList 113
  have hr := cnt_le ev.data.toList 114
  have h15 := cnt_le ev.data.toList 115
  have h20 := cnt_le ev.data.toList 120
  have he := cnt_le ev.data.toList 101
  have hl : ev.data.toList.length ≤ 1000000000 := by simpa using hs
  have hv : isS 1 = true := by decide
  have hs2 : ev.size ≤ 9223372036854775806 := by omega
  cases ht : decide (0 < cnt ev.data.toList 101) <;> cases h2 : decide (c1 1 ≤ cnt ev.data.toList 113) <;> cases h3 : decide (c3 1 ≤ cnt ev.data.toList 114)
  all_goals
    go_enter Try.func28, Try.ntmps28
    go_wp2_with (first | (go_at_call 35; refine (countRef _ _ _ (by assumption)).mono ?_; rintro e w' ⟨rfl, rfl⟩) | (go_at_call 11; refine (refCounts _ _).mono ?_; rintro e w' ⟨rfl, rfl⟩) | (go_at_call 19; refine (refIs _ _).mono ?_; rintro e w' ⟨rfl, rfl⟩))
    go_ret
    exact ⟨ret_bool (by simp [rs, outS, ht, h2, h3]), rfl⟩
set_option maxHeartbeats 4000000 in
theorem refNext_s2 (ev : ByteArray) (w : World) (hs : ev.size ≤ 1000000000) (hn : decide (0 < cnt ev.data.toList 115 + cnt ev.data.toList 120) = false) :
    Calls Try.prog 28 #[.int .i64 2, .string ev, .int .u8 115] w fun e w' => e = .returned (.bool (rs 2 ev.data.toList)) ∧ w = w' := by
  have hq := cnt_le ev.data.toList 113
  have hr := cnt_le ev.data.toList 114
  have h15 := cnt_le ev.data.toList 115
  have h20 := cnt_le ev.data.toList 120
  have he := cnt_le ev.data.toList 101
  have hl : ev.data.toList.length ≤ 1000000000 := by simpa using hs
  have hv : isS 2 = true := by decide
  have hs2 : ev.size ≤ 9223372036854775806 := by omega
  cases ht : decide (0 < cnt ev.data.toList 101) <;> cases h2 : decide (c1 2 ≤ cnt ev.data.toList 113) <;> cases h3 : decide (c3 2 ≤ cnt ev.data.toList 114)
  all_goals
    go_enter Try.func28, Try.ntmps28
    go_wp2_with (first | (go_at_call 35; refine (countRef _ _ _ (by assumption)).mono ?_; rintro e w' ⟨rfl, rfl⟩) | (go_at_call 11; refine (refCounts _ _).mono ?_; rintro e w' ⟨rfl, rfl⟩) | (go_at_call 19; refine (refIs _ _).mono ?_; rintro e w' ⟨rfl, rfl⟩))
    go_ret
    exact ⟨ret_bool (by simp [rs, outS, ht, h2, h3]), rfl⟩
set_option maxHeartbeats 4000000 in
theorem refNext_s3 (ev : ByteArray) (w : World) (hs : ev.size ≤ 1000000000) (hn : decide (0 < cnt ev.data.toList 115 + cnt ev.data.toList 120) = false) :
    Calls Try.prog 28 #[.int .i64 3, .string ev, .int .u8 115] w fun e w' => e = .returned (.bool (rs 3 ev.data.toList)) ∧ w = w' := by
  have hq := cnt_le ev.data.toList 113
  have hr := cnt_le ev.data.toList 114
  have h15 := cnt_le ev.data.toList 115
  have h20 := cnt_le ev.data.toList 120
  have he := cnt_le ev.data.toList 101
  have hl : ev.data.toList.length ≤ 1000000000 := by simpa using hs
  have hv : isS 3 = true := by decide
  have hs2 : ev.size ≤ 9223372036854775806 := by omega
  cases ht : decide (0 < cnt ev.data.toList 101) <;> cases h2 : decide (c1 3 ≤ cnt ev.data.toList 113) <;> cases h3 : decide (c3 3 ≤ cnt ev.data.toList 114)
  all_goals
    go_enter Try.func28, Try.ntmps28
    go_wp2_with (first | (go_at_call 35; refine (countRef _ _ _ (by assumption)).mono ?_; rintro e w' ⟨rfl, rfl⟩) | (go_at_call 11; refine (refCounts _ _).mono ?_; rintro e w' ⟨rfl, rfl⟩) | (go_at_call 19; refine (refIs _ _).mono ?_; rintro e w' ⟨rfl, rfl⟩))
    go_ret
    exact ⟨ret_bool (by simp [rs, outS, ht, h2, h3]), rfl⟩
set_option maxHeartbeats 4000000 in
theorem refNext_s4 (ev : ByteArray) (w : World) (hs : ev.size ≤ 1000000000) (hn : decide (0 < cnt ev.data.toList 115 + cnt ev.data.toList 120) = false) :
    Calls Try.prog 28 #[.int .i64 4, .string ev, .int .u8 115] w fun e w' => e = .returned (.bool (rs 4 ev.data.toList)) ∧ w = w' := by
  have hq := cnt_le ev.data.toList 113
  have hr := cnt_le ev.data.toList 114
  have h15 := cnt_le ev.data.toList 115
  have h20 := cnt_le ev.data.toList 120
  have he := cnt_le ev.data.toList 101
  have hl : ev.data.toList.length ≤ 1000000000 := by simpa using hs
  have hv : isS 4 = true := by decide
  have hs2 : ev.size ≤ 9223372036854775806 := by omega
  cases ht : decide (0 < cnt ev.data.toList 101) <;> cases h2 : decide (c1 4 ≤ cnt ev.data.toList 113) <;> cases h3 : decide (c3 4 ≤ cnt ev.data.toList 114)
  all_goals
    go_enter Try.func28, Try.ntmps28
    go_wp2_with (first | (go_at_call 35; refine (countRef _ _ _ (by assumption)).mono ?_; rintro e w' ⟨rfl, rfl⟩) | (go_at_call 11; refine (refCounts _ _).mono ?_; rintro e w' ⟨rfl, rfl⟩) | (go_at_call 19; refine (refIs _ _).mono ?_; rintro e w' ⟨rfl, rfl⟩))
    go_ret
    exact ⟨ret_bool (by simp [rs, outS, ht, h2, h3]), rfl⟩
set_option maxHeartbeats 4000000 in
theorem refNext_o (s : Int) (ev : ByteArray) (c : Int) (w : World) (hs : ev.size ≤ 1000000000) (hv : isS s = true) (hn : decide (0 < cnt ev.data.toList 115 + cnt ev.data.toList 120) = false) (hc : ¬ (c = 113 ∨ c = 101 ∨ c = 114 ∨ c = 115)) :
    Calls Try.prog 28 #[.int .i64 s, .string ev, .int .u8 c] w fun e w' => e = .returned (.bool (c == 120)) ∧ w = w' := by
  have hq := cnt_le ev.data.toList 113
  have hr := cnt_le ev.data.toList 114
  have h15 := cnt_le ev.data.toList 115
  have h20 := cnt_le ev.data.toList 120
  have he := cnt_le ev.data.toList 101
  have hl : ev.data.toList.length ≤ 1000000000 := by simpa using hs
  have hs2 : ev.size ≤ 9223372036854775806 := by omega
  have e1 : (c == 113) = false := by simp; omega
  have e2 : (c == 101) = false := by simp; omega
  have e3 : (c == 114) = false := by simp; omega
  have e4 : (c == 115) = false := by simp; omega
  clear hc
  cases ht : decide (0 < cnt ev.data.toList 101)
  all_goals
    go_enter Try.func28, Try.ntmps28
    go_wp2_with (first | (go_at_call 35; refine (countRef _ _ _ (by assumption)).mono ?_; rintro e w' ⟨rfl, rfl⟩) | (go_at_call 11; refine (refCounts _ _).mono ?_; rintro e w' ⟨rfl, rfl⟩) | (go_at_call 19; refine (refIs _ _).mono ?_; rintro e w' ⟨rfl, rfl⟩))
    go_ret
    exact ⟨rfl, rfl⟩
theorem refNext (s : Int) (ev : ByteArray) (c : Int) (w : World) (hs : ev.size ≤ 1000000000) :
    Calls Try.prog 28 #[.int .i64 s, .string ev, .int .u8 c] w fun e w' => e = .returned (.bool (refOk s ev.data.toList c)) ∧ w = w' := by
  unfold refOk
  cases hv : isS s with
  | false => simpa using refNext_no s ev c w hs hv
  | true =>
    cases hn : decide (0 < cnt ev.data.toList 115 + cnt ev.data.toList 120) with
    | true => simpa using refNext_ended s ev c w hs hv hn
    | false =>
      by_cases h1 : c = 113
      · subst h1; simpa [rq] using refNext_q s ev w hs hv hn
      by_cases h2 : c = 101
      · subst h2; simpa [re] using refNext_e s ev w hs hv hn
      by_cases h3 : c = 114
      · subst h3; simpa [rr] using refNext_r s ev w hs hv hn
      by_cases h4 : c = 115
      · subst h4
        rcases isS_cases hv with rfl | rfl | rfl | rfl
        · simpa [rs] using refNext_s1 ev w hs hn
        · simpa [rs] using refNext_s2 ev w hs hn
        · simpa [rs] using refNext_s3 ev w hs hn
        · simpa [rs] using refNext_s4 ev w hs hn
      simpa [h1, h2, h3, h4] using refNext_o s ev c w hs hv hn (by omega)
end Go.Proofs.Ytngieldaebnffaa
