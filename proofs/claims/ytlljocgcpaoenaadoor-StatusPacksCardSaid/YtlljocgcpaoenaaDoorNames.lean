/- Codes and names: status.Name, status.Code and the reference's. -/
import Derived.Test.YtlljocgcpaoenaaDoorG42
import Derived.Test.YtlljocgcpaoenaaDoorStat
namespace Go.Proofs.YtlljocgcpaoenaaDoor
open Go.RowKit

def nmI (c : Int) : List UInt8 := if 0 ≤ c ∧ c < 14 then nm c.toNat else []
theorem namesV_at (k : Nat) (h : k < 14) : namesV[k]? = some (.string ⟨(nm k).toArray⟩) := by simp [namesV, h]
theorem nmI_nat (k : Nat) (h : k < 14) : nmI k = nm k := by unfold nmI; rw [if_pos (by omega)]; simp
theorem nmI_out (c : Int) (h : c < 0 ∨ 14 ≤ c) : nmI c = [] := by unfold nmI; rw [if_neg (by omega)]
theorem name_any (c : Int) (w : World) (hg : Gs w) :
    Calls Tryd.prog 15 #[.int .i64 c] w fun e w' => e = .returned (.string ⟨(nmI c).toArray⟩) ∧ w = w' := by
  by_cases h1 : c < 0
  · have HR := Lib.hid (nmI_out c (.inl h1))
    go_enter Tryd.func15, Tryd.ntmps15
    go_wp2_with fail
    go_ret
    exact ⟨v_ret_str (by rw [HR.out]), rfl⟩
  by_cases h2 : 14 ≤ c
  · have HR := Lib.hid (nmI_out c (.inr h2))
    go_enter Tryd.func15, Tryd.ntmps15
    go_wp2_with fail
    go_ret
    exact ⟨v_ret_str (by rw [HR.out]), rfl⟩
  · obtain ⟨k, rfl⟩ : ∃ k : Nat, c = k := ⟨c.toNat, by omega⟩
    have hk : k < 14 := by omega
    have HR := Lib.hid (nmI_nat k hk)
    have hc := row_cell hg.names k (namesV_at k hk)
    clear h1 h2
    go_enter Tryd.func15, Tryd.ntmps15
    go_wp2_with fail
    go_ret
    exact ⟨v_ret_str (by rw [HR.out]), rfl⟩
set_option maxHeartbeats 1000000 in
theorem refName_in (k : Nat) (hk : k < 14) (w : World) :
    Calls Tryd.prog 16 #[.int .i64 k] w fun e w' => e = .returned (.string ⟨(nm k).toArray⟩) ∧ w = w' := by
  have hc : k = 0 ∨ k = 1 ∨ k = 2 ∨ k = 3 ∨ k = 4 ∨ k = 5 ∨ k = 6 ∨ k = 7 ∨ k = 8 ∨ k = 9 ∨ k = 10 ∨ k = 11 ∨ k = 12 ∨ k = 13 := by omega
  rcases hc with rfl | rfl | rfl | rfl | rfl | rfl | rfl | rfl | rfl | rfl | rfl | rfl | rfl | rfl
  all_goals
    go_enter Tryd.func16, Tryd.ntmps16
    go_wp2_with fail
    go_ret
    exact ⟨rfl, rfl⟩
set_option maxHeartbeats 1000000 in
theorem refName_out (c : Int) (hc : c < 0 ∨ 14 ≤ c) (w : World) :
    Calls Tryd.prog 16 #[.int .i64 c] w fun e w' => e = .returned (.string ⟨#[]⟩) ∧ w = w' := by
  have q0 := (byte_eq (show c ≠ 0 by omega)).1
  have q1 := (byte_eq (show c ≠ 1 by omega)).1
  have q2 := (byte_eq (show c ≠ 2 by omega)).1
  have q3 := (byte_eq (show c ≠ 3 by omega)).1
  have q4 := (byte_eq (show c ≠ 4 by omega)).1
  have q5 := (byte_eq (show c ≠ 5 by omega)).1
  have q6 := (byte_eq (show c ≠ 6 by omega)).1
  have q7 := (byte_eq (show c ≠ 7 by omega)).1
  have q8 := (byte_eq (show c ≠ 8 by omega)).1
  have q9 := (byte_eq (show c ≠ 9 by omega)).1
  have q10 := (byte_eq (show c ≠ 10 by omega)).1
  have q11 := (byte_eq (show c ≠ 11 by omega)).1
  have q12 := (byte_eq (show c ≠ 12 by omega)).1
  have q13 := (byte_eq (show c ≠ 13 by omega)).1
  clear hc
  go_enter Tryd.func16, Tryd.ntmps16
  go_wp2_with fail
  go_ret
  exact ⟨rfl, rfl⟩
theorem refName_any (c : Int) (w : World) :
    Calls Tryd.prog 16 #[.int .i64 c] w fun e w' => e = .returned (.string ⟨(nmI c).toArray⟩) ∧ w = w' := by
  by_cases h : c < 0 ∨ 14 ≤ c
  · rw [nmI_out c h]; exact refName_out c h w
  · obtain ⟨k, rfl⟩ : ∃ k : Nat, c = k := ⟨c.toNat, by omega⟩
    rw [nmI_nat k (by omega)]; exact refName_in k (by omega) w
def codeK : Nat → Nat → List UInt8 → Nat × Int
  | 0, _, _ => (0, 8)
  | f + 1, k, n => if nm k = n then (k, 0) else codeK f (k + 1) n
def codeS (n : List UInt8) : Nat × Int := codeK 14 0 n
theorem namesV_idx0 (w : World) : (Instr.index 42 (.agg namesV) (.int .i64 0)).run Tryd.prog w = .ok (.string ⟨(nm 0).toArray⟩) w := by kernel_rfl
theorem namesV_idx1 (w : World) : (Instr.index 42 (.agg namesV) (.int .i64 1)).run Tryd.prog w = .ok (.string ⟨(nm 1).toArray⟩) w := by kernel_rfl
theorem namesV_idx2 (w : World) : (Instr.index 42 (.agg namesV) (.int .i64 2)).run Tryd.prog w = .ok (.string ⟨(nm 2).toArray⟩) w := by kernel_rfl
theorem namesV_idx3 (w : World) : (Instr.index 42 (.agg namesV) (.int .i64 3)).run Tryd.prog w = .ok (.string ⟨(nm 3).toArray⟩) w := by kernel_rfl
theorem namesV_idx4 (w : World) : (Instr.index 42 (.agg namesV) (.int .i64 4)).run Tryd.prog w = .ok (.string ⟨(nm 4).toArray⟩) w := by kernel_rfl
theorem namesV_idx5 (w : World) : (Instr.index 42 (.agg namesV) (.int .i64 5)).run Tryd.prog w = .ok (.string ⟨(nm 5).toArray⟩) w := by kernel_rfl
theorem namesV_idx6 (w : World) : (Instr.index 42 (.agg namesV) (.int .i64 6)).run Tryd.prog w = .ok (.string ⟨(nm 6).toArray⟩) w := by kernel_rfl
theorem namesV_idx7 (w : World) : (Instr.index 42 (.agg namesV) (.int .i64 7)).run Tryd.prog w = .ok (.string ⟨(nm 7).toArray⟩) w := by kernel_rfl
theorem namesV_idx8 (w : World) : (Instr.index 42 (.agg namesV) (.int .i64 8)).run Tryd.prog w = .ok (.string ⟨(nm 8).toArray⟩) w := by kernel_rfl
theorem namesV_idx9 (w : World) : (Instr.index 42 (.agg namesV) (.int .i64 9)).run Tryd.prog w = .ok (.string ⟨(nm 9).toArray⟩) w := by kernel_rfl
theorem namesV_idx10 (w : World) : (Instr.index 42 (.agg namesV) (.int .i64 10)).run Tryd.prog w = .ok (.string ⟨(nm 10).toArray⟩) w := by kernel_rfl
theorem namesV_idx11 (w : World) : (Instr.index 42 (.agg namesV) (.int .i64 11)).run Tryd.prog w = .ok (.string ⟨(nm 11).toArray⟩) w := by kernel_rfl
theorem namesV_idx12 (w : World) : (Instr.index 42 (.agg namesV) (.int .i64 12)).run Tryd.prog w = .ok (.string ⟨(nm 12).toArray⟩) w := by kernel_rfl
theorem namesV_idx13 (w : World) : (Instr.index 42 (.agg namesV) (.int .i64 13)).run Tryd.prog w = .ok (.string ⟨(nm 13).toArray⟩) w := by kernel_rfl
theorem namesV_idx (k : Nat) (h : k < 14) (w : World) : (Instr.index 42 (.agg namesV) (.int .i64 k)).run Tryd.prog w = .ok (.string ⟨(nm k).toArray⟩) w := by
  have hc : k = 0 ∨ k = 1 ∨ k = 2 ∨ k = 3 ∨ k = 4 ∨ k = 5 ∨ k = 6 ∨ k = 7 ∨ k = 8 ∨ k = 9 ∨ k = 10 ∨ k = 11 ∨ k = 12 ∨ k = 13 := by omega
  rcases hc with rfl | rfl | rfl | rfl | rfl | rfl | rfl | rfl | rfl | rfl | rfl | rfl | rfl | rfl
  · exact namesV_idx0 w
  · exact namesV_idx1 w
  · exact namesV_idx2 w
  · exact namesV_idx3 w
  · exact namesV_idx4 w
  · exact namesV_idx5 w
  · exact namesV_idx6 w
  · exact namesV_idx7 w
  · exact namesV_idx8 w
  · exact namesV_idx9 w
  · exact namesV_idx10 w
  · exact namesV_idx11 w
  · exact namesV_idx12 w
  · exact namesV_idx13 w
theorem infoNames : (Tryd.prog.info? 42).map (·.size) = some namesV.size := by kernel_rfl
theorem v_ret2 {a a' b b' : Int} (h1 : a = a') (h2 : b = b') : Ending.returned (.tuple #[.int .i64 a, .int .i64 b]) = .returned (.tuple #[.int .i64 a', .int .i64 b']) := by rw [h1, h2]
theorem str_eq (l : List UInt8) (s : ByteArray) : (l == s.toList) = decide (l = s.data.toList) := by rw [ByteArray.toList_eq, Bool.eq_iff_iff]; simp
set_option maxRecDepth 100000 in
theorem code_any (s : ByteArray) (w : World) (hg : Gs w) :
    Calls Tryd.prog 13 #[.string s] w fun e w' => e = .returned (.tuple #[.int .i64 ((codeS s.data.toList).1 : Nat), .int .i64 (codeS s.data.toList).2]) ∧ w = w' := by
  obtain ⟨ty, fz, hn⟩ := hg.names
  have HN := Lib.hid hn; clear hn
  have H0 := Lib.hid (show codeS s.data.toList = codeK 14 0 s.data.toList from rfl)
  generalize codeS s.data.toList = R at *
  go_enter Tryd.func13, Tryd.ntmps13
  go_wp2_with (refine wpList_load_row rfl _ _ rfl 0 rfl ty namesV fz (.array 14 9) HN.out Tryd.underlying42 rfl infoNames ?_)
  go_loop [7] (fun x => ∃ k : Nat, k ≤ 14 ∧ x = .int .i64 k ∧ R = codeK (14 - k) k s.data.toList) (fun x => 14 - (intOf x).toNat)
  case atStart => exact ⟨0, by omega, rfl, H0.out⟩
  case round =>
    obtain ⟨k, hk, rfl, hx⟩ := hrel
    by_cases hlt : k < 14
    · have hstep : R = if nm k = s.data.toList then (k, 0) else codeK (14 - (k + 1)) (k + 1) s.data.toList := by
        rw [hx, show 14 - k = (14 - (k + 1)) + 1 by omega]; rfl
      have hd := str_eq (nm k) s
      have hidx := fun w => namesV_idx k hlt w
      by_cases he : nm k = s.data.toList
      · have HR := Lib.hid (show R = (k, 0) by rw [hstep, if_pos he])
        rw [decide_eq_true he] at hd
        clear hstep hx he
        go_wp2_with fail
        go_ret2
        exact ⟨v_ret2 (by rw [HR.out]) (by rw [HR.out]), rfl⟩
      · have HR := Lib.hid (show R = codeK (14 - (k + 1)) (k + 1) s.data.toList by rw [hstep, if_neg he])
        rw [decide_eq_false he] at hd
        clear hstep hx he
        go_wp2_with fail
        go_round
        case rel => exact ⟨k + 1, by omega, by go_num, HR.out⟩
        case measure => simp [intOf]; omega
    · have HR := Lib.hid (show R = (0, 8) by rw [hx, show 14 - k = 0 by omega]; rfl)
      clear hx
      go_wp2_with fail
      go_ret2
      exact ⟨v_ret2 (by rw [HR.out]; rfl) (by rw [HR.out]), rfl⟩
set_option maxRecDepth 100000 in
theorem refCode_any (s : ByteArray) (w : World) :
    Calls Tryd.prog 14 #[.string s] w fun e w' => e = .returned (.tuple #[.int .i64 ((codeS s.data.toList).1 : Nat), .int .i64 (codeS s.data.toList).2]) ∧ w = w' := by
  have H0 := Lib.hid (show codeS s.data.toList = codeK 14 0 s.data.toList from rfl)
  generalize codeS s.data.toList = R at *
  go_enter Tryd.func14, Tryd.ntmps14
  go_wp2
  go_loop [4] (fun x => ∃ k : Nat, k ≤ 14 ∧ x = .int .i64 k ∧ R = codeK (14 - k) k s.data.toList) (fun x => 14 - (intOf x).toNat)
  case atStart => exact ⟨0, by omega, rfl, H0.out⟩
  case round =>
    obtain ⟨k, hk, rfl, hx⟩ := hrel
    by_cases hlt : k < 14
    · have hstep : R = if nm k = s.data.toList then (k, 0) else codeK (14 - (k + 1)) (k + 1) s.data.toList := by
        rw [hx, show 14 - k = (14 - (k + 1)) + 1 by omega]; rfl
      have hd := str_eq (nm k) s
      have HC := Lib.hid (fun w => refName_in k hlt w)
      by_cases he : nm k = s.data.toList
      · have HR := Lib.hid (show R = (k, 0) by rw [hstep, if_pos he])
        rw [decide_eq_true he] at hd
        clear hstep hx he
        go_wp2_with fail
        refine (HC.out _).mono ?_; rintro e w1 ⟨rfl, rfl⟩
        go_wp2_with fail
        go_ret2
        exact ⟨v_ret2 (by rw [HR.out]) (by rw [HR.out]), rfl⟩
      · have HR := Lib.hid (show R = codeK (14 - (k + 1)) (k + 1) s.data.toList by rw [hstep, if_neg he])
        rw [decide_eq_false he] at hd
        clear hstep hx he
        go_wp2_with fail
        refine (HC.out _).mono ?_; rintro e w1 ⟨rfl, rfl⟩
        go_wp2_with fail
        go_round
        case rel => exact ⟨k + 1, by omega, by go_num, HR.out⟩
        case measure => simp [intOf]; omega
    · have HR := Lib.hid (show R = (0, 8) by rw [hx, show 14 - k = 0 by omega]; rfl)
      clear hx
      go_wp2_with fail
      go_ret2
      exact ⟨v_ret2 (by rw [HR.out]; rfl) (by rw [HR.out]), rfl⟩
end Go.Proofs.YtlljocgcpaoenaaDoor
