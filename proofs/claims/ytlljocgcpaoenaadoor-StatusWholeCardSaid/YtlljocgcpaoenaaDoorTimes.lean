/- Deadlines: Earlier, Left and After, the program's and the reference's. -/
import Derived.Test.YtlljocgcpaoenaaDoorNames
namespace Go.Proofs.YtlljocgcpaoenaaDoor
open Go.RowKit

def earS (a b : Int) : Int := if a < 1 then (if b < 1 then 0 else b) else if b < 1 then a else if a < b then a else b
def leftS (now d : Int) : Int := if d < 1 then -1 else if d ≤ now then 0 else if now < 0 then d else d - now
def bndS (n : Int) : Int := if n < 0 then 0 else if 1099511627776 < n then 1099511627776 else n
def aftS (now span : Int) : Int := bndS (bndS now + bndS span)
theorem ear_any (a b : Int) (w : World) : Calls Tryd.prog 29 #[.int .i64 a, .int .i64 b] w fun e w' => e = .returned (.int .i64 (earS a b)) ∧ w = w' := by
  by_cases h1 : a < 1
  · by_cases h2 : b < 1
    · have HR := Lib.hid (show earS a b = 0 by unfold earS; rw [if_pos h1, if_pos h2])
      go_enter Tryd.func29, Tryd.ntmps29
      go_wp2_with fail
      go_ret
      exact ⟨v_ret_int HR.out.symm, rfl⟩
    · have HR := Lib.hid (show earS a b = b by unfold earS; rw [if_pos h1, if_neg h2])
      go_enter Tryd.func29, Tryd.ntmps29
      go_wp2_with fail
      go_ret
      exact ⟨v_ret_int HR.out.symm, rfl⟩
  · by_cases h2 : b < 1
    · have HR := Lib.hid (show earS a b = a by unfold earS; rw [if_neg h1, if_pos h2])
      go_enter Tryd.func29, Tryd.ntmps29
      go_wp2_with fail
      go_ret
      exact ⟨v_ret_int HR.out.symm, rfl⟩
    · have HR := Lib.hid (show earS a b = min a b by unfold earS; rw [if_neg h1, if_neg h2]; split <;> omega)
      go_enter Tryd.func29, Tryd.ntmps29
      go_wp2_with fail
      go_ret
      exact ⟨v_ret_int HR.out.symm, rfl⟩
theorem refEar_any (a b : Int) (w : World) : Calls Tryd.prog 30 #[.int .i64 a, .int .i64 b] w fun e w' => e = .returned (.int .i64 (earS a b)) ∧ w = w' := by
  by_cases h1 : a < 1
  · by_cases h2 : b < 1
    · have HR := Lib.hid (show earS a b = 0 by unfold earS; rw [if_pos h1, if_pos h2])
      go_enter Tryd.func30, Tryd.ntmps30
      go_wp2_with fail
      go_ret
      exact ⟨v_ret_int HR.out.symm, rfl⟩
    · have HR := Lib.hid (show earS a b = b by unfold earS; rw [if_pos h1, if_neg h2])
      go_enter Tryd.func30, Tryd.ntmps30
      go_wp2_with fail
      go_ret
      exact ⟨v_ret_int HR.out.symm, rfl⟩
  · by_cases h2 : b < 1
    · have HR := Lib.hid (show earS a b = a by unfold earS; rw [if_neg h1, if_pos h2])
      go_enter Tryd.func30, Tryd.ntmps30
      go_wp2_with fail
      go_ret
      exact ⟨v_ret_int HR.out.symm, rfl⟩
    · by_cases h3 : a < b
      · have HR := Lib.hid (show earS a b = a by unfold earS; rw [if_neg h1, if_neg h2, if_pos h3])
        go_enter Tryd.func30, Tryd.ntmps30
        go_wp2_with fail
        go_ret
        exact ⟨v_ret_int HR.out.symm, rfl⟩
      · have HR := Lib.hid (show earS a b = b by unfold earS; rw [if_neg h1, if_neg h2, if_neg h3])
        go_enter Tryd.func30, Tryd.ntmps30
        go_wp2_with fail
        go_ret
        exact ⟨v_ret_int HR.out.symm, rfl⟩
theorem left_any (n d : Int) (w : World) (hd : d ≤ 9223372036854775807) : Calls Tryd.prog 31 #[.int .i64 n, .int .i64 d] w fun e w' => e = .returned (.int .i64 (leftS n d)) ∧ w = w' := by
  by_cases h1 : d < 1
  · have HR := Lib.hid (show leftS n d = -1 by unfold leftS; rw [if_pos h1])
    go_enter Tryd.func31, Tryd.ntmps31
    go_wp2_with fail
    go_ret
    exact ⟨v_ret_int HR.out.symm, rfl⟩
  by_cases h2 : d ≤ n
  · have HR := Lib.hid (show leftS n d = 0 by unfold leftS; rw [if_neg h1, if_pos h2])
    go_enter Tryd.func31, Tryd.ntmps31
    go_wp2_with fail
    go_ret
    exact ⟨v_ret_int HR.out.symm, rfl⟩
  · by_cases h3 : n < 0
    · have HR := Lib.hid (show leftS n d = d by unfold leftS; rw [if_neg h1, if_neg h2, if_pos h3])
      have hm : max n 0 = 0 := by omega
      go_enter Tryd.func31, Tryd.ntmps31
      go_wp2_with fail
      go_ret
      exact ⟨v_ret_int (by rw [HR.out]), rfl⟩
    · have HR := Lib.hid (show leftS n d = d - n by unfold leftS; rw [if_neg h1, if_neg h2, if_neg h3])
      have hm : max n 0 = n := by omega
      go_enter Tryd.func31, Tryd.ntmps31
      go_wp2_with fail
      go_ret
      exact ⟨v_ret_int (by rw [HR.out]), rfl⟩
theorem refLeft_any (n d : Int) (w : World) (hd : d ≤ 9223372036854775807) : Calls Tryd.prog 32 #[.int .i64 n, .int .i64 d] w fun e w' => e = .returned (.int .i64 (leftS n d)) ∧ w = w' := by
  by_cases h1 : d < 1
  · have HR := Lib.hid (show leftS n d = -1 by unfold leftS; rw [if_pos h1])
    go_enter Tryd.func32, Tryd.ntmps32
    go_wp2_with fail
    go_ret
    exact ⟨v_ret_int HR.out.symm, rfl⟩
  by_cases h2 : d ≤ n
  · have HR := Lib.hid (show leftS n d = 0 by unfold leftS; rw [if_neg h1, if_pos h2])
    go_enter Tryd.func32, Tryd.ntmps32
    go_wp2_with fail
    go_ret
    exact ⟨v_ret_int HR.out.symm, rfl⟩
  · by_cases h3 : n < 0
    · have HR := Lib.hid (show leftS n d = d by unfold leftS; rw [if_neg h1, if_neg h2, if_pos h3])
      go_enter Tryd.func32, Tryd.ntmps32
      go_wp2_with fail
      go_ret
      exact ⟨v_ret_int HR.out.symm, rfl⟩
    · have HR := Lib.hid (show leftS n d = d - n by unfold leftS; rw [if_neg h1, if_neg h2, if_neg h3])
      go_enter Tryd.func32, Tryd.ntmps32
      go_wp2_with fail
      go_ret
      exact ⟨v_ret_int HR.out.symm, rfl⟩
theorem bnd_any (n : Int) (w : World) : Calls Tryd.prog 50 #[.int .i64 n] w fun e w' => e = .returned (.int .i64 (bndS n)) ∧ w = w' := by
  by_cases h1 : n < 0
  · have HR := Lib.hid (show bndS n = 0 by unfold bndS; rw [if_pos h1])
    go_enter Tryd.func50, Tryd.ntmps50
    go_wp2_with fail
    go_ret
    exact ⟨v_ret_int HR.out.symm, rfl⟩
  by_cases h2 : 1099511627776 < n
  · have HR := Lib.hid (show bndS n = 1099511627776 by unfold bndS; rw [if_neg h1, if_pos h2])
    go_enter Tryd.func50, Tryd.ntmps50
    go_wp2_with fail
    go_ret
    exact ⟨v_ret_int HR.out.symm, rfl⟩
  · have HR := Lib.hid (show bndS n = n by unfold bndS; rw [if_neg h1, if_neg h2])
    go_enter Tryd.func50, Tryd.ntmps50
    go_wp2_with fail
    go_ret
    exact ⟨v_ret_int HR.out.symm, rfl⟩
theorem bndS_bd (n : Int) : 0 ≤ bndS n ∧ bndS n ≤ 1099511627776 := by unfold bndS; (repeat' split) <;> omega
theorem bndS_eq (n : Int) : min (max n 0) 1099511627776 = bndS n := by unfold bndS; (repeat' split) <;> omega
theorem refAft_any (a b : Int) (w : World) : Calls Tryd.prog 34 #[.int .i64 a, .int .i64 b] w fun e w' => e = .returned (.int .i64 (aftS a b)) ∧ w = w' := by
  have HA := Lib.hid (fun w => bnd_any a w)
  have HB := Lib.hid (fun w => bnd_any b w)
  have HC := Lib.hid (fun w => bnd_any (bndS a + bndS b) w)
  obtain ⟨h1, h2⟩ := bndS_bd a
  obtain ⟨h3, h4⟩ := bndS_bd b
  have HR := Lib.hid (show aftS a b = bndS (bndS a + bndS b) from rfl)
  generalize bndS a = x at *
  generalize bndS b = y at *
  generalize bndS (x + y) = z at *
  go_enter Tryd.func34, Tryd.ntmps34
  go_wp2_with fail
  refine (HA.out _).mono ?_; rintro e w2 ⟨rfl, rfl⟩
  go_wp2_with fail
  refine (HB.out _).mono ?_; rintro e w2 ⟨rfl, rfl⟩
  go_wp2_with fail
  refine (HC.out _).mono ?_; rintro e w2 ⟨rfl, rfl⟩
  go_wp2_with fail
  go_ret
  exact ⟨v_ret_int HR.out.symm, rfl⟩
theorem aft_any (a b : Int) (w : World) : Calls Tryd.prog 33 #[.int .i64 a, .int .i64 b] w fun e w' => e = .returned (.int .i64 (aftS a b)) ∧ w = w' := by
  have ha := bndS_eq a
  have hb := bndS_eq b
  obtain ⟨h1, h2⟩ := bndS_bd a
  obtain ⟨h3, h4⟩ := bndS_bd b
  have HR := Lib.hid (show aftS a b = min (bndS a + bndS b) 1099511627776 by
    have : aftS a b = bndS (bndS a + bndS b) := rfl
    rw [this, ← bndS_eq]; congr 1; omega)
  generalize bndS a = x at *
  generalize bndS b = y at *
  go_enter Tryd.func33, Tryd.ntmps33
  go_wp2_with fail
  go_ret
  exact ⟨v_ret_int HR.out.symm, rfl⟩
end Go.Proofs.YtlljocgcpaoenaaDoor
