/- Frames: Check, the program's and the reference's. -/
import Derived.Test.YtpfkddbhpoeknaaGreatDoorRead3
import Derived.Test.YtpfkddbhpoeknaaGreatDoorShapes
namespace Go.Proofs.YtpfkddbhpoeknaaGreatDoor
open Go.RowKit

abbrev fcells (f : FrV) : Array Value := #[.int .i64 f.kind, .int .i64 f.strm, .int .i64 f.num, .string f.data]
abbrev FT : TypeId := 23
theorem streamed_any (k s n : Int) (d : ByteArray) (w : World) :
    Calls Tryz.prog 16 #[.agg #[.int .i64 k, .int .i64 s, .int .i64 n, .string d]] w fun e w' => e = .returned (.bool (strmB k s)) ∧ Below w.heap.size w w' := by
  go_enter Tryz.func16, Tryz.ntmps16
  go_wp2
  all_goals
    go_ret
    refine ⟨u_ret_bool ?_, (Below.refl _ _).alloc (Nat.le_refl _) _⟩
    unfold strmB
    rw [Bool.eq_iff_iff]
    (repeat' split) <;> simp_all <;> omega
theorem rstream_any (k s n : Int) (d : ByteArray) (w : World) :
    Calls Tryz.prog 20 #[.agg #[.int .i64 k, .int .i64 s, .int .i64 n, .string d]] w fun e w' => e = .returned (.bool (strmB k s)) ∧ Below w.heap.size w w' := by
  go_enter Tryz.func20, Tryz.ntmps20
  go_wp2
  all_goals
    go_ret
    refine ⟨u_ret_bool ?_, (Below.refl _ _).alloc (Nat.le_refl _) _⟩
    unfold strmB
    rw [Bool.eq_iff_iff]
    (repeat' split) <;> simp_all <;> omega
theorem filled_any (k s n : Int) (d : ByteArray) (w : World) :
    Calls Tryz.prog 18 #[.agg #[.int .i64 k, .int .i64 s, .int .i64 n, .string d]] w fun e w' => e = .returned (.bool (fillB k d)) ∧ Below w.heap.size w w' := by
  have hz : (d.toList.isEmpty) = decide (d.size = 0) := by
    by_cases h : d.size = 0
    · rw [(isE_true h).1, decide_eq_true h]
    · rw [(isE_false h).1, decide_eq_false h]
  have hz2 : (d.toList == []) = decide (d.size = 0) := by rw [← hz]; cases d.toList <;> rfl
  go_enter Tryz.func18, Tryz.ntmps18
  go_wp2
  all_goals
    go_ret
    refine ⟨u_ret_bool ?_, (Below.refl _ _).alloc (Nat.le_refl _) _⟩
    unfold fillB
    simp_all
theorem shape_any (n : Int) (w : World) :
    Calls Tryz.prog 42 #[.int .i64 n] w fun e w' => e = .returned (.bool (decide (1 ≤ n ∧ n ≤ 4))) ∧ w = w' := by
  have HC := Lib.hid (fun w => counts n w)
  have h2 : (c2 n != 0) = decide (1 ≤ n ∧ n ≤ 4) := by
    unfold c2 isS inS
    rw [Bool.eq_iff_iff]
    (repeat' split) <;> simp_all <;> omega
  have H2 := Lib.hid h2; clear h2
  generalize c1 n = x1 at *
  generalize c2 n = x2 at *
  generalize c3 n = x3 at *
  generalize c4 n = x4 at *
  go_enter Tryz.func42, Tryz.ntmps42
  go_wp2_with fail
  refine (HC.out _).mono ?_; rintro e w1 ⟨rfl, rfl⟩
  go_wp2_with fail
  go_ret
  exact ⟨u_ret_bool (by rw [← H2.out]), rfl⟩
theorem bool_args {f : FuncId} {args : Array Value} {b : Bool} {P : Bool} {w : World} (h : P = b) (hc : Calls Tryz.prog f args w fun e w' => e = .returned (.bool P) ∧ w = w') :
    Calls Tryz.prog f args w fun e w' => e = .returned (.bool b) ∧ w = w' := by subst h; exact hc
theorem bool_argsB {f : FuncId} {args : Array Value} {b : Bool} {P : Bool} {w : World} (h : P = b) (hc : Calls Tryz.prog f args w fun e w' => e = .returned (.bool P) ∧ Below w.heap.size w w') :
    Calls Tryz.prog f args w fun e w' => e = .returned (.bool b) ∧ Below w.heap.size w w' := by subst h; exact hc
theorem rnum_any (k s n : Int) (d : ByteArray) (w : World) :
    Calls Tryz.prog 21 #[.agg #[.int .i64 k, .int .i64 s, .int .i64 n, .string d]] w fun e w' => e = .returned (.bool (numB k n)) ∧ Below w.heap.size w w' := by
  go_enter Tryz.func21, Tryz.ntmps21
  go_wp2
  all_goals
    go_ret
    refine ⟨u_ret_bool ?_, (Below.refl _ _).alloc (Nat.le_refl _) _⟩
    unfold numB
    rw [Bool.eq_iff_iff]
    (repeat' split) <;> simp_all <;> omega
theorem numbered_any (k s n : Int) (d : ByteArray) (w : World) :
    Calls Tryz.prog 17 #[.agg #[.int .i64 k, .int .i64 s, .int .i64 n, .string d]] w fun e w' => e = .returned (.bool (numB k n)) ∧ Below w.heap.size w w' := by
  by_cases h1 : k = 1
  · subst h1
    have HS := Lib.hid (fun w => shape_any n w)
    go_enter Tryz.func17, Tryz.ntmps17
    go_wp2_with fail
    refine (HS.out _).mono ?_; rintro e w1 ⟨rfl, rfl⟩
    go_wp2_with fail
    go_ret
    exact ⟨u_ret_bool (by unfold numB; rw [if_pos rfl]; simp), (Below.refl _ _).alloc (Nat.le_refl _) _⟩
  · have q1 := (byte_eq h1).1
    go_enter Tryz.func17, Tryz.ntmps17
    go_wp2
    all_goals
      go_ret
      refine ⟨u_ret_bool ?_, (Below.refl _ _).alloc (Nat.le_refl _) _⟩
      unfold numB
      rw [Bool.eq_iff_iff]
      (repeat' split) <;> simp_all <;> omega
end Go.Proofs.YtpfkddbhpoeknaaGreatDoor
