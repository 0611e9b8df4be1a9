/- The reference's Of. -/
import Derived.Test.YtlljocgcpaoenaaDoorOf
namespace Go.Proofs.YtlljocgcpaoenaaDoor
open Go.RowKit

theorem ofT_ne {e : Int} (h : e ≠ 0) : ofT e = ⟨(em e).toArray⟩ := by unfold ofT; rw [if_neg h]
set_option maxRecDepth 100000 in
set_option maxHeartbeats 1000000 in
theorem refOf_1 (w : World) :
    Calls Tryd.prog 24 #[.int .i64 1] w fun r w' => r = .returned (.agg #[.int .i64 (rc 1), .string (ofT 1)]) ∧ Below w.heap.size w w' := by
  have HE := Lib.hid (fun w => error_any 1 w)
  have HT := Lib.hid (show ofT 1 = ⟨(em 1).toArray⟩ from ofT_ne (by decide))
  have HR := Lib.hid (show rc 1 = 2 by rfl)
  generalize em 1 = E at *
  go_enter Tryd.func24, Tryd.ntmps24
  go_wp2_with fail
  refine (HE.out _).mono ?_; rintro r w1 ⟨rfl, hb1⟩
  have K1 := (Bk.new w 29 #[.int .i64 0, .string ⟨#[]⟩]).keep hb1
  have hlt : w.heap.size < w1.heap.size := K1.here
  have c1 : w1.cell? ⟨w.heap.size, 0, none⟩ = some (.int .i64 0) := K1.at_ 0 rfl
  have c2 : w1.cell? ⟨w.heap.size, 1, none⟩ = some (.string ⟨#[]⟩) := K1.at_ 1 rfl
  have f0 := K1.free
  have HK := Lib.hid K1
  have HB := Lib.hid (((Below.refl w.heap.size w).alloc (Nat.le_refl _) _).trans (hb1.mono (by simp)))
  clear K1 hb1
  go_wp2_with fail
  exact bodyPost_ret (res_c Tryd.results24 _ rfl (((HK.out.put 0 _).put 1 _).more _) aggSt) rfl ⟨by rw [HT.out, HR.out]; rfl, ((HB.out.setCell (Nat.le_refl _) _).setCell (Nat.le_refl _) _).alloc (by simp; omega) _⟩
set_option maxRecDepth 100000 in
set_option maxHeartbeats 1000000 in
theorem refOf_2 (w : World) :
    Calls Tryd.prog 24 #[.int .i64 2] w fun r w' => r = .returned (.agg #[.int .i64 (rc 2), .string (ofT 2)]) ∧ Below w.heap.size w w' := by
  have HE := Lib.hid (fun w => error_any 2 w)
  have HT := Lib.hid (show ofT 2 = ⟨(em 2).toArray⟩ from ofT_ne (by decide))
  have HR := Lib.hid (show rc 2 = 2 by rfl)
  generalize em 2 = E at *
  go_enter Tryd.func24, Tryd.ntmps24
  go_wp2_with fail
  refine (HE.out _).mono ?_; rintro r w1 ⟨rfl, hb1⟩
  have K1 := (Bk.new w 29 #[.int .i64 0, .string ⟨#[]⟩]).keep hb1
  have hlt : w.heap.size < w1.heap.size := K1.here
  have c1 : w1.cell? ⟨w.heap.size, 0, none⟩ = some (.int .i64 0) := K1.at_ 0 rfl
  have c2 : w1.cell? ⟨w.heap.size, 1, none⟩ = some (.string ⟨#[]⟩) := K1.at_ 1 rfl
  have f0 := K1.free
  have HK := Lib.hid K1
  have HB := Lib.hid (((Below.refl w.heap.size w).alloc (Nat.le_refl _) _).trans (hb1.mono (by simp)))
  clear K1 hb1
  go_wp2_with fail
  exact bodyPost_ret (res_c Tryd.results24 _ rfl (((HK.out.put 0 _).put 1 _).more _) aggSt) rfl ⟨by rw [HT.out, HR.out]; rfl, ((HB.out.setCell (Nat.le_refl _) _).setCell (Nat.le_refl _) _).alloc (by simp; omega) _⟩
set_option maxRecDepth 100000 in
set_option maxHeartbeats 1000000 in
theorem refOf_3 (w : World) :
    Calls Tryd.prog 24 #[.int .i64 3] w fun r w' => r = .returned (.agg #[.int .i64 (rc 3), .string (ofT 3)]) ∧ Below w.heap.size w w' := by
  have HE := Lib.hid (fun w => error_any 3 w)
  have HT := Lib.hid (show ofT 3 = ⟨(em 3).toArray⟩ from ofT_ne (by decide))
  have HR := Lib.hid (show rc 3 = 7 by rfl)
  generalize em 3 = E at *
  go_enter Tryd.func24, Tryd.ntmps24
  go_wp2_with fail
  refine (HE.out _).mono ?_; rintro r w1 ⟨rfl, hb1⟩
  have K1 := (Bk.new w 29 #[.int .i64 0, .string ⟨#[]⟩]).keep hb1
  have hlt : w.heap.size < w1.heap.size := K1.here
  have c1 : w1.cell? ⟨w.heap.size, 0, none⟩ = some (.int .i64 0) := K1.at_ 0 rfl
  have c2 : w1.cell? ⟨w.heap.size, 1, none⟩ = some (.string ⟨#[]⟩) := K1.at_ 1 rfl
  have f0 := K1.free
  have HK := Lib.hid K1
  have HB := Lib.hid (((Below.refl w.heap.size w).alloc (Nat.le_refl _) _).trans (hb1.mono (by simp)))
  clear K1 hb1
  go_wp2_with fail
  exact bodyPost_ret (res_c Tryd.results24 _ rfl (((HK.out.put 0 _).put 1 _).more _) aggSt) rfl ⟨by rw [HT.out, HR.out]; rfl, ((HB.out.setCell (Nat.le_refl _) _).setCell (Nat.le_refl _) _).alloc (by simp; omega) _⟩
set_option maxRecDepth 100000 in
set_option maxHeartbeats 1000000 in
theorem refOf_4 (w : World) :
    Calls Tryd.prog 24 #[.int .i64 4] w fun r w' => r = .returned (.agg #[.int .i64 (rc 4), .string (ofT 4)]) ∧ Below w.heap.size w w' := by
  have HE := Lib.hid (fun w => error_any 4 w)
  have HT := Lib.hid (show ofT 4 = ⟨(em 4).toArray⟩ from ofT_ne (by decide))
  have HR := Lib.hid (show rc 4 = 2 by rfl)
  generalize em 4 = E at *
  go_enter Tryd.func24, Tryd.ntmps24
  go_wp2_with fail
  refine (HE.out _).mono ?_; rintro r w1 ⟨rfl, hb1⟩
  have K1 := (Bk.new w 29 #[.int .i64 0, .string ⟨#[]⟩]).keep hb1
  have hlt : w.heap.size < w1.heap.size := K1.here
  have c1 : w1.cell? ⟨w.heap.size, 0, none⟩ = some (.int .i64 0) := K1.at_ 0 rfl
  have c2 : w1.cell? ⟨w.heap.size, 1, none⟩ = some (.string ⟨#[]⟩) := K1.at_ 1 rfl
  have f0 := K1.free
  have HK := Lib.hid K1
  have HB := Lib.hid (((Below.refl w.heap.size w).alloc (Nat.le_refl _) _).trans (hb1.mono (by simp)))
  clear K1 hb1
  go_wp2_with fail
  exact bodyPost_ret (res_c Tryd.results24 _ rfl (((HK.out.put 0 _).put 1 _).more _) aggSt) rfl ⟨by rw [HT.out, HR.out]; rfl, ((HB.out.setCell (Nat.le_refl _) _).setCell (Nat.le_refl _) _).alloc (by simp; omega) _⟩
set_option maxRecDepth 100000 in
set_option maxHeartbeats 1000000 in
theorem refOf_5 (w : World) :
    Calls Tryd.prog 24 #[.int .i64 5] w fun r w' => r = .returned (.agg #[.int .i64 (rc 5), .string (ofT 5)]) ∧ Below w.heap.size w w' := by
  have HE := Lib.hid (fun w => error_any 5 w)
  have HT := Lib.hid (show ofT 5 = ⟨(em 5).toArray⟩ from ofT_ne (by decide))
  have HR := Lib.hid (show rc 5 = 2 by rfl)
  generalize em 5 = E at *
  go_enter Tryd.func24, Tryd.ntmps24
  go_wp2_with fail
  refine (HE.out _).mono ?_; rintro r w1 ⟨rfl, hb1⟩
  have K1 := (Bk.new w 29 #[.int .i64 0, .string ⟨#[]⟩]).keep hb1
  have hlt : w.heap.size < w1.heap.size := K1.here
  have c1 : w1.cell? ⟨w.heap.size, 0, none⟩ = some (.int .i64 0) := K1.at_ 0 rfl
  have c2 : w1.cell? ⟨w.heap.size, 1, none⟩ = some (.string ⟨#[]⟩) := K1.at_ 1 rfl
  have f0 := K1.free
  have HK := Lib.hid K1
  have HB := Lib.hid (((Below.refl w.heap.size w).alloc (Nat.le_refl _) _).trans (hb1.mono (by simp)))
  clear K1 hb1
  go_wp2_with fail
  exact bodyPost_ret (res_c Tryd.results24 _ rfl (((HK.out.put 0 _).put 1 _).more _) aggSt) rfl ⟨by rw [HT.out, HR.out]; rfl, ((HB.out.setCell (Nat.le_refl _) _).setCell (Nat.le_refl _) _).alloc (by simp; omega) _⟩
set_option maxRecDepth 100000 in
set_option maxHeartbeats 1000000 in
theorem refOf_6 (w : World) :
    Calls Tryd.prog 24 #[.int .i64 6] w fun r w' => r = .returned (.agg #[.int .i64 (rc 6), .string (ofT 6)]) ∧ Below w.heap.size w w' := by
  have HE := Lib.hid (fun w => error_any 6 w)
  have HT := Lib.hid (show ofT 6 = ⟨(em 6).toArray⟩ from ofT_ne (by decide))
  have HR := Lib.hid (show rc 6 = 2 by rfl)
  generalize em 6 = E at *
  go_enter Tryd.func24, Tryd.ntmps24
  go_wp2_with fail
  refine (HE.out _).mono ?_; rintro r w1 ⟨rfl, hb1⟩
  have K1 := (Bk.new w 29 #[.int .i64 0, .string ⟨#[]⟩]).keep hb1
  have hlt : w.heap.size < w1.heap.size := K1.here
  have c1 : w1.cell? ⟨w.heap.size, 0, none⟩ = some (.int .i64 0) := K1.at_ 0 rfl
  have c2 : w1.cell? ⟨w.heap.size, 1, none⟩ = some (.string ⟨#[]⟩) := K1.at_ 1 rfl
  have f0 := K1.free
  have HK := Lib.hid K1
  have HB := Lib.hid (((Below.refl w.heap.size w).alloc (Nat.le_refl _) _).trans (hb1.mono (by simp)))
  clear K1 hb1
  go_wp2_with fail
  exact bodyPost_ret (res_c Tryd.results24 _ rfl (((HK.out.put 0 _).put 1 _).more _) aggSt) rfl ⟨by rw [HT.out, HR.out]; rfl, ((HB.out.setCell (Nat.le_refl _) _).setCell (Nat.le_refl _) _).alloc (by simp; omega) _⟩
set_option maxRecDepth 100000 in
set_option maxHeartbeats 1000000 in
theorem refOf_7 (w : World) :
    Calls Tryd.prog 24 #[.int .i64 7] w fun r w' => r = .returned (.agg #[.int .i64 (rc 7), .string (ofT 7)]) ∧ Below w.heap.size w w' := by
  have HE := Lib.hid (fun w => error_any 7 w)
  have HT := Lib.hid (show ofT 7 = ⟨(em 7).toArray⟩ from ofT_ne (by decide))
  have HR := Lib.hid (show rc 7 = 2 by rfl)
  generalize em 7 = E at *
  go_enter Tryd.func24, Tryd.ntmps24
  go_wp2_with fail
  refine (HE.out _).mono ?_; rintro r w1 ⟨rfl, hb1⟩
  have K1 := (Bk.new w 29 #[.int .i64 0, .string ⟨#[]⟩]).keep hb1
  have hlt : w.heap.size < w1.heap.size := K1.here
  have c1 : w1.cell? ⟨w.heap.size, 0, none⟩ = some (.int .i64 0) := K1.at_ 0 rfl
  have c2 : w1.cell? ⟨w.heap.size, 1, none⟩ = some (.string ⟨#[]⟩) := K1.at_ 1 rfl
  have f0 := K1.free
  have HK := Lib.hid K1
  have HB := Lib.hid (((Below.refl w.heap.size w).alloc (Nat.le_refl _) _).trans (hb1.mono (by simp)))
  clear K1 hb1
  go_wp2_with fail
  exact bodyPost_ret (res_c Tryd.results24 _ rfl (((HK.out.put 0 _).put 1 _).more _) aggSt) rfl ⟨by rw [HT.out, HR.out]; rfl, ((HB.out.setCell (Nat.le_refl _) _).setCell (Nat.le_refl _) _).alloc (by simp; omega) _⟩
set_option maxRecDepth 100000 in
set_option maxHeartbeats 1000000 in
theorem refOf_8 (w : World) :
    Calls Tryd.prog 24 #[.int .i64 8] w fun r w' => r = .returned (.agg #[.int .i64 (rc 8), .string (ofT 8)]) ∧ Below w.heap.size w w' := by
  have HE := Lib.hid (fun w => error_any 8 w)
  have HT := Lib.hid (show ofT 8 = ⟨(em 8).toArray⟩ from ofT_ne (by decide))
  have HR := Lib.hid (show rc 8 = 2 by rfl)
  generalize em 8 = E at *
  go_enter Tryd.func24, Tryd.ntmps24
  go_wp2_with fail
  refine (HE.out _).mono ?_; rintro r w1 ⟨rfl, hb1⟩
  have K1 := (Bk.new w 29 #[.int .i64 0, .string ⟨#[]⟩]).keep hb1
  have hlt : w.heap.size < w1.heap.size := K1.here
  have c1 : w1.cell? ⟨w.heap.size, 0, none⟩ = some (.int .i64 0) := K1.at_ 0 rfl
  have c2 : w1.cell? ⟨w.heap.size, 1, none⟩ = some (.string ⟨#[]⟩) := K1.at_ 1 rfl
  have f0 := K1.free
  have HK := Lib.hid K1
  have HB := Lib.hid (((Below.refl w.heap.size w).alloc (Nat.le_refl _) _).trans (hb1.mono (by simp)))
  clear K1 hb1
  go_wp2_with fail
  exact bodyPost_ret (res_c Tryd.results24 _ rfl (((HK.out.put 0 _).put 1 _).more _) aggSt) rfl ⟨by rw [HT.out, HR.out]; rfl, ((HB.out.setCell (Nat.le_refl _) _).setCell (Nat.le_refl _) _).alloc (by simp; omega) _⟩
set_option maxRecDepth 100000 in
set_option maxHeartbeats 1000000 in
theorem refOf_9 (w : World) :
    Calls Tryd.prog 24 #[.int .i64 9] w fun r w' => r = .returned (.agg #[.int .i64 (rc 9), .string (ofT 9)]) ∧ Below w.heap.size w w' := by
  have HE := Lib.hid (fun w => error_any 9 w)
  have HT := Lib.hid (show ofT 9 = ⟨(em 9).toArray⟩ from ofT_ne (by decide))
  have HR := Lib.hid (show rc 9 = 5 by rfl)
  generalize em 9 = E at *
  go_enter Tryd.func24, Tryd.ntmps24
  go_wp2_with fail
  refine (HE.out _).mono ?_; rintro r w1 ⟨rfl, hb1⟩
  have K1 := (Bk.new w 29 #[.int .i64 0, .string ⟨#[]⟩]).keep hb1
  have hlt : w.heap.size < w1.heap.size := K1.here
  have c1 : w1.cell? ⟨w.heap.size, 0, none⟩ = some (.int .i64 0) := K1.at_ 0 rfl
  have c2 : w1.cell? ⟨w.heap.size, 1, none⟩ = some (.string ⟨#[]⟩) := K1.at_ 1 rfl
  have f0 := K1.free
  have HK := Lib.hid K1
  have HB := Lib.hid (((Below.refl w.heap.size w).alloc (Nat.le_refl _) _).trans (hb1.mono (by simp)))
  clear K1 hb1
  go_wp2_with fail
  exact bodyPost_ret (res_c Tryd.results24 _ rfl (((HK.out.put 0 _).put 1 _).more _) aggSt) rfl ⟨by rw [HT.out, HR.out]; rfl, ((HB.out.setCell (Nat.le_refl _) _).setCell (Nat.le_refl _) _).alloc (by simp; omega) _⟩
set_option maxRecDepth 100000 in
set_option maxHeartbeats 1000000 in
theorem refOf_10 (w : World) :
    Calls Tryd.prog 24 #[.int .i64 10] w fun r w' => r = .returned (.agg #[.int .i64 (rc 10), .string (ofT 10)]) ∧ Below w.heap.size w w' := by
  have HE := Lib.hid (fun w => error_any 10 w)
  have HT := Lib.hid (show ofT 10 = ⟨(em 10).toArray⟩ from ofT_ne (by decide))
  have HR := Lib.hid (show rc 10 = 4 by rfl)
  generalize em 10 = E at *
  go_enter Tryd.func24, Tryd.ntmps24
  go_wp2_with fail
  refine (HE.out _).mono ?_; rintro r w1 ⟨rfl, hb1⟩
  have K1 := (Bk.new w 29 #[.int .i64 0, .string ⟨#[]⟩]).keep hb1
  have hlt : w.heap.size < w1.heap.size := K1.here
  have c1 : w1.cell? ⟨w.heap.size, 0, none⟩ = some (.int .i64 0) := K1.at_ 0 rfl
  have c2 : w1.cell? ⟨w.heap.size, 1, none⟩ = some (.string ⟨#[]⟩) := K1.at_ 1 rfl
  have f0 := K1.free
  have HK := Lib.hid K1
  have HB := Lib.hid (((Below.refl w.heap.size w).alloc (Nat.le_refl _) _).trans (hb1.mono (by simp)))
  clear K1 hb1
  go_wp2_with fail
  exact bodyPost_ret (res_c Tryd.results24 _ rfl (((HK.out.put 0 _).put 1 _).more _) aggSt) rfl ⟨by rw [HT.out, HR.out]; rfl, ((HB.out.setCell (Nat.le_refl _) _).setCell (Nat.le_refl _) _).alloc (by simp; omega) _⟩
set_option maxRecDepth 100000 in
set_option maxHeartbeats 1000000 in
theorem refOf_11 (w : World) :
    Calls Tryd.prog 24 #[.int .i64 11] w fun r w' => r = .returned (.agg #[.int .i64 (rc 11), .string (ofT 11)]) ∧ Below w.heap.size w w' := by
  have HE := Lib.hid (fun w => error_any 11 w)
  have HT := Lib.hid (show ofT 11 = ⟨(em 11).toArray⟩ from ofT_ne (by decide))
  have HR := Lib.hid (show rc 11 = 11 by rfl)
  generalize em 11 = E at *
  go_enter Tryd.func24, Tryd.ntmps24
  go_wp2_with fail
  refine (HE.out _).mono ?_; rintro r w1 ⟨rfl, hb1⟩
  have K1 := (Bk.new w 29 #[.int .i64 0, .string ⟨#[]⟩]).keep hb1
  have hlt : w.heap.size < w1.heap.size := K1.here
  have c1 : w1.cell? ⟨w.heap.size, 0, none⟩ = some (.int .i64 0) := K1.at_ 0 rfl
  have c2 : w1.cell? ⟨w.heap.size, 1, none⟩ = some (.string ⟨#[]⟩) := K1.at_ 1 rfl
  have f0 := K1.free
  have HK := Lib.hid K1
  have HB := Lib.hid (((Below.refl w.heap.size w).alloc (Nat.le_refl _) _).trans (hb1.mono (by simp)))
  clear K1 hb1
  go_wp2_with fail
  exact bodyPost_ret (res_c Tryd.results24 _ rfl (((HK.out.put 0 _).put 1 _).more _) aggSt) rfl ⟨by rw [HT.out, HR.out]; rfl, ((HB.out.setCell (Nat.le_refl _) _).setCell (Nat.le_refl _) _).alloc (by simp; omega) _⟩
set_option maxRecDepth 100000 in
set_option maxHeartbeats 1000000 in
theorem refOf_12 (w : World) :
    Calls Tryd.prog 24 #[.int .i64 12] w fun r w' => r = .returned (.agg #[.int .i64 (rc 12), .string (ofT 12)]) ∧ Below w.heap.size w w' := by
  have HE := Lib.hid (fun w => error_any 12 w)
  have HT := Lib.hid (show ofT 12 = ⟨(em 12).toArray⟩ from ofT_ne (by decide))
  have HR := Lib.hid (show rc 12 = 2 by rfl)
  generalize em 12 = E at *
  go_enter Tryd.func24, Tryd.ntmps24
  go_wp2_with fail
  refine (HE.out _).mono ?_; rintro r w1 ⟨rfl, hb1⟩
  have K1 := (Bk.new w 29 #[.int .i64 0, .string ⟨#[]⟩]).keep hb1
  have hlt : w.heap.size < w1.heap.size := K1.here
  have c1 : w1.cell? ⟨w.heap.size, 0, none⟩ = some (.int .i64 0) := K1.at_ 0 rfl
  have c2 : w1.cell? ⟨w.heap.size, 1, none⟩ = some (.string ⟨#[]⟩) := K1.at_ 1 rfl
  have f0 := K1.free
  have HK := Lib.hid K1
  have HB := Lib.hid (((Below.refl w.heap.size w).alloc (Nat.le_refl _) _).trans (hb1.mono (by simp)))
  clear K1 hb1
  go_wp2_with fail
  exact bodyPost_ret (res_c Tryd.results24 _ rfl (((HK.out.put 0 _).put 1 _).more _) aggSt) rfl ⟨by rw [HT.out, HR.out]; rfl, ((HB.out.setCell (Nat.le_refl _) _).setCell (Nat.le_refl _) _).alloc (by simp; omega) _⟩
set_option maxRecDepth 100000 in
set_option maxHeartbeats 1000000 in
theorem refOf_13 (w : World) :
    Calls Tryd.prog 24 #[.int .i64 13] w fun r w' => r = .returned (.agg #[.int .i64 (rc 13), .string (ofT 13)]) ∧ Below w.heap.size w w' := by
  have HE := Lib.hid (fun w => error_any 13 w)
  have HT := Lib.hid (show ofT 13 = ⟨(em 13).toArray⟩ from ofT_ne (by decide))
  have HR := Lib.hid (show rc 13 = 2 by rfl)
  generalize em 13 = E at *
  go_enter Tryd.func24, Tryd.ntmps24
  go_wp2_with fail
  refine (HE.out _).mono ?_; rintro r w1 ⟨rfl, hb1⟩
  have K1 := (Bk.new w 29 #[.int .i64 0, .string ⟨#[]⟩]).keep hb1
  have hlt : w.heap.size < w1.heap.size := K1.here
  have c1 : w1.cell? ⟨w.heap.size, 0, none⟩ = some (.int .i64 0) := K1.at_ 0 rfl
  have c2 : w1.cell? ⟨w.heap.size, 1, none⟩ = some (.string ⟨#[]⟩) := K1.at_ 1 rfl
  have f0 := K1.free
  have HK := Lib.hid K1
  have HB := Lib.hid (((Below.refl w.heap.size w).alloc (Nat.le_refl _) _).trans (hb1.mono (by simp)))
  clear K1 hb1
  go_wp2_with fail
  exact bodyPost_ret (res_c Tryd.results24 _ rfl (((HK.out.put 0 _).put 1 _).more _) aggSt) rfl ⟨by rw [HT.out, HR.out]; rfl, ((HB.out.setCell (Nat.le_refl _) _).setCell (Nat.le_refl _) _).alloc (by simp; omega) _⟩
set_option maxRecDepth 100000 in
set_option maxHeartbeats 1000000 in
theorem refOf_14 (w : World) :
    Calls Tryd.prog 24 #[.int .i64 14] w fun r w' => r = .returned (.agg #[.int .i64 (rc 14), .string (ofT 14)]) ∧ Below w.heap.size w w' := by
  have HE := Lib.hid (fun w => error_any 14 w)
  have HT := Lib.hid (show ofT 14 = ⟨(em 14).toArray⟩ from ofT_ne (by decide))
  have HR := Lib.hid (show rc 14 = 2 by rfl)
  generalize em 14 = E at *
  go_enter Tryd.func24, Tryd.ntmps24
  go_wp2_with fail
  refine (HE.out _).mono ?_; rintro r w1 ⟨rfl, hb1⟩
  have K1 := (Bk.new w 29 #[.int .i64 0, .string ⟨#[]⟩]).keep hb1
  have hlt : w.heap.size < w1.heap.size := K1.here
  have c1 : w1.cell? ⟨w.heap.size, 0, none⟩ = some (.int .i64 0) := K1.at_ 0 rfl
  have c2 : w1.cell? ⟨w.heap.size, 1, none⟩ = some (.string ⟨#[]⟩) := K1.at_ 1 rfl
  have f0 := K1.free
  have HK := Lib.hid K1
  have HB := Lib.hid (((Below.refl w.heap.size w).alloc (Nat.le_refl _) _).trans (hb1.mono (by simp)))
  clear K1 hb1
  go_wp2_with fail
  exact bodyPost_ret (res_c Tryd.results24 _ rfl (((HK.out.put 0 _).put 1 _).more _) aggSt) rfl ⟨by rw [HT.out, HR.out]; rfl, ((HB.out.setCell (Nat.le_refl _) _).setCell (Nat.le_refl _) _).alloc (by simp; omega) _⟩
set_option maxRecDepth 100000 in
set_option maxHeartbeats 1000000 in
theorem refOf_15 (w : World) :
    Calls Tryd.prog 24 #[.int .i64 15] w fun r w' => r = .returned (.agg #[.int .i64 (rc 15), .string (ofT 15)]) ∧ Below w.heap.size w w' := by
  have HE := Lib.hid (fun w => error_any 15 w)
  have HT := Lib.hid (show ofT 15 = ⟨(em 15).toArray⟩ from ofT_ne (by decide))
  have HR := Lib.hid (show rc 15 = 2 by rfl)
  generalize em 15 = E at *
  go_enter Tryd.func24, Tryd.ntmps24
  go_wp2_with fail
  refine (HE.out _).mono ?_; rintro r w1 ⟨rfl, hb1⟩
  have K1 := (Bk.new w 29 #[.int .i64 0, .string ⟨#[]⟩]).keep hb1
  have hlt : w.heap.size < w1.heap.size := K1.here
  have c1 : w1.cell? ⟨w.heap.size, 0, none⟩ = some (.int .i64 0) := K1.at_ 0 rfl
  have c2 : w1.cell? ⟨w.heap.size, 1, none⟩ = some (.string ⟨#[]⟩) := K1.at_ 1 rfl
  have f0 := K1.free
  have HK := Lib.hid K1
  have HB := Lib.hid (((Below.refl w.heap.size w).alloc (Nat.le_refl _) _).trans (hb1.mono (by simp)))
  clear K1 hb1
  go_wp2_with fail
  exact bodyPost_ret (res_c Tryd.results24 _ rfl (((HK.out.put 0 _).put 1 _).more _) aggSt) rfl ⟨by rw [HT.out, HR.out]; rfl, ((HB.out.setCell (Nat.le_refl _) _).setCell (Nat.le_refl _) _).alloc (by simp; omega) _⟩
set_option maxRecDepth 100000 in
set_option maxHeartbeats 1000000 in
theorem refOf_16 (w : World) :
    Calls Tryd.prog 24 #[.int .i64 16] w fun r w' => r = .returned (.agg #[.int .i64 (rc 16), .string (ofT 16)]) ∧ Below w.heap.size w w' := by
  have HE := Lib.hid (fun w => error_any 16 w)
  have HT := Lib.hid (show ofT 16 = ⟨(em 16).toArray⟩ from ofT_ne (by decide))
  have HR := Lib.hid (show rc 16 = 2 by rfl)
  generalize em 16 = E at *
  go_enter Tryd.func24, Tryd.ntmps24
  go_wp2_with fail
  refine (HE.out _).mono ?_; rintro r w1 ⟨rfl, hb1⟩
  have K1 := (Bk.new w 29 #[.int .i64 0, .string ⟨#[]⟩]).keep hb1
  have hlt : w.heap.size < w1.heap.size := K1.here
  have c1 : w1.cell? ⟨w.heap.size, 0, none⟩ = some (.int .i64 0) := K1.at_ 0 rfl
  have c2 : w1.cell? ⟨w.heap.size, 1, none⟩ = some (.string ⟨#[]⟩) := K1.at_ 1 rfl
  have f0 := K1.free
  have HK := Lib.hid K1
  have HB := Lib.hid (((Below.refl w.heap.size w).alloc (Nat.le_refl _) _).trans (hb1.mono (by simp)))
  clear K1 hb1
  go_wp2_with fail
  exact bodyPost_ret (res_c Tryd.results24 _ rfl (((HK.out.put 0 _).put 1 _).more _) aggSt) rfl ⟨by rw [HT.out, HR.out]; rfl, ((HB.out.setCell (Nat.le_refl _) _).setCell (Nat.le_refl _) _).alloc (by simp; omega) _⟩
set_option maxRecDepth 100000 in
set_option maxHeartbeats 1000000 in
theorem refOf_17 (w : World) :
    Calls Tryd.prog 24 #[.int .i64 17] w fun r w' => r = .returned (.agg #[.int .i64 (rc 17), .string (ofT 17)]) ∧ Below w.heap.size w w' := by
  have HE := Lib.hid (fun w => error_any 17 w)
  have HT := Lib.hid (show ofT 17 = ⟨(em 17).toArray⟩ from ofT_ne (by decide))
  have HR := Lib.hid (show rc 17 = 7 by rfl)
  generalize em 17 = E at *
  go_enter Tryd.func24, Tryd.ntmps24
  go_wp2_with fail
  refine (HE.out _).mono ?_; rintro r w1 ⟨rfl, hb1⟩
  have K1 := (Bk.new w 29 #[.int .i64 0, .string ⟨#[]⟩]).keep hb1
  have hlt : w.heap.size < w1.heap.size := K1.here
  have c1 : w1.cell? ⟨w.heap.size, 0, none⟩ = some (.int .i64 0) := K1.at_ 0 rfl
  have c2 : w1.cell? ⟨w.heap.size, 1, none⟩ = some (.string ⟨#[]⟩) := K1.at_ 1 rfl
  have f0 := K1.free
  have HK := Lib.hid K1
  have HB := Lib.hid (((Below.refl w.heap.size w).alloc (Nat.le_refl _) _).trans (hb1.mono (by simp)))
  clear K1 hb1
  go_wp2_with fail
  exact bodyPost_ret (res_c Tryd.results24 _ rfl (((HK.out.put 0 _).put 1 _).more _) aggSt) rfl ⟨by rw [HT.out, HR.out]; rfl, ((HB.out.setCell (Nat.le_refl _) _).setCell (Nat.le_refl _) _).alloc (by simp; omega) _⟩
set_option maxRecDepth 100000 in
set_option maxHeartbeats 1000000 in
theorem refOf_18 (w : World) :
    Calls Tryd.prog 24 #[.int .i64 18] w fun r w' => r = .returned (.agg #[.int .i64 (rc 18), .string (ofT 18)]) ∧ Below w.heap.size w w' := by
  have HE := Lib.hid (fun w => error_any 18 w)
  have HT := Lib.hid (show ofT 18 = ⟨(em 18).toArray⟩ from ofT_ne (by decide))
  have HR := Lib.hid (show rc 18 = 2 by rfl)
  generalize em 18 = E at *
  go_enter Tryd.func24, Tryd.ntmps24
  go_wp2_with fail
  refine (HE.out _).mono ?_; rintro r w1 ⟨rfl, hb1⟩
  have K1 := (Bk.new w 29 #[.int .i64 0, .string ⟨#[]⟩]).keep hb1
  have hlt : w.heap.size < w1.heap.size := K1.here
  have c1 : w1.cell? ⟨w.heap.size, 0, none⟩ = some (.int .i64 0) := K1.at_ 0 rfl
  have c2 : w1.cell? ⟨w.heap.size, 1, none⟩ = some (.string ⟨#[]⟩) := K1.at_ 1 rfl
  have f0 := K1.free
  have HK := Lib.hid K1
  have HB := Lib.hid (((Below.refl w.heap.size w).alloc (Nat.le_refl _) _).trans (hb1.mono (by simp)))
  clear K1 hb1
  go_wp2_with fail
  exact bodyPost_ret (res_c Tryd.results24 _ rfl (((HK.out.put 0 _).put 1 _).more _) aggSt) rfl ⟨by rw [HT.out, HR.out]; rfl, ((HB.out.setCell (Nat.le_refl _) _).setCell (Nat.le_refl _) _).alloc (by simp; omega) _⟩
set_option maxRecDepth 100000 in
set_option maxHeartbeats 1000000 in
theorem refOf_19 (w : World) :
    Calls Tryd.prog 24 #[.int .i64 19] w fun r w' => r = .returned (.agg #[.int .i64 (rc 19), .string (ofT 19)]) ∧ Below w.heap.size w w' := by
  have HE := Lib.hid (fun w => error_any 19 w)
  have HT := Lib.hid (show ofT 19 = ⟨(em 19).toArray⟩ from ofT_ne (by decide))
  have HR := Lib.hid (show rc 19 = 11 by rfl)
  generalize em 19 = E at *
  go_enter Tryd.func24, Tryd.ntmps24
  go_wp2_with fail
  refine (HE.out _).mono ?_; rintro r w1 ⟨rfl, hb1⟩
  have K1 := (Bk.new w 29 #[.int .i64 0, .string ⟨#[]⟩]).keep hb1
  have hlt : w.heap.size < w1.heap.size := K1.here
  have c1 : w1.cell? ⟨w.heap.size, 0, none⟩ = some (.int .i64 0) := K1.at_ 0 rfl
  have c2 : w1.cell? ⟨w.heap.size, 1, none⟩ = some (.string ⟨#[]⟩) := K1.at_ 1 rfl
  have f0 := K1.free
  have HK := Lib.hid K1
  have HB := Lib.hid (((Below.refl w.heap.size w).alloc (Nat.le_refl _) _).trans (hb1.mono (by simp)))
  clear K1 hb1
  go_wp2_with fail
  exact bodyPost_ret (res_c Tryd.results24 _ rfl (((HK.out.put 0 _).put 1 _).more _) aggSt) rfl ⟨by rw [HT.out, HR.out]; rfl, ((HB.out.setCell (Nat.le_refl _) _).setCell (Nat.le_refl _) _).alloc (by simp; omega) _⟩
set_option maxRecDepth 100000 in
set_option maxHeartbeats 1000000 in
theorem refOf_20 (w : World) :
    Calls Tryd.prog 24 #[.int .i64 20] w fun r w' => r = .returned (.agg #[.int .i64 (rc 20), .string (ofT 20)]) ∧ Below w.heap.size w w' := by
  have HE := Lib.hid (fun w => error_any 20 w)
  have HT := Lib.hid (show ofT 20 = ⟨(em 20).toArray⟩ from ofT_ne (by decide))
  have HR := Lib.hid (show rc 20 = 8 by rfl)
  generalize em 20 = E at *
  go_enter Tryd.func24, Tryd.ntmps24
  go_wp2_with fail
  refine (HE.out _).mono ?_; rintro r w1 ⟨rfl, hb1⟩
  have K1 := (Bk.new w 29 #[.int .i64 0, .string ⟨#[]⟩]).keep hb1
  have hlt : w.heap.size < w1.heap.size := K1.here
  have c1 : w1.cell? ⟨w.heap.size, 0, none⟩ = some (.int .i64 0) := K1.at_ 0 rfl
  have c2 : w1.cell? ⟨w.heap.size, 1, none⟩ = some (.string ⟨#[]⟩) := K1.at_ 1 rfl
  have f0 := K1.free
  have HK := Lib.hid K1
  have HB := Lib.hid (((Below.refl w.heap.size w).alloc (Nat.le_refl _) _).trans (hb1.mono (by simp)))
  clear K1 hb1
  go_wp2_with fail
  exact bodyPost_ret (res_c Tryd.results24 _ rfl (((HK.out.put 0 _).put 1 _).more _) aggSt) rfl ⟨by rw [HT.out, HR.out]; rfl, ((HB.out.setCell (Nat.le_refl _) _).setCell (Nat.le_refl _) _).alloc (by simp; omega) _⟩
set_option maxRecDepth 100000 in
set_option maxHeartbeats 1000000 in
theorem refOf_21 (w : World) :
    Calls Tryd.prog 24 #[.int .i64 21] w fun r w' => r = .returned (.agg #[.int .i64 (rc 21), .string (ofT 21)]) ∧ Below w.heap.size w w' := by
  have HE := Lib.hid (fun w => error_any 21 w)
  have HT := Lib.hid (show ofT 21 = ⟨(em 21).toArray⟩ from ofT_ne (by decide))
  have HR := Lib.hid (show rc 21 = 6 by rfl)
  generalize em 21 = E at *
  go_enter Tryd.func24, Tryd.ntmps24
  go_wp2_with fail
  refine (HE.out _).mono ?_; rintro r w1 ⟨rfl, hb1⟩
  have K1 := (Bk.new w 29 #[.int .i64 0, .string ⟨#[]⟩]).keep hb1
  have hlt : w.heap.size < w1.heap.size := K1.here
  have c1 : w1.cell? ⟨w.heap.size, 0, none⟩ = some (.int .i64 0) := K1.at_ 0 rfl
  have c2 : w1.cell? ⟨w.heap.size, 1, none⟩ = some (.string ⟨#[]⟩) := K1.at_ 1 rfl
  have f0 := K1.free
  have HK := Lib.hid K1
  have HB := Lib.hid (((Below.refl w.heap.size w).alloc (Nat.le_refl _) _).trans (hb1.mono (by simp)))
  clear K1 hb1
  go_wp2_with fail
  exact bodyPost_ret (res_c Tryd.results24 _ rfl (((HK.out.put 0 _).put 1 _).more _) aggSt) rfl ⟨by rw [HT.out, HR.out]; rfl, ((HB.out.setCell (Nat.le_refl _) _).setCell (Nat.le_refl _) _).alloc (by simp; omega) _⟩
set_option maxRecDepth 100000 in
set_option maxHeartbeats 1000000 in
theorem refOf_22 (w : World) :
    Calls Tryd.prog 24 #[.int .i64 22] w fun r w' => r = .returned (.agg #[.int .i64 (rc 22), .string (ofT 22)]) ∧ Below w.heap.size w w' := by
  have HE := Lib.hid (fun w => error_any 22 w)
  have HT := Lib.hid (show ofT 22 = ⟨(em 22).toArray⟩ from ofT_ne (by decide))
  have HR := Lib.hid (show rc 22 = 7 by rfl)
  generalize em 22 = E at *
  go_enter Tryd.func24, Tryd.ntmps24
  go_wp2_with fail
  refine (HE.out _).mono ?_; rintro r w1 ⟨rfl, hb1⟩
  have K1 := (Bk.new w 29 #[.int .i64 0, .string ⟨#[]⟩]).keep hb1
  have hlt : w.heap.size < w1.heap.size := K1.here
  have c1 : w1.cell? ⟨w.heap.size, 0, none⟩ = some (.int .i64 0) := K1.at_ 0 rfl
  have c2 : w1.cell? ⟨w.heap.size, 1, none⟩ = some (.string ⟨#[]⟩) := K1.at_ 1 rfl
  have f0 := K1.free
  have HK := Lib.hid K1
  have HB := Lib.hid (((Below.refl w.heap.size w).alloc (Nat.le_refl _) _).trans (hb1.mono (by simp)))
  clear K1 hb1
  go_wp2_with fail
  exact bodyPost_ret (res_c Tryd.results24 _ rfl (((HK.out.put 0 _).put 1 _).more _) aggSt) rfl ⟨by rw [HT.out, HR.out]; rfl, ((HB.out.setCell (Nat.le_refl _) _).setCell (Nat.le_refl _) _).alloc (by simp; omega) _⟩
set_option maxRecDepth 100000 in
set_option maxHeartbeats 1000000 in
theorem refOf_23 (w : World) :
    Calls Tryd.prog 24 #[.int .i64 23] w fun r w' => r = .returned (.agg #[.int .i64 (rc 23), .string (ofT 23)]) ∧ Below w.heap.size w w' := by
  have HE := Lib.hid (fun w => error_any 23 w)
  have HT := Lib.hid (show ofT 23 = ⟨(em 23).toArray⟩ from ofT_ne (by decide))
  have HR := Lib.hid (show rc 23 = 3 by rfl)
  generalize em 23 = E at *
  go_enter Tryd.func24, Tryd.ntmps24
  go_wp2_with fail
  refine (HE.out _).mono ?_; rintro r w1 ⟨rfl, hb1⟩
  have K1 := (Bk.new w 29 #[.int .i64 0, .string ⟨#[]⟩]).keep hb1
  have hlt : w.heap.size < w1.heap.size := K1.here
  have c1 : w1.cell? ⟨w.heap.size, 0, none⟩ = some (.int .i64 0) := K1.at_ 0 rfl
  have c2 : w1.cell? ⟨w.heap.size, 1, none⟩ = some (.string ⟨#[]⟩) := K1.at_ 1 rfl
  have f0 := K1.free
  have HK := Lib.hid K1
  have HB := Lib.hid (((Below.refl w.heap.size w).alloc (Nat.le_refl _) _).trans (hb1.mono (by simp)))
  clear K1 hb1
  go_wp2_with fail
  exact bodyPost_ret (res_c Tryd.results24 _ rfl (((HK.out.put 0 _).put 1 _).more _) aggSt) rfl ⟨by rw [HT.out, HR.out]; rfl, ((HB.out.setCell (Nat.le_refl _) _).setCell (Nat.le_refl _) _).alloc (by simp; omega) _⟩
set_option maxRecDepth 100000 in
set_option maxHeartbeats 1000000 in
theorem refOf_24 (w : World) :
    Calls Tryd.prog 24 #[.int .i64 24] w fun r w' => r = .returned (.agg #[.int .i64 (rc 24), .string (ofT 24)]) ∧ Below w.heap.size w w' := by
  have HE := Lib.hid (fun w => error_any 24 w)
  have HT := Lib.hid (show ofT 24 = ⟨(em 24).toArray⟩ from ofT_ne (by decide))
  have HR := Lib.hid (show rc 24 = 9 by rfl)
  generalize em 24 = E at *
  go_enter Tryd.func24, Tryd.ntmps24
  go_wp2_with fail
  refine (HE.out _).mono ?_; rintro r w1 ⟨rfl, hb1⟩
  have K1 := (Bk.new w 29 #[.int .i64 0, .string ⟨#[]⟩]).keep hb1
  have hlt : w.heap.size < w1.heap.size := K1.here
  have c1 : w1.cell? ⟨w.heap.size, 0, none⟩ = some (.int .i64 0) := K1.at_ 0 rfl
  have c2 : w1.cell? ⟨w.heap.size, 1, none⟩ = some (.string ⟨#[]⟩) := K1.at_ 1 rfl
  have f0 := K1.free
  have HK := Lib.hid K1
  have HB := Lib.hid (((Below.refl w.heap.size w).alloc (Nat.le_refl _) _).trans (hb1.mono (by simp)))
  clear K1 hb1
  go_wp2_with fail
  exact bodyPost_ret (res_c Tryd.results24 _ rfl (((HK.out.put 0 _).put 1 _).more _) aggSt) rfl ⟨by rw [HT.out, HR.out]; rfl, ((HB.out.setCell (Nat.le_refl _) _).setCell (Nat.le_refl _) _).alloc (by simp; omega) _⟩
set_option maxRecDepth 100000 in
set_option maxHeartbeats 1000000 in
theorem refOf_25 (w : World) :
    Calls Tryd.prog 24 #[.int .i64 25] w fun r w' => r = .returned (.agg #[.int .i64 (rc 25), .string (ofT 25)]) ∧ Below w.heap.size w w' := by
  have HE := Lib.hid (fun w => error_any 25 w)
  have HT := Lib.hid (show ofT 25 = ⟨(em 25).toArray⟩ from ofT_ne (by decide))
  have HR := Lib.hid (show rc 25 = 13 by rfl)
  generalize em 25 = E at *
  go_enter Tryd.func24, Tryd.ntmps24
  go_wp2_with fail
  refine (HE.out _).mono ?_; rintro r w1 ⟨rfl, hb1⟩
  have K1 := (Bk.new w 29 #[.int .i64 0, .string ⟨#[]⟩]).keep hb1
  have hlt : w.heap.size < w1.heap.size := K1.here
  have c1 : w1.cell? ⟨w.heap.size, 0, none⟩ = some (.int .i64 0) := K1.at_ 0 rfl
  have c2 : w1.cell? ⟨w.heap.size, 1, none⟩ = some (.string ⟨#[]⟩) := K1.at_ 1 rfl
  have f0 := K1.free
  have HK := Lib.hid K1
  have HB := Lib.hid (((Below.refl w.heap.size w).alloc (Nat.le_refl _) _).trans (hb1.mono (by simp)))
  clear K1 hb1
  go_wp2_with fail
  exact bodyPost_ret (res_c Tryd.results24 _ rfl (((HK.out.put 0 _).put 1 _).more _) aggSt) rfl ⟨by rw [HT.out, HR.out]; rfl, ((HB.out.setCell (Nat.le_refl _) _).setCell (Nat.le_refl _) _).alloc (by simp; omega) _⟩
set_option maxRecDepth 100000 in
set_option maxHeartbeats 2000000 in
theorem refOf_out (e : Int) (w : World) (h : e < 0 ∨ 26 ≤ e) :
    Calls Tryd.prog 24 #[.int .i64 e] w fun r w' => r = .returned (.agg #[.int .i64 (rc e), .string (ofT e)]) ∧ Below w.heap.size w w' := by
  have HE := Lib.hid (fun w => error_any e w)
  have HT := Lib.hid (show ofT e = ⟨(em e).toArray⟩ from ofT_ne (by omega))
  have HR := Lib.hid (rc_out e h)
  have q0 := (byte_eq (show e ≠ 0 by omega)).1
  have q1 := (byte_eq (show e ≠ 1 by omega)).1
  have q2 := (byte_eq (show e ≠ 2 by omega)).1
  have q3 := (byte_eq (show e ≠ 3 by omega)).1
  have q4 := (byte_eq (show e ≠ 4 by omega)).1
  have q5 := (byte_eq (show e ≠ 5 by omega)).1
  have q6 := (byte_eq (show e ≠ 6 by omega)).1
  have q7 := (byte_eq (show e ≠ 7 by omega)).1
  have q8 := (byte_eq (show e ≠ 8 by omega)).1
  have q9 := (byte_eq (show e ≠ 9 by omega)).1
  have q10 := (byte_eq (show e ≠ 10 by omega)).1
  have q11 := (byte_eq (show e ≠ 11 by omega)).1
  have q12 := (byte_eq (show e ≠ 12 by omega)).1
  have q13 := (byte_eq (show e ≠ 13 by omega)).1
  have q14 := (byte_eq (show e ≠ 14 by omega)).1
  have q15 := (byte_eq (show e ≠ 15 by omega)).1
  have q16 := (byte_eq (show e ≠ 16 by omega)).1
  have q17 := (byte_eq (show e ≠ 17 by omega)).1
  have q18 := (byte_eq (show e ≠ 18 by omega)).1
  have q19 := (byte_eq (show e ≠ 19 by omega)).1
  have q20 := (byte_eq (show e ≠ 20 by omega)).1
  have q21 := (byte_eq (show e ≠ 21 by omega)).1
  have q22 := (byte_eq (show e ≠ 22 by omega)).1
  have q23 := (byte_eq (show e ≠ 23 by omega)).1
  have q24 := (byte_eq (show e ≠ 24 by omega)).1
  have q25 := (byte_eq (show e ≠ 25 by omega)).1
  clear h
  generalize em e = E at *
  go_enter Tryd.func24, Tryd.ntmps24
  go_wp2_with fail
  refine (HE.out _).mono ?_; rintro r w1 ⟨rfl, hb1⟩
  have K1 := (Bk.new w 29 #[.int .i64 0, .string ⟨#[]⟩]).keep hb1
  have hlt : w.heap.size < w1.heap.size := K1.here
  have c1 : w1.cell? ⟨w.heap.size, 0, none⟩ = some (.int .i64 0) := K1.at_ 0 rfl
  have c2 : w1.cell? ⟨w.heap.size, 1, none⟩ = some (.string ⟨#[]⟩) := K1.at_ 1 rfl
  have f0 := K1.free
  have HK := Lib.hid K1
  have HB := Lib.hid (((Below.refl w.heap.size w).alloc (Nat.le_refl _) _).trans (hb1.mono (by simp)))
  clear K1 hb1
  go_wp2_with fail
  exact bodyPost_ret (res_c Tryd.results24 _ rfl (((HK.out.put 0 _).put 1 _).more _) aggSt) rfl ⟨by rw [HT.out, HR.out]; rfl, ((HB.out.setCell (Nat.le_refl _) _).setCell (Nat.le_refl _) _).alloc (by simp; omega) _⟩
theorem refOf_0 (w : World) :
    Calls Tryd.prog 24 #[.int .i64 0] w fun r w' => r = .returned (.agg #[.int .i64 (rc 0), .string (ofT 0)]) ∧ Below w.heap.size w w' := by
  have HT := Lib.hid (show ofT 0 = ⟨#[]⟩ by rfl)
  have HR := Lib.hid (show rc 0 = 0 by rfl)
  go_enter Tryd.func24, Tryd.ntmps24
  go_wp2_with fail
  exact bodyPost_ret (res_c Tryd.results24 _ rfl (Bk.new w _ _) aggSt) rfl ⟨by rw [HT.out, HR.out], (Below.refl _ _).alloc (Nat.le_refl _) _⟩
theorem refOf_any (e : Int) (w : World) :
    Calls Tryd.prog 24 #[.int .i64 e] w fun r w' => r = .returned (.agg #[.int .i64 (rc e), .string (ofT e)]) ∧ Below w.heap.size w w' := by
  by_cases h : e < 0 ∨ 26 ≤ e
  · exact refOf_out e w h
  · have hc : e = 0 ∨ e = 1 ∨ e = 2 ∨ e = 3 ∨ e = 4 ∨ e = 5 ∨ e = 6 ∨ e = 7 ∨ e = 8 ∨ e = 9 ∨ e = 10 ∨ e = 11 ∨ e = 12 ∨ e = 13 ∨ e = 14 ∨ e = 15 ∨ e = 16 ∨ e = 17 ∨ e = 18 ∨ e = 19 ∨ e = 20 ∨ e = 21 ∨ e = 22 ∨ e = 23 ∨ e = 24 ∨ e = 25 := by omega
    rcases hc with rfl | rfl | rfl | rfl | rfl | rfl | rfl | rfl | rfl | rfl | rfl | rfl | rfl | rfl | rfl | rfl | rfl | rfl | rfl | rfl | rfl | rfl | rfl | rfl | rfl | rfl
    · exact refOf_0 w
    · exact refOf_1 w
    · exact refOf_2 w
    · exact refOf_3 w
    · exact refOf_4 w
    · exact refOf_5 w
    · exact refOf_6 w
    · exact refOf_7 w
    · exact refOf_8 w
    · exact refOf_9 w
    · exact refOf_10 w
    · exact refOf_11 w
    · exact refOf_12 w
    · exact refOf_13 w
    · exact refOf_14 w
    · exact refOf_15 w
    · exact refOf_16 w
    · exact refOf_17 w
    · exact refOf_18 w
    · exact refOf_19 w
    · exact refOf_20 w
    · exact refOf_21 w
    · exact refOf_22 w
    · exact refOf_23 w
    · exact refOf_24 w
    · exact refOf_25 w
end Go.Proofs.YtlljocgcpaoenaaDoor
