/- frame.Check and its reference: both answer frameE. -/
import Derived.Test.YtpfkddbhpoeknaaGreatDoorChk
namespace Go.Proofs.YtpfkddbhpoeknaaGreatDoor
open Go.RowKit
theorem frame_early {f : FrV} (h : f.kind < 1 ∨ 9 < f.kind ∨ strmB f.kind f.strm = false ∨ numB f.kind f.num = false ∨ fillB f.kind f.data = false) : frameE f = 1 := by unfold frameE; rw [if_pos h]
theorem frame_big {f : FrV} (h : ¬ (f.kind < 1 ∨ 9 < f.kind ∨ strmB f.kind f.strm = false ∨ numB f.kind f.num = false ∨ fillB f.kind f.data = false)) (h2 : 16384 < f.data.size ∨ 2147483647 < f.strm) : frameE f = 3 := by unfold frameE; rw [if_neg h, if_pos h2]
theorem frame_end {f : FrV} (h : ¬ (f.kind < 1 ∨ 9 < f.kind ∨ strmB f.kind f.strm = false ∨ numB f.kind f.num = false ∨ fillB f.kind f.data = false)) (h2 : ¬ (16384 < f.data.size ∨ 2147483647 < f.strm)) : frameE f = if f.kind = 1 then (hdRead f.data).err else if f.kind = 4 then (unpackS f.data).err else 0 := by unfold frameE; rw [if_neg h, if_neg h2]
theorem below_next {n : Nat} {w w1 w2 : World} (h : Below n w w1) (hn : n ≤ w.heap.size) (h2 : Below w1.heap.size w1 w2) : Below n w w2 := h.trans (h2.mono (Nat.le_trans hn h.size))
theorem below_box (w : World) (o : Obj) : Below w.heap.size w (w.alloc o) := (Below.refl _ _).alloc (Nat.le_refl _) _
theorem box_cells {w w' : World} {f : FrV} (h : Below (w.heap.size + 1) (w.alloc (Obj.cells (fcells f) FT)) w') :
    w'.cell? ⟨w.heap.size, 0, none⟩ = some (.int .i64 f.kind) ∧ w'.cell? ⟨w.heap.size, 1, none⟩ = some (.int .i64 f.strm) ∧ w'.cell? ⟨w.heap.size, 2, none⟩ = some (.int .i64 f.num) ∧ w'.cell? ⟨w.heap.size, 3, none⟩ = some (.string f.data) := by
  have hB : Bk w' w.heap.size FT (fcells f) := (h.block _ (Nat.lt_succ_self _)).trans (Bk.new w FT (fcells f))
  exact ⟨hB.at_ 0 rfl, hB.at_ 1 rfl, hB.at_ 2 rfl, hB.at_ 3 rfl⟩
theorem below_in {w w' : World} {o : Obj} (h : Below (w.heap.size + 1) (w.alloc o) w') : Below w.heap.size w w' := (below_box w o).trans (h.mono (Nat.le_succ _))
theorem ck_int {e : Ending} {a b : Int} (h : a = b) (he : e = .returned (.int .i64 a)) : e = .returned (.int .i64 b) := by rw [he, h]
set_option maxHeartbeats 1600000 in
theorem fcheck_any (f : FrV) (w : World) (hlen : MLen w) (hs : f.data.size < 4294967281) :
    Calls Tryz.prog 7 #[.agg (fcells f)] w fun e w' => e = .returned (.int .i64 (frameE f)) ∧ Below w.heap.size w w' := by
  obtain ⟨k, s, n, d⟩ := f
  have HG := Lib.hid hlen; clear hlen
  have hs : d.size < 4294967281 := hs
  have HS := Lib.hid (fun w => streamed_any k s n d w)
  have HN := Lib.hid (fun w => numbered_any k s n d w)
  have HF := Lib.hid (fun w => filled_any k s n d w)
  have HH := Lib.hid (fun w hg => headRead_any d w hg hs)
  have HU := Lib.hid (fun w => unpack_any d w (by omega))
  by_cases h1 : k < 1
  · have HR := Lib.hid (frame_early (f := ⟨k, s, n, d⟩) (.inl h1))
    have HB0 := Lib.hid (below_box w (Obj.cells (fcells ⟨k, s, n, d⟩) FT)); have KB0 := Lib.hid (Below.refl (w.heap.size + 1) (w.alloc (Obj.cells (fcells ⟨k, s, n, d⟩) FT))); have hsz : w.heap.size + 1 ≤ (w.alloc (Obj.cells (fcells ⟨k, s, n, d⟩) FT)).heap.size := by simp
    go_enter Tryz.func7, Tryz.ntmps7
    go_wp2_with fail
    go_ret
    exact ⟨by (rw [HR.out]; try rfl), HB0.out⟩
  by_cases h2 : 9 < k
  · have HR := Lib.hid (frame_early (f := ⟨k, s, n, d⟩) (.inr (.inl h2)))
    have HB0 := Lib.hid (below_box w (Obj.cells (fcells ⟨k, s, n, d⟩) FT)); have KB0 := Lib.hid (Below.refl (w.heap.size + 1) (w.alloc (Obj.cells (fcells ⟨k, s, n, d⟩) FT))); have hsz : w.heap.size + 1 ≤ (w.alloc (Obj.cells (fcells ⟨k, s, n, d⟩) FT)).heap.size := by simp
    go_enter Tryz.func7, Tryz.ntmps7
    go_wp2_with fail
    go_ret
    exact ⟨by (rw [HR.out]; try rfl), HB0.out⟩
  by_cases h3 : strmB k s = false
  · have HR := Lib.hid (frame_early (f := ⟨k, s, n, d⟩) (.inr (.inr (.inl h3))))
    have HB0 := Lib.hid (below_box w (Obj.cells (fcells ⟨k, s, n, d⟩) FT)); have KB0 := Lib.hid (Below.refl (w.heap.size + 1) (w.alloc (Obj.cells (fcells ⟨k, s, n, d⟩) FT))); have hsz : w.heap.size + 1 ≤ (w.alloc (Obj.cells (fcells ⟨k, s, n, d⟩) FT)).heap.size := by simp
    rw [h3] at HS
    clear h3
    go_enter Tryz.func7, Tryz.ntmps7
    go_wp2_with fail
    refine (HS.out _).mono ?_; rintro e w1 ⟨rfl, hb1⟩
    have KB1 := Lib.hid (below_next KB0.out hsz hb1); have HB1 := Lib.hid (below_in KB1.out); obtain ⟨c10, c11, c12, c13⟩ := box_cells (f := ⟨k, s, n, d⟩) KB1.out
    go_wp2_with fail
    go_ret
    exact ⟨by (rw [HR.out]; try rfl), HB1.out⟩
  have h3t : strmB k s = true := by cases h : strmB k s <;> simp_all
  rw [h3t] at HS
  by_cases h4 : numB k n = false
  · have HR := Lib.hid (frame_early (f := ⟨k, s, n, d⟩) (.inr (.inr (.inr (.inl h4)))))
    have HB0 := Lib.hid (below_box w (Obj.cells (fcells ⟨k, s, n, d⟩) FT)); have KB0 := Lib.hid (Below.refl (w.heap.size + 1) (w.alloc (Obj.cells (fcells ⟨k, s, n, d⟩) FT))); have hsz : w.heap.size + 1 ≤ (w.alloc (Obj.cells (fcells ⟨k, s, n, d⟩) FT)).heap.size := by simp
    rw [h4] at HN
    clear h4
    go_enter Tryz.func7, Tryz.ntmps7
    go_wp2_with fail
    refine (HS.out _).mono ?_; rintro e w1 ⟨rfl, hb1⟩
    have KB1 := Lib.hid (below_next KB0.out hsz hb1); have HB1 := Lib.hid (below_in KB1.out); obtain ⟨c10, c11, c12, c13⟩ := box_cells (f := ⟨k, s, n, d⟩) KB1.out
    go_wp2_with fail
    refine (HN.out _).mono ?_; rintro e w2 ⟨rfl, hb2⟩
    have KB2 := Lib.hid (below_next KB1.out hsz hb2); have HB2 := Lib.hid (below_in KB2.out); obtain ⟨c20, c21, c22, c23⟩ := box_cells (f := ⟨k, s, n, d⟩) KB2.out
    go_wp2_with fail
    go_ret
    exact ⟨by (rw [HR.out]; try rfl), HB2.out⟩
  have h4t : numB k n = true := by cases h : numB k n <;> simp_all
  rw [h4t] at HN
  by_cases h5 : fillB k d = false
  · have HR := Lib.hid (frame_early (f := ⟨k, s, n, d⟩) (.inr (.inr (.inr (.inr h5)))))
    have HB0 := Lib.hid (below_box w (Obj.cells (fcells ⟨k, s, n, d⟩) FT)); have KB0 := Lib.hid (Below.refl (w.heap.size + 1) (w.alloc (Obj.cells (fcells ⟨k, s, n, d⟩) FT))); have hsz : w.heap.size + 1 ≤ (w.alloc (Obj.cells (fcells ⟨k, s, n, d⟩) FT)).heap.size := by simp
    rw [h5] at HF
    clear h3 h3t h4 h4t h5
    go_enter Tryz.func7, Tryz.ntmps7
    go_wp2_with fail
    refine (HS.out _).mono ?_; rintro e w1 ⟨rfl, hb1⟩
    have KB1 := Lib.hid (below_next KB0.out hsz hb1); have HB1 := Lib.hid (below_in KB1.out); obtain ⟨c10, c11, c12, c13⟩ := box_cells (f := ⟨k, s, n, d⟩) KB1.out
    go_wp2_with fail
    refine (HN.out _).mono ?_; rintro e w2 ⟨rfl, hb2⟩
    have KB2 := Lib.hid (below_next KB1.out hsz hb2); have HB2 := Lib.hid (below_in KB2.out); obtain ⟨c20, c21, c22, c23⟩ := box_cells (f := ⟨k, s, n, d⟩) KB2.out
    go_wp2_with fail
    refine (HF.out _).mono ?_; rintro e w3 ⟨rfl, hb3⟩
    have KB3 := Lib.hid (below_next KB2.out hsz hb3); have HB3 := Lib.hid (below_in KB3.out); obtain ⟨c30, c31, c32, c33⟩ := box_cells (f := ⟨k, s, n, d⟩) KB3.out
    go_wp2_with fail
    go_ret
    exact ⟨by (rw [HR.out]; try rfl), HB3.out⟩
  have h5t : fillB k d = true := by cases h : fillB k d <;> simp_all
  rw [h5t] at HF
  have hE : ¬ (k < 1 ∨ 9 < k ∨ strmB k s = false ∨ numB k n = false ∨ fillB k d = false) := by simp_all
  by_cases h6 : 16384 < d.size
  · have HR := Lib.hid (frame_big (f := ⟨k, s, n, d⟩) hE (.inl h6))
    have HB0 := Lib.hid (below_box w (Obj.cells (fcells ⟨k, s, n, d⟩) FT)); have KB0 := Lib.hid (Below.refl (w.heap.size + 1) (w.alloc (Obj.cells (fcells ⟨k, s, n, d⟩) FT))); have hsz : w.heap.size + 1 ≤ (w.alloc (Obj.cells (fcells ⟨k, s, n, d⟩) FT)).heap.size := by simp
    clear h3 h3t h4 h4t h5 h5t hE
    go_enter Tryz.func7, Tryz.ntmps7
    go_wp2_with fail
    refine (HS.out _).mono ?_; rintro e w1 ⟨rfl, hb1⟩
    have KB1 := Lib.hid (below_next KB0.out hsz hb1); have HB1 := Lib.hid (below_in KB1.out); obtain ⟨c10, c11, c12, c13⟩ := box_cells (f := ⟨k, s, n, d⟩) KB1.out
    go_wp2_with fail
    refine (HN.out _).mono ?_; rintro e w2 ⟨rfl, hb2⟩
    have KB2 := Lib.hid (below_next KB1.out hsz hb2); have HB2 := Lib.hid (below_in KB2.out); obtain ⟨c20, c21, c22, c23⟩ := box_cells (f := ⟨k, s, n, d⟩) KB2.out
    go_wp2_with fail
    refine (HF.out _).mono ?_; rintro e w3 ⟨rfl, hb3⟩
    have KB3 := Lib.hid (below_next KB2.out hsz hb3); have HB3 := Lib.hid (below_in KB3.out); obtain ⟨c30, c31, c32, c33⟩ := box_cells (f := ⟨k, s, n, d⟩) KB3.out
    go_wp2_with fail
    go_ret
    exact ⟨by (rw [HR.out]; try rfl), HB3.out⟩
  by_cases h7 : 2147483647 < s
  · have HR := Lib.hid (frame_big (f := ⟨k, s, n, d⟩) hE (.inr h7))
    have HB0 := Lib.hid (below_box w (Obj.cells (fcells ⟨k, s, n, d⟩) FT)); have KB0 := Lib.hid (Below.refl (w.heap.size + 1) (w.alloc (Obj.cells (fcells ⟨k, s, n, d⟩) FT))); have hsz : w.heap.size + 1 ≤ (w.alloc (Obj.cells (fcells ⟨k, s, n, d⟩) FT)).heap.size := by simp
    clear h3 h3t h4 h4t h5 h5t hE
    go_enter Tryz.func7, Tryz.ntmps7
    go_wp2_with fail
    refine (HS.out _).mono ?_; rintro e w1 ⟨rfl, hb1⟩
    have KB1 := Lib.hid (below_next KB0.out hsz hb1); have HB1 := Lib.hid (below_in KB1.out); obtain ⟨c10, c11, c12, c13⟩ := box_cells (f := ⟨k, s, n, d⟩) KB1.out
    go_wp2_with fail
    refine (HN.out _).mono ?_; rintro e w2 ⟨rfl, hb2⟩
    have KB2 := Lib.hid (below_next KB1.out hsz hb2); have HB2 := Lib.hid (below_in KB2.out); obtain ⟨c20, c21, c22, c23⟩ := box_cells (f := ⟨k, s, n, d⟩) KB2.out
    go_wp2_with fail
    refine (HF.out _).mono ?_; rintro e w3 ⟨rfl, hb3⟩
    have KB3 := Lib.hid (below_next KB2.out hsz hb3); have HB3 := Lib.hid (below_in KB3.out); obtain ⟨c30, c31, c32, c33⟩ := box_cells (f := ⟨k, s, n, d⟩) KB3.out
    go_wp2_with fail
    go_ret
    exact ⟨by (rw [HR.out]; try rfl), HB3.out⟩
  have hE2 : ¬ (16384 < d.size ∨ 2147483647 < s) := by omega
  have HE := Lib.hid (frame_end (f := ⟨k, s, n, d⟩) hE hE2)
  clear h3 h3t h4 h4t h5 h5t hE hE2
  have HB0 := Lib.hid (below_box w (Obj.cells (fcells ⟨k, s, n, d⟩) FT)); have KB0 := Lib.hid (Below.refl (w.heap.size + 1) (w.alloc (Obj.cells (fcells ⟨k, s, n, d⟩) FT))); have hsz : w.heap.size + 1 ≤ (w.alloc (Obj.cells (fcells ⟨k, s, n, d⟩) FT)).heap.size := by simp
  by_cases h8 : k = 1
  · subst h8
    have HR := Lib.hid (HE.out.trans (if_pos rfl))
    go_enter Tryz.func7, Tryz.ntmps7
    go_wp2_with fail
    refine (HS.out _).mono ?_; rintro e w1 ⟨rfl, hb1⟩
    have KB1 := Lib.hid (below_next KB0.out hsz hb1); have HB1 := Lib.hid (below_in KB1.out); obtain ⟨c10, c11, c12, c13⟩ := box_cells (f := ⟨1, s, n, d⟩) KB1.out
    go_wp2_with fail
    refine (HN.out _).mono ?_; rintro e w2 ⟨rfl, hb2⟩
    have KB2 := Lib.hid (below_next KB1.out hsz hb2); have HB2 := Lib.hid (below_in KB2.out); obtain ⟨c20, c21, c22, c23⟩ := box_cells (f := ⟨1, s, n, d⟩) KB2.out
    go_wp2_with fail
    refine (HF.out _).mono ?_; rintro e w3 ⟨rfl, hb3⟩
    have KB3 := Lib.hid (below_next KB2.out hsz hb3); have HB3 := Lib.hid (below_in KB3.out); obtain ⟨c30, c31, c32, c33⟩ := box_cells (f := ⟨1, s, n, d⟩) KB3.out
    go_wp2_with fail
    refine (HH.out _ (HG.out.below HB3.out)).mono ?_; rintro e w4 ⟨v, rfl, hmi, hb4⟩
    have KB4 := Lib.hid (below_next KB3.out hsz hb4); have HB4 := Lib.hid (below_in KB4.out)
    clear hmi
    go_wp2_with fail
    go_ret
    exact ⟨by (rw [HR.out]; try rfl), HB4.out⟩
  by_cases h9 : k = 4
  · subst h9
    have HR := Lib.hid (HE.out.trans ((if_neg (by simp)).trans (if_pos rfl)))
    go_enter Tryz.func7, Tryz.ntmps7
    go_wp2_with fail
    refine (HS.out _).mono ?_; rintro e w1 ⟨rfl, hb1⟩
    have KB1 := Lib.hid (below_next KB0.out hsz hb1); have HB1 := Lib.hid (below_in KB1.out); obtain ⟨c10, c11, c12, c13⟩ := box_cells (f := ⟨4, s, n, d⟩) KB1.out
    go_wp2_with fail
    refine (HN.out _).mono ?_; rintro e w2 ⟨rfl, hb2⟩
    have KB2 := Lib.hid (below_next KB1.out hsz hb2); have HB2 := Lib.hid (below_in KB2.out); obtain ⟨c20, c21, c22, c23⟩ := box_cells (f := ⟨4, s, n, d⟩) KB2.out
    go_wp2_with fail
    refine (HF.out _).mono ?_; rintro e w3 ⟨rfl, hb3⟩
    have KB3 := Lib.hid (below_next KB2.out hsz hb3); have HB3 := Lib.hid (below_in KB3.out); obtain ⟨c30, c31, c32, c33⟩ := box_cells (f := ⟨4, s, n, d⟩) KB3.out
    go_wp2_with fail
    refine (HU.out _).mono ?_; rintro e w4 ⟨rfl, hb4⟩
    have KB4 := Lib.hid (below_next KB3.out hsz hb4); have HB4 := Lib.hid (below_in KB4.out); obtain ⟨c40, c41, c42, c43⟩ := box_cells (f := ⟨4, s, n, d⟩) KB4.out
    go_wp2_with fail
    go_ret
    exact ⟨by (rw [HR.out]; try rfl), HB4.out⟩
  have HR := Lib.hid (HE.out.trans ((if_neg h8).trans (if_neg h9)))
  go_enter Tryz.func7, Tryz.ntmps7
  go_wp2_with fail
  refine (HS.out _).mono ?_; rintro e w1 ⟨rfl, hb1⟩
  have KB1 := Lib.hid (below_next KB0.out hsz hb1); have HB1 := Lib.hid (below_in KB1.out); obtain ⟨c10, c11, c12, c13⟩ := box_cells (f := ⟨k, s, n, d⟩) KB1.out
  go_wp2_with fail
  refine (HN.out _).mono ?_; rintro e w2 ⟨rfl, hb2⟩
  have KB2 := Lib.hid (below_next KB1.out hsz hb2); have HB2 := Lib.hid (below_in KB2.out); obtain ⟨c20, c21, c22, c23⟩ := box_cells (f := ⟨k, s, n, d⟩) KB2.out
  go_wp2_with fail
  refine (HF.out _).mono ?_; rintro e w3 ⟨rfl, hb3⟩
  have KB3 := Lib.hid (below_next KB2.out hsz hb3); have HB3 := Lib.hid (below_in KB3.out); obtain ⟨c30, c31, c32, c33⟩ := box_cells (f := ⟨k, s, n, d⟩) KB3.out
  go_wp2_with fail
  go_ret
  exact ⟨by (rw [HR.out]; try rfl), HB3.out⟩
theorem fill_not {k : Int} {d : ByteArray} (h : fillB k d = false) : ¬ k = 1 ∧ ¬ k = 2 ∧ ¬ k = 4 ∧ ¬ d.size = 0 := by
  unfold fillB at h
  simp only [Bool.or_eq_false_iff, decide_eq_false_iff_not, not_or] at h
  exact ⟨h.1.1, h.1.2.1, h.1.2.2, h.2⟩
theorem fill_ok {k : Int} {d : ByteArray} (h : fillB k d = true) : (k = 1 ∨ k = 2 ∨ k = 4) ∨ (¬ (k = 1 ∨ k = 2 ∨ k = 4) ∧ d = ⟨#[]⟩) := by
  unfold fillB at h
  by_cases hk : k = 1 ∨ k = 2 ∨ k = 4
  · exact .inl hk
  · rw [decide_eq_false hk, Bool.false_or, decide_eq_true_iff] at h; exact .inr ⟨hk, ByteArray.ext (Array.eq_empty_of_size_eq_zero h)⟩
set_option maxHeartbeats 1600000 in
theorem rfc_1 (s n : Int) (d : ByteArray) (w : World) (hs : d.size < 4294967281) (hd : ¬ d.size = 0) :
    Calls Tryz.prog 8 #[.agg (fcells ⟨1, s, n, d⟩)] w fun e w' => e = .returned (.int .i64 (frameE ⟨1, s, n, d⟩)) ∧ Below w.heap.size w w' := by
  have hde := isE_false hd
  have HS := Lib.hid (fun w => rstream_any 1 s n d w)
  have HN := Lib.hid (fun w => rnum_any 1 s n d w)
  have HH := Lib.hid (fun w => rheadRead_any d w hs)
  have HB0 := Lib.hid (below_box w (Obj.cells (fcells ⟨1, s, n, d⟩) FT)); have KB0 := Lib.hid (Below.refl (w.heap.size + 1) (w.alloc (Obj.cells (fcells ⟨1, s, n, d⟩) FT))); have hsz : w.heap.size + 1 ≤ (w.alloc (Obj.cells (fcells ⟨1, s, n, d⟩) FT)).heap.size := by simp
  by_cases h3 : strmB 1 s = false
  · have HR := Lib.hid (frame_early (f := ⟨1, s, n, d⟩) (.inr (.inr (.inl h3))))
    rw [h3] at HS; clear h3
    go_enter Tryz.func8, Tryz.ntmps8
    go_wp2_with fail
    refine (HS.out _).mono ?_; rintro e w1 ⟨rfl, hb1⟩
    have KB1 := Lib.hid (below_next KB0.out hsz hb1); have HB1 := Lib.hid (below_in KB1.out); obtain ⟨c10, c11, c12, c13⟩ := box_cells (f := ⟨1, s, n, d⟩) KB1.out
    go_wp2_with fail
    go_ret
    exact ⟨by (rw [HR.out]; try rfl), HB1.out⟩
  have h3t : strmB 1 s = true := by cases h : strmB 1 s <;> simp_all
  rw [h3t] at HS
  by_cases h4 : numB 1 n = false
  · have HR := Lib.hid (frame_early (f := ⟨1, s, n, d⟩) (.inr (.inr (.inr (.inl h4)))))
    rw [h4] at HN; clear h3 h3t h4
    go_enter Tryz.func8, Tryz.ntmps8
    go_wp2_with fail
    refine (HS.out _).mono ?_; rintro e w1 ⟨rfl, hb1⟩
    have KB1 := Lib.hid (below_next KB0.out hsz hb1); have HB1 := Lib.hid (below_in KB1.out); obtain ⟨c10, c11, c12, c13⟩ := box_cells (f := ⟨1, s, n, d⟩) KB1.out
    go_wp2_with fail
    refine (HN.out _).mono ?_; rintro e w2 ⟨rfl, hb2⟩
    have KB2 := Lib.hid (below_next KB1.out hsz hb2); have HB2 := Lib.hid (below_in KB2.out); obtain ⟨c20, c21, c22, c23⟩ := box_cells (f := ⟨1, s, n, d⟩) KB2.out
    go_wp2_with fail
    go_ret
    exact ⟨by (rw [HR.out]; try rfl), HB2.out⟩
  have h4t : numB 1 n = true := by cases h : numB 1 n <;> simp_all
  rw [h4t] at HN
  have h5t : fillB 1 d = true := rfl
  have hE : ¬ ((1 : Int) < 1 ∨ 9 < (1 : Int) ∨ strmB 1 s = false ∨ numB 1 n = false ∨ fillB 1 d = false) := by rw [h3t, h4t, h5t]; simp
  by_cases h6 : 16384 < d.size
  · have HR := Lib.hid (frame_big (f := ⟨1, s, n, d⟩) hE (.inl h6))
    clear h3 h3t h4 h4t h5t hE
    go_enter Tryz.func8, Tryz.ntmps8
    go_wp2_with fail
    refine (HS.out _).mono ?_; rintro e w1 ⟨rfl, hb1⟩
    have KB1 := Lib.hid (below_next KB0.out hsz hb1); have HB1 := Lib.hid (below_in KB1.out); obtain ⟨c10, c11, c12, c13⟩ := box_cells (f := ⟨1, s, n, d⟩) KB1.out
    go_wp2_with fail
    refine (HN.out _).mono ?_; rintro e w2 ⟨rfl, hb2⟩
    have KB2 := Lib.hid (below_next KB1.out hsz hb2); have HB2 := Lib.hid (below_in KB2.out); obtain ⟨c20, c21, c22, c23⟩ := box_cells (f := ⟨1, s, n, d⟩) KB2.out
    go_wp2_with fail
    go_ret
    exact ⟨by (rw [HR.out]; try rfl), HB2.out⟩
  by_cases h7 : 2147483647 < s
  · have HR := Lib.hid (frame_big (f := ⟨1, s, n, d⟩) hE (.inr h7))
    clear h3 h3t h4 h4t h5t hE
    go_enter Tryz.func8, Tryz.ntmps8
    go_wp2_with fail
    refine (HS.out _).mono ?_; rintro e w1 ⟨rfl, hb1⟩
    have KB1 := Lib.hid (below_next KB0.out hsz hb1); have HB1 := Lib.hid (below_in KB1.out); obtain ⟨c10, c11, c12, c13⟩ := box_cells (f := ⟨1, s, n, d⟩) KB1.out
    go_wp2_with fail
    refine (HN.out _).mono ?_; rintro e w2 ⟨rfl, hb2⟩
    have KB2 := Lib.hid (below_next KB1.out hsz hb2); have HB2 := Lib.hid (below_in KB2.out); obtain ⟨c20, c21, c22, c23⟩ := box_cells (f := ⟨1, s, n, d⟩) KB2.out
    go_wp2_with fail
    go_ret
    exact ⟨by (rw [HR.out]; try rfl), HB2.out⟩
  have hE2 : ¬ (16384 < (d : ByteArray).size ∨ 2147483647 < s) := by omega
  have HR := Lib.hid ((frame_end (f := ⟨1, s, n, d⟩) hE hE2).trans (if_pos rfl))
  clear h3 h3t h4 h4t h5t hE hE2
  go_enter Tryz.func8, Tryz.ntmps8
  go_wp2_with fail
  refine (HS.out _).mono ?_; rintro e w1 ⟨rfl, hb1⟩
  have KB1 := Lib.hid (below_next KB0.out hsz hb1); have HB1 := Lib.hid (below_in KB1.out); obtain ⟨c10, c11, c12, c13⟩ := box_cells (f := ⟨1, s, n, d⟩) KB1.out
  go_wp2_with fail
  refine (HN.out _).mono ?_; rintro e w2 ⟨rfl, hb2⟩
  have KB2 := Lib.hid (below_next KB1.out hsz hb2); have HB2 := Lib.hid (below_in KB2.out); obtain ⟨c20, c21, c22, c23⟩ := box_cells (f := ⟨1, s, n, d⟩) KB2.out
  go_wp2_with fail
  refine (HH.out _).mono ?_; rintro e w3 ⟨v, rfl, hmi, hb3⟩
  have KB3 := Lib.hid (below_next KB2.out hsz hb3); have HB3 := Lib.hid (below_in KB3.out)
  generalize hdRead d = R at *
  obtain ⟨⟨q1, q2, q3, q4⟩, q5⟩ := R
  obtain ⟨ao, cp, rfl, _⟩ := hmi
  go_wp2_with fail
  go_ret
  exact ⟨by (rw [HR.out]; try rfl), HB3.out.alloc HB3.out.size _⟩
set_option maxHeartbeats 1600000 in
theorem rfc_1e (s n : Int) (d : ByteArray) (w : World) (hs : d.size < 4294967281) (hd : d = ⟨#[]⟩) :
    Calls Tryz.prog 8 #[.agg (fcells ⟨1, s, n, d⟩)] w fun e w' => e = .returned (.int .i64 (frameE ⟨1, s, n, d⟩)) ∧ Below w.heap.size w w' := by
  subst hd
  have HS := Lib.hid (fun w => rstream_any 1 s n (⟨#[]⟩ : ByteArray) w)
  have HN := Lib.hid (fun w => rnum_any 1 s n (⟨#[]⟩ : ByteArray) w)
  have HH := Lib.hid (fun w => rheadRead_any (⟨#[]⟩ : ByteArray) w hs)
  have HB0 := Lib.hid (below_box w (Obj.cells (fcells ⟨1, s, n, (⟨#[]⟩ : ByteArray)⟩) FT)); have KB0 := Lib.hid (Below.refl (w.heap.size + 1) (w.alloc (Obj.cells (fcells ⟨1, s, n, (⟨#[]⟩ : ByteArray)⟩) FT))); have hsz : w.heap.size + 1 ≤ (w.alloc (Obj.cells (fcells ⟨1, s, n, (⟨#[]⟩ : ByteArray)⟩) FT)).heap.size := by simp
  by_cases h3 : strmB 1 s = false
  · have HR := Lib.hid (frame_early (f := ⟨1, s, n, (⟨#[]⟩ : ByteArray)⟩) (.inr (.inr (.inl h3))))
    rw [h3] at HS; clear h3
    go_enter Tryz.func8, Tryz.ntmps8
    go_wp2_with fail
    refine (HS.out _).mono ?_; rintro e w1 ⟨rfl, hb1⟩
    have KB1 := Lib.hid (below_next KB0.out hsz hb1); have HB1 := Lib.hid (below_in KB1.out); obtain ⟨c10, c11, c12, c13⟩ := box_cells (f := ⟨1, s, n, (⟨#[]⟩ : ByteArray)⟩) KB1.out
    go_wp2_with fail
    go_ret
    exact ⟨by (rw [HR.out]; try rfl), HB1.out⟩
  have h3t : strmB 1 s = true := by cases h : strmB 1 s <;> simp_all
  rw [h3t] at HS
  by_cases h4 : numB 1 n = false
  · have HR := Lib.hid (frame_early (f := ⟨1, s, n, (⟨#[]⟩ : ByteArray)⟩) (.inr (.inr (.inr (.inl h4)))))
    rw [h4] at HN; clear h3 h3t h4
    go_enter Tryz.func8, Tryz.ntmps8
    go_wp2_with fail
    refine (HS.out _).mono ?_; rintro e w1 ⟨rfl, hb1⟩
    have KB1 := Lib.hid (below_next KB0.out hsz hb1); have HB1 := Lib.hid (below_in KB1.out); obtain ⟨c10, c11, c12, c13⟩ := box_cells (f := ⟨1, s, n, (⟨#[]⟩ : ByteArray)⟩) KB1.out
    go_wp2_with fail
    refine (HN.out _).mono ?_; rintro e w2 ⟨rfl, hb2⟩
    have KB2 := Lib.hid (below_next KB1.out hsz hb2); have HB2 := Lib.hid (below_in KB2.out); obtain ⟨c20, c21, c22, c23⟩ := box_cells (f := ⟨1, s, n, (⟨#[]⟩ : ByteArray)⟩) KB2.out
    go_wp2_with fail
    go_ret
    exact ⟨by (rw [HR.out]; try rfl), HB2.out⟩
  have h4t : numB 1 n = true := by cases h : numB 1 n <;> simp_all
  rw [h4t] at HN
  have h5t : fillB 1 (⟨#[]⟩ : ByteArray) = true := rfl
  have hE : ¬ ((1 : Int) < 1 ∨ 9 < (1 : Int) ∨ strmB 1 s = false ∨ numB 1 n = false ∨ fillB 1 (⟨#[]⟩ : ByteArray) = false) := by rw [h3t, h4t, h5t]; simp
  by_cases h7 : 2147483647 < s
  · have HR := Lib.hid (frame_big (f := ⟨1, s, n, ⟨#[]⟩⟩) hE (.inr h7))
    clear h3 h3t h4 h4t h5t hE
    go_enter Tryz.func8, Tryz.ntmps8
    go_wp2_with fail
    refine (HS.out _).mono ?_; rintro e w1 ⟨rfl, hb1⟩
    have KB1 := Lib.hid (below_next KB0.out hsz hb1); have HB1 := Lib.hid (below_in KB1.out); obtain ⟨c10, c11, c12, c13⟩ := box_cells (f := ⟨1, s, n, (⟨#[]⟩ : ByteArray)⟩) KB1.out
    go_wp2_with fail
    refine (HN.out _).mono ?_; rintro e w2 ⟨rfl, hb2⟩
    have KB2 := Lib.hid (below_next KB1.out hsz hb2); have HB2 := Lib.hid (below_in KB2.out); obtain ⟨c20, c21, c22, c23⟩ := box_cells (f := ⟨1, s, n, (⟨#[]⟩ : ByteArray)⟩) KB2.out
    go_wp2_with fail
    go_ret
    exact ⟨by (rw [HR.out]; try rfl), HB2.out⟩
  have hE2 : ¬ (16384 < (⟨#[]⟩ : ByteArray).size ∨ 2147483647 < s) := by simp [ByteArray.size]; omega
  have HR := Lib.hid ((frame_end (f := ⟨1, s, n, ⟨#[]⟩⟩) hE hE2).trans (if_pos rfl))
  clear h3 h3t h4 h4t h5t hE hE2
  go_enter Tryz.func8, Tryz.ntmps8
  go_wp2_with fail
  refine (HS.out _).mono ?_; rintro e w1 ⟨rfl, hb1⟩
  have KB1 := Lib.hid (below_next KB0.out hsz hb1); have HB1 := Lib.hid (below_in KB1.out); obtain ⟨c10, c11, c12, c13⟩ := box_cells (f := ⟨1, s, n, (⟨#[]⟩ : ByteArray)⟩) KB1.out
  go_wp2_with fail
  refine (HN.out _).mono ?_; rintro e w2 ⟨rfl, hb2⟩
  have KB2 := Lib.hid (below_next KB1.out hsz hb2); have HB2 := Lib.hid (below_in KB2.out); obtain ⟨c20, c21, c22, c23⟩ := box_cells (f := ⟨1, s, n, (⟨#[]⟩ : ByteArray)⟩) KB2.out
  go_wp2_with fail
  refine (HH.out _).mono ?_; rintro e w3 ⟨v, rfl, hmi, hb3⟩
  have KB3 := Lib.hid (below_next KB2.out hsz hb3); have HB3 := Lib.hid (below_in KB3.out)
  generalize hdRead (⟨#[]⟩ : ByteArray) = R at *
  obtain ⟨⟨q1, q2, q3, q4⟩, q5⟩ := R
  obtain ⟨ao, cp, rfl, _⟩ := hmi
  go_wp2_with fail
  go_ret
  exact ⟨by (rw [HR.out]; try rfl), HB3.out.alloc HB3.out.size _⟩
set_option maxHeartbeats 1600000 in
theorem rfc_2 (s n : Int) (d : ByteArray) (w : World) (hs : d.size < 4294967281) (hd : ¬ d.size = 0) :
    Calls Tryz.prog 8 #[.agg (fcells ⟨2, s, n, d⟩)] w fun e w' => e = .returned (.int .i64 (frameE ⟨2, s, n, d⟩)) ∧ Below w.heap.size w w' := by
  have hde := isE_false hd
  have HS := Lib.hid (fun w => rstream_any 2 s n d w)
  have HN := Lib.hid (fun w => rnum_any 2 s n d w)
  have HB0 := Lib.hid (below_box w (Obj.cells (fcells ⟨2, s, n, d⟩) FT)); have KB0 := Lib.hid (Below.refl (w.heap.size + 1) (w.alloc (Obj.cells (fcells ⟨2, s, n, d⟩) FT))); have hsz : w.heap.size + 1 ≤ (w.alloc (Obj.cells (fcells ⟨2, s, n, d⟩) FT)).heap.size := by simp
  by_cases h3 : strmB 2 s = false
  · have HR := Lib.hid (frame_early (f := ⟨2, s, n, d⟩) (.inr (.inr (.inl h3))))
    rw [h3] at HS; clear h3
    go_enter Tryz.func8, Tryz.ntmps8
    go_wp2_with fail
    refine (HS.out _).mono ?_; rintro e w1 ⟨rfl, hb1⟩
    have KB1 := Lib.hid (below_next KB0.out hsz hb1); have HB1 := Lib.hid (below_in KB1.out); obtain ⟨c10, c11, c12, c13⟩ := box_cells (f := ⟨2, s, n, d⟩) KB1.out
    go_wp2_with fail
    go_ret
    exact ⟨by (rw [HR.out]; try rfl), HB1.out⟩
  have h3t : strmB 2 s = true := by cases h : strmB 2 s <;> simp_all
  rw [h3t] at HS
  by_cases h4 : numB 2 n = false
  · have HR := Lib.hid (frame_early (f := ⟨2, s, n, d⟩) (.inr (.inr (.inr (.inl h4)))))
    rw [h4] at HN; clear h3 h3t h4
    go_enter Tryz.func8, Tryz.ntmps8
    go_wp2_with fail
    refine (HS.out _).mono ?_; rintro e w1 ⟨rfl, hb1⟩
    have KB1 := Lib.hid (below_next KB0.out hsz hb1); have HB1 := Lib.hid (below_in KB1.out); obtain ⟨c10, c11, c12, c13⟩ := box_cells (f := ⟨2, s, n, d⟩) KB1.out
    go_wp2_with fail
    refine (HN.out _).mono ?_; rintro e w2 ⟨rfl, hb2⟩
    have KB2 := Lib.hid (below_next KB1.out hsz hb2); have HB2 := Lib.hid (below_in KB2.out); obtain ⟨c20, c21, c22, c23⟩ := box_cells (f := ⟨2, s, n, d⟩) KB2.out
    go_wp2_with fail
    go_ret
    exact ⟨by (rw [HR.out]; try rfl), HB2.out⟩
  have h4t : numB 2 n = true := by cases h : numB 2 n <;> simp_all
  rw [h4t] at HN
  have h5t : fillB 2 d = true := rfl
  have hE : ¬ ((2 : Int) < 1 ∨ 9 < (2 : Int) ∨ strmB 2 s = false ∨ numB 2 n = false ∨ fillB 2 d = false) := by rw [h3t, h4t, h5t]; simp
  by_cases h6 : 16384 < d.size
  · have HR := Lib.hid (frame_big (f := ⟨2, s, n, d⟩) hE (.inl h6))
    clear h3 h3t h4 h4t h5t hE
    go_enter Tryz.func8, Tryz.ntmps8
    go_wp2_with fail
    refine (HS.out _).mono ?_; rintro e w1 ⟨rfl, hb1⟩
    have KB1 := Lib.hid (below_next KB0.out hsz hb1); have HB1 := Lib.hid (below_in KB1.out); obtain ⟨c10, c11, c12, c13⟩ := box_cells (f := ⟨2, s, n, d⟩) KB1.out
    go_wp2_with fail
    refine (HN.out _).mono ?_; rintro e w2 ⟨rfl, hb2⟩
    have KB2 := Lib.hid (below_next KB1.out hsz hb2); have HB2 := Lib.hid (below_in KB2.out); obtain ⟨c20, c21, c22, c23⟩ := box_cells (f := ⟨2, s, n, d⟩) KB2.out
    go_wp2_with fail
    go_ret
    exact ⟨by (rw [HR.out]; try rfl), HB2.out⟩
  by_cases h7 : 2147483647 < s
  · have HR := Lib.hid (frame_big (f := ⟨2, s, n, d⟩) hE (.inr h7))
    clear h3 h3t h4 h4t h5t hE
    go_enter Tryz.func8, Tryz.ntmps8
    go_wp2_with fail
    refine (HS.out _).mono ?_; rintro e w1 ⟨rfl, hb1⟩
    have KB1 := Lib.hid (below_next KB0.out hsz hb1); have HB1 := Lib.hid (below_in KB1.out); obtain ⟨c10, c11, c12, c13⟩ := box_cells (f := ⟨2, s, n, d⟩) KB1.out
    go_wp2_with fail
    refine (HN.out _).mono ?_; rintro e w2 ⟨rfl, hb2⟩
    have KB2 := Lib.hid (below_next KB1.out hsz hb2); have HB2 := Lib.hid (below_in KB2.out); obtain ⟨c20, c21, c22, c23⟩ := box_cells (f := ⟨2, s, n, d⟩) KB2.out
    go_wp2_with fail
    go_ret
    exact ⟨by (rw [HR.out]; try rfl), HB2.out⟩
  have hE2 : ¬ (16384 < (d : ByteArray).size ∨ 2147483647 < s) := by omega
  have HR := Lib.hid ((frame_end (f := ⟨2, s, n, d⟩) hE hE2).trans ((if_neg (by simp)).trans (if_neg (by simp))))
  clear h3 h3t h4 h4t h5t hE hE2
  go_enter Tryz.func8, Tryz.ntmps8
  go_wp2_with fail
  refine (HS.out _).mono ?_; rintro e w1 ⟨rfl, hb1⟩
  have KB1 := Lib.hid (below_next KB0.out hsz hb1); have HB1 := Lib.hid (below_in KB1.out); obtain ⟨c10, c11, c12, c13⟩ := box_cells (f := ⟨2, s, n, d⟩) KB1.out
  go_wp2_with fail
  refine (HN.out _).mono ?_; rintro e w2 ⟨rfl, hb2⟩
  have KB2 := Lib.hid (below_next KB1.out hsz hb2); have HB2 := Lib.hid (below_in KB2.out); obtain ⟨c20, c21, c22, c23⟩ := box_cells (f := ⟨2, s, n, d⟩) KB2.out
  go_wp2_with fail
  go_ret
  exact ⟨by (rw [HR.out]; try rfl), HB2.out⟩
set_option maxHeartbeats 1600000 in
theorem rfc_2e (s n : Int) (d : ByteArray) (w : World) (hs : d.size < 4294967281) (hd : d = ⟨#[]⟩) :
    Calls Tryz.prog 8 #[.agg (fcells ⟨2, s, n, d⟩)] w fun e w' => e = .returned (.int .i64 (frameE ⟨2, s, n, d⟩)) ∧ Below w.heap.size w w' := by
  subst hd
  have HS := Lib.hid (fun w => rstream_any 2 s n (⟨#[]⟩ : ByteArray) w)
  have HN := Lib.hid (fun w => rnum_any 2 s n (⟨#[]⟩ : ByteArray) w)
  have HB0 := Lib.hid (below_box w (Obj.cells (fcells ⟨2, s, n, (⟨#[]⟩ : ByteArray)⟩) FT)); have KB0 := Lib.hid (Below.refl (w.heap.size + 1) (w.alloc (Obj.cells (fcells ⟨2, s, n, (⟨#[]⟩ : ByteArray)⟩) FT))); have hsz : w.heap.size + 1 ≤ (w.alloc (Obj.cells (fcells ⟨2, s, n, (⟨#[]⟩ : ByteArray)⟩) FT)).heap.size := by simp
  by_cases h3 : strmB 2 s = false
  · have HR := Lib.hid (frame_early (f := ⟨2, s, n, (⟨#[]⟩ : ByteArray)⟩) (.inr (.inr (.inl h3))))
    rw [h3] at HS; clear h3
    go_enter Tryz.func8, Tryz.ntmps8
    go_wp2_with fail
    refine (HS.out _).mono ?_; rintro e w1 ⟨rfl, hb1⟩
    have KB1 := Lib.hid (below_next KB0.out hsz hb1); have HB1 := Lib.hid (below_in KB1.out); obtain ⟨c10, c11, c12, c13⟩ := box_cells (f := ⟨2, s, n, (⟨#[]⟩ : ByteArray)⟩) KB1.out
    go_wp2_with fail
    go_ret
    exact ⟨by (rw [HR.out]; try rfl), HB1.out⟩
  have h3t : strmB 2 s = true := by cases h : strmB 2 s <;> simp_all
  rw [h3t] at HS
  by_cases h4 : numB 2 n = false
  · have HR := Lib.hid (frame_early (f := ⟨2, s, n, (⟨#[]⟩ : ByteArray)⟩) (.inr (.inr (.inr (.inl h4)))))
    rw [h4] at HN; clear h3 h3t h4
    go_enter Tryz.func8, Tryz.ntmps8
    go_wp2_with fail
    refine (HS.out _).mono ?_; rintro e w1 ⟨rfl, hb1⟩
    have KB1 := Lib.hid (below_next KB0.out hsz hb1); have HB1 := Lib.hid (below_in KB1.out); obtain ⟨c10, c11, c12, c13⟩ := box_cells (f := ⟨2, s, n, (⟨#[]⟩ : ByteArray)⟩) KB1.out
    go_wp2_with fail
    refine (HN.out _).mono ?_; rintro e w2 ⟨rfl, hb2⟩
    have KB2 := Lib.hid (below_next KB1.out hsz hb2); have HB2 := Lib.hid (below_in KB2.out); obtain ⟨c20, c21, c22, c23⟩ := box_cells (f := ⟨2, s, n, (⟨#[]⟩ : ByteArray)⟩) KB2.out
    go_wp2_with fail
    go_ret
    exact ⟨by (rw [HR.out]; try rfl), HB2.out⟩
  have h4t : numB 2 n = true := by cases h : numB 2 n <;> simp_all
  rw [h4t] at HN
  have h5t : fillB 2 (⟨#[]⟩ : ByteArray) = true := rfl
  have hE : ¬ ((2 : Int) < 1 ∨ 9 < (2 : Int) ∨ strmB 2 s = false ∨ numB 2 n = false ∨ fillB 2 (⟨#[]⟩ : ByteArray) = false) := by rw [h3t, h4t, h5t]; simp
  by_cases h7 : 2147483647 < s
  · have HR := Lib.hid (frame_big (f := ⟨2, s, n, ⟨#[]⟩⟩) hE (.inr h7))
    clear h3 h3t h4 h4t h5t hE
    go_enter Tryz.func8, Tryz.ntmps8
    go_wp2_with fail
    refine (HS.out _).mono ?_; rintro e w1 ⟨rfl, hb1⟩
    have KB1 := Lib.hid (below_next KB0.out hsz hb1); have HB1 := Lib.hid (below_in KB1.out); obtain ⟨c10, c11, c12, c13⟩ := box_cells (f := ⟨2, s, n, (⟨#[]⟩ : ByteArray)⟩) KB1.out
    go_wp2_with fail
    refine (HN.out _).mono ?_; rintro e w2 ⟨rfl, hb2⟩
    have KB2 := Lib.hid (below_next KB1.out hsz hb2); have HB2 := Lib.hid (below_in KB2.out); obtain ⟨c20, c21, c22, c23⟩ := box_cells (f := ⟨2, s, n, (⟨#[]⟩ : ByteArray)⟩) KB2.out
    go_wp2_with fail
    go_ret
    exact ⟨by (rw [HR.out]; try rfl), HB2.out⟩
  have hE2 : ¬ (16384 < (⟨#[]⟩ : ByteArray).size ∨ 2147483647 < s) := by simp [ByteArray.size]; omega
  have HR := Lib.hid ((frame_end (f := ⟨2, s, n, ⟨#[]⟩⟩) hE hE2).trans ((if_neg (by simp)).trans (if_neg (by simp))))
  clear h3 h3t h4 h4t h5t hE hE2
  go_enter Tryz.func8, Tryz.ntmps8
  go_wp2_with fail
  refine (HS.out _).mono ?_; rintro e w1 ⟨rfl, hb1⟩
  have KB1 := Lib.hid (below_next KB0.out hsz hb1); have HB1 := Lib.hid (below_in KB1.out); obtain ⟨c10, c11, c12, c13⟩ := box_cells (f := ⟨2, s, n, (⟨#[]⟩ : ByteArray)⟩) KB1.out
  go_wp2_with fail
  refine (HN.out _).mono ?_; rintro e w2 ⟨rfl, hb2⟩
  have KB2 := Lib.hid (below_next KB1.out hsz hb2); have HB2 := Lib.hid (below_in KB2.out); obtain ⟨c20, c21, c22, c23⟩ := box_cells (f := ⟨2, s, n, (⟨#[]⟩ : ByteArray)⟩) KB2.out
  go_wp2_with fail
  go_ret
  exact ⟨by (rw [HR.out]; try rfl), HB2.out⟩
set_option maxHeartbeats 1600000 in
theorem rfc_4 (s n : Int) (d : ByteArray) (w : World) (hs : d.size < 4294967281) (hd : ¬ d.size = 0) :
    Calls Tryz.prog 8 #[.agg (fcells ⟨4, s, n, d⟩)] w fun e w' => e = .returned (.int .i64 (frameE ⟨4, s, n, d⟩)) ∧ Below w.heap.size w w' := by
  have hde := isE_false hd
  have HS := Lib.hid (fun w => rstream_any 4 s n d w)
  have HN := Lib.hid (fun w => rnum_any 4 s n d w)
  have HU := Lib.hid (fun w => refUnpack_any d w (by omega))
  have HB0 := Lib.hid (below_box w (Obj.cells (fcells ⟨4, s, n, d⟩) FT)); have KB0 := Lib.hid (Below.refl (w.heap.size + 1) (w.alloc (Obj.cells (fcells ⟨4, s, n, d⟩) FT))); have hsz : w.heap.size + 1 ≤ (w.alloc (Obj.cells (fcells ⟨4, s, n, d⟩) FT)).heap.size := by simp
  by_cases h3 : strmB 4 s = false
  · have HR := Lib.hid (frame_early (f := ⟨4, s, n, d⟩) (.inr (.inr (.inl h3))))
    rw [h3] at HS; clear h3
    go_enter Tryz.func8, Tryz.ntmps8
    go_wp2_with fail
    refine (HS.out _).mono ?_; rintro e w1 ⟨rfl, hb1⟩
    have KB1 := Lib.hid (below_next KB0.out hsz hb1); have HB1 := Lib.hid (below_in KB1.out); obtain ⟨c10, c11, c12, c13⟩ := box_cells (f := ⟨4, s, n, d⟩) KB1.out
    go_wp2_with fail
    go_ret
    exact ⟨by (rw [HR.out]; try rfl), HB1.out⟩
  have h3t : strmB 4 s = true := by cases h : strmB 4 s <;> simp_all
  rw [h3t] at HS
  by_cases h4 : numB 4 n = false
  · have HR := Lib.hid (frame_early (f := ⟨4, s, n, d⟩) (.inr (.inr (.inr (.inl h4)))))
    rw [h4] at HN; clear h3 h3t h4
    go_enter Tryz.func8, Tryz.ntmps8
    go_wp2_with fail
    refine (HS.out _).mono ?_; rintro e w1 ⟨rfl, hb1⟩
    have KB1 := Lib.hid (below_next KB0.out hsz hb1); have HB1 := Lib.hid (below_in KB1.out); obtain ⟨c10, c11, c12, c13⟩ := box_cells (f := ⟨4, s, n, d⟩) KB1.out
    go_wp2_with fail
    refine (HN.out _).mono ?_; rintro e w2 ⟨rfl, hb2⟩
    have KB2 := Lib.hid (below_next KB1.out hsz hb2); have HB2 := Lib.hid (below_in KB2.out); obtain ⟨c20, c21, c22, c23⟩ := box_cells (f := ⟨4, s, n, d⟩) KB2.out
    go_wp2_with fail
    go_ret
    exact ⟨by (rw [HR.out]; try rfl), HB2.out⟩
  have h4t : numB 4 n = true := by cases h : numB 4 n <;> simp_all
  rw [h4t] at HN
  have h5t : fillB 4 d = true := rfl
  have hE : ¬ ((4 : Int) < 1 ∨ 9 < (4 : Int) ∨ strmB 4 s = false ∨ numB 4 n = false ∨ fillB 4 d = false) := by rw [h3t, h4t, h5t]; simp
  by_cases h6 : 16384 < d.size
  · have HR := Lib.hid (frame_big (f := ⟨4, s, n, d⟩) hE (.inl h6))
    clear h3 h3t h4 h4t h5t hE
    go_enter Tryz.func8, Tryz.ntmps8
    go_wp2_with fail
    refine (HS.out _).mono ?_; rintro e w1 ⟨rfl, hb1⟩
    have KB1 := Lib.hid (below_next KB0.out hsz hb1); have HB1 := Lib.hid (below_in KB1.out); obtain ⟨c10, c11, c12, c13⟩ := box_cells (f := ⟨4, s, n, d⟩) KB1.out
    go_wp2_with fail
    refine (HN.out _).mono ?_; rintro e w2 ⟨rfl, hb2⟩
    have KB2 := Lib.hid (below_next KB1.out hsz hb2); have HB2 := Lib.hid (below_in KB2.out); obtain ⟨c20, c21, c22, c23⟩ := box_cells (f := ⟨4, s, n, d⟩) KB2.out
    go_wp2_with fail
    go_ret
    exact ⟨by (rw [HR.out]; try rfl), HB2.out⟩
  by_cases h7 : 2147483647 < s
  · have HR := Lib.hid (frame_big (f := ⟨4, s, n, d⟩) hE (.inr h7))
    clear h3 h3t h4 h4t h5t hE
    go_enter Tryz.func8, Tryz.ntmps8
    go_wp2_with fail
    refine (HS.out _).mono ?_; rintro e w1 ⟨rfl, hb1⟩
    have KB1 := Lib.hid (below_next KB0.out hsz hb1); have HB1 := Lib.hid (below_in KB1.out); obtain ⟨c10, c11, c12, c13⟩ := box_cells (f := ⟨4, s, n, d⟩) KB1.out
    go_wp2_with fail
    refine (HN.out _).mono ?_; rintro e w2 ⟨rfl, hb2⟩
    have KB2 := Lib.hid (below_next KB1.out hsz hb2); have HB2 := Lib.hid (below_in KB2.out); obtain ⟨c20, c21, c22, c23⟩ := box_cells (f := ⟨4, s, n, d⟩) KB2.out
    go_wp2_with fail
    go_ret
    exact ⟨by (rw [HR.out]; try rfl), HB2.out⟩
  have hE2 : ¬ (16384 < (d : ByteArray).size ∨ 2147483647 < s) := by omega
  have HR := Lib.hid ((frame_end (f := ⟨4, s, n, d⟩) hE hE2).trans ((if_neg (by simp)).trans (if_pos rfl)))
  clear h3 h3t h4 h4t h5t hE hE2
  go_enter Tryz.func8, Tryz.ntmps8
  go_wp2_with fail
  refine (HS.out _).mono ?_; rintro e w1 ⟨rfl, hb1⟩
  have KB1 := Lib.hid (below_next KB0.out hsz hb1); have HB1 := Lib.hid (below_in KB1.out); obtain ⟨c10, c11, c12, c13⟩ := box_cells (f := ⟨4, s, n, d⟩) KB1.out
  go_wp2_with fail
  refine (HN.out _).mono ?_; rintro e w2 ⟨rfl, hb2⟩
  have KB2 := Lib.hid (below_next KB1.out hsz hb2); have HB2 := Lib.hid (below_in KB2.out); obtain ⟨c20, c21, c22, c23⟩ := box_cells (f := ⟨4, s, n, d⟩) KB2.out
  go_wp2_with fail
  refine (HU.out _).mono ?_; rintro e w3 ⟨rfl, hb3⟩
  have KB3 := Lib.hid (below_next KB2.out hsz hb3); have HB3 := Lib.hid (below_in KB3.out); obtain ⟨c30, c31, c32, c33⟩ := box_cells (f := ⟨4, s, n, d⟩) KB3.out
  go_wp2_with fail
  go_ret
  exact ⟨by (rw [HR.out]; try rfl), HB3.out.alloc HB3.out.size _⟩
set_option maxHeartbeats 1600000 in
theorem rfc_4e (s n : Int) (d : ByteArray) (w : World) (hs : d.size < 4294967281) (hd : d = ⟨#[]⟩) :
    Calls Tryz.prog 8 #[.agg (fcells ⟨4, s, n, d⟩)] w fun e w' => e = .returned (.int .i64 (frameE ⟨4, s, n, d⟩)) ∧ Below w.heap.size w w' := by
  subst hd
  have HS := Lib.hid (fun w => rstream_any 4 s n (⟨#[]⟩ : ByteArray) w)
  have HN := Lib.hid (fun w => rnum_any 4 s n (⟨#[]⟩ : ByteArray) w)
  have HU := Lib.hid (fun w => refUnpack_any (⟨#[]⟩ : ByteArray) w (by omega))
  have HB0 := Lib.hid (below_box w (Obj.cells (fcells ⟨4, s, n, (⟨#[]⟩ : ByteArray)⟩) FT)); have KB0 := Lib.hid (Below.refl (w.heap.size + 1) (w.alloc (Obj.cells (fcells ⟨4, s, n, (⟨#[]⟩ : ByteArray)⟩) FT))); have hsz : w.heap.size + 1 ≤ (w.alloc (Obj.cells (fcells ⟨4, s, n, (⟨#[]⟩ : ByteArray)⟩) FT)).heap.size := by simp
  by_cases h3 : strmB 4 s = false
  · have HR := Lib.hid (frame_early (f := ⟨4, s, n, (⟨#[]⟩ : ByteArray)⟩) (.inr (.inr (.inl h3))))
    rw [h3] at HS; clear h3
    go_enter Tryz.func8, Tryz.ntmps8
    go_wp2_with fail
    refine (HS.out _).mono ?_; rintro e w1 ⟨rfl, hb1⟩
    have KB1 := Lib.hid (below_next KB0.out hsz hb1); have HB1 := Lib.hid (below_in KB1.out); obtain ⟨c10, c11, c12, c13⟩ := box_cells (f := ⟨4, s, n, (⟨#[]⟩ : ByteArray)⟩) KB1.out
    go_wp2_with fail
    go_ret
    exact ⟨by (rw [HR.out]; try rfl), HB1.out⟩
  have h3t : strmB 4 s = true := by cases h : strmB 4 s <;> simp_all
  rw [h3t] at HS
  by_cases h4 : numB 4 n = false
  · have HR := Lib.hid (frame_early (f := ⟨4, s, n, (⟨#[]⟩ : ByteArray)⟩) (.inr (.inr (.inr (.inl h4)))))
    rw [h4] at HN; clear h3 h3t h4
    go_enter Tryz.func8, Tryz.ntmps8
    go_wp2_with fail
    refine (HS.out _).mono ?_; rintro e w1 ⟨rfl, hb1⟩
    have KB1 := Lib.hid (below_next KB0.out hsz hb1); have HB1 := Lib.hid (below_in KB1.out); obtain ⟨c10, c11, c12, c13⟩ := box_cells (f := ⟨4, s, n, (⟨#[]⟩ : ByteArray)⟩) KB1.out
    go_wp2_with fail
    refine (HN.out _).mono ?_; rintro e w2 ⟨rfl, hb2⟩
    have KB2 := Lib.hid (below_next KB1.out hsz hb2); have HB2 := Lib.hid (below_in KB2.out); obtain ⟨c20, c21, c22, c23⟩ := box_cells (f := ⟨4, s, n, (⟨#[]⟩ : ByteArray)⟩) KB2.out
    go_wp2_with fail
    go_ret
    exact ⟨by (rw [HR.out]; try rfl), HB2.out⟩
  have h4t : numB 4 n = true := by cases h : numB 4 n <;> simp_all
  rw [h4t] at HN
  have h5t : fillB 4 (⟨#[]⟩ : ByteArray) = true := rfl
  have hE : ¬ ((4 : Int) < 1 ∨ 9 < (4 : Int) ∨ strmB 4 s = false ∨ numB 4 n = false ∨ fillB 4 (⟨#[]⟩ : ByteArray) = false) := by rw [h3t, h4t, h5t]; simp
  by_cases h7 : 2147483647 < s
  · have HR := Lib.hid (frame_big (f := ⟨4, s, n, ⟨#[]⟩⟩) hE (.inr h7))
    clear h3 h3t h4 h4t h5t hE
    go_enter Tryz.func8, Tryz.ntmps8
    go_wp2_with fail
    refine (HS.out _).mono ?_; rintro e w1 ⟨rfl, hb1⟩
    have KB1 := Lib.hid (below_next KB0.out hsz hb1); have HB1 := Lib.hid (below_in KB1.out); obtain ⟨c10, c11, c12, c13⟩ := box_cells (f := ⟨4, s, n, (⟨#[]⟩ : ByteArray)⟩) KB1.out
    go_wp2_with fail
    refine (HN.out _).mono ?_; rintro e w2 ⟨rfl, hb2⟩
    have KB2 := Lib.hid (below_next KB1.out hsz hb2); have HB2 := Lib.hid (below_in KB2.out); obtain ⟨c20, c21, c22, c23⟩ := box_cells (f := ⟨4, s, n, (⟨#[]⟩ : ByteArray)⟩) KB2.out
    go_wp2_with fail
    go_ret
    exact ⟨by (rw [HR.out]; try rfl), HB2.out⟩
  have hE2 : ¬ (16384 < (⟨#[]⟩ : ByteArray).size ∨ 2147483647 < s) := by simp [ByteArray.size]; omega
  have HR := Lib.hid ((frame_end (f := ⟨4, s, n, ⟨#[]⟩⟩) hE hE2).trans ((if_neg (by simp)).trans (if_pos rfl)))
  clear h3 h3t h4 h4t h5t hE hE2
  go_enter Tryz.func8, Tryz.ntmps8
  go_wp2_with fail
  refine (HS.out _).mono ?_; rintro e w1 ⟨rfl, hb1⟩
  have KB1 := Lib.hid (below_next KB0.out hsz hb1); have HB1 := Lib.hid (below_in KB1.out); obtain ⟨c10, c11, c12, c13⟩ := box_cells (f := ⟨4, s, n, (⟨#[]⟩ : ByteArray)⟩) KB1.out
  go_wp2_with fail
  refine (HN.out _).mono ?_; rintro e w2 ⟨rfl, hb2⟩
  have KB2 := Lib.hid (below_next KB1.out hsz hb2); have HB2 := Lib.hid (below_in KB2.out); obtain ⟨c20, c21, c22, c23⟩ := box_cells (f := ⟨4, s, n, (⟨#[]⟩ : ByteArray)⟩) KB2.out
  go_wp2_with fail
  refine (HU.out _).mono ?_; rintro e w3 ⟨rfl, hb3⟩
  have KB3 := Lib.hid (below_next KB2.out hsz hb3); have HB3 := Lib.hid (below_in KB3.out); obtain ⟨c30, c31, c32, c33⟩ := box_cells (f := ⟨4, s, n, (⟨#[]⟩ : ByteArray)⟩) KB3.out
  go_wp2_with fail
  go_ret
  exact ⟨by (rw [HR.out]; try rfl), HB3.out.alloc HB3.out.size _⟩
set_option maxHeartbeats 1600000 in
theorem rfc_x (k s n : Int) (d : ByteArray) (w : World) (hs : d.size < 4294967281) (k1 : ¬ k = 1) (k2 : ¬ k = 2) (k4 : ¬ k = 4) :
    Calls Tryz.prog 8 #[.agg (fcells ⟨k, s, n, d⟩)] w fun e w' => e = .returned (.int .i64 (frameE ⟨k, s, n, d⟩)) ∧ Below w.heap.size w w' := by
  have q1 : (k == 1) = false := by simp [k1]
  have q2 : (k == 2) = false := by simp [k2]
  have q4 : (k == 4) = false := by simp [k4]
  have HS := Lib.hid (fun w => rstream_any k s n d w)
  have HN := Lib.hid (fun w => rnum_any k s n d w)
  have HB0 := Lib.hid (below_box w (Obj.cells (fcells ⟨k, s, n, d⟩) FT)); have KB0 := Lib.hid (Below.refl (w.heap.size + 1) (w.alloc (Obj.cells (fcells ⟨k, s, n, d⟩) FT))); have hsz : w.heap.size + 1 ≤ (w.alloc (Obj.cells (fcells ⟨k, s, n, d⟩) FT)).heap.size := by simp
  by_cases h1 : k < 1
  · have HR := Lib.hid (frame_early (f := ⟨k, s, n, d⟩) (.inl h1))
    go_enter Tryz.func8, Tryz.ntmps8
    go_wp2_with fail
    go_ret
    exact ⟨by (rw [HR.out]; try rfl), HB0.out⟩
  by_cases h2 : 9 < k
  · have HR := Lib.hid (frame_early (f := ⟨k, s, n, d⟩) (.inr (.inl h2)))
    go_enter Tryz.func8, Tryz.ntmps8
    go_wp2_with fail
    go_ret
    exact ⟨by (rw [HR.out]; try rfl), HB0.out⟩
  by_cases h3 : strmB k s = false
  · have HR := Lib.hid (frame_early (f := ⟨k, s, n, d⟩) (.inr (.inr (.inl h3))))
    rw [h3] at HS; clear h3
    go_enter Tryz.func8, Tryz.ntmps8
    go_wp2_with fail
    refine (HS.out _).mono ?_; rintro e w1 ⟨rfl, hb1⟩
    have KB1 := Lib.hid (below_next KB0.out hsz hb1); have HB1 := Lib.hid (below_in KB1.out); obtain ⟨c10, c11, c12, c13⟩ := box_cells (f := ⟨k, s, n, d⟩) KB1.out
    go_wp2_with fail
    go_ret
    exact ⟨by (rw [HR.out]; try rfl), HB1.out⟩
  have h3t : strmB k s = true := by cases h : strmB k s <;> simp_all
  rw [h3t] at HS
  by_cases h4 : numB k n = false
  · have HR := Lib.hid (frame_early (f := ⟨k, s, n, d⟩) (.inr (.inr (.inr (.inl h4)))))
    rw [h4] at HN; clear h3 h3t h4
    go_enter Tryz.func8, Tryz.ntmps8
    go_wp2_with fail
    refine (HS.out _).mono ?_; rintro e w1 ⟨rfl, hb1⟩
    have KB1 := Lib.hid (below_next KB0.out hsz hb1); have HB1 := Lib.hid (below_in KB1.out); obtain ⟨c10, c11, c12, c13⟩ := box_cells (f := ⟨k, s, n, d⟩) KB1.out
    go_wp2_with fail
    refine (HN.out _).mono ?_; rintro e w2 ⟨rfl, hb2⟩
    have KB2 := Lib.hid (below_next KB1.out hsz hb2); have HB2 := Lib.hid (below_in KB2.out); obtain ⟨c20, c21, c22, c23⟩ := box_cells (f := ⟨k, s, n, d⟩) KB2.out
    go_wp2_with fail
    go_ret
    exact ⟨by (rw [HR.out]; try rfl), HB2.out⟩
  have h4t : numB k n = true := by cases h : numB k n <;> simp_all
  rw [h4t] at HN
  by_cases h5 : fillB k d = false
  · have HR := Lib.hid (frame_early (f := ⟨k, s, n, d⟩) (.inr (.inr (.inr (.inr h5)))))
    obtain ⟨_, _, _, hd⟩ := fill_not h5
    have hde := isE_false hd; clear h3 h3t h4 h4t h5
    go_enter Tryz.func8, Tryz.ntmps8
    go_wp2_with fail
    refine (HS.out _).mono ?_; rintro e w1 ⟨rfl, hb1⟩
    have KB1 := Lib.hid (below_next KB0.out hsz hb1); have HB1 := Lib.hid (below_in KB1.out); obtain ⟨c10, c11, c12, c13⟩ := box_cells (f := ⟨k, s, n, d⟩) KB1.out
    go_wp2_with fail
    refine (HN.out _).mono ?_; rintro e w2 ⟨rfl, hb2⟩
    have KB2 := Lib.hid (below_next KB1.out hsz hb2); have HB2 := Lib.hid (below_in KB2.out); obtain ⟨c20, c21, c22, c23⟩ := box_cells (f := ⟨k, s, n, d⟩) KB2.out
    go_wp2_with fail
    go_ret
    exact ⟨by (rw [HR.out]; try rfl), HB2.out⟩
  have h5t : fillB k d = true := by cases h : fillB k d <;> simp_all
  have hE : ¬ ((k : Int) < 1 ∨ 9 < (k : Int) ∨ strmB k s = false ∨ numB k n = false ∨ fillB k d = false) := by rw [h3t, h4t, h5t]; simp; omega
  have hd : d = ⟨#[]⟩ := by rcases fill_ok h5t with h | h; (omega); exact h.2
  subst hd
  by_cases h7 : 2147483647 < s
  · have HR := Lib.hid (frame_big (f := ⟨k, s, n, ⟨#[]⟩⟩) hE (.inr h7))
    clear h3 h3t h4 h4t h5 h5t hE
    go_enter Tryz.func8, Tryz.ntmps8
    go_wp2_with fail
    refine (HS.out _).mono ?_; rintro e w1 ⟨rfl, hb1⟩
    have KB1 := Lib.hid (below_next KB0.out hsz hb1); have HB1 := Lib.hid (below_in KB1.out); obtain ⟨c10, c11, c12, c13⟩ := box_cells (f := ⟨k, s, n, (⟨#[]⟩ : ByteArray)⟩) KB1.out
    go_wp2_with fail
    refine (HN.out _).mono ?_; rintro e w2 ⟨rfl, hb2⟩
    have KB2 := Lib.hid (below_next KB1.out hsz hb2); have HB2 := Lib.hid (below_in KB2.out); obtain ⟨c20, c21, c22, c23⟩ := box_cells (f := ⟨k, s, n, (⟨#[]⟩ : ByteArray)⟩) KB2.out
    go_wp2_with fail
    go_ret
    exact ⟨by (rw [HR.out]; try rfl), HB2.out⟩
  have hE2 : ¬ (16384 < (⟨#[]⟩ : ByteArray).size ∨ 2147483647 < s) := by simp [ByteArray.size]; omega
  have HR := Lib.hid ((frame_end (f := ⟨k, s, n, ⟨#[]⟩⟩) hE hE2).trans ((if_neg k1).trans (if_neg k4)))
  clear h3 h3t h4 h4t h5 h5t hE hE2
  go_enter Tryz.func8, Tryz.ntmps8
  go_wp2_with fail
  refine (HS.out _).mono ?_; rintro e w1 ⟨rfl, hb1⟩
  have KB1 := Lib.hid (below_next KB0.out hsz hb1); have HB1 := Lib.hid (below_in KB1.out); obtain ⟨c10, c11, c12, c13⟩ := box_cells (f := ⟨k, s, n, (⟨#[]⟩ : ByteArray)⟩) KB1.out
  go_wp2_with fail
  refine (HN.out _).mono ?_; rintro e w2 ⟨rfl, hb2⟩
  have KB2 := Lib.hid (below_next KB1.out hsz hb2); have HB2 := Lib.hid (below_in KB2.out); obtain ⟨c20, c21, c22, c23⟩ := box_cells (f := ⟨k, s, n, (⟨#[]⟩ : ByteArray)⟩) KB2.out
  go_wp2_with fail
  go_ret
  exact ⟨by (rw [HR.out]; try rfl), HB2.out⟩
theorem rfcheck_any (f : FrV) (w : World) (hs : f.data.size < 4294967281) :
    Calls Tryz.prog 8 #[.agg (fcells f)] w fun e w' => e = .returned (.int .i64 (frameE f)) ∧ Below w.heap.size w w' := by
  obtain ⟨k, s, n, d⟩ := f
  by_cases k1 : k = 1
  · subst k1; by_cases hd : d.size = 0; (exact rfc_1e s n d w hs (ByteArray.ext (Array.eq_empty_of_size_eq_zero hd))); exact rfc_1 s n d w hs hd
  by_cases k2 : k = 2
  · subst k2; by_cases hd : d.size = 0; (exact rfc_2e s n d w hs (ByteArray.ext (Array.eq_empty_of_size_eq_zero hd))); exact rfc_2 s n d w hs hd
  by_cases k4 : k = 4
  · subst k4; by_cases hd : d.size = 0; (exact rfc_4e s n d w hs (ByteArray.ext (Array.eq_empty_of_size_eq_zero hd))); exact rfc_4 s n d w hs hd
  exact rfc_x k s n d w hs k1 k2 k4
end Go.Proofs.YtpfkddbhpoeknaaGreatDoor
