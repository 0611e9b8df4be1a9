/- frame.Write, its reference, and the law's own walk through the chapter's examples. -/
import Derived.Test.YtpfkddbhpoeknaaDoorFrRd
namespace Go.Proofs.YtpfkddbhpoeknaaDoor
open Go.RowKit
structure WrV where
  bytes : ByteArray
  err : Int
def writeF (f : FrV) : WrV := if frameE f = 0 then ⟨frB f, 0⟩ else ⟨⟨#[]⟩, frameE f⟩
theorem bytesF {fn : FuncId} (f : FrV) (h : frameE f = 0)
    (hb : ∀ (k s n : Nat) (d : ByteArray) (w : World), k < 256 → s < 9223372036854775808 → n < 9223372036854775808 → d.size < 4294967281 → Calls Tryd.prog fn #[.agg (fcells ⟨k, s, n, d⟩)] w fun e w' => e = .returned (.string (frB ⟨k, s, n, d⟩)) ∧ Below w.heap.size w w') (w : World) :
    Calls Tryd.prog fn #[.agg (fcells f)] w fun e w' => e = .returned (.string (frB f)) ∧ Below w.heap.size w w' := by
  obtain ⟨h1, h2, h3, h4, h5, h6, h7⟩ := frameE_ok h
  obtain ⟨k, s, n, d⟩ := f
  simp only at h1 h2 h3 h4 h5 h6 h7
  obtain ⟨k, rfl⟩ : ∃ m : Nat, k = m := ⟨k.toNat, by omega⟩
  obtain ⟨s, rfl⟩ : ∃ m : Nat, s = m := ⟨s.toNat, by omega⟩
  obtain ⟨n, rfl⟩ : ∃ m : Nat, n = m := ⟨n.toNat, by omega⟩
  exact hb k s n d w (by omega) (by omega) (by omega) (by omega)
theorem write_any (f : FrV) (w : World) (hg : MLen w) (hs : f.data.size < 4294967281) :
    Calls Tryd.prog 18 #[.agg (fcells f)] w fun e w' => e = .returned (.tuple #[.string (writeF f).bytes, .int .i64 (writeF f).err]) ∧ Below w.heap.size w w' := by
  have HC := Lib.hid (fun w hg => fcheck_any f w hg hs)
  have HG := Lib.hid hg; clear hg
  have HBF := Lib.hid (fun (h : frameE f = 0) => bytesF f h bytes_any)
  have HW := Lib.hid (show writeF f = if frameE f = 0 then ⟨frB f, 0⟩ else ⟨⟨#[]⟩, frameE f⟩ from rfl)
  generalize writeF f = WR at *
  generalize frB f = B at *
  generalize frameE f = c at *
  have HB0 := Lib.hid (below_box w (.cells (fcells f) FT))
  have HK0 := Lib.hid (Below.refl (w.heap.size + 1) (w.alloc (.cells (fcells f) FT)))
  go_enter Tryd.func18, Tryd.ntmps18
  go_wp2_with fail
  refine (HC.out _ (HG.out.below HB0.out)).mono ?_; rintro e w1 ⟨rfl, hb1⟩
  have HK1 := Lib.hid (below_next HK0.out (show w.heap.size + 1 ≤ (w.alloc (.cells (fcells f) FT)).heap.size by simp) hb1)
  obtain ⟨c0, c1, c2, c3⟩ := box_cells (f := f) HK1.out
  have HB1 := Lib.hid (below_in HK1.out)
  clear hb1
  by_cases hc : c = 0
  · subst hc
    have HWR := Lib.hid (show WR = ⟨B, 0⟩ by rw [HW.out, if_pos rfl])
    go_wp2_with fail
    refine (HBF.out (by first | rfl | trivial) _).mono ?_; rintro e w2 ⟨rfl, hb2⟩
    go_wp2_with fail
    go_ret2
    exact ⟨by rw [HWR.out]; rfl, HB1.out.trans (hb2.mono HB1.out.size)⟩
  · have HWR := Lib.hid (show WR = ⟨⟨#[]⟩, c⟩ by rw [HW.out, if_neg hc])
    obtain ⟨q1, q2⟩ := byte_eq hc
    clear hc
    go_wp2_with fail
    go_ret2
    exact ⟨by rw [HWR.out]; rfl, HB1.out⟩
def ex1 : HdV := ⟨⟨#[97, 46, 83]⟩, ⟨#[71, 101, 116]⟩, 0, []⟩
def ex1B : ByteArray := ⟨#[3, 97, 46, 83, 3, 71, 101, 116, 0, 0]⟩
def ex2 : FrV := ⟨3, 1, 0, ⟨#[]⟩⟩
theorem ex1_ok : headE ex1 = 0 := by decide +kernel
theorem ex1_bytes : (headL ex1).toArray = #[3, 97, 46, 83, 3, 71, 101, 116, 0, 0] := by decide +kernel
theorem ex1_head : headW ex1 = ⟨headL ex1, 0⟩ := by unfold headW; rw [if_pos ex1_ok]
theorem ex1_read : hdRead ex1B = ⟨ex1, 0⟩ := by
  have := hdRead_headL (h := ex1) ex1_ok ⟨by decide, by decide, fun m h => by cases h⟩
  rw [ex1_bytes] at this; exact this
theorem ex2_ok : frameE ex2 = 0 := by decide +kernel
theorem ex2_size : (frB ex2).size = 8 := by rw [frB_size]; decide +kernel
theorem ex2_front : (frB ex2).extract 0 4 = ⟨#[3, 1, 0, 0]⟩ := by
  have h : frL ex2 = [3, 1, 0, 0] := by decide +kernel
  unfold frB sealB
  have := cat_ext ⟨(frL ex2).toArray⟩ ⟨(le4 (crcV (⟨(frL ex2).toArray⟩ : ByteArray).data.toList)).toArray⟩
  rw [h] at this ⊢
  exact this
theorem ex2_read : readL (frB ex2).data.toList = ⟨ex2, 8, 0⟩ := by
  have := readL_frB ex2 ex2_ok []
  rw [List.append_nil, ex2_size] at this; exact this
set_option maxHeartbeats 4000000 in
set_option maxRecDepth 100000 in
theorem awake_any (w : World) (hg : MLen w) : Calls Tryd.prog 9 #[] w fun e w' => e = .returned (.bool true) ∧ Below w.heap.size w w' := by
  have HG := Lib.hid hg; clear hg
  have HH := Lib.hid (fun w hg => (head_any ex1 (.slice none 0 0) w hg (MsIn.zero w) ⟨by decide, by decide, fun m h => by cases h⟩).mono fun e w' h => (show e = .returned (.tuple #[.string ex1B, .int .i64 0]) ∧ Below w.heap.size w w' by rw [ex1_head] at h; simp only at h; rw [ex1_bytes] at h; exact h))
  have HR := Lib.hid (fun w hg => (headRead_any ex1B w hg (by decide)).mono fun e w' h => (show ∃ v, e = .returned (.tuple #[.agg #[.string ⟨#[97, 46, 83]⟩, .string ⟨#[71, 101, 116]⟩, .int .i64 0, v], .int .i64 0]) ∧ MsIn w' v [] ∧ Below w.heap.size w w' by unfold HdPost at h; rw [ex1_read] at h; exact h))
  have HW := Lib.hid (fun w hg => (write_any ex2 w hg (by decide)).mono fun e w' h => (show e = .returned (.tuple #[.string (frB ex2), .int .i64 0]) ∧ Below w.heap.size w w' by unfold writeF at h; rw [if_pos ex2_ok] at h; exact h))
  have HD := Lib.hid (fun w hg => (read_any (frB ex2) w hg (by rw [ex2_size]; decide)).mono fun e w' h => (show e = .returned (.tuple #[.agg #[.int .i64 3, .int .i64 1, .int .i64 0, .string ⟨#[]⟩], .int .i64 8, .int .i64 0]) ∧ Below w.heap.size w w' by unfold RdPost at h; rw [ex2_read] at h; exact h))
  have hz := ex2_size
  have hf := ex2_front
  generalize frB ex2 = B at *
  go_enter Tryd.func9, Tryd.ntmps9
  go_wp2_with fail
  refine (HH.out _ HG.out).mono ?_; rintro e w1 ⟨rfl, hb1⟩
  have HB1 := Lib.hid hb1; clear hb1
  go_wp2_with fail
  refine (HR.out _ (HG.out.below HB1.out)).mono ?_; rintro e w2 ⟨v, rfl, hm2, hb2⟩
  obtain ⟨sa, scap, rfl, _⟩ := hm2
  have HB2 := Lib.hid (HB1.out.trans (hb2.mono HB1.out.size)); clear hb2
  go_wp2_with fail
  have HK3 := Lib.hid (Bk.new w2 31 (hcells ex1 (.slice sa 0 scap)))
  have HB3 := Lib.hid (HB2.out.alloc HB2.out.size (.cells (hcells ex1 (.slice sa 0 scap)) 31))
  refine (HW.out _ (HG.out.below HB3.out)).mono ?_; rintro e w4 ⟨rfl, hb4⟩
  have HB4 := Lib.hid (HB3.out.trans (hb4.mono HB3.out.size)); have HK4 := Lib.hid (HK3.out.keep hb4); clear hb4
  go_wp2_with fail
  refine (HD.out _ (HG.out.below HB4.out)).mono ?_; rintro e w5 ⟨rfl, hb5⟩
  have HB5 := Lib.hid (HB4.out.trans (hb5.mono HB4.out.size)); have HK5 := Lib.hid (HK4.out.keep hb5); clear hb5
  have k1 : w5.cell? ⟨w2.heap.size, 1, none⟩ = some (.string ⟨#[71, 101, 116]⟩) := HK5.out.at_ 1 rfl
  have hbx : ex1B.toList = [3, 97, 46, 83, 3, 71, 101, 116, 0, 0] := by rw [ByteArray.toList_eq]; rfl
  have hfx : (B.extract 0 4).toList = [3, 1, 0, 0] := by rw [hf, ByteArray.toList_eq]
  have hmx : (⟨#[71, 101, 116]⟩ : ByteArray).toList = [71, 101, 116] := by rw [ByteArray.toList_eq]
  clear hf
  have k2 : (w5.alloc (.cells #[.int .i64 3, .int .i64 1, .int .i64 0, .string ⟨#[]⟩] FT)).cell? ⟨w2.heap.size, 1, none⟩ = some (.string ⟨#[71, 101, 116]⟩) := (HK5.out.more _).at_ 1 rfl
  have HB6 := Lib.hid (HB5.out.alloc HB5.out.size (.cells (fcells ex2) FT))
  go_wp2_with fail
  trace_state
  go_ret
  exact ⟨rfl, HB6.out⟩
end Go.Proofs.YtpfkddbhpoeknaaDoor
