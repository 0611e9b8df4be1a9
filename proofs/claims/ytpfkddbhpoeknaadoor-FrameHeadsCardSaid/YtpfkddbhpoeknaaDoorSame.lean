/- SameHead: two heads that read alike are the same. -/
import Derived.Test.YtpfkddbhpoeknaaDoorCk
namespace Go.Proofs.YtpfkddbhpoeknaaDoor
open Go.RowKit
set_option maxHeartbeats 4000000 in
theorem sameHead_some (svc mth : ByteArray) (late : Int) (ms : List (ByteArray × ByteArray)) (g o cap g' o' cap' : Nat) (w : World) (hn : ms.length < 4294967296) (hgl : g < w.heap.size) (hgl' : g' < w.heap.size)
    (hcs : ∀ i (h : i < ms.length), w.cell? ⟨g, o + i * 2, none⟩ = some (.string ms[i].1) ∧ w.cell? ⟨g, o + i * 2 + 1, none⟩ = some (.string ms[i].2))
    (hcs' : ∀ i (h : i < ms.length), w.cell? ⟨g', o' + i * 2, none⟩ = some (.string ms[i].1) ∧ w.cell? ⟨g', o' + i * 2 + 1, none⟩ = some (.string ms[i].2)) :
    Calls Tryd.prog 17 #[.agg (hcells ⟨svc, mth, late, ms⟩ (.slice (some ⟨g, o, none⟩) ms.length cap)), .agg (hcells ⟨svc, mth, late, ms⟩ (.slice (some ⟨g', o', none⟩) ms.length cap'))] w fun e w' => e = .returned (.bool true) ∧ Below w.heap.size w w' := by
  have HM := Lib.hid hcs; have HM' := Lib.hid hcs'; clear hcs hcs'
  have HB0 := Lib.hid (below_box w (.cells (hcells ⟨svc, mth, late, ms⟩ (.slice (some ⟨g, o, none⟩) ms.length cap)) HT))
  have HK0 := Lib.hid (Bk.new w HT (hcells ⟨svc, mth, late, ms⟩ (.slice (some ⟨g, o, none⟩) ms.length cap)))
  have HK1 := Lib.hid (HK0.out.more (.cells (hcells ⟨svc, mth, late, ms⟩ (.slice (some ⟨g', o', none⟩) ms.length cap')) HT))
  have HL1 := Lib.hid (Bk.new (w.alloc (.cells (hcells ⟨svc, mth, late, ms⟩ (.slice (some ⟨g, o, none⟩) ms.length cap)) HT)) HT (hcells ⟨svc, mth, late, ms⟩ (.slice (some ⟨g', o', none⟩) ms.length cap')))
  have HB1 := Lib.hid (HB0.out.alloc HB0.out.size (.cells (hcells ⟨svc, mth, late, ms⟩ (.slice (some ⟨g', o', none⟩) ms.length cap')) HT))
  go_enter Tryd.func17, Tryd.ntmps17
  go_wp2_with fail
  go_loopw [5] (fun x wr => ∃ k : Nat, k ≤ ms.length ∧ x = .int .i64 k ∧ Below (w.heap.size + 2) ((w.alloc (.cells (hcells ⟨svc, mth, late, ms⟩ (.slice (some ⟨g, o, none⟩) ms.length cap)) HT)).alloc (.cells (hcells ⟨svc, mth, late, ms⟩ (.slice (some ⟨g', o', none⟩) ms.length cap')) HT)) wr) (fun x _ => ms.length - (intOf x).toNat)
  case atStart => exact ⟨0, Nat.zero_le _, rfl, Below.refl _ _⟩
  case round =>
    obtain ⟨k, hk, rfl, hb⟩ := hrel
    have HB := Lib.hid hb; clear hb
    have hc3 : wr.cell? ⟨w.heap.size, 3, none⟩ = some (.slice (some ⟨g, o, none⟩) ms.length cap) := (HB.out.cell (p := ⟨w.heap.size, 3, none⟩) (show w.heap.size < w.heap.size + 2 by omega)).trans (HK1.out.at_ 3 rfl)
    have hd3 : wr.cell? ⟨w.heap.size + 1, 3, none⟩ = some (.slice (some ⟨g', o', none⟩) ms.length cap') := by
      have h := HL1.out.at_ 3 rfl
      rw [show (w.alloc (.cells (hcells ⟨svc, mth, late, ms⟩ (.slice (some ⟨g, o, none⟩) ms.length cap)) HT)).heap.size = w.heap.size + 1 by simp] at h
      exact (HB.out.cell (p := ⟨w.heap.size + 1, 3, none⟩) (show w.heap.size + 1 < w.heap.size + 2 by omega)).trans h
    have hbw : Below w.heap.size w wr := HB1.out.trans (HB.out.mono (by omega))
    have HBW := Lib.hid hbw
    have hkb : (k : Int) < 4294967296 := by omega
    by_cases hlt : k < ms.length
    · have h1 := HM.out k hlt
      have h2 := HM'.out k hlt
      have hc4 : wr.cell? ⟨g, o + k * 2, none⟩ = some (.string ms[k].1) := (hbw.cell (p := ⟨g, o + k * 2, none⟩) hgl).trans h1.1
      have hc5 : wr.cell? ⟨g, o + k * 2 + 1, none⟩ = some (.string ms[k].2) := (hbw.cell (p := ⟨g, o + k * 2 + 1, none⟩) hgl).trans h1.2
      have hd4 : wr.cell? ⟨g', o' + k * 2, none⟩ = some (.string ms[k].1) := (hbw.cell (p := ⟨g', o' + k * 2, none⟩) hgl').trans h2.1
      have hd5 : wr.cell? ⟨g', o' + k * 2 + 1, none⟩ = some (.string ms[k].2) := (hbw.cell (p := ⟨g', o' + k * 2 + 1, none⟩) hgl').trans h2.2
      clear hbw h1 h2
      generalize hky : ms[k].1 = ky at *
      generalize hvl : ms[k].2 = vl at *
      clear hky hvl
      go_wp2_with fail
      go_quiet (fail)
      go_wp2_with fail
      go_roundw
      case rel => exact ⟨k + 1, hlt, by go_num, below_drewN HB.out _⟩
      case measure => simp [intOf]; omega
    · clear hbw
      go_wp2_with fail
      go_ret
      exact ⟨rfl, HBW.out⟩
theorem sameHead_nil (svc mth : ByteArray) (late : Int) (a a' : Option Addr) (cap cap' : Nat) (w : World) :
    Calls Tryd.prog 17 #[.agg (hcells ⟨svc, mth, late, []⟩ (.slice a 0 cap)), .agg (hcells ⟨svc, mth, late, []⟩ (.slice a' 0 cap'))] w fun e w' => e = .returned (.bool true) ∧ Below w.heap.size w w' := by
  have HB0 := Lib.hid (below_box w (.cells (hcells ⟨svc, mth, late, []⟩ (.slice a 0 cap)) HT))
  have HB1 := Lib.hid (HB0.out.alloc HB0.out.size (.cells (hcells ⟨svc, mth, late, []⟩ (.slice a' 0 cap')) HT))
  go_enter Tryd.func17, Tryd.ntmps17
  go_wp2_with fail
  refine wp_loop_rounds 1 ?_
  iterate 1 (rw [rounds_succ]; go_wp2)
  all_goals
    go_ret
    exact ⟨rfl, HB1.out⟩
theorem sameHead_any (h : HdV) (v v' : Value) (w : World) (hn : h.metas.length < 4294967296) (hm : MsIn w v h.metas) (hm' : MsIn w v' h.metas) :
    Calls Tryd.prog 17 #[.agg (hcells h v), .agg (hcells h v')] w fun e w' => e = .returned (.bool true) ∧ Below w.heap.size w w' := by
  obtain ⟨svc, mth, late, ms⟩ := h
  obtain ⟨a, cap, rfl, hcs⟩ := hm
  obtain ⟨a', cap', rfl, hcs'⟩ := hm'
  cases ms with
  | nil => exact sameHead_nil svc mth late a a' cap cap' w
  | cons m r =>
    obtain ⟨g, o, rfl, hgl, hc⟩ := hcs (by simp)
    obtain ⟨g', o', rfl, hgl', hc'⟩ := hcs' (by simp)
    exact sameHead_some svc mth late (m :: r) g o cap g' o' cap' w hn hgl hgl' hc hc'
end Go.Proofs.YtpfkddbhpoeknaaDoor
