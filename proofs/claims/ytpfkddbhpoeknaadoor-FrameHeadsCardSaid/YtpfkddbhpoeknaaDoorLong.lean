/- the law's long: is a head longer than the law looks at? -/
import Derived.Test.YtpfkddbhpoeknaaDoorSame
namespace Go.Proofs.YtpfkddbhpoeknaaDoor
open Go.RowKit
def longM (m : ByteArray × ByteArray) : Bool := decide (500 < m.1.size ∨ 500 < m.2.size)
def longB (h : HdV) : Bool := decide (500 < h.svc.size ∨ 500 < h.mth.size ∨ 20 < h.metas.length) || h.metas.any longM
theorem longB_any {h : HdV} (k : Nat) (hk : k < h.metas.length) (hm : longM h.metas[k] = true) : longB h = true := by
  unfold longB; rw [List.any_eq_true.2 ⟨_, List.getElem_mem hk, hm⟩, Bool.or_true]
theorem longB_none {h : HdV} (h1 : ¬ (500 < h.svc.size ∨ 500 < h.mth.size ∨ 20 < h.metas.length)) (hm : ∀ i (hi : i < h.metas.length), longM h.metas[i] = false) : longB h = false := by
  unfold longB
  rw [decide_eq_false h1, Bool.false_or, List.any_eq_false]
  intro m hmm
  obtain ⟨i, hi, rfl⟩ := List.mem_iff_getElem.1 hmm
  rw [hm i hi]; simp
theorem longB_top {h : HdV} (h1 : 500 < h.svc.size ∨ 500 < h.mth.size ∨ 20 < h.metas.length) : longB h = true := by unfold longB; rw [decide_eq_true h1]; rfl
theorem ret_bool_v {a b : Bool} (h : a = b) : Ending.returned (.bool a) = .returned (.bool b) := by rw [h]
set_option maxHeartbeats 4000000 in
set_option maxRecDepth 100000 in
theorem long_some (svc mth : ByteArray) (late : Int) (ms : List (ByteArray × ByteArray)) (g o cap : Nat) (w : World) (hgl : g < w.heap.size)
    (hcs : ∀ i (h : i < ms.length), w.cell? ⟨g, o + i * 2, none⟩ = some (.string ms[i].1) ∧ w.cell? ⟨g, o + i * 2 + 1, none⟩ = some (.string ms[i].2)) :
    Calls Tryd.prog 12 #[.agg (hcells ⟨svc, mth, late, ms⟩ (.slice (some ⟨g, o, none⟩) ms.length cap))] w fun e w' => e = .returned (.bool (longB ⟨svc, mth, late, ms⟩)) ∧ Below w.heap.size w w' := by
  have HM := Lib.hid hcs; clear hcs
  have HB0 := Lib.hid (below_box w (.cells (hcells ⟨svc, mth, late, ms⟩ (.slice (some ⟨g, o, none⟩) ms.length cap)) HT))
  by_cases h1 : 500 < svc.size
  · have HR := Lib.hid (longB_top (h := ⟨svc, mth, late, ms⟩) (.inl h1))
    go_enter Tryd.func12, Tryd.ntmps12
    go_wp2_with fail
    go_ret
    exact ⟨by (rw [HR.out]; try rfl), HB0.out⟩
  by_cases h2 : 500 < mth.size
  · have HR := Lib.hid (longB_top (h := ⟨svc, mth, late, ms⟩) (.inr (.inl h2)))
    go_enter Tryd.func12, Tryd.ntmps12
    go_wp2_with fail
    go_ret
    exact ⟨by (rw [HR.out]; try rfl), HB0.out⟩
  by_cases h3 : 20 < ms.length
  · have HR := Lib.hid (longB_top (h := ⟨svc, mth, late, ms⟩) (.inr (.inr h3)))
    go_enter Tryd.func12, Tryd.ntmps12
    go_wp2_with fail
    go_ret
    exact ⟨by (rw [HR.out]; try rfl), HB0.out⟩
  have HN := Lib.hid (longB_none (h := ⟨svc, mth, late, ms⟩) (by show ¬ (500 < svc.size ∨ 500 < mth.size ∨ 20 < ms.length); omega))
  have HY := Lib.hid (longB_any (h := ⟨svc, mth, late, ms⟩))
  generalize longB ⟨svc, mth, late, ms⟩ = R at *
  go_enter Tryd.func12, Tryd.ntmps12
  go_wp2_with fail
  go_loopw [24] (fun x wr => ∃ k : Nat, k ≤ ms.length ∧ x = .int .i64 k ∧ Below w.heap.size w wr ∧ Hid (∀ i (hi : i < ms.length), i < k → longM ms[i] = false)) (fun x _ => ms.length - (intOf x).toNat)
  case atStart => exact ⟨0, Nat.zero_le _, rfl, HB0.out, Lib.hid (fun i _ h => absurd h (Nat.not_lt_zero _))⟩
  case round =>
    obtain ⟨k, hk, rfl, hb, hall⟩ := hrel
    have HB := Lib.hid hb; clear hb
    have hkb : (k : Int) < 4294967296 := by omega
    by_cases hlt : k < ms.length
    · have h4 := HM.out k hlt
      have hc4 : wr.cell? ⟨g, o + k * 2, none⟩ = some (.string ms[k].1) := (HB.out.cell (p := ⟨g, o + k * 2, none⟩) hgl).trans h4.1
      have hc5 : wr.cell? ⟨g, o + k * 2 + 1, none⟩ = some (.string ms[k].2) := (HB.out.cell (p := ⟨g, o + k * 2 + 1, none⟩) hgl).trans h4.2
      have HBA := Lib.hid (HB.out.alloc HB.out.size (.cells #[.string ms[k].1, .string ms[k].2] MT))
      have HYk := Lib.hid (HY.out k hlt)
      have HLk := Lib.hid (show longM ms[k] = decide (500 < ms[k].1.size ∨ 500 < ms[k].2.size) from rfl)
      have HNx := Lib.hid (fun (h : longM ms[k] = false) i (hi : i < ms.length) (hik : i < k + 1) => show longM ms[i] = false from by
        by_cases e : i = k
        · subst e; exact h
        · exact hall.out i hi (by omega))
      generalize hlm : longM ms[k] = LM at *
      clear hlm h4
      generalize hky : ms[k].1 = ky at *
      generalize hvl : ms[k].2 = vl at *
      clear hky hvl
      clear h1 h2 h3 hkb hk hall
      by_cases hl1 : 500 < ky.size
      · have HR := Lib.hid (HYk.out (by rw [HLk.out]; exact decide_eq_true (.inl hl1)))
        go_wp2_with fail
        go_ret
        exact ⟨by (rw [HR.out]; try rfl), HBA.out⟩
      by_cases hl2 : 500 < vl.size
      · have HR := Lib.hid (HYk.out (by rw [HLk.out]; exact decide_eq_true (.inr hl2)))
        go_wp2_with fail
        go_ret
        exact ⟨by (rw [HR.out]; try rfl), HBA.out⟩
      have HX := Lib.hid (HNx.out (by rw [HLk.out]; exact decide_eq_false (by omega)))
      go_wp2_with fail
      go_roundw
      case rel => exact ⟨k + 1, hlt, by go_num, HBA.out, HX⟩
      case measure => simp [intOf]; omega
    · have HR := Lib.hid (HN.out (fun i hi => hall.out i hi (by show i < k; have : i < ms.length := hi; omega)))
      go_wp2_with fail
      go_ret
      exact ⟨by (rw [HR.out]; try rfl), HB.out⟩
theorem long_nil (svc mth : ByteArray) (late : Int) (a : Option Addr) (cap : Nat) (w : World) :
    Calls Tryd.prog 12 #[.agg (hcells ⟨svc, mth, late, []⟩ (.slice a 0 cap))] w fun e w' => e = .returned (.bool (longB ⟨svc, mth, late, []⟩)) ∧ Below w.heap.size w w' := by
  have HB0 := Lib.hid (below_box w (.cells (hcells ⟨svc, mth, late, []⟩ (.slice a 0 cap)) HT))
  by_cases h1 : 500 < svc.size
  · have HR := Lib.hid (longB_top (h := ⟨svc, mth, late, []⟩) (.inl h1))
    go_enter Tryd.func12, Tryd.ntmps12
    go_wp2_with fail
    go_ret
    exact ⟨by (rw [HR.out]; try rfl), HB0.out⟩
  by_cases h2 : 500 < mth.size
  · have HR := Lib.hid (longB_top (h := ⟨svc, mth, late, []⟩) (.inr (.inl h2)))
    go_enter Tryd.func12, Tryd.ntmps12
    go_wp2_with fail
    go_ret
    exact ⟨by (rw [HR.out]; try rfl), HB0.out⟩
  have HR := Lib.hid (longB_none (h := ⟨svc, mth, late, []⟩) (by show ¬ (500 < svc.size ∨ 500 < mth.size ∨ 20 < 0); omega) (fun i hi => absurd hi (Nat.not_lt_zero _)))
  go_enter Tryd.func12, Tryd.ntmps12
  go_wp2_with fail
  refine wp_loop_rounds 1 ?_
  iterate 1 (rw [rounds_succ]; go_wp2)
  all_goals
    go_ret
    exact ⟨by (rw [HR.out]; try rfl), HB0.out⟩
theorem long_any (h : HdV) (v : Value) (w : World) (hm : MsIn w v h.metas) :
    Calls Tryd.prog 12 #[.agg (hcells h v)] w fun e w' => e = .returned (.bool (longB h)) ∧ Below w.heap.size w w' := by
  obtain ⟨svc, mth, late, ms⟩ := h
  obtain ⟨a, cap, rfl, hcs⟩ := hm
  cases ms with
  | nil => exact long_nil svc mth late a cap w
  | cons m r =>
    obtain ⟨g, o, rfl, hgl, hc⟩ := hcs (by simp)
    exact long_some svc mth late (m :: r) g o cap w hgl hc
theorem longB_sz {h : HdV} (hl : longB h = false) : HdSz h ∧ h.metas.length ≤ 20 := by
  unfold longB at hl
  rw [Bool.or_eq_false_iff, decide_eq_false_iff_not, List.any_eq_false] at hl
  obtain ⟨h1, h2⟩ := hl
  refine ⟨⟨by omega, by omega, fun m hm => ?_⟩, by omega⟩
  have := h2 m hm
  unfold longM at this
  rw [decide_eq_true_iff] at this
  exact ⟨by omega, by omega⟩
end Go.Proofs.YtpfkddbhpoeknaaDoor
