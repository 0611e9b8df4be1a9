/- frame.Split and its reference answer splitL; Same of frames that read alike. -/
import Derived.Test.YtpfkddbhpoeknaaDoorAwake
import Derived.Laws.AppendOwnNone
namespace Go.Proofs.YtpfkddbhpoeknaaDoor
open Go.RowKit
def sizeS : Value → Nat | .string s => s.size | _ => 0
def cellsF (fs : List FrV) : List Value := fs.flatMap fun f => [.int .i64 f.kind, .int .i64 f.strm, .int .i64 f.num, .string f.data]
theorem cellsF_len (fs : List FrV) : (cellsF fs).length = fs.length * 4 := by
  induction fs with
  | nil => rfl
  | cons m r ih => simp [cellsF, List.flatMap_cons] at ih ⊢; omega
theorem cellsF_at : ∀ (fs : List FrV) (i : Nat) (h : i < fs.length), (cellsF fs)[i * 4]? = some (.int .i64 fs[i].kind) ∧ (cellsF fs)[i * 4 + 1]? = some (.int .i64 fs[i].strm) ∧ (cellsF fs)[i * 4 + 2]? = some (.int .i64 fs[i].num) ∧ (cellsF fs)[i * 4 + 3]? = some (.string fs[i].data)
  | [], _, h => absurd h (Nat.not_lt_zero _)
  | m :: r, 0, _ => by simp [cellsF]
  | m :: r, i + 1, h => by
    have ih := cellsF_at r i (by simpa using h)
    have e : cellsF (m :: r) = .int .i64 m.kind :: .int .i64 m.strm :: .int .i64 m.num :: .string m.data :: cellsF r := rfl
    rw [e, show (i + 1) * 4 = i * 4 + 1 + 1 + 1 + 1 by omega]
    simpa using ih
theorem cellsF_app (a b : List FrV) : cellsF (a ++ b) = cellsF a ++ cellsF b := by simp [cellsF]
/-- a slice holds these frames. -/
def FsIn (w : World) (v : Value) (fs : List FrV) : Prop :=
  ∃ (a : Option Addr) (cap : Nat), v = .slice a fs.length cap ∧ (a = none → cap = 0) ∧ (fs ≠ [] → ∃ g o, a = some ⟨g, o, none⟩ ∧ g < w.heap.size ∧ ∀ (j : Nat) u, (cellsF fs)[j]? = some u → w.cell? ⟨g, o + j, none⟩ = some u)
theorem FsIn.below {w w' : World} {v : Value} {fs : List FrV} (h : FsIn w v fs) (hb : Below w.heap.size w w') : FsIn w' v fs := by
  obtain ⟨a, cap, hv, hn, hc⟩ := h
  refine ⟨a, cap, hv, hn, fun hne => ?_⟩
  obtain ⟨g, o, ha, hg, hcl⟩ := hc hne
  exact ⟨g, o, ha, Nat.lt_of_lt_of_le hg hb.size, fun j u hu => (hb.cell (p := ⟨g, o + j, none⟩) hg).trans (hcl j u hu)⟩
theorem add_at (g j : Nat) : (⟨g, 0, none⟩ : Addr).add j = ⟨g, 0 + j, none⟩ := by unfold Addr.add; split <;> simp_all
theorem FsIn.own {w : World} {B : Nat} {v : Value} {fs : List FrV} (h : w.ownsRow B FT 4 v fs.length (cellsF fs)) : FsIn w v fs := by
  rcases h.2 with ⟨hv, h0⟩ | ⟨g, cap, cur, hv, hB, hg, r⟩
  · exact ⟨none, 0, by rw [hv, h0], fun _ => rfl, fun hne => absurd (List.length_eq_zero_iff.1 h0) hne⟩
  · refine ⟨some ⟨g, 0, none⟩, cap, hv, fun h => (by cases h), fun _ => ⟨g, 0, rfl, (Array.getElem?_eq_some_iff.1 hg).1, fun j u hu => ?_⟩⟩
    have := h.cells (g := g) (by rw [hv]; rfl) j u hu
    rwa [add_at] at this
theorem FsIn.nil (w : World) : FsIn w (.slice none 0 0) [] := ⟨none, 0, rfl, fun _ => rfl, fun h => absurd rfl h⟩
def SpPost (R : SpV) (w : World) (e : Ending) (w' : World) : Prop := ∃ v, e = .returned (.tuple #[v, .string ⟨R.rest.toArray⟩, .int .i64 R.err]) ∧ FsIn w' v R.frames ∧ Below w.heap.size w w'
theorem infoFrame : (Tryd.prog.info? FT).map (fun i => (i.zero, i.size, i.bytes)) = some (some (.agg zeroF), 4, 40) := by kernel_rfl
/-- what is still to be answered, behind the frames acc. -/
def SpRest (R : SpV) (acc : List FrV) (l : List UInt8) : Prop := R = if (splitL l).err = 0 then ⟨acc ++ (splitL l).frames, (splitL l).rest, 0⟩ else ⟨[], [], (splitL l).err⟩
theorem SpRest.start (l : List UInt8) : SpRest (splitL l) [] l := by
  unfold SpRest
  split
  · rename_i h
    have : splitL l = ⟨(splitL l).frames, (splitL l).rest, (splitL l).err⟩ := rfl
    rw [h] at this; rw [this]; rfl
  · rename_i h
    obtain ⟨h1, h2⟩ := splitL_bad l.length l (Nat.le_refl _) h
    have : splitL l = ⟨(splitL l).frames, (splitL l).rest, (splitL l).err⟩ := rfl
    rw [h1, h2] at this; exact this
theorem SpRest.next {R : SpV} {acc : List FrV} {l : List UInt8} (h : SpRest R acc l) (h0 : (readL l).err = 0) : SpRest R (acc ++ [(readL l).frame]) (l.drop (readL l).n) := by
  unfold SpRest at h ⊢
  rw [h, splitL_step l, if_pos h0]
  by_cases hx : (splitL (l.drop (readL l).n)).err = 0
  · rw [if_pos hx, if_pos rfl, if_pos hx]; simp
  · rw [if_neg hx, if_neg hx, if_neg hx]
theorem SpRest.stop {R : SpV} {acc : List FrV} {l : List UInt8} (h : SpRest R acc l) (h4 : (readL l).err = 4) : R = ⟨acc, l, 0⟩ := by
  unfold SpRest at h
  have e : splitL l = ⟨[], l, 0⟩ := by rw [splitL_step l, if_neg (fun h => by rw [h4] at h; cases h), if_pos h4]
  rw [h, e, if_pos rfl]; simp
theorem SpRest.fail {R : SpV} {acc : List FrV} {l : List UInt8} (h : SpRest R acc l) (h0 : (readL l).err ≠ 0) (h4 : (readL l).err ≠ 4) : R = ⟨[], [], (readL l).err⟩ := by
  unfold SpRest at h
  have e : splitL l = ⟨[], [], (readL l).err⟩ := by rw [splitL_step l, if_neg h0, if_neg h4]
  rw [h, e, if_neg h0]
theorem four_new (W : World) (a b c d : Value) : ∀ (j : Nat) (u : Value), [a, b, c, d][j]? = some u → (W.alloc (.cells #[a, b, c, d] FT)).cell? ((⟨W.heap.size, 0, none⟩ : Addr).add j) = some u := by
  intro j u hj
  rw [add_at, Nat.zero_add, World.cell?_alloc_mark]
  match j, hj with
  | 0, hj => simp at hj; subst hj; rfl
  | 1, hj => simp at hj; subst hj; rfl
  | 2, hj => simp at hj; subst hj; rfl
  | 3, hj => simp at hj; subst hj; rfl
  | j + 4, hj => simp at hj
set_option maxHeartbeats 4000000 in
set_option maxRecDepth 100000 in
theorem split_frames (s0 : ByteArray) (w : World) (hg : MLen w) (hs : s0.size < 4294967281) :
    Calls Tryd.prog 19 #[.string s0] w (SpPost (splitL s0.data.toList) w) := by
  have HG := Lib.hid hg; clear hg
  have HP0 := Lib.hid (SpRest.start s0.data.toList)
  generalize splitL s0.data.toList = R at *
  have HS0 := Lib.hid hs; clear hs
  obtain ⟨i0, hi, hz0, hz1, hz2⟩ := info_parts infoFrame
  have HI := Lib.hid hi; have HIZ := Lib.hid hz0; have HIZ1 := Lib.hid hz1; have HIZ2 := Lib.hid hz2
  clear hi hz0 hz1 hz2
  go_enter Tryd.func19, Tryd.ntmps19
  go_wp2_with fail
  go_loopw [0, 5] (fun x y wr => ∃ (s : ByteArray) (acc : List FrV), x = .string s ∧ acc.length + s.size ≤ s0.size ∧ wr.ownsRow w.heap.size FT 4 y acc.length (cellsF acc) ∧ Below w.heap.size w wr ∧ SpRest R acc s.data.toList) (fun x _ _ => sizeS x)
  case atStart => exact ⟨s0, [], rfl, by simp, World.ownsRow_nil _ _ _ _, Below.refl _ _, HP0.out⟩
  case round =>
    obtain ⟨s, acc, rfl, hsz, hown, hbw, hP⟩ := hrel
    have HSZ := Lib.hid hsz; have HO := Lib.hid hown; have HB := Lib.hid hbw; have HP := Lib.hid hP
    clear hsz hown hbw hP
    have HRD := Lib.hid (read_any s wr (HG.out.below HB.out) (by have := HSZ.out; have := HS0.out; omega))
    have HOK := Lib.hid (fun (h : (readL s.data.toList).err = 0) => readL_ok h)
    have HNX := Lib.hid (fun (h : (readL s.data.toList).err = 0) => HP.out.next h)
    have HST := Lib.hid (fun (h : (readL s.data.toList).err = 4) => HP.out.stop h)
    have HFL := Lib.hid (fun (h : (readL s.data.toList).err ≠ 0) h4 => HP.out.fail h h4)
    generalize readL s.data.toList = X at *
    obtain ⟨⟨fk, ft, fn, fd⟩, n, c⟩ := X
    unfold RdPost at HRD
    simp only at HOK HNX HST HFL
    clear HP0
    go_wp2_with fail
    refine (HRD.out).mono ?_; rintro e w1 ⟨rfl, hb1⟩
    have HB1 := Lib.hid (HB.out.trans (hb1.mono HB.out.size)); have HO1 := Lib.hid (own_below HO.out hb1)
    have HB1a := Lib.hid (HB1.out.alloc HB1.out.size (.cells #[.int .i64 fk, .int .i64 ft, .int .i64 fn, .string fd] FT)); have HO1a := Lib.hid (own_below HO1.out (below_box w1 (.cells #[.int .i64 fk, .int .i64 ft, .int .i64 fn, .string fd] FT)))
    clear hb1
    by_cases hc0 : c = 0
    · subst hc0
      obtain ⟨hn1, hn2, _, _⟩ := HOK.out rfl
      have hn2 : n ≤ s.size := by rw [Array.length_toList] at hn2; exact hn2
      have hn1 : 4 < n := hn1
      have HNX2 := Lib.hid (HNX.out rfl)
      have HN1 := Lib.hid hn1
      have HBB := Lib.hid (HB1a.out.alloc HB1a.out.size (.cells #[.int .i64 fk, .int .i64 ft, .int .i64 fn, .string fd] FT))
      have HOB := Lib.hid (own_below HO1a.out (below_box (w1.alloc (.cells #[.int .i64 fk, .int .i64 ft, .int .i64 fn, .string fd] FT)) (.cells #[.int .i64 fk, .int .i64 ft, .int .i64 fn, .string fd] FT)))
      have HSB := Lib.hid (show w.heap.size ≤ ((w1.alloc (.cells #[.int .i64 fk, .int .i64 ft, .int .i64 fn, .string fd] FT)).alloc (.cells #[.int .i64 fk, .int .i64 ft, .int .i64 fn, .string fd] FT)).heap.size from HBB.out.size)
      have HEX := Lib.hid (ext_drop s n)
      have HFN := Lib.hid (show ∀ (j : Nat) (u : Value), [Value.int .i64 fk, .int .i64 ft, .int .i64 fn, .string fd][j]? = some u → ((w1.alloc (.cells #[.int .i64 fk, .int .i64 ft, .int .i64 fn, .string fd] FT)).alloc (.cells #[.int .i64 fk, .int .i64 ft, .int .i64 fn, .string fd] FT)).cell? ((⟨w1.heap.size + 1, 0, none⟩ : Addr).add j) = some u from by
        have h := four_new (w1.alloc (.cells #[.int .i64 fk, .int .i64 ft, .int .i64 fn, .string fd] FT)) (.int .i64 fk) (.int .i64 ft) (.int .i64 fn) (.string fd)
        rw [show (w1.alloc (.cells #[.int .i64 fk, .int .i64 ft, .int .i64 fn, .string fd] FT)).heap.size = w1.heap.size + 1 by simp] at h; exact h)
      clear HOK HNX HST HFL hn1
      go_wp2_with (at_builtin; refine wpList_append_own _ rfl _ _ 44 rfl w.heap.size FT i0 (.agg zeroF) 4 40 Tryd.underlying44 HI.out HIZ.out HIZ1.out HIZ2.out rfl (by decide) _ acc.length (cellsF acc) rfl HOB.out ⟨w1.heap.size + 1, 0, none⟩ 1 1 [.int .i64 fk, .int .i64 ft, .int .i64 fn, .string fd] rfl rfl HFN.out (by intro u hu; simp at hu; rcases hu with rfl | rfl | rfl | rfl <;> rfl) (by have := HSZ.out; have := HS0.out; unfold maxLen; omega) (by have := HSZ.out; have := HS0.out; omega) HSB.out ?_; intro v' w' hown' hgrow _; have HO3 := Lib.hid hown'; have HB3 := Lib.hid (HBB.out.grown hgrow HBB.out.size (fun g hg => (HOB.out.lt g hg).1)); clear hown' hgrow)
      go_roundw
      case rel => exact ⟨s.extract n s.size, acc ++ [⟨fk, ft, fn, fd⟩], rfl, by rw [ByteArray.size_extract, List.length_append]; have := HSZ.out; have := HN1.out; simp only [List.length_cons, List.length_nil]; omega, by rw [cellsF_app, List.length_append]; exact HO3.out, HB3.out, by rw [HEX.out]; exact HNX2.out⟩
      case measure => simp only [sizeS, ByteArray.size_extract]; have := HN1.out; omega
    · obtain ⟨q1, q2⟩ := byte_eq hc0
      by_cases hc4 : c = 4
      · subst hc4
        have HR := Lib.hid (HST.out rfl)
        clear hc0 q1 q2
        go_wp2_with fail
        go_ret3
        exact ⟨_, by rw [HR.out]; rfl, by rw [HR.out]; exact FsIn.own HO1a.out, HB1a.out⟩
      · obtain ⟨q3, q4⟩ := byte_eq hc4
        have HR := Lib.hid (HFL.out hc0 hc4)
        clear hc0 hc4
        go_wp2_with fail
        go_ret3
        exact ⟨_, by rw [HR.out]; rfl, by rw [HR.out]; exact FsIn.nil _, HB1a.out⟩
set_option maxHeartbeats 4000000 in
set_option maxRecDepth 100000 in
theorem rsplit_frames (s0 : ByteArray) (w : World) (hg : MLen w) (hs : s0.size < 4294967281) :
    Calls Tryd.prog 20 #[.string s0] w (SpPost (splitL s0.data.toList) w) := by
  have HG := Lib.hid hg; clear hg
  have HP0 := Lib.hid (SpRest.start s0.data.toList)
  generalize splitL s0.data.toList = R at *
  have HS0 := Lib.hid hs; clear hs
  obtain ⟨i0, hi, hz0, hz1, hz2⟩ := info_parts infoFrame
  have HI := Lib.hid hi; have HIZ := Lib.hid hz0; have HIZ1 := Lib.hid hz1; have HIZ2 := Lib.hid hz2
  clear hi hz0 hz1 hz2
  go_enter Tryd.func20, Tryd.ntmps20
  go_wp2_with fail
  go_loopw [0, 5] (fun x y wr => ∃ (s : ByteArray) (acc : List FrV), x = .string s ∧ acc.length + s.size ≤ s0.size ∧ wr.ownsRow w.heap.size FT 4 y acc.length (cellsF acc) ∧ Below w.heap.size w wr ∧ SpRest R acc s.data.toList) (fun x _ _ => sizeS x)
  case atStart => exact ⟨s0, [], rfl, by simp, World.ownsRow_nil _ _ _ _, Below.refl _ _, HP0.out⟩
  case round =>
    obtain ⟨s, acc, rfl, hsz, hown, hbw, hP⟩ := hrel
    have HSZ := Lib.hid hsz; have HO := Lib.hid hown; have HB := Lib.hid hbw; have HP := Lib.hid hP
    clear hsz hown hbw hP
    have HRD := Lib.hid (rread_any s wr (HG.out.below HB.out) (by have := HSZ.out; have := HS0.out; omega))
    have HOK := Lib.hid (fun (h : (readL s.data.toList).err = 0) => readL_ok h)
    have HNX := Lib.hid (fun (h : (readL s.data.toList).err = 0) => HP.out.next h)
    have HST := Lib.hid (fun (h : (readL s.data.toList).err = 4) => HP.out.stop h)
    have HFL := Lib.hid (fun (h : (readL s.data.toList).err ≠ 0) h4 => HP.out.fail h h4)
    generalize readL s.data.toList = X at *
    obtain ⟨⟨fk, ft, fn, fd⟩, n, c⟩ := X
    unfold RdPost at HRD
    simp only at HOK HNX HST HFL
    clear HP0
    go_wp2_with fail
    refine (HRD.out).mono ?_; rintro e w1 ⟨rfl, hb1⟩
    have HB1 := Lib.hid (HB.out.trans (hb1.mono HB.out.size)); have HO1 := Lib.hid (own_below HO.out hb1)
    have HB1a := Lib.hid (HB1.out.alloc HB1.out.size (.cells #[.int .i64 fk, .int .i64 ft, .int .i64 fn, .string fd] FT)); have HO1a := Lib.hid (own_below HO1.out (below_box w1 (.cells #[.int .i64 fk, .int .i64 ft, .int .i64 fn, .string fd] FT)))
    clear hb1
    by_cases hc0 : c = 0
    · subst hc0
      obtain ⟨hn1, hn2, _, _⟩ := HOK.out rfl
      have hn2 : n ≤ s.size := by rw [Array.length_toList] at hn2; exact hn2
      have hn1 : 4 < n := hn1
      have HNX2 := Lib.hid (HNX.out rfl)
      have HN1 := Lib.hid hn1
      have HBB := Lib.hid (HB1a.out.alloc HB1a.out.size (.cells #[.int .i64 fk, .int .i64 ft, .int .i64 fn, .string fd] FT))
      have HOB := Lib.hid (own_below HO1a.out (below_box (w1.alloc (.cells #[.int .i64 fk, .int .i64 ft, .int .i64 fn, .string fd] FT)) (.cells #[.int .i64 fk, .int .i64 ft, .int .i64 fn, .string fd] FT)))
      have HSB := Lib.hid (show w.heap.size ≤ ((w1.alloc (.cells #[.int .i64 fk, .int .i64 ft, .int .i64 fn, .string fd] FT)).alloc (.cells #[.int .i64 fk, .int .i64 ft, .int .i64 fn, .string fd] FT)).heap.size from HBB.out.size)
      have HEX := Lib.hid (ext_drop s n)
      have HFN := Lib.hid (show ∀ (j : Nat) (u : Value), [Value.int .i64 fk, .int .i64 ft, .int .i64 fn, .string fd][j]? = some u → ((w1.alloc (.cells #[.int .i64 fk, .int .i64 ft, .int .i64 fn, .string fd] FT)).alloc (.cells #[.int .i64 fk, .int .i64 ft, .int .i64 fn, .string fd] FT)).cell? ((⟨w1.heap.size + 1, 0, none⟩ : Addr).add j) = some u from by
        have h := four_new (w1.alloc (.cells #[.int .i64 fk, .int .i64 ft, .int .i64 fn, .string fd] FT)) (.int .i64 fk) (.int .i64 ft) (.int .i64 fn) (.string fd)
        rw [show (w1.alloc (.cells #[.int .i64 fk, .int .i64 ft, .int .i64 fn, .string fd] FT)).heap.size = w1.heap.size + 1 by simp] at h; exact h)
      clear HOK HNX HST HFL hn1
      go_wp2_with (at_builtin; refine wpList_append_own _ rfl _ _ 44 rfl w.heap.size FT i0 (.agg zeroF) 4 40 Tryd.underlying44 HI.out HIZ.out HIZ1.out HIZ2.out rfl (by decide) _ acc.length (cellsF acc) rfl HOB.out ⟨w1.heap.size + 1, 0, none⟩ 1 1 [.int .i64 fk, .int .i64 ft, .int .i64 fn, .string fd] rfl rfl HFN.out (by intro u hu; simp at hu; rcases hu with rfl | rfl | rfl | rfl <;> rfl) (by have := HSZ.out; have := HS0.out; unfold maxLen; omega) (by have := HSZ.out; have := HS0.out; omega) HSB.out ?_; intro v' w' hown' hgrow _; have HO3 := Lib.hid hown'; have HB3 := Lib.hid (HBB.out.grown hgrow HBB.out.size (fun g hg => (HOB.out.lt g hg).1)); clear hown' hgrow)
      go_roundw
      case rel => exact ⟨s.extract n s.size, acc ++ [⟨fk, ft, fn, fd⟩], rfl, by rw [ByteArray.size_extract, List.length_append]; have := HSZ.out; have := HN1.out; simp only [List.length_cons, List.length_nil]; omega, by rw [cellsF_app, List.length_append]; exact HO3.out, HB3.out, by rw [HEX.out]; exact HNX2.out⟩
      case measure => simp only [sizeS, ByteArray.size_extract]; have := HN1.out; omega
    · obtain ⟨q1, q2⟩ := byte_eq hc0
      by_cases hc4 : c = 4
      · subst hc4
        have HR := Lib.hid (HST.out rfl)
        clear hc0 q1 q2
        go_wp2_with fail
        go_ret3
        exact ⟨_, by rw [HR.out]; rfl, by rw [HR.out]; exact FsIn.own HO1a.out, HB1a.out⟩
      · obtain ⟨q3, q4⟩ := byte_eq hc4
        have HR := Lib.hid (HFL.out hc0 hc4)
        clear hc0 hc4
        go_wp2_with fail
        go_ret3
        exact ⟨_, by rw [HR.out]; rfl, by rw [HR.out]; exact FsIn.nil _, HB1a.out⟩
set_option maxHeartbeats 4000000 in
set_option maxRecDepth 100000 in
theorem same_some (fs : List FrV) (g o cap g2 o2 cap2 : Nat) (w : World) (hn : fs.length < 4294967296) (hgl : g < w.heap.size) (hgl2 : g2 < w.heap.size)
    (hcs : ∀ (j : Nat) u, (cellsF fs)[j]? = some u → w.cell? ⟨g, o + j, none⟩ = some u) (hcs2 : ∀ (j : Nat) u, (cellsF fs)[j]? = some u → w.cell? ⟨g2, o2 + j, none⟩ = some u) :
    Calls Tryd.prog 21 #[.slice (some ⟨g, o, none⟩) fs.length cap, .slice (some ⟨g2, o2, none⟩) fs.length cap2] w fun e w' => e = .returned (.bool true) ∧ Below w.heap.size w w' := by
  have HM := Lib.hid hcs; have HM2 := Lib.hid hcs2; clear hcs hcs2
  go_enter Tryd.func21, Tryd.ntmps21
  go_wp2_with fail
  go_loopw [5] (fun x wr => ∃ k : Nat, k ≤ fs.length ∧ x = .int .i64 k ∧ Below w.heap.size w wr) (fun x _ => fs.length - (intOf x).toNat)
  case atStart => exact ⟨0, Nat.zero_le _, rfl, Below.refl _ _⟩
  case round =>
    obtain ⟨k, hk, rfl, hbw⟩ := hrel
    have HB := Lib.hid hbw
    have hkb : (k : Int) < 4294967296 := by omega
    by_cases hlt : k < fs.length
    · obtain ⟨q0, q1, q2, q3⟩ := cellsF_at fs k hlt
      have c0 : wr.cell? ⟨g, o + k * 4, none⟩ = some (.int .i64 fs[k].kind) := (hbw.cell (p := ⟨g, o + k * 4, none⟩) hgl).trans (HM.out _ _ q0)
      have c1 : wr.cell? ⟨g, o + k * 4 + 1, none⟩ = some (.int .i64 fs[k].strm) := by have := (hbw.cell (p := ⟨g, o + (k * 4 + 1), none⟩) hgl).trans (HM.out _ _ q1); rw [← Nat.add_assoc] at this; exact this
      have c2 : wr.cell? ⟨g, o + k * 4 + 2, none⟩ = some (.int .i64 fs[k].num) := by have := (hbw.cell (p := ⟨g, o + (k * 4 + 2), none⟩) hgl).trans (HM.out _ _ q2); rw [← Nat.add_assoc] at this; exact this
      have c3 : wr.cell? ⟨g, o + k * 4 + 3, none⟩ = some (.string fs[k].data) := by have := (hbw.cell (p := ⟨g, o + (k * 4 + 3), none⟩) hgl).trans (HM.out _ _ q3); rw [← Nat.add_assoc] at this; exact this
      have d0 : wr.cell? ⟨g2, o2 + k * 4, none⟩ = some (.int .i64 fs[k].kind) := (hbw.cell (p := ⟨g2, o2 + k * 4, none⟩) hgl2).trans (HM2.out _ _ q0)
      have d1 : wr.cell? ⟨g2, o2 + k * 4 + 1, none⟩ = some (.int .i64 fs[k].strm) := by have := (hbw.cell (p := ⟨g2, o2 + (k * 4 + 1), none⟩) hgl2).trans (HM2.out _ _ q1); rw [← Nat.add_assoc] at this; exact this
      have d2 : wr.cell? ⟨g2, o2 + k * 4 + 2, none⟩ = some (.int .i64 fs[k].num) := by have := (hbw.cell (p := ⟨g2, o2 + (k * 4 + 2), none⟩) hgl2).trans (HM2.out _ _ q2); rw [← Nat.add_assoc] at this; exact this
      have d3 : wr.cell? ⟨g2, o2 + k * 4 + 3, none⟩ = some (.string fs[k].data) := by have := (hbw.cell (p := ⟨g2, o2 + (k * 4 + 3), none⟩) hgl2).trans (HM2.out _ _ q3); rw [← Nat.add_assoc] at this; exact this
      clear hbw q0 q1 q2 q3
      generalize fs[k].kind = x0 at *
      generalize fs[k].strm = x1 at *
      generalize fs[k].num = x2 at *
      generalize fs[k].data = x3 at *
      by_cases hk0 : k = 0
      · subst hk0
        simp only [Nat.zero_mul, Nat.add_zero] at c0 c1 c2 c3 d0 d1 d2 d3
        go_wp2_with fail
        go_quiet (fail)
        go_wp2_with fail
        go_roundw
        case rel => exact ⟨0 + 1, hlt, by go_num, below_drewN HB.out _⟩
        case measure => simp [intOf]; omega
      · go_wp2_with fail
        go_quiet (fail)
        go_wp2_with fail
        go_roundw
        case rel => exact ⟨k + 1, hlt, by go_num, below_drewN HB.out _⟩
        case measure => simp [intOf]; omega
    · clear hbw
      go_wp2_with fail
      go_ret
      exact ⟨rfl, HB.out⟩
theorem same_nil (a a' : Option Addr) (cap cap' : Nat) (w : World) :
    Calls Tryd.prog 21 #[.slice a 0 cap, .slice a' 0 cap'] w fun e w' => e = .returned (.bool true) ∧ Below w.heap.size w w' := by
  go_enter Tryd.func21, Tryd.ntmps21
  go_wp2_with fail
  refine wp_loop_rounds 1 ?_
  iterate 1 (rw [rounds_succ]; go_wp2)
  all_goals
    go_ret
    exact ⟨rfl, Below.refl _ _⟩
theorem same_any (fs : List FrV) (v v' : Value) (w : World) (hn : fs.length < 4294967296) (hm : FsIn w v fs) (hm' : FsIn w v' fs) :
    Calls Tryd.prog 21 #[v, v'] w fun e w' => e = .returned (.bool true) ∧ Below w.heap.size w w' := by
  obtain ⟨a, cap, rfl, _, hcs⟩ := hm
  obtain ⟨a', cap', rfl, _, hcs'⟩ := hm'
  cases fs with
  | nil => exact same_nil a a' cap cap' w
  | cons m r =>
    obtain ⟨g, o, rfl, hgl, hc⟩ := hcs (by simp)
    obtain ⟨g', o', rfl, hgl', hc'⟩ := hcs' (by simp)
    exact same_some (m :: r) g o cap g' o' cap' w hn hgl hgl' hc hc'
theorem splitL_len : ∀ (n : Nat) (l : List UInt8), l.length ≤ n → (splitL l).frames.length ≤ l.length ∧ (splitL l).rest.length ≤ l.length
  | n, l, hn => by
    rw [splitL_step]
    by_cases h0 : (readL l).err = 0
    · rw [if_pos h0]
      obtain ⟨h1, h2, _⟩ := readL_ok h0
      cases n with
      | zero => omega
      | succ n =>
        have ih := splitL_len n (l.drop (readL l).n) (by rw [List.length_drop]; omega)
        rw [List.length_drop] at ih
        split
        · simp only [List.length_cons]; omega
        · omega
    · rw [if_neg h0]
      split
      · exact ⟨Nat.zero_le _, Nat.le_refl _⟩
      · exact ⟨Nat.zero_le _, Nat.zero_le _⟩
theorem cells_one {f : FrV} {u : Value} (h : u ∈ cellsF [f]) : u.oneCell' = true := by simp [cellsF] at h; rcases h with rfl | rfl | rfl | rfl <;> rfl
theorem cellsF_one {fs : List FrV} {u : Value} (h : u ∈ cellsF fs) : u.oneCell' = true := by
  induction fs with
  | nil => cases h
  | cons f r ih =>
    rw [show f :: r = [f] ++ r from rfl, cellsF_app] at h
    rcases List.mem_append.1 h with h | h
    · exact cells_one h
    · exact ih h
/-- append(own, fs...): whatever list fs is. -/
theorem wpList_append_fs {w : World} {ops : Array Oper} {rest : List Oper} {o : Oper} {a : Act} {Q : Exit → Act → World → Prop} (hgd : o.guard = none) (s x : Operand)
    (ho : o.op = .call { callee := .builtin .append, args := #[s, x], argTypes := #[44, 44] })
    (base : Nat) (v : Value) (n : Nat) (xs : List Value) (hs : a.eval s = v) (hown : w.ownsRow base FT 4 v n xs) (u : Value) (fs : List FrV) (hx : a.eval x = u) (hin : FsIn w u fs)
    (hb : n + fs.length ≤ 4294967296) (hbase : base ≤ w.heap.size)
    (h : ∀ v' w', w'.ownsRow base FT 4 v' (n + fs.length) (xs ++ cellsF fs) → w.grownBy w' v.ownBlock → wpList Tryd.prog ops Q rest (a.put o.dst v') w') : wpList Tryd.prog ops Q (o :: rest) a w := by
  obtain ⟨i0, hi, hz0, hz1, hz2⟩ := info_parts infoFrame
  obtain ⟨ad, cap, rfl, hn, hc⟩ := hin
  cases ad with
  | none =>
    obtain rfl := hn rfl
    have hf : fs = [] := by
      cases fs with
      | nil => rfl
      | cons f r => obtain ⟨_, _, e, _⟩ := hc (by simp); cases e
    subst hf
    refine wpList_append_own_none hgd s x _ ho base FT i0 4 Tryd.underlying44 hi v n xs hs hown hx ?_
    refine h v w ?_ (grown_refl _ _)
    simpa [cellsF] using hown
  | some ad =>
    refine wpList_append_own w hgd s x _ ho base FT i0 (.agg zeroF) 4 40 Tryd.underlying44 hi hz0 hz1 hz2 rfl (by decide) v n xs hs hown ad fs.length cap (cellsF fs) hx (cellsF_len fs) ?_ (fun u hu => cellsF_one hu) (by unfold maxLen; omega) (by omega) hbase (fun v' w' h1 h2 _ => h v' w' h1 h2)
    intro j u hu
    cases fs with
    | nil => simp [cellsF] at hu
    | cons f r =>
      obtain ⟨g, o', e, _, hcl⟩ := hc (by simp)
      obtain rfl := Option.some.inj e
      have : (⟨g, o', none⟩ : Addr).add j = ⟨g, o' + j, none⟩ := by unfold Addr.add; split <;> simp_all
      rw [this]; exact hcl j u hu
end Go.Proofs.YtpfkddbhpoeknaaDoor
