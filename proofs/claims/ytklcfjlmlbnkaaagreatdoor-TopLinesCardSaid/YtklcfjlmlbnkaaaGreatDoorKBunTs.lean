/- Texts of this claim merged into one: KSplit, KTpS. -/
import Derived.Test.YtklcfjlmlbnkaaaGreatDoorKBunB
import Derived.Laws.AppendOwnNone
import Derived.Test.YtklcfjlmlbnkaaaGreatDoorKBunC25
namespace Go.Proofs.YtklcfjlmlbnkaaaGreatDoor
open Go.RowKit
def E3 : Value → Nat | .string s => s.size | _ => 0
def jG (fs : List FrV) : List Value := fs.flatMap fun f => [.int .i64 f.kind, .int .i64 f.strm, .int .i64 f.num, .string f.data]
theorem xg (a b : List FrV) : jG (a ++ b) = jG a ++ jG b := by simp [jG]
def FsIn (w : World) (v : Value) (fs : List FrV) : Prop :=
  ∃ (a : Option Addr) (cap : Nat), v = .slice a fs.length cap ∧ (a = none → cap = 0) ∧ (fs ≠ [] → ∃ g o, a = some ⟨g, o, none⟩ ∧ g < w.heap.size ∧ ∀ (j : Nat) u, (jG fs)[j]? = some u → w.cell? ⟨g, o + j, none⟩ = some u)
theorem FsIn.below {w w' : World} {v : Value} {fs : List FrV} (h : FsIn w v fs) (hb : Below w.heap.size w w') : FsIn w' v fs := by
  obtain ⟨a, cap, hv, hn, hc⟩ := h
  refine ⟨a, cap, hv, hn, fun hne => ?_⟩
  obtain ⟨g, o, ha, hg, hcl⟩ := hc hne
  exact ⟨g, o, ha, Nat.lt_of_lt_of_le hg hb.size, fun j u hu => (hb.cell (p := ⟨g, o + j, none⟩) hg).trans (hcl j u hu)⟩
theorem CU (g j : Nat) : (⟨g, 0, none⟩ : Addr).add j = ⟨g, 0 + j, none⟩ := by unfold Addr.add; split <;> simp_all
theorem FsIn.own {w : World} {B : Nat} {v : Value} {fs : List FrV} (h : w.ownsRow B FT 4 v fs.length (jG fs)) : FsIn w v fs := by
  rcases h.2 with ⟨hv, h0⟩ | ⟨g, cap, cur, hv, hB, hg, r⟩
  · exact ⟨none, 0, by rw [hv, h0], fun _ => rfl, fun hne => absurd (List.length_eq_zero_iff.1 h0) hne⟩
  · refine ⟨some ⟨g, 0, none⟩, cap, hv, fun h => (by cases h), fun _ => ⟨g, 0, rfl, (Array.getElem?_eq_some_iff.1 hg).1, fun j u hu => ?_⟩⟩
    have := h.cells (g := g) (by rw [hv]; rfl) j u hu
    rwa [CU] at this
theorem FsIn.nil (w : World) : FsIn w (.slice none 0 0) [] := ⟨none, 0, rfl, fun _ => rfl, fun h => absurd rfl h⟩
theorem Aa : (Tryz.prog.info? FT).map (fun i => (i.zero, i.size, i.bytes)) = some (some (.agg dr), 4, 40) := by kernel_rfl
def SpRest (R : EZ) (acc : List FrV) (l : List UInt8) : Prop := R = if (aF l).err = 0 then ⟨acc ++ (aF l).frames, (aF l).rest, 0⟩ else ⟨[], [], (aF l).err⟩
theorem SpRest.start (l : List UInt8) : SpRest (aF l) [] l := by
  unfold SpRest
  split
  · rename_i h
    have : aF l = ⟨(aF l).frames, (aF l).rest, (aF l).err⟩ := rfl
    rw [h] at this; rw [this]; rfl
  · rename_i h
    obtain ⟨h1, h2⟩ := lQ l.length l (Nat.le_refl _) h
    have : aF l = ⟨(aF l).frames, (aF l).rest, (aF l).err⟩ := rfl
    rw [h1, h2] at this; exact this
theorem SpRest.next {R : EZ} {acc : List FrV} {l : List UInt8} (h : SpRest R acc l) (h0 : (aG l).err = 0) : SpRest R (acc ++ [(aG l).frame]) (l.drop (aG l).n) := by
  unfold SpRest at h ⊢
  rw [h, cD l, if_pos h0]
  by_cases hx : (aF (l.drop (aG l).n)).err = 0
  · rw [if_pos hx, if_pos rfl, if_pos hx]; simp
  · rw [if_neg hx, if_neg hx, if_neg hx]
theorem SpRest.stop {R : EZ} {acc : List FrV} {l : List UInt8} (h : SpRest R acc l) (h4 : (aG l).err = 4) : R = ⟨acc, l, 0⟩ := by
  unfold SpRest at h
  have e : aF l = ⟨[], l, 0⟩ := by rw [cD l, if_neg (fun h => by rw [h4] at h; cases h), if_pos h4]
  rw [h, e, if_pos rfl]; simp
theorem SpRest.fail {R : EZ} {acc : List FrV} {l : List UInt8} (h : SpRest R acc l) (h0 : (aG l).err ≠ 0) (h4 : (aG l).err ≠ 4) : R = ⟨[], [], (aG l).err⟩ := by
  unfold SpRest at h
  have e : aF l = ⟨[], [], (aG l).err⟩ := by rw [cD l, if_neg h0, if_neg h4]
  rw [h, e, if_neg h0]
theorem CV (W : World) (a b c d : Value) : ∀ (j : Nat) (u : Value), [a, b, c, d][j]? = some u → (W.alloc (.cells #[a, b, c, d] FT)).cell? ((⟨W.heap.size, 0, none⟩ : Addr).add j) = some u := by
  intro j u hj
  rw [CU, Nat.zero_add, World.cell?_alloc_mark]
  match j, hj with
  | 0, hj => simp at hj; subst hj; rfl
  | 1, hj => simp at hj; subst hj; rfl
  | 2, hj => simp at hj; subst hj; rfl
  | 3, hj => simp at hj; subst hj; rfl
  | j + 4, hj => simp at hj
end Go.Proofs.YtklcfjlmlbnkaaaGreatDoor
namespace Go.Proofs.YtklcfjlmlbnkaaaGreatDoor
open Go.RowKit
def Hq (R : EZ) (w : World) (e : Ending) (w' : World) : Prop := ∃ v, e = .returned (.tuple #[v, .string ⟨R.rest.toArray⟩, .int .i64 R.err]) ∧ w'.ownsRow w.heap.size FT 4 v R.frames.length (jG R.frames) ∧ Below w.heap.size w w'
set_option maxHeartbeats 4000000 in
set_option maxRecDepth 100000 in
theorem qv (s0 : ByteArray) (w : World) (hg : MLen w) (hs : s0.size < 4294967281) :
    Calls Tryz.prog 27 #[.string s0] w (Hq (aF s0.data.toList) w) := by
  have HG := Lib.hid hg; clear hg
  have HP0 := Lib.hid (SpRest.start s0.data.toList)
  generalize aF s0.data.toList = R at *
  have HS0 := Lib.hid hs; clear hs
  obtain ⟨i0, hi, hz0, hz1, hz2⟩ := info_parts Aa
  have HI := Lib.hid hi; have HIZ := Lib.hid hz0; have HIZ1 := Lib.hid hz1; have HIZ2 := Lib.hid hz2
  clear hi hz0 hz1 hz2
  go_enter Tryz.func27, Tryz.ntmps27
  go_wp2_with fail
  go_loopw [0, 5] (fun x y wr => ∃ (s : ByteArray) (acc : List FrV), x = .string s ∧ acc.length + s.size ≤ s0.size ∧ wr.ownsRow w.heap.size FT 4 y acc.length (jG acc) ∧ Below w.heap.size w wr ∧ SpRest R acc s.data.toList) (fun x _ _ => E3 x)
  case atStart => exact ⟨s0, [], rfl, by simp, World.ownsRow_nil _ _ _ _, Below.refl _ _, HP0.out⟩
  case round =>
    obtain ⟨s, acc, rfl, hsz, hown, hbw, hP⟩ := hrel
    have HSZ := Lib.hid hsz; have HO := Lib.hid hown; have HB := Lib.hid hbw; have HP := Lib.hid hP
    clear hsz hown hbw hP
    have HRD := Lib.hid (CQ s wr (HG.out.below HB.out) (by have := HSZ.out; have := HS0.out; omega))
    have HOK := Lib.hid (fun (h : (aG s.data.toList).err = 0) => kz h)
    have HNX := Lib.hid (fun (h : (aG s.data.toList).err = 0) => HP.out.next h)
    have HST := Lib.hid (fun (h : (aG s.data.toList).err = 4) => HP.out.stop h)
    have HFL := Lib.hid (fun (h : (aG s.data.toList).err ≠ 0) h4 => HP.out.fail h h4)
    generalize aG s.data.toList = X at *
    obtain ⟨⟨fk, ft, fn, fd⟩, n, c⟩ := X
    unfold CO at HRD
    simp only at HOK HNX HST HFL
    clear HP0
    go_wp2_with fail
    refine (HRD.out).mono ?_; rintro e w1 ⟨rfl, hb1⟩
    have HB1 := Lib.hid (HB.out.trans (hb1.mono HB.out.size)); have HO1 := Lib.hid (na HO.out hb1)
    have HB1a := Lib.hid (HB1.out.alloc HB1.out.size (.cells #[.int .i64 fk, .int .i64 ft, .int .i64 fn, .string fd] FT)); have HO1a := Lib.hid (na HO1.out (bD w1 (.cells #[.int .i64 fk, .int .i64 ft, .int .i64 fn, .string fd] FT)))
    clear hb1
    by_cases hc0 : c = 0
    · subst hc0
      obtain ⟨hn1, hn2, _, _⟩ := HOK.out rfl
      have hn2 : n ≤ s.size := by rw [Array.length_toList] at hn2; exact hn2
      have hn1 : 4 < n := hn1
      have HNX2 := Lib.hid (HNX.out rfl)
      have HN1 := Lib.hid hn1
      have HBB := Lib.hid (HB1a.out.alloc HB1a.out.size (.cells #[.int .i64 fk, .int .i64 ft, .int .i64 fn, .string fd] FT))
      have HOB := Lib.hid (na HO1a.out (bD (w1.alloc (.cells #[.int .i64 fk, .int .i64 ft, .int .i64 fn, .string fd] FT)) (.cells #[.int .i64 fk, .int .i64 ft, .int .i64 fn, .string fd] FT)))
      have HSB := Lib.hid (show w.heap.size ≤ ((w1.alloc (.cells #[.int .i64 fk, .int .i64 ft, .int .i64 fn, .string fd] FT)).alloc (.cells #[.int .i64 fk, .int .i64 ft, .int .i64 fn, .string fd] FT)).heap.size from HBB.out.size)
      have HEX := Lib.hid (vD s n)
      have HFN := Lib.hid (show ∀ (j : Nat) (u : Value), [Value.int .i64 fk, .int .i64 ft, .int .i64 fn, .string fd][j]? = some u → ((w1.alloc (.cells #[.int .i64 fk, .int .i64 ft, .int .i64 fn, .string fd] FT)).alloc (.cells #[.int .i64 fk, .int .i64 ft, .int .i64 fn, .string fd] FT)).cell? ((⟨w1.heap.size + 1, 0, none⟩ : Addr).add j) = some u from by
        have h := CV (w1.alloc (.cells #[.int .i64 fk, .int .i64 ft, .int .i64 fn, .string fd] FT)) (.int .i64 fk) (.int .i64 ft) (.int .i64 fn) (.string fd)
        rw [show (w1.alloc (.cells #[.int .i64 fk, .int .i64 ft, .int .i64 fn, .string fd] FT)).heap.size = w1.heap.size + 1 by simp] at h; exact h)
      clear HOK HNX HST HFL hn1
      go_wp2_with (at_builtin; refine wpList_append_own _ rfl _ _ 31 rfl w.heap.size FT i0 (.agg dr) 4 40 Tryz.underlying31 HI.out HIZ.out HIZ1.out HIZ2.out rfl (by decide) _ acc.length (jG acc) rfl HOB.out ⟨w1.heap.size + 1, 0, none⟩ 1 1 [.int .i64 fk, .int .i64 ft, .int .i64 fn, .string fd] J J HFN.out (by intro u hu; simp at hu; rcases hu with rfl | rfl | rfl | rfl <;> rfl) (by have := HSZ.out; have := HS0.out; unfold maxLen; omega) (by have := HSZ.out; have := HS0.out; omega) HSB.out ?_; intro v' w' hown' hgrow _; have HO3 := Lib.hid hown'; have HB3 := Lib.hid (HBB.out.grown hgrow HBB.out.size (fun g hg => (HOB.out.lt g hg).1)); clear hown' hgrow)
      go_roundw
      case rel => exact ⟨s.extract n s.size, acc ++ [⟨fk, ft, fn, fd⟩], rfl, by rw [ByteArray.size_extract, List.length_append]; have := HSZ.out; have := HN1.out; simp only [List.length_cons, List.length_nil]; omega, by rw [xg, List.length_append]; exact HO3.out, HB3.out, by rw [HEX.out]; exact HNX2.out⟩
      case measure => simp only [E3, ByteArray.size_extract]; have := HN1.out; omega
    · obtain ⟨q1, q2⟩ := cj hc0
      by_cases hc4 : c = 4
      · subst hc4
        have HR := Lib.hid (HST.out rfl)
        clear hc0 q1 q2
        go_wp2_with fail
        go_ret3
        exact ⟨_, by rw [HR.out]; rfl, by rw [HR.out]; exact HO1a.out, HB1a.out⟩
      · obtain ⟨q3, q4⟩ := cj hc4
        have HR := Lib.hid (HFL.out hc0 hc4)
        clear hc0 hc4
        go_wp2_with fail
        go_ret3
        exact ⟨_, by rw [HR.out]; rfl, by rw [HR.out]; exact World.ownsRow_nil _ _ _ _, HB1a.out⟩
namespace Y
theorem xh (q : ByteArray) (w : World) (hg : MLen w) (hs : q.size < 4294967281) :
    Calls Tryz.prog 27 #[.string q] w fun e w' => ∃ p : Option Addr × Nat, e = .returned (.tuple #[.slice p.1 (aF q.data.toList).frames.length p.2, .string ⟨(aF q.data.toList).rest.toArray⟩, .int .i64 (aF q.data.toList).err]) ∧ Made w w' [.own p.1 p.2 FT 4 (aF q.data.toList).frames.length ((aF q.data.toList).frames.flatMap fC)] :=
  (qv q w hg hs).mono fun e w' ⟨v, h1, h2, h3⟩ => by
    obtain ⟨a, c, rfl⟩ := yH h2
    exact ⟨(a, c), h1, Made.one h2 h3⟩
end Y
end Go.Proofs.YtklcfjlmlbnkaaaGreatDoor
