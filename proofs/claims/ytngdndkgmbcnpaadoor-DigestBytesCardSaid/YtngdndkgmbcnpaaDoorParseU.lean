/- strconv.ParseUint at base 16 and 64 bits. -/
import Derived.Test.YtngdndkgmbcnpaaDoorParse
namespace Go.Proofs.YtngdndkgmbcnpaaDoor
open Go.RowKit

/-- what the road reads of the package-level variables of the library. -/
def Gl (w : World) : Prop := (∃ e0, w.cell? ⟨0, 0, none⟩ = some e0 ∧ (e0 = .nilIface ∨ ∃ te pe, e0 = .iface te pe)) ∧ (∃ e1, w.cell? ⟨1, 0, none⟩ = some e1 ∧ (e1 = .nilIface ∨ ∃ te pe, e1 = .iface te pe))
theorem cell_lt {w : World} {b o : Nat} {v : Value} (h : w.cell? ⟨b, o, none⟩ = some v) : b < w.heap.size := by
  unfold World.cell? at h
  cases hh : w.heap[b]? with
  | none => rw [hh] at h; cases h
  | some o => exact (Array.getElem?_eq_some_iff.1 hh).1
theorem Gl.below {w w' : World} (h : Gl w) (hb : Below w.heap.size w w') : Gl w' := by
  obtain ⟨⟨e0, h0, k0⟩, ⟨e1, h1, k1⟩⟩ := h
  exact ⟨⟨e0, (hb.cell (p := ⟨0, 0, none⟩) (cell_lt h0)).trans h0, k0⟩, ⟨e1, (hb.cell (p := ⟨1, 0, none⟩) (cell_lt h1)).trans h1, k1⟩⟩
theorem pu_code : ∀ (l : List UInt8) (n : Nat), (pu l n).2 = 0 ∨ (pu l n).2 = 1 ∨ (pu l n).2 = 2
  | [], _ => .inl rfl
  | c :: l, n => by
    unfold pu
    split
    · exact .inr (.inr rfl)
    · split
      · exact .inr (.inl rfl)
      · exact pu_code l _
theorem pu16_code (l : List UInt8) : (pu16 l).2 = 0 ∨ (pu16 l).2 = 1 ∨ (pu16 l).2 = 2 := by
  unfold pu16; split
  · exact .inr (.inr rfl)
  · exact pu_code l 0
set_option maxRecDepth 100000 in
theorem ipu_empty (w : World) :
    Calls Tryd.prog 30 #[.string ⟨#[]⟩, .int .i64 16, .int .i64 64] w fun e w' => e = .returned (.tuple #[.int .u64 0, errV 2]) ∧ Below w.heap.size w w' := by
  go_enter Tryd.func30, Tryd.ntmps30
  go_wp2
  go_ret2
  exact ⟨rfl, Below.refl _ _⟩
theorem ipu_all (s : ByteArray) (w : World) (hs : s.size ≤ 281474976710656) :
    Calls Tryd.prog 30 #[.string s, .int .i64 16, .int .i64 64] w fun e w' => e = .returned (.tuple #[.int .u64 (pu16 s.data.toList).1, errV (pu16 s.data.toList).2]) ∧ Below w.heap.size w w' := by
  by_cases h0 : 0 < s.size
  · exact ipu_any s w h0 hs
  · have : s = ⟨#[]⟩ := ByteArray.ext (Array.eq_empty_of_size_eq_zero (by show s.size = 0; omega))
    subst this
    exact ipu_empty w
/-- the error that the public function hands on. -/
def ErrIs (c : Int) (v : Value) : Prop := (c = 0 ∧ v = .nilIface) ∨ (c ≠ 0 ∧ ∃ N, v = .iface 64 (.pointer (some ⟨N, 0, none⟩)))
def ParseAns (n : Nat) (c : Int) (w : World) (e : Ending) (w' : World) : Prop := ∃ v, e = .returned (.tuple #[.int .u64 n, v]) ∧ ErrIs c v ∧ Below w.heap.size w w'
theorem parse_any (s : ByteArray) (w : World) (hs : s.size ≤ 281474976710656) (hg : Gl w) :
    Calls Tryd.prog 24 #[.string s, .int .i64 16, .int .i64 64] w (ParseAns (pu16 s.data.toList).1 (pu16 s.data.toList).2 w) := by
  have HI := Lib.hid (fun w => ipu_all s w hs)
  have hc := pu16_code s.data.toList
  generalize (pu16 s.data.toList).1 = n at *
  generalize (pu16 s.data.toList).2 = c at *
  have HG := Lib.hid hg; clear hg
  rcases hc with rfl | rfl | rfl
  · go_enter Tryd.func24, Tryd.ntmps24
    go_wp2_with fail
    refine (HI.out _).mono ?_; rw [show errV 0 = .nilIface from rfl]; rintro e w1 ⟨rfl, hb1⟩
    go_wp2_with fail
    go_ret2
    exact ⟨_, rfl, .inl ⟨rfl, rfl⟩, hb1⟩
  · go_enter Tryd.func24, Tryd.ntmps24
    go_wp2_with fail
    refine (HI.out _).mono ?_; rw [show errV 1 = .iface 62 (.int .i64 1) from rfl]; rintro e w1 ⟨rfl, hb1⟩
    obtain ⟨_, ⟨e1, h1, k1⟩⟩ := HG.out.below hb1
    have H1 := Lib.hid h1; clear h1
    go_wp2_with fail
    refine (Tryd.strconv_toError_range _ s _ _ e1 _ hs H1.out k1).mono ?_; rintro e w2 ⟨N, rfl, _, _, hb2⟩
    go_wp2_with fail
    go_ret2
    exact ⟨_, rfl, .inr ⟨by decide, N, rfl⟩, hb1.trans (hb2.mono hb1.size)⟩
  · go_enter Tryd.func24, Tryd.ntmps24
    go_wp2_with fail
    refine (HI.out _).mono ?_; rw [show errV 2 = .iface 62 (.int .i64 2) from rfl]; rintro e w1 ⟨rfl, hb1⟩
    obtain ⟨⟨e0, h0, k0⟩, _⟩ := HG.out.below hb1
    have H0 := Lib.hid h0; clear h0
    go_wp2_with fail
    refine (Tryd.strconv_toError_syntax _ s _ _ e0 _ hs H0.out k0).mono ?_; rintro e w2 ⟨N, rfl, _, _, hb2⟩
    go_wp2_with fail
    go_ret2
    exact ⟨_, rfl, .inr ⟨by decide, N, rfl⟩, hb1.trans (hb2.mono hb1.size)⟩
end Go.Proofs.YtngdndkgmbcnpaaDoor
