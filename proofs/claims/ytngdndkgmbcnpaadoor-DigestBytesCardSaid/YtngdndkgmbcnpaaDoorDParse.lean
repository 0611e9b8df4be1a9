/- digest.Parse. -/
import Derived.Test.YtngdndkgmbcnpaaDoorText
import Derived.Test.YtngdndkgmbcnpaaDoorParseU
namespace Go.Proofs.YtngdndkgmbcnpaaDoor
open Go.RowKit

def Pu (l : List UInt8) : Nat × Int := if (pu16 l).2 = 0 ∧ textL (pu16 l).1 = l then ((pu16 l).1, 0) else (0, 2)
theorem pu_lt : ∀ (l : List UInt8) (n : Nat), n < 18446744073709551616 → (pu l n).1 < 18446744073709551616
  | [], _, h => h
  | c :: l, n, h => by
    unfold pu
    split
    · decide
    · rename_i hd
      split
      · decide
      · rename_i hc
        refine pu_lt l _ ?_
        unfold cut16 at hc
        omega
theorem pu16_lt (l : List UInt8) : (pu16 l).1 < 18446744073709551616 := by
  unfold pu16; split
  · decide
  · exact pu_lt l 0 (by decide)
set_option maxRecDepth 100000 in
theorem dparse_any (s : ByteArray) (w : World) (hs : s.size ≤ 281474976710656) (hg : Gl w) (hc : w.cell? ⟨5, 15, none⟩ = some (.int .u8 4)) :
    Calls Tryd.prog 9 #[.string s] w fun e w' => e = .returned (.tuple #[.int .u64 (Pu s.data.toList).1, .int .i64 (Pu s.data.toList).2]) ∧ Below w.heap.size w w' := by
  have HP := Lib.hid (parse_any s w hs hg)
  have HT := Lib.hid (fun w hc => text_any (pu16 s.data.toList).1 w (pu16_lt _) hc)
  have HX := Lib.hid hc; clear hc
  have HU := Lib.hid (show Pu s.data.toList = if (pu16 s.data.toList).2 = 0 ∧ textL (pu16 s.data.toList).1 = s.data.toList then ((pu16 s.data.toList).1, 0) else (0, 2) from rfl)
  generalize (pu16 s.data.toList).1 = n at *
  generalize (pu16 s.data.toList).2 = c at *
  generalize Pu s.data.toList = P at *
  clear hg
  go_enter Tryd.func9, Tryd.ntmps9
  go_wp2_with fail
  refine HP.out.mono ?_; rintro e w1 ⟨v, rfl, hv, hb1⟩
  rcases hv with ⟨rfl, rfl⟩ | ⟨hc0, N, rfl⟩
  · go_wp2_with fail
    refine (HT.out _ ((hb1.cell (p := ⟨5, 15, none⟩) (cell_lt HX.out)).trans HX.out)).mono ?_; rintro e w2 ⟨rfl, hb2⟩
    have hbb := Lib.hid (hb1.trans (hb2.mono hb1.size)); clear hb1 hb2
    have hdec : (textL n == s.toList) = decide (textL n = s.data.toList) := by rw [ByteArray.toList_eq, Bool.eq_iff_iff]; simp
    by_cases he : textL n = s.data.toList
    · have HQ := Lib.hid (show P = (n, 0) by rw [HU.out, if_pos ⟨trivial, he⟩])
      have hd2 : (textL n == s.toList) = true := by rw [hdec]; exact decide_eq_true he
      clear hdec he
      go_wp2_with fail
      go_ret2
      exact ⟨by rw [HQ.out]; rfl, hbb.out⟩
    · have HQ := Lib.hid (show P = (0, 2) by rw [HU.out, if_neg (fun h => he h.2)])
      have hd2 : (textL n == s.toList) = false := by rw [hdec]; exact decide_eq_false he
      clear hdec he
      go_wp2_with fail
      go_ret2
      exact ⟨by rw [HQ.out]; rfl, hbb.out⟩
  · have HQ := Lib.hid (show P = (0, 2) by rw [HU.out, if_neg (fun h => hc0 h.1)])
    have hbb := Lib.hid hb1; clear hb1
    go_wp2_with fail
    go_ret2
    exact ⟨by rw [HQ.out]; rfl, hbb.out⟩
end Go.Proofs.YtngdndkgmbcnpaaDoor
