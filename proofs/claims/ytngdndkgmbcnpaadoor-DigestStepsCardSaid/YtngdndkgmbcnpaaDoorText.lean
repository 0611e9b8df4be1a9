/- digest.Text and digest.Parse. -/
import Derived.Test.YtngdndkgmbcnpaaDoorHex
namespace Go.Proofs.YtngdndkgmbcnpaaDoor
open Go.RowKit

theorem hexF_len : ∀ (n u : Nat) (acc : List UInt8), acc.length + 1 ≤ (hexF n u acc).length ∧ (hexF n u acc).length ≤ acc.length + n + 1
  | 0, u, acc => by simp [hexF]
  | n + 1, u, acc => by
    unfold hexF
    split
    · have := hexF_len n (u / 16) (hexC (u % 16) :: acc)
      simp only [List.length_cons] at this
      omega
    · simp
theorem hexS_len (u : Nat) : 1 ≤ (hexS u).length ∧ (hexS u).length ≤ 16 := by
  have := hexF_len 15 u []
  simpa [hexS] using this
def textL (u : Nat) : List UInt8 := Lib.repeatL [48] (16 - (hexS u).length) ++ hexS u
theorem cat_eq (a b : List UInt8) : ((⟨a.toArray⟩ : ByteArray) ++ ⟨b.toArray⟩ : ByteArray) = ⟨(a ++ b).toArray⟩ := ByteArray.ext (by simp [ByteArray.data_append])
theorem text_any (u : Nat) (w : World) (hu : u < 18446744073709551616) (hc : w.cell? ⟨5, 15, none⟩ = some (.int .u8 4)) :
    Calls Tryd.prog 10 #[.int .u64 u] w fun e w' => e = .returned (.string ⟨(textL u).toArray⟩) ∧ Below w.heap.size w w' := by
  have HC := Lib.hid (fun w hc => fmt_any u w hu hc)
  have HX := Lib.hid hc; clear hc hu
  have hl := hexS_len u
  have hsz : (⟨(hexS u).toArray⟩ : ByteArray).size = (hexS u).length := by show (hexS u).toArray.size = _; simp
  have he : (16 : Int) - ((hexS u).length : Int) = ((16 - (hexS u).length : Nat) : Int) := by omega
  have hno : ¬ 9223372036854775807 < (Lib.repeatL [48] (16 - (hexS u).length)).length + (hexS u).length := by rw [Lib.repeatL_length]; simp; omega
  go_enter Tryd.func10, Tryd.ntmps10
  go_wp2_with fail
  refine (HC.out _ HX.out).mono ?_; rintro e w1 ⟨rfl, hb1⟩
  go_wp2_with fail
  refine (Tryd.strings_Repeat ⟨#[48]⟩ (16 - (hexS u).length) _ (by omega) (by show 1 * _ ≤ _; omega)).mono ?_
  rintro e w2 ⟨rfl, hb2⟩
  go_wp2_with fail
  go_ret
  exact ⟨by unfold textL; rw [← cat_eq]; rfl, hb1.trans (hb2.mono hb1.size)⟩
end Go.Proofs.YtngdndkgmbcnpaaDoor
