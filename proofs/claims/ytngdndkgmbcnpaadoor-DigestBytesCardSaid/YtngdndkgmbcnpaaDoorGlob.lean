/- What the premise on the listed variables gives the walks of layer 05. -/
import Derived.Test.YtngdndkgmbcnpaaDoorLaid
import Derived.Test.YtngdndkgmbcnpaaDoorRows
import Derived.Test.YtngdndkgmbcnpaaDoorLawT
namespace Go.Proofs.YtngdndkgmbcnpaaDoor
open Go.RowKit Go.ChangeShapes

def laid5 : List (String × DataW Unit) := Rows.digestTextsRow.laid
theorem gv_of_laid {l : List (String × DataW Unit)} {W : World} (h : laidMet Tryd.prog l W) (hl : l = laid5) : Gv W := by
  subst hl
  refine ⟨⟨?_, ?_⟩, ?_⟩
  · exact laid_err (nm := "strconv.ErrSyntax") (d := Rows.laid_strconv_ErrSyntax) (g := 0) (t := 43) h (by simp [laid5, Rows.digestTextsRow]) (by kernel_rfl) (by kernel_rfl) Tryd.underlying43
  · exact laid_err (nm := "strconv.ErrRange") (d := Rows.laid_strconv_ErrRange) (g := 1) (t := 43) h (by simp [laid5, Rows.digestTextsRow]) (by kernel_rfl) (by kernel_rfl) Tryd.underlying43
  · obtain ⟨z, hz, hc⟩ := laid_ints (nm := "math/bits.deBruijn64tab") (g := 5) (t := 96) (e := 5) (n := 64) (k := .u8) [0, 1, 56, 2, 57, 49, 28, 3, 61, 58, 42, 50, 38, 29, 17, 4, 62, 47, 59, 36, 45, 43, 51, 22, 53, 39, 33, 30, 24, 18, 12, 5, 63, 55, 48, 27, 60, 41, 37, 16, 46, 35, 44, 21, 52, 32, 23, 11, 54, 26, 40, 15, 34, 20, 31, 10, 25, 14, 19, 9, 13, 8, 7, 6] h (by simp [laid5, Rows.digestTextsRow, Rows.laid_math_bits_deBruijn64tab]) (by kernel_rfl) (by kernel_rfl) Tryd.underlying96 Tryd.underlying5 (by kernel_rfl) 15 (by omega)
    obtain rfl : z = 4 := by simpa using hz.symm
    exact hc
end Go.Proofs.YtngdndkgmbcnpaaDoor
