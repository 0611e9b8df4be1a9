/- What the premise on the listed variables gives the walks of layer 04. -/
import Derived.Test.YtiodkdafoocofaaGreatDoorFlat
import Derived.Test.YtiodkdafoocofaaGreatDoorRows
import Derived.Test.YtiodkdafoocofaaGreatDoorGsc
namespace Go.Proofs.YtiodkdafoocofaaGreatDoor.Y
open Go.RowKit Go.ChangeShapes
theorem gs_of_laid {l : List (String × DataW Unit)} {W : World} (h : laidMet Tryz.prog l W) (h1 : ("internal/strconv.uint64pow10", Rows.laid_internal_strconv_uint64pow10) ∈ l) (h2 : ("strconv.ErrSyntax", Rows.laid_strconv_ErrSyntax) ∈ l) (h3 : ("strconv.ErrRange", Rows.laid_strconv_ErrRange) ∈ l) (h4 : ("math/bits.deBruijn64tab", Rows.laid_math_bits_deBruijn64tab) ∈ l) : Gs W := by
  refine ⟨?_, ?_, ?_, ?_⟩
  · obtain ⟨ty, fz, hb⟩ := laid_block (nm := "internal/strconv.uint64pow10") (d := Rows.laid_internal_strconv_uint64pow10) (g := 1) (vs := Lib.pow10Tab.map fun z => Value.int .u64 z) (t := 102) h h1 (by kernel_rfl) (by kernel_rfl) (by kernel_rfl) (by rfl)
    unfold Lib.TabIs World.var?
    rw [show Tryz.prog.globalNamed "internal/strconv.uint64pow10" = some 1 by kernel_rfl]
    simp only [Option.bind_some, hb]
  · exact laid_err (nm := "strconv.ErrSyntax") (d := Rows.laid_strconv_ErrSyntax) (t := 45) h h2 (by kernel_rfl) (by kernel_rfl) Tryz.underlying45
  · exact laid_err (nm := "strconv.ErrRange") (d := Rows.laid_strconv_ErrRange) (t := 45) h h3 (by kernel_rfl) (by kernel_rfl) Tryz.underlying45
  · obtain ⟨z, hz, hc⟩ := laid_ints (nm := "math/bits.deBruijn64tab") (g := 5) (t := 117) (e := 5) (n := 64) (k := .u8) [0, 1, 56, 2, 57, 49, 28, 3, 61, 58, 42, 50, 38, 29, 17, 4, 62, 47, 59, 36, 45, 43, 51, 22, 53, 39, 33, 30, 24, 18, 12, 5, 63, 55, 48, 27, 60, 41, 37, 16, 46, 35, 44, 21, 52, 32, 23, 11, 54, 26, 40, 15, 34, 20, 31, 10, 25, 14, 19, 9, 13, 8, 7, 6] h (by simpa [Rows.laid_math_bits_deBruijn64tab] using h4) (by kernel_rfl) (by kernel_rfl) Tryz.underlying117 Tryz.underlying5 (by kernel_rfl) 15 (by omega)
    obtain rfl : z = 4 := by simpa using hz.symm
    exact hc
end Go.Proofs.YtiodkdafoocofaaGreatDoor.Y
