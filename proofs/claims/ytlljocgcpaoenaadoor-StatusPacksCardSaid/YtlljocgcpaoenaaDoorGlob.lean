/- What the premise on the listed variables gives the walks of layer 42. -/
import Derived.Test.YtlljocgcpaoenaaDoorFlat
import Derived.Test.YtlljocgcpaoenaaDoorRows
import Derived.Test.YtlljocgcpaoenaaDoorLaw
namespace Go.Proofs.YtlljocgcpaoenaaDoor
open Go.RowKit Go.ChangeShapes

def laid42 : List (String × DataW Unit) := Rows.statusNamesRow.laid
theorem gs_of_laid {l : List (String × DataW Unit)} {W : World} (h : laidMet Tryd.prog l W) (hl : l = laid42) : Gs W := by
  subst hl
  refine ⟨?_, ?_, ?_, ?_, ?_, ?_⟩
  · exact laid_block (nm := "wireschema/status.names") (d := Rows.laid_wireschema_status_names) (vs := namesV.toList) (t := 42) h (by simp [laid42, Rows.statusNamesRow]) (by kernel_rfl) (by kernel_rfl) (by kernel_rfl) (by rfl)
  · exact laid_block (nm := "wireschema/status.codes") (d := Rows.laid_wireschema_status_codes) (vs := codesV.toList) (t := 49) h (by simp [laid42, Rows.statusNamesRow]) (by kernel_rfl) (by kernel_rfl) (by kernel_rfl) (by rfl)
  · exact laid_block (nm := "wireschema/status.units") (d := Rows.laid_wireschema_status_units) (vs := unitsV.toList) (t := 56) h (by simp [laid42, Rows.statusNamesRow]) (by kernel_rfl) (by kernel_rfl) (by kernel_rfl) (by rfl)
  · obtain ⟨ty, fz, hb⟩ := laid_block (nm := "internal/strconv.uint64pow10") (d := Rows.laid_internal_strconv_uint64pow10) (g := 6) (vs := Lib.pow10Tab.map fun z => Value.int .u64 z) (t := 92) h (by simp [laid42, Rows.statusNamesRow]) (by kernel_rfl) (by kernel_rfl) (by kernel_rfl) (by rfl)
    unfold Lib.TabIs World.var?
    rw [show Tryd.prog.globalNamed "internal/strconv.uint64pow10" = some 6 by kernel_rfl]
    simp only [Option.bind_some, hb]
  · exact laid_err (nm := "strconv.ErrSyntax") (d := Rows.laid_strconv_ErrSyntax) (t := 53) h (by simp [laid42, Rows.statusNamesRow]) (by kernel_rfl) (by kernel_rfl) Tryd.underlying53
  · exact laid_err (nm := "strconv.ErrRange") (d := Rows.laid_strconv_ErrRange) (t := 53) h (by simp [laid42, Rows.statusNamesRow]) (by kernel_rfl) (by kernel_rfl) Tryd.underlying53
end Go.Proofs.YtlljocgcpaoenaaDoor
