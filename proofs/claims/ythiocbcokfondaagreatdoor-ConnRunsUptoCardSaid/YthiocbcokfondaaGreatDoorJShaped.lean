import Derived.HandedShaped
import Derived.Test.YthiocbcokfondaaGreatDoorJBunI
import Derived.Shelf.Vars
namespace Go.Proofs.YthiocbcokfondaaGreatDoor
open Go.RowKit Go.ChangeShapes
variable {H:Type}{enc:TypeId×Value→H}
theorem Eb{W:World}(h:W.ShapedOpen Tryz.prog):MLen W:=
 Go.Proofs.cell_of_shapedOpen_int (zero:= #[.int .i64 0]) (t:=3) h (of_decide_eq_true (by kernel_rfl)) (by kernel_rfl) rfl (by kernel_rfl) (by kernel_rfl) Tryz.underlying3
end Go.Proofs.YthiocbcokfondaaGreatDoor
