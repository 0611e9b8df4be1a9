/- From a row with listed variables to a walk that also knows the shape of the world: what a library's own variable (some number) needs. -/
import Derived.HandedShaped
import Derived.Test.YthiocbcokfondaaGreatDoorBBunI
import Derived.Shelf.Vars
namespace Go.Proofs.YthiocbcokfondaaGreatDoor
open Go.RowKit Go.ChangeShapes
variable {H : Type} {enc : TypeId × Value → H}
theorem zI {W : World} (h : W.ShapedOpen Tryz.prog) : MLen W :=
 Go.Proofs.cell_of_shapedOpen_int (zero := #[.int .i64 0]) (t := 3) h (of_decide_eq_true (by kernel_rfl)) (by kernel_rfl) rfl (by kernel_rfl) (by kernel_rfl) Tryz.underlying3
end Go.Proofs.YthiocbcokfondaaGreatDoor
