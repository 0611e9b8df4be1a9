/- Texts of this claim merged into one: OCn12, OCn13. -/
import Derived.Test.YthiocbcokfondaaGreatDoorOBunC10
import Derived.Test.YthiocbcokfondaaGreatDoorOBunI
namespace Go.Proofs.YthiocbcokfondaaGreatDoor.Y
open Go.RowKit
attribute [local irreducible] Calls
end Go.Proofs.YthiocbcokfondaaGreatDoor.Y
namespace Go.Proofs.YthiocbcokfondaaGreatDoor.Y
open Go.RowKit
attribute [local irreducible] Calls
end Go.Proofs.YthiocbcokfondaaGreatDoor.Y
