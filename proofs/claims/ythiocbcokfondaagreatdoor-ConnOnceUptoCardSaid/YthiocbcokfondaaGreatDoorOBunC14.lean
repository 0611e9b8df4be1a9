/- Texts of this claim merged into one: OCn14, OCn15, OCn16. -/
import Derived.Test.YthiocbcokfondaaGreatDoorOBunC12
namespace Go.Proofs.YthiocbcokfondaaGreatDoor.Y
open Go.RowKit
attribute [local irreducible] Calls
end Go.Proofs.YthiocbcokfondaaGreatDoor.Y
namespace Go.Proofs.YthiocbcokfondaaGreatDoor.Y
open Go.RowKit
attribute [local irreducible] Calls
end Go.Proofs.YthiocbcokfondaaGreatDoor.Y
namespace Go.Proofs.YthiocbcokfondaaGreatDoor.Y
open Go.RowKit
attribute [local irreducible] Calls
end Go.Proofs.YthiocbcokfondaaGreatDoor.Y
