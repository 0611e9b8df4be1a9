/- Texts of this claim merged into one: BCn14, BCn15, BCn16. -/
import Derived.Test.YthiocbcokfondaaGreatDoorBBunC12
namespace Go.Proofs.YthiocbcokfondaaGreatDoor.Y
open Go.RowKit
attribute [local irreducible] Calls
end Go.Proofs.YthiocbcokfondaaGreatDoor.Y
namespace Go.Proofs.YthiocbcokfondaaGreatDoor.Y
open Go.RowKit
attribute [local irreducible] Calls
end Go.Proofs.YthiocbcokfondaaGreatDoor.Y
namespace Go.Proofs.YthiocbcokfondaaGreatDoor.Y
open Go.RowKit
attribute [local irreducible] Calls
end Go.Proofs.YthiocbcokfondaaGreatDoor.Y
