/- Texts of this claim merged into one: BCn12, BCn13. -/
import Derived.Test.YthiocbcokfondaaGreatDoorBBunC10
import Derived.Test.YthiocbcokfondaaGreatDoorBBunI
namespace Go.Proofs.YthiocbcokfondaaGreatDoor.Y
open Go.RowKit
attribute [local irreducible] Calls
end Go.Proofs.YthiocbcokfondaaGreatDoor.Y
namespace Go.Proofs.YthiocbcokfondaaGreatDoor.Y
open Go.RowKit
attribute [local irreducible] Calls
end Go.Proofs.YthiocbcokfondaaGreatDoor.Y
