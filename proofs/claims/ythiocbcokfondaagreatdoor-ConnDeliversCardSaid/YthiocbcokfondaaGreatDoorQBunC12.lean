/- Texts of this claim merged into one: QCn12, QCn13. -/
import Derived.Test.YthiocbcokfondaaGreatDoorQBunC10
import Derived.Test.YthiocbcokfondaaGreatDoorQBunI
namespace Go.Proofs.YthiocbcokfondaaGreatDoor.Y
open Go.RowKit
attribute [local irreducible] Calls
end Go.Proofs.YthiocbcokfondaaGreatDoor.Y
namespace Go.Proofs.YthiocbcokfondaaGreatDoor.Y
open Go.RowKit
attribute [local irreducible] Calls
end Go.Proofs.YthiocbcokfondaaGreatDoor.Y
