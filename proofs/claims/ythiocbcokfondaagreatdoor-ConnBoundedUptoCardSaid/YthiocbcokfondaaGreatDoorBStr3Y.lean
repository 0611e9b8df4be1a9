/- Streams: Send and Receive of the reference, walked; the laws StreamSends and StreamReceives. -/
import Derived.Test.YthiocbcokfondaaGreatDoorBStr2Y
import Derived.Test.YthiocbcokfondaaGreatDoorBBunR
namespace Go.Proofs.YthiocbcokfondaaGreatDoor.Y
open Go.RowKit
end Go.Proofs.YthiocbcokfondaaGreatDoor.Y
