import Derived.Test.YthiocbcokfondaaGreatDoorJBunT
import Derived.Test.YthiocbcokfondaaGreatDoorJBunY
namespace Go.Proofs.YthiocbcokfondaaGreatDoor.Y
open Go.RowKit
theorem yv{a b:Prop}(h:b)(r:b→a:=by exact mZ J J vv J J):a:=r h
end Go.Proofs.YthiocbcokfondaaGreatDoor.Y
