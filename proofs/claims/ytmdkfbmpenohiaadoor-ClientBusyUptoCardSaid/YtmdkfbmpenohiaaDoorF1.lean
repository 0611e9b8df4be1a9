/- The reference's index, Find, Active; what compares. -/
import Derived.Test.YtmdkfbmpenohiaaDoorBunCA
import Derived.Test.YtmdkfbmpenohiaaDoorRegD
namespace Go.Proofs.YtmdkfbmpenohiaaDoor.Y
open Go.RowKit
def ixI : Option Nat → Int
  | some k => k
  | none => -1
end Go.Proofs.YtmdkfbmpenohiaaDoor.Y
