/- Heads: the first error of a head, the reference's. -/
import Derived.Test.YtmdkfbmpenohiaaDoorHead1
namespace Go.Proofs.YtmdkfbmpenohiaaDoor
open Go.RowKit

end Go.Proofs.YtmdkfbmpenohiaaDoor
