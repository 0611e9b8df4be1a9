/- Heads: the first error of a head, the reference's. -/
import Derived.Test.YtcedpdofjbaciaaDoorHead1
namespace Go.Proofs.YtcedpdofjbaciaaDoor
open Go.RowKit

end Go.Proofs.YtcedpdofjbaciaaDoor
