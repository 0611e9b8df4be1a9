/- Heads: their bytes, the reference's Head. -/
import Derived.Test.YtcedpdofjbaciaaDoorHead3
namespace Go.Proofs.YtcedpdofjbaciaaDoor
open Go.RowKit

end Go.Proofs.YtcedpdofjbaciaaDoor
