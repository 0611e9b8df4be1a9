/- What the premise on the listed package-level variables gives a walk: the cells of a table of numbers or strings, and of a sentinel error. -/
import Derived.Test.YtmdkfbmpenohiaaDoorChecked
import Derived.LaidMore
import Derived.OpenShut
import Derived.LaidHandle
import Derived.ChangeBears2
import Derived.MakeChecks
namespace Go.Proofs.YtmdkfbmpenohiaaDoor
open Go.RowKit Go.ChangeShapes

end Go.Proofs.YtmdkfbmpenohiaaDoor
