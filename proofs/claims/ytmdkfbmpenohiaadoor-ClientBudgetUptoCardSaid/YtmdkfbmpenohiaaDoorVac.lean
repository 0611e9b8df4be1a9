/- Values by an equation; operations that are not wanted. -/
import Derived.Test.YtmdkfbmpenohiaaDoorMoreY
namespace Go.Proofs.YtmdkfbmpenohiaaDoor.Y
open Go.RowKit
theorem vo_is {P : Program} {w0 : World} {S : Sts} {M : List Ent} {L : Cd} {o : Oper} {v v' : Value} (h : VO P w0 S M L o v') (e : v' = v) : VO P w0 S M L o v := e ▸ h
end Go.Proofs.YtmdkfbmpenohiaaDoor.Y
