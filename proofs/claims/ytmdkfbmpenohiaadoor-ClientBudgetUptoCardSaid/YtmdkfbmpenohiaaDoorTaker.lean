/- The taker's methods: number and text. -/
import Derived.Test.YtmdkfbmpenohiaaDoorFrLaw
import Derived.Test.YtmdkfbmpenohiaaDoorBlk
import Derived.Test.YtmdkfbmpenohiaaDoorIdent
namespace Go.Proofs.YtmdkfbmpenohiaaDoor
open Go.RowKit

theorem grown_below {a b : World} {r : Option Nat} (h : Below a.heap.size a b) : a.grownBy b r := ⟨h.os, h.tape, h.output, h.size, fun k hk _ => h.block k hk⟩
end Go.Proofs.YtmdkfbmpenohiaaDoor
