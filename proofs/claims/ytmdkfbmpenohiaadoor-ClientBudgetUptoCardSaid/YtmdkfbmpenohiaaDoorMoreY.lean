/- The walker, second form: loops of a known number of rounds, array literals. -/
import Derived.Test.YtmdkfbmpenohiaaDoorSyw
import Derived.LoopN
namespace Go.Proofs.YtmdkfbmpenohiaaDoor.Y
open Go.RowKit
section
variable {P : Program} {Q : Exit → Act → World → Prop} {n : Nat} {w0 : World} {S : Sts} {M : List Ent}
structure SRd (P : Program) (c : Code) (Q : Exit → Act → World → Prop) (k n : Nat) (w0 : World) (S : Sts) (M : List Ent) : Prop where
  run : ∀ a w, Sl n a S → Mem w0 w M → Code.rounds P c Q k a w
end
section
variable {P : Program} {T : Tab} {w0 : World} {S : Sts} {M : List Ent} {L : Cd} {o : Oper}
end
end Go.Proofs.YtmdkfbmpenohiaaDoor.Y
