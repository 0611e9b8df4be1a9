/- Bytes that the call itself has collected by append. -/
import Derived.Test.YtngieldaebnffaaDoorChecked
import Derived.WalkKit
import Derived.WalkSpells
import Derived.WalkLawsBesides
import Derived.Lib.Hide
import Derived.Below
import Derived.OwnWalk
import Derived.Laws.AppendOwn
import Derived.Maps.AppendAt
import Derived.Laws.BitsAllLaws
namespace Go.Proofs.YtngieldaebnffaaDoor
open Go.RowKit

def cellsB (l : List UInt8) : List Value := l.map fun b => .int .u8 (b.toNat : Int)
theorem cellsB_snoc (l : List UInt8) (b : UInt8) : cellsB (l ++ [b]) = cellsB l ++ [.int .u8 (b.toNat : Int)] := by simp [cellsB]
theorem infoU8 : (Tryd.prog.info? 5).map (fun i => (i.zero, i.size, i.bytes)) = some (some (.int .u8 0), 1, 1) := by kernel_rfl
theorem byte_cell (a : Nat) (x : Int) (h : x = (a : Int)) : (x % 256) = ((UInt8.ofNat a).toNat : Int) := by
  subst h
  rw [UInt8.toNat_ofNat']
  omega
end Go.Proofs.YtngieldaebnffaaDoor
