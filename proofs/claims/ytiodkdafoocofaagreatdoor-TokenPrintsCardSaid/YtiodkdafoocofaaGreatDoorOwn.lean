/- Bytes that the call itself has collected by append. -/
import Derived.Test.YtiodkdafoocofaaGreatDoorChecked
import Derived.WalkKit
import Derived.WalkSpells
import Derived.WalkLawsBesides
import Derived.Lib.Hide
import Derived.Below
import Derived.OwnWalk
import Derived.Laws.AppendOwn
import Derived.Maps.AppendAt
import Derived.Laws.BitsAllLaws
namespace Go.Proofs.YtiodkdafoocofaaGreatDoor
open Go.RowKit

def cellsB (l : List UInt8) : List Value := l.map fun b => .int .u8 (b.toNat : Int)
theorem cellsB_snoc (l : List UInt8) (b : UInt8) : cellsB (l ++ [b]) = cellsB l ++ [.int .u8 (b.toNat : Int)] := by simp [cellsB]
theorem infoU8 : (Tryz.prog.info? 5).map (fun i => (i.zero, i.size, i.bytes)) = some (some (.int .u8 0), 1, 1) := by kernel_rfl
/-- 'string(b)' of bytes that the call itself has collected. -/
theorem conv_own (W : World) (base : Nat) (v : Value) (l : List UInt8) (h0 : l ≠ []) (h : W.ownsRow base 5 1 v l.length (cellsB l)) :
    (convert 40 9 v).run Tryz.prog W = .ok (.string ⟨l.toArray⟩) W := by
  obtain ⟨h1, h2 | ⟨g, cap, cur, rfl, hb, hg, hn, hm, hsz, htake⟩⟩ := h
  · exact absurd (List.length_eq_zero_iff.1 h2.2) h0
  · refine run_convert_bytes_back _ _ _ _ _ _ l Tryz.underlying40 Tryz.underlying5 Tryz.underlying9 fun j hj => ?_
    have := World.ownsRow.cells (w := W) (base := base) (e := 5) (size := 1) (v := .slice (some ⟨g, 0, none⟩) l.length cap) (n := l.length) (xs := cellsB l) ⟨h1, .inr ⟨g, cap, cur, rfl, hb, hg, hn, hm, hsz, htake⟩⟩ (g := g) rfl j (.int .u8 (l[j].toNat : Int)) (by simp [cellsB, List.getElem?_eq_getElem hj])
    exact this
theorem byte_cell (a : Nat) (x : Int) (h : x = (a : Int)) : (x % 256) = ((UInt8.ofNat a).toNat : Int) := by
  subst h
  rw [UInt8.toNat_ofNat']
  omega
end Go.Proofs.YtiodkdafoocofaaGreatDoor
