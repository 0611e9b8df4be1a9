/- Windows of credit, plain. No program in sight. -/
import Derived.Test.YtcedpdofjbaciaaDoorChecked
namespace Go.Proofs.YtcedpdofjbaciaaDoor
open Go
structure WinV where
  size : Int
  left : Int
  held : Int
def winOk (w : WinV) : Bool := decide (1 ≤ w.size ∧ w.size ≤ 1048576 ∧ 0 ≤ w.left ∧ 0 ≤ w.held ∧ w.left ≤ 1048576 ∧ w.left + w.held ≤ 1048576)
structure WinR where
  win : WinV
  err : Int
def takeW (w : WinV) (n : Int) : WinR := if winOk w = false ∨ n < 0 then ⟨w, 1⟩ else if w.left < n then ⟨w, 22⟩ else ⟨⟨w.size, w.left - n, w.held⟩, 0⟩
def acceptW (w : WinV) (n : Int) : WinR := if winOk w = false ∨ n < 0 then ⟨w, 1⟩ else if w.left < n then ⟨w, 22⟩ else ⟨⟨w.size, w.left - n, w.held + n⟩, 0⟩
def giveW (w : WinV) (n : Int) : WinR := if winOk w = false ∨ n < 1 then ⟨w, 1⟩ else if 1048576 - w.left - w.held < n then ⟨w, 6⟩ else ⟨⟨w.size, w.left + n, w.held⟩, 0⟩
def newW (n : Int) : WinR := if n < 1 ∨ 1048576 < n then ⟨⟨0, 0, 0⟩, 1⟩ else ⟨⟨n, n, 0⟩, 0⟩
end Go.Proofs.YtcedpdofjbaciaaDoor
