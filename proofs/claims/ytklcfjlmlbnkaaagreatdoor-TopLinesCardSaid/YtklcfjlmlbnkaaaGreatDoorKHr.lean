/- Heads: the head of bytes, the reference's HeadRead. -/
import Derived.Test.YtklcfjlmlbnkaaaGreatDoorKBunT
import Derived.Test.YtklcfjlmlbnkaaaGreatDoorKBunR
import Derived.Test.YtklcfjlmlbnkaaaGreatDoorKBunE
namespace Go.Proofs.YtklcfjlmlbnkaaaGreatDoor
open Go.RowKit
theorem DN {s0 : ByteArray} {h : jU} {l : Nat} {m : GM} {e : Int} (he : m.err = e) (h0 : e ≠ 0) : qG s0 h l m = ⟨mY, e⟩ := by unfold qG; rw [he, if_pos h0]
end Go.Proofs.YtklcfjlmlbnkaaaGreatDoor
namespace Go.Proofs.YtklcfjlmlbnkaaaGreatDoor.Y
open Go.RowKit
structure JQ where
  j : Nat
  s : ByteArray
  acc : List (ByteArray × ByteArray)
  a : Option Addr
  cap : Nat
attribute [local irreducible] Calls
end Go.Proofs.YtklcfjlmlbnkaaaGreatDoor.Y
namespace Go.Proofs.YtklcfjlmlbnkaaaGreatDoor
end Go.Proofs.YtklcfjlmlbnkaaaGreatDoor
