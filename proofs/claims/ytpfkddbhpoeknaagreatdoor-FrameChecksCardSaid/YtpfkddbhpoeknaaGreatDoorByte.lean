/- A string of one byte, made of a slice of one. -/
import Derived.Test.YtpfkddbhpoeknaaGreatDoorOwn
namespace Go.Proofs.YtpfkddbhpoeknaaGreatDoor
open Go.RowKit

theorem conv_byte (W : World) (x : Int) (c : UInt8) (hx : x = (c.toNat : Int)) : (convert 49 9 (.slice (some ⟨W.heap.size, 0, none⟩) 1 1)).run Tryz.prog (W.alloc (.cells #[.int .u8 x] 5)) = .ok (.string ⟨#[c]⟩) (W.alloc (.cells #[.int .u8 x] 5)) := by
  subst hx
  refine run_convert_bytes_back _ _ _ _ _ _ [c] Tryz.underlying49 Tryz.underlying5 Tryz.underlying9 fun j hj => ?_
  obtain rfl : j = 0 := (by simpa using hj)
  have : (⟨W.heap.size, 0, none⟩ : Addr).add 0 = ⟨W.heap.size, 0, none⟩ := by unfold Addr.add; simp
  rw [this, World.cell?_alloc_mark]
  rfl
end Go.Proofs.YtpfkddbhpoeknaaGreatDoor
