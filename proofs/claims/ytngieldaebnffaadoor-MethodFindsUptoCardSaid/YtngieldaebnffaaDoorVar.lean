/- Variable-length integers: the walks of Put, Len, Take and of the reference's Put, Take and Short. -/
import Derived.Test.YtngieldaebnffaaDoorVarLaw
import Derived.Test.YtngieldaebnffaaDoorOwn
namespace Go.Proofs.YtngieldaebnffaaDoor
open Go.RowKit

theorem v_ret_str {a b : ByteArray} (h : a = b) : Ending.returned (.string a) = .returned (.string b) := by rw [h]
theorem v_ret_int {k : IntKind} {a b : Int} (h : a = b) : Ending.returned (.int k a) = .returned (.int k b) := by rw [h]
set_option maxRecDepth 20000 in
theorem or128 : ∀ x : Fin 256, x.1 ||| 128 = x.1 % 128 + 128 := by decide
theorem or_byte (U : Nat) : bits .or .u8 ((U : Int) % 256) 128 = ((U % 128 + 128 : Nat) : Int) := by
  have h := u8_or_nat (U % 256) 128 (by omega) (by omega)
  rw [or128 ⟨U % 256, by omega⟩] at h
  rw [show ((128 : Nat) : Int) = 128 from rfl, show ((U % 256 : Nat) : Int) = (U : Int) % 256 by omega] at h
  rw [h]; show ((U % 256 % 128 + 128 : Nat) : Int) = _; omega
end Go.Proofs.YtngieldaebnffaaDoor
