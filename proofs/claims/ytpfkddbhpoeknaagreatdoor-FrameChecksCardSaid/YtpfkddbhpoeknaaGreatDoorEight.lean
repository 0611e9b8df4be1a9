/- eight: the bytes of a number, the least significant first, collected by append. -/
import Derived.Test.YtpfkddbhpoeknaaGreatDoorLow
import Derived.Test.YtpfkddbhpoeknaaGreatDoorOwn
import Derived.OwnWalk
import Derived.Laws.AppendOwn
import Derived.Maps.AppendAt
namespace Go.Proofs.YtpfkddbhpoeknaaGreatDoor
open Go.RowKit

def bytesK (u k : Nat) : List UInt8 := (List.range k).map fun i => UInt8.ofNat (u / 256 ^ i)
theorem bytesK_succ (u k : Nat) : bytesK u (k + 1) = bytesK u k ++ [UInt8.ofNat (u / 256 ^ k)] := by simp [bytesK, List.range_succ]
theorem bytesK_len (u k : Nat) : (bytesK u k).length = k := by simp [bytesK]
theorem bytesK_le8 (u : Nat) : bytesK u 8 = le8 u := by simp [bytesK, le8, le4, List.range_succ, Nat.div_div_eq_div_mul]
end Go.Proofs.YtpfkddbhpoeknaaGreatDoor
