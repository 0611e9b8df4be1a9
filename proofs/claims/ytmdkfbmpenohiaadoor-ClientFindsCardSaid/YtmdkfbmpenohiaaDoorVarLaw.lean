/- Variable-length integers, plain: their bytes, and what is read of bytes. No program in sight. -/
import Derived.Lib.Hide
namespace Go.Proofs.YtmdkfbmpenohiaaDoor
open Go

def putF : Nat → Nat → List UInt8
  | 0, u => [UInt8.ofNat u]
  | n + 1, u => if 128 ≤ u then UInt8.ofNat (u % 128 + 128) :: putF n (u / 128) else [UInt8.ofNat u]
/-- the bytes of u. -/
def putL (u : Nat) : List UInt8 := putF 9 u
def takeF : Nat → List UInt8 → Nat → Nat → Nat × Nat × Int
  | 0, _, _, _ => (0, 0, 6)
  | _ + 1, [], _, _ => (0, 0, 4)
  | k + 1, c :: l, n, u =>
    if k = 0 ∧ 1 < c.toNat then (0, 0, 6)
    else if c.toNat < 128 then (u + c.toNat % 128 * 128 ^ n, n + 1, 0)
    else takeF k l (n + 1) (u + c.toNat % 128 * 128 ^ n)
/-- the number that l begins with, its length, and the error. -/
def takeL (l : List UInt8) : Nat × Nat × Int := takeF 10 l 0 0
theorem putF_len : ∀ n u, 1 ≤ (putF n u).length ∧ (putF n u).length ≤ n + 1
  | 0, _ => by simp [putF]
  | n + 1, u => by
    unfold putF; split
    · have := putF_len n (u / 128); simp only [List.length_cons]; omega
    · simp
theorem putL_len (u : Nat) : 1 ≤ (putL u).length ∧ (putL u).length ≤ 10 := putF_len 9 u
theorem pow_step (n : Nat) : 128 ^ (n + 1) = 128 * 128 ^ n := by rw [Nat.pow_succ, Nat.mul_comm]
end Go.Proofs.YtmdkfbmpenohiaaDoor
