/- A connection, opened, of bounded bulk. -/
import Derived.Test.YthiocbcokfondaaGreatDoorBBunC14
import Derived.Test.YthiocbcokfondaaGreatDoorBBunO
namespace Go.Proofs.YthiocbcokfondaaGreatDoor.Y
open Go.RowKit
section
variable {K : Nat} {w : World} {n : Nat} {cs : List Value}
theorem vW (h : oq Tryz.prog tab K w (n + 2) 93 cs) : ∃ m : ByteArray × ByteArray, cs = mC m ∧ m.1.size ≤ K ∧ m.2.size ≤ K := by
 obtain ⟨hl, hf⟩ := lF rfl h
 match cs, hl with
 | [c0, c1], _ =>
  obtain ⟨a, e_a, z_a⟩ := jl rfl (hf 0 0 9 _ J J)
  obtain rfl := (List.cons.inj e_a).1
  obtain ⟨b, e_b, z_b⟩ := jl rfl (hf 1 1 9 _ J J)
  obtain rfl := (List.cons.inj e_b).1
  exact ⟨(a, b), rfl, z_a, z_b⟩
structure Dx (K : Nat) (k : KR) : Prop where
 tx : k.st.text.size ≤ K
 sv : k.sv.size ≤ K
 mt : k.mt.size ≤ K
 ms : k.ms.length ≤ K ∧ ∀ m ∈ k.ms, m.1.size ≤ K ∧ m.2.size ≤ K
 ib : k.ib.length ≤ K ∧ ∀ s ∈ k.ib, s.size ≤ K
 ob : k.ob.length ≤ K ∧ ∀ f ∈ k.ob, f.data.size ≤ K
structure Dy (K : Nat) (w : World) (v : NV) : Prop where
 ok : NOk (fun _ => True) w v
 ks : v.kv.length ≤ K
 sz : ∀ u ∈ v.kv, Dx K u.k
 ou : v.c.ou.length ≤ K ∧ ∀ f ∈ v.c.ou, f.data.size ≤ K
 pg : v.c.pg.length ≤ K
end
end Go.Proofs.YthiocbcokfondaaGreatDoor.Y
