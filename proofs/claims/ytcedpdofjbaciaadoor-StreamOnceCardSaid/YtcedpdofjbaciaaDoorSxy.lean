/- More steps of the walker: elements of an array of the call's own, strings joined. -/
import Derived.Test.YtcedpdofjbaciaaDoorSxw
namespace Go.Proofs.YtcedpdofjbaciaaDoor
open Go.RowKit
section
variable {P : Program} {T : Tab} {w0 : World} {S : Sts} {M : List Ent} {L L1 L2 : Cd} {o : Oper}
/-- the address of an element of an array. -/
theorem vo_ixr (hT : TOK P T) (m : Nat) (j : Nat) {t : TypeId} {x y : Operand} {b off : Nat} {ik : IntKind} {i : Int} {n len : Nat} {e : TypeId} {z : List Value} {td : TD} (h1 : o.op = .indexAddr t x y) (h2 : ev S x = some (L1, .pointer (some ⟨b, off, none⟩))) (h3 : Suf L1 L)
    (h4 : ev S y = some (L2, .int ik i)) (h5 : Suf L2 L) (h6 : lk t T = some (.arr n z len e)) (h7 : lk e T = some td) (h8 : Nat.beq td.size m = true) (hi : i = (j : Int)) (hj : Nat.blt j len = true) : VO P w0 S M L o (.pointer (some ⟨b, off + j * m, none⟩)) := by
  intro n a w hS hM hL
  subst hi
  have hj := Nat.le_of_ble_eq_true hj
  have hj' : j < len := hj
  obtain ⟨i1, hu, _⟩ := tdOf_arr (hT.get h6)
  obtain ⟨i2, hi2, hs2, _⟩ := tdOf_info (hT.get h7)
  have hm := Nat.eq_of_beq_eq_true h8
  unfold execOp
  simp only [h1, ev_spec hS h2 (h3.holds hL), ev_spec hS h4 (h5.holds hL)]
  simp [Instr.indexAt, asIntOf, Sem.run_bind, run_underlying hu, run_sizeOf hi2, hs2, hm, hj', Addr.add_mid, Instr.sureAddr]
/-- strings joined. -/
theorem vo_cat {t ty : TypeId} {x y : Operand} {a b : ByteArray} (h1 : o.op = .binOp .add t x y ty) (h2 : ev S x = some (L1, .string a)) (h3 : Suf L1 L) (h4 : ev S y = some (L2, .string b)) (h5 : Suf L2 L)
    (hsz : a.size + b.size ≤ 9223372036854775807) : VO P w0 S M L o (.string (a ++ b)) := by
  intro n ac w hS hM hL
  unfold execOp
  simp only [h1, ev_spec hS h2 (h3.holds hL), ev_spec hS h4 (h5.holds hL)]
  have : ¬ ((a.size + b.size : Nat) : Int) > IntKind.i64.max := by
    have e : IntKind.i64.max = 9223372036854775807 := by decide
    rw [e]; omega
  simp only [eqGuard, binOp, Op.stringOp, Sem.run_bind]
  rw [if_neg this]
  rfl
end
end Go.Proofs.YtcedpdofjbaciaaDoor
