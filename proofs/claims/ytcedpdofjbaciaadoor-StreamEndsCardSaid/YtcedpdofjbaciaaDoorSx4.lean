/- A walker with a small state. Part 5: regions that draw their order, whose operations read and call. -/
import Derived.Test.YtcedpdofjbaciaaDoorSx3
namespace Go.Proofs.YtcedpdofjbaciaaDoor
open Go.RowKit
def kfS : Op → RK
  | .load _ _ => ⟨true, true⟩
  | .convert _ _ _ => ⟨true, true⟩
  | .nilCheck _ => ⟨true, true⟩
  | .makeFunc _ _ _ => ⟨true, true⟩
  | .call ⟨.builtin .max, _, _⟩ => ⟨true, true⟩
  | .call ⟨.builtin .min, _, _⟩ => ⟨true, true⟩
  | o => kf0 o
structure ST (P : Program) (l0 : List Oper) (Q : Exit → Act → World → Prop) (l : List Oper) (n : Nat) (w0 : World) (S : Sts) (M : List Ent) : Prop where
  run : ∀ a w, Sl n a S → Mem w0 w M → wpT P l0.toArray (fun w => Mem w0 w M) kfS (Q .normal) l a w
section
variable {P : Program} {l0 rest : List Oper} {Q : Exit → Act → World → Prop} {n : Nat} {w0 : World} {S : Sts} {M : List Ent} {L : Cd} {o : Oper} {d : Nat}
theorem sc_regionT {id : Nat} {l : List Oper} (hm : P.follows .mixedOrders = true) (hok : (okT kfS l.toArray && okM l.toArray) = true) (h : ST P l Q l n w0 S M) : SC P (.region id l.toArray true) Q n w0 S M :=
  ⟨fun a w hS hM => wp_region_T (fun w => Mem w0 w M) kfS hm hok hM.drew (h.run a w.drew hS hM.drew)⟩
theorem st_nil (h : SQ Q .normal n w0 S M) : ST P l0 Q [] n w0 S M := ⟨fun a w hS hM => h.run a w hS hM⟩
theorem st_v {v : Value} (hg : gd l0 S o.guard = some L) (hv : VO P w0 S M L o v) (hk : (kfS o.op).pure = true) (hd : o.dst = some d) (hn : Nat.blt d n = true) (h : ST P l0 Q rest n w0 ((d, L, v) :: S) M) : ST P l0 Q (o :: rest) n w0 S M := by
  have hdn : d < n := Nat.le_of_ble_eq_true hn
  refine ⟨fun a w hS hM => ?_⟩
  unfold wpT stepT
  rw [gd_spec hS hg]
  cases hL : holdsC L with
  | true =>
    simp only [if_true, hk]
    refine ⟨v, fun w' hw' => hv n a w' hS hw' hL, h.run _ _ ?_ hM⟩
    rw [hd]; exact hS.put hdn (by simp [hL])
  | false =>
    simp only [Bool.false_eq_true, if_false]
    refine h.run _ _ ?_ hM
    rw [hd]; exact hS.put hdn (by simp [hL])
theorem st_call {f : FuncId} {args : List Value} {v : Value} (hg : gd l0 S o.guard = some L) (ho : CallOp P S L o f args) (hk : (kfS o.op).pure = false) (hk2 : (kfS o.op).read = false)
    (hc : ∀ w, Mem w0 w M → Calls P f ⟨args⟩ w fun e w' => e = .returned v ∧ Below w.heap.size w w')
    (hd : o.dst = some d) (hn : Nat.blt d n = true) (h : ST P l0 Q rest n w0 ((d, L, v) :: S) M) : ST P l0 Q (o :: rest) n w0 S M := by
  have hdn : d < n := Nat.le_of_ble_eq_true hn
  refine ⟨fun a w hS hM => ?_⟩
  unfold wpT stepT
  rw [gd_spec hS hg]
  cases hL : holdsC L with
  | true =>
    simp only [if_true, hk, hk2, Bool.false_eq_true, if_false]
    unfold Oper.wp
    rw [ho.ok n a w hS hL, Oper.upon_enter]
    refine (hc w hM).mono ?_
    rintro e w' ⟨rfl, hb⟩
    refine ⟨hM.keep hb, h.run _ _ ?_ (hM.keep hb)⟩
    rw [hd]; exact hS.put hdn (by simp [hL])
  | false =>
    simp only [Bool.false_eq_true, if_false]
    refine h.run _ _ ?_ hM
    rw [hd]; exact hS.put hdn (by simp [hL])
theorem of_same {f : FuncId} {args : Array Value} {w : World} {v : Value} (h : Calls P f args w fun e w' => e = .returned v ∧ w = w') : Calls P f args w fun e w' => e = .returned v ∧ Below w.heap.size w w' :=
  h.mono fun _ _ ⟨h1, h2⟩ => ⟨h1, h2 ▸ Below.refl _ _⟩
/-- a known test. -/
theorem sc_if {c : Operand} {x y : Code} (b : Bool) {b' : Bool} (h1 : ev S c = some ([], .bool b')) (hb : b' = b) (h : SC P (match b with | true => x | false => y) Q n w0 S M) : SC P (.cond c x y) Q n w0 S M := by
  cases b with
  | true => exact sc_true h1 hb h
  | false => exact sc_false h1 hb h
end
end Go.Proofs.YtcedpdofjbaciaaDoor
