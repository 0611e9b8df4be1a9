/- Drawn regions whose calls look at what other calls of the region made. -/
import Derived.Test.YtmdkfbmpenohiaaDoorRegT
namespace Go.Proofs.YtmdkfbmpenohiaaDoor.Y
open Go.RowKit
inductive RD where
  | con (L : Cd) (c : Value)
  | dep (L : Cd) (c : Value) (js : List (Nat × EX))
  | ex (e : EX)
/-- slots and facts of what is looked at. -/
def DepV (P : Program) (n : Nat) (w0 : World) (M : List Ent) (o : Oper) (L : Cd) (c : Value) : List EX → Sts → List (List Ent) → Prop
  | [], S, F => ∀ a w, Sl n a S → Mem w0 w M → (∀ E ∈ F, MemL w0.heap.size w E) → holdsC L = true → Vals P o a w (fun v w' => v = c ∧ Below w.heap.size w w')
  | e :: r, S, F => ∀ s, e.Ψ s → DepV P n w0 M o L c r ((e.d, [], e.V s) :: S) (e.E s :: F)
def lkD (d : Nat) : List (Nat × List Nat) → List Nat
  | [] => []
  | (k, l) :: r => if k = d then l else lkD d r
/-- the guard is not among these slots. -/
def gOK (l : List Oper) (o : Oper) (ds : List Nat) : Bool := match o.guard with
  | none => true
  | some (j, _) => match nth l j with
    | some og => ds.all fun d => og.dst != some d
    | none => true
def OKd (al : List (Nat × List Nat)) (ds : List Nat) (P : Program) (l0 : List Oper) (n : Nat) (w0 : World) (M : List Ent) (o : Oper) (S : Sts) : RD → Prop
  | .con L c => gd l0 S o.guard = some L ∧ VX P w0 S M L o c ∧ ∃ d, o.dst = some d ∧ d < n ∧ lkD d al = []
  | .dep L c js => gd l0 S o.guard = some L ∧ DepV P n w0 M o L c (js.map (·.2)) S [] ∧ floatB o = false ∧ gOK l0 o (js.map (·.2.d)) = true ∧ ∃ d, o.dst = some d ∧ d < n ∧ lkD d al = js.map (·.2.d)
  | .ex e => (∃ L, gd l0 S o.guard = some L ∧ holdsC L = true) ∧ (∀ a w, Sl n a S → Mem w0 w M → Vals P o a w fun v w' => exR e w.heap.size v w' ∧ Below w.heap.size w w') ∧ o.dst = some e.d ∧ e.d < n ∧ floatB o = false ∧ e.d ∈ ds ∧ lkD e.d al = []
def stepD (o : Oper) (r : RD) (S : Sts) : Sts := match r, o.dst with
  | .con L c, some d => (d, L, c) :: S
  | .dep L c _, some d => (d, L, c) :: S
  | _, _ => S
/-- i: how many went ahead; C: what they made. -/
def SDo (al : List (Nat × List Nat)) (ds : List Nat) (P : Program) (l0 : List Oper) (n : Nat) (w0 : World) (M : List Ent) : Nat → List (Nat × EX) → List Oper → Sts → List RD → Prop
  | _, _, [], _, [] => True
  | i, C, o :: l, S, r :: rs => OKd al ds P l0 n w0 M o S r ∧ (match r with | .dep _ _ js => (∀ p ∈ js, p ∈ C) ∧ (js.map (·.2.d)).Nodup | _ => True) ∧ SDo al ds P l0 n w0 M (i + 1) (match r with | .ex e => (i, e) :: C | _ => C) l (stepD o r S) rs
  | _, _, _, _, _ => False
def dOutS : List Oper → List RD → Sts → Sts
  | o :: l, r :: rs, S => dOutS l rs (stepD o r S)
  | _, _, S => S
def dOutE : Nat → List RD → List (Nat × EX)
  | i, .ex e :: rs => (i, e) :: dOutE (i + 1) rs
  | i, _ :: rs => dOutE (i + 1) rs
  | _, [] => []
structure SRD (al : List (Nat × List Nat)) (ds : List Nat) (P : Program) (l0 : List Oper) (Q : Exit → Act → World → Prop) (l tail : List Oper) (n : Nat) (w0 : World) (M : List Ent) (S : Sts) (i : Nat) (C : List (Nat × EX)) (es : List EX) : Prop where
  run : ∃ rs, SDo al ds P l0 n w0 M i C l S rs ∧ TailX P l0 Q tail n w0 M (dOutS l rs S) (es ++ (dOutE 0 rs).map (·.2))
section
variable {al : List (Nat × List Nat)} {P : Program} {l0 rest tail : List Oper} {Q : Exit → Act → World → Prop} {n : Nat} {w0 : World} {S : Sts} {M : List Ent} {L : Cd} {o : Oper} {d i : Nat} {es : List EX} {ds : List Nat} {C : List (Nat × EX)}
end
/-! the law -/
def dvs (rs : List RD) (j : Nat) : Value := match rs[j]? with
  | some (.con L c) => if holdsC L then c else undef
  | some (.dep L c _) => if holdsC L then c else undef
  | _ => undef
def isD (rs : List RD) (j : Nat) : Bool := match rs[j]? with
  | some (.con _ _) => true
  | some (.dep _ _ _) => true
  | _ => false
def DsS (N : Nat) (rs : List RD) (i : Nat) (v : Value) (w : World) : Prop := match rs[i]? with
  | some (.con L c) => v = if holdsC L then c else undef
  | some (.dep L c _) => v = if holdsC L then c else undef
  | some (.ex e) => exR e N v w
  | none => True
def DsF (rs : List RD) (i N : Nat) (v : Value) : Prop := match rs[i]? with
  | some (.ex _) => ∀ b, vB v b → N ≤ b
  | _ => True
def DsP (rs : List RD) (i : Nat) (v : Value) (j : Nat) (v' : Value) : Prop := match rs[i]?, rs[j]? with
  | some (.ex _), some (.ex _) => ∀ b, vB v b → vB v' b → False
  | _, _ => True
/-- each operation of the first part looks at those that are told, and at no others of these. -/
def freeD (l : List Oper) (k : Nat) (ds : List Nat) (al : List (Nat × List Nat)) : Bool := (l.take k).all fun oi => ds.all fun d => (oi.looksAt l.toArray).contains d == (match oi.dst with | some t => (lkD t al).contains d | none => false)
end Go.Proofs.YtmdkfbmpenohiaaDoor.Y
