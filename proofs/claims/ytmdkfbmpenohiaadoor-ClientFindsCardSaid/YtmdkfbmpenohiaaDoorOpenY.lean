/- A struct argument, opened cell by cell. -/
import Derived.Test.YtmdkfbmpenohiaaDoorSyw
import Derived.ChangeArms
import Derived.OpenShut
import Derived.SizedLaws
namespace Go.Proofs.YtmdkfbmpenohiaaDoor.Y
open Go.RowKit Go.ChangeShapes Go.WideShapes
inductive CK where
  | int (k : IntKind)
  | bool
  | str
  | slc
def flatF (f : TypeId → Option (List CK)) : List (Nat × TypeId) → Nat → Option (List CK × Nat)
  | [], cur => some ([], cur)
  | (off, ty) :: r, cur => match Nat.beq off cur with
    | true => match f ty with
      | some ks => match flatF f r (cur + ks.length) with
        | some (rest, e) => some (ks ++ rest, e)
        | none => none
      | none => none
    | false => none
def flatK (T : Tab) : Nat → TypeId → Option (List CK)
  | 0, _ => none
  | n + 1, t => match lk t T with
    | some (.int k _) => some [.int k]
    | some (.bool _) => some [.bool]
    | some (.str _) => some [.str]
    | some (.row m _ fs) => match flatF (flatK T n) fs 0 with
      | some (ks, e) => match Nat.beq e m with
        | true => some ks
        | false => none
      | none => none
    | some (.slc _ _) => some [.slc]
    | _ => none
def cellOk : CK → Value → Prop
  | .int k, v => ∃ n, v = .int k n ∧ (Lit.int k n).wf = true
  | .bool, v => ∃ b, v = .bool b
  | .str, v => ∃ s, v = .string s ∧ s.size ≤ 140737488351232
  | .slc, v => ∃ x n c, v = .slice x n c ∧ n ≤ 140737488351232
def okL : List CK → List Value → Prop
  | [], [] => True
  | k :: ks, v :: vs => cellOk k v ∧ okL ks vs
  | _, _ => False
section
variable {H : Type} {enc : TypeId × Value → H} {P : Program} {w : World} {base : Nat} {spare : Nat → Bool} {held : Bool}
theorem weights_all {e : TypeId} : ∀ {ds : List (DataW H)} {d : DataW H}, d ∈ ds → ∀ m ∈ DataW.weights P e d, m ∈ DataW.weightsAll P e ds
  | d0 :: ds, d, h, m, hm => by
    simp only [DataW.weightsAll, List.mem_append]
    rcases List.mem_cons.1 h with rfl | h
    · exact .inl hm
    · exact .inr (weights_all h m hm)
theorem weights_struct {ts : List TypeId} {ds : List (DataW H)} {t : TypeId} {fs : Array Field} (hu : P.underlying t = some (.struct fs)) (hts : ts = fs.toList.map (·.type)) {R : Nat} (h : ∀ x ∈ DataW.weights P t (.agg ds), x ≤ R) {j : Nat} {tj : TypeId} {d : DataW H} (h1 : ts[j]? = some tj) (h2 : ds[j]? = some d) : ∀ x ∈ DataW.weights P tj d, x ≤ R := by
  intro x hx
  subst hts
  refine h x ?_
  simp only [DataW.weights, hu]
  exact DataW.weights_mem_each h1 h2 x hx
/-- the elements of a slice that came in. -/
def RowsIn (w : World) (x : Option Addr) (len m : Nat) (ks : List CK) : Prop := 0 < len → ∃ b off, x = some ⟨b, off, none⟩ ∧ ∀ j, j < len → ∃ cs, okL ks cs ∧ w.rangeAt b (off + j * m) cs
end
end Go.Proofs.YtmdkfbmpenohiaaDoor.Y
