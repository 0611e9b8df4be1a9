/- Arguments opened, to any depth: what the reading of a value says of its cells, along the table of types. -/
import Derived.Test.YtmdkfbmpenohiaaDoorOpenY
namespace Go.Proofs.YtmdkfbmpenohiaaDoor.Y
open Go.RowKit Go.ChangeShapes Go.WideShapes
/-- cells of type t: n levels deep; B: are the sizes told. -/
def okT (T : Tab) (B : Bool) (w : World) : Nat → TypeId → List Value → Prop
  | 0, _, _ => True
  | n + 1, t, cs => match lk t T with
    | some (.int k _) => ∃ m, cs = [.int k m] ∧ (Lit.int k m).wf = true
    | some (.bool _) => ∃ b, cs = [.bool b]
    | some (.str _) => ∃ s : ByteArray, cs = [.string s] ∧ (B = true → s.size ≤ 140737488351232)
    | some (.row m _ fs) => cs.length = m ∧ ∀ i off ty td, nth fs i = some (off, ty) → lk ty T = some td → okT T B w n ty ((cs.drop off).take td.size)
    | some (.slc e _) => ∃ x len cap, cs = [.slice x len cap] ∧ len ≤ maxLen ∧ (B = true → len ≤ 140737488351232) ∧ ∀ td, lk e T = some td → 0 < td.size → 0 < len → ∃ b off, x = some ⟨b, off, none⟩ ∧ ∀ j, j < len → ∃ cs', w.rangeAt b (off + j * td.size) cs' ∧ cs'.length = td.size ∧ okT T B w n e cs'
    | _ => True
section
variable {H : Type} {enc : TypeId × Value → H} {P : Program} {w : World} {base : Nat} {spare : Nat → Bool} {held : Bool}
end
section
variable {T : Tab} {B : Bool} {w : World} {n : Nat} {t : TypeId} {cs : List Value}
end
theorem pick_rows {α : Type} : ∀ (len : Nat) {R : Nat → α → Prop}, (∀ j, j < len → ∃ v, R j v) → ∃ l : List α, l.length = len ∧ ∀ j v, l[j]? = some v → R j v
  | 0, _, _ => ⟨[], rfl, fun _ _ h => by simp at h⟩
  | len + 1, R, h => by
    obtain ⟨l, h1, h2⟩ := pick_rows len (R := R) (fun j hj => h j (by omega))
    obtain ⟨v, hv⟩ := h len (by omega)
    refine ⟨l ++ [v], by simp [h1], fun j u hu => ?_⟩
    by_cases hj : j < l.length
    · rw [List.getElem?_append_left hj] at hu
      exact h2 j u hu
    · have hjl := (List.getElem?_eq_some_iff.1 hu).1
      rw [List.length_append, List.length_singleton] at hjl
      have hje : j = len := by omega
      subst hje
      rw [List.getElem?_append_right (by omega), h1, Nat.sub_self] at hu
      obtain rfl : v = u := by simpa using hu
      exact hv
end Go.Proofs.YtmdkfbmpenohiaaDoor.Y
