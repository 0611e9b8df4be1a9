/- Slices of frames and of bools that came in. -/
import Derived.Test.YtcedpdofjbaciaaDoorMir46
import Derived.Test.YtcedpdofjbaciaaDoorSxOpen
namespace Go.Proofs.YtcedpdofjbaciaaDoor
open Go.RowKit
theorem list_of {α : Type} {R : Nat → α → Prop} : ∀ (n : Nat), (∀ j, j < n → ∃ f, R j f) → ∃ l : List α, l.length = n ∧ ∀ j f, l[j]? = some f → R j f
  | 0, _ => ⟨[], rfl, fun j f h => by simp at h⟩
  | n + 1, h => by
    obtain ⟨l, hl, hr⟩ := list_of n (fun j hj => h j (by omega))
    obtain ⟨f, hf⟩ := h n (by omega)
    refine ⟨l ++ [f], by simp [hl], fun j g hg => ?_⟩
    rw [List.getElem?_append] at hg
    split at hg
    · exact hr j g hg
    · rename_i hge
      have hj : j = n := by
        have := (List.getElem?_eq_some_iff.1 hg).1
        simp at this; omega
      subst hj
      rw [hl, Nat.sub_self] at hg
      obtain rfl := (by simpa using hg)
      exact hf
theorem frs_of_rows {w : World} {x : Option Addr} {n : Nat} (h : RowsIn w x n 4 [.int .i64, .int .i64, .int .i64, .str]) : ∃ fs : List FrV, fs.length = n ∧ FrsIn w x fs := by
  by_cases hn : 0 < n
  · obtain ⟨b, off, rfl, hc⟩ := h hn
    obtain ⟨l, hl, hr⟩ := list_of (R := fun j (f : FrV) => w.rangeAt b (off + j * 4) (fcl f)) n (fun j hj => by
      obtain ⟨cs, hok, hrg⟩ := hc j hj
      obtain ⟨_, _, rfl, ⟨a, rfl, _⟩, h1⟩ := okL_cons hok
      obtain ⟨_, _, rfl, ⟨b, rfl, _⟩, h2⟩ := okL_cons h1
      obtain ⟨_, _, rfl, ⟨c, rfl, _⟩, h3⟩ := okL_cons h2
      obtain ⟨_, _, rfl, ⟨d, rfl, _⟩, h4⟩ := okL_cons h3
      obtain rfl := okL_nil h4
      exact ⟨⟨a, b, c, d⟩, hrg⟩)
    exact ⟨l, hl, fun _ => ⟨b, off, rfl, hr⟩⟩
  · exact ⟨[], by simp; omega, fun h => absurd h (Nat.lt_irrefl 0)⟩
theorem bools_of_rows {w : World} {x : Option Addr} {n : Nat} (h : RowsIn w x n 1 [.bool]) : ∃ bs : List Bool, bs.length = n ∧ BoolsIn w x bs := by
  by_cases hn : 0 < n
  · obtain ⟨b, off, rfl, hc⟩ := h hn
    obtain ⟨l, hl, hr⟩ := list_of (R := fun j (c : Bool) => w.cell? ⟨b, off + j * 1, none⟩ = some (.bool c)) n (fun j hj => by
      obtain ⟨cs, hok, hrg⟩ := hc j hj
      obtain ⟨_, _, rfl, ⟨a, rfl⟩, h1⟩ := okL_cons hok
      obtain rfl := okL_nil h1
      exact ⟨a, hrg 0 _ rfl⟩)
    exact ⟨l, hl, fun _ => ⟨b, off, rfl, hr⟩⟩
  · exact ⟨[], by simp; omega, fun h => absurd h (Nat.lt_irrefl 0)⟩
end Go.Proofs.YtcedpdofjbaciaaDoor
