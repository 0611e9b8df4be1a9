/- Token arguments, opened. -/
import Derived.Test.YtiodkdafoocofaaGreatDoorTok3
import Derived.Test.YtiodkdafoocofaaGreatDoorOpenY
import Derived.Test.YtiodkdafoocofaaGreatDoorGlobSc
namespace Go.Proofs.YtiodkdafoocofaaGreatDoor.Y
open Go.RowKit
theorem rows_tk {w : World} {x : Option Addr} {len : Nat} (h : RowsIn w x len 4 [.int .i64, .str, .int .i64, .int .i64]) : ∃ l : List TV, l.length = len ∧ TkIn w x l ∧ ∀ t ∈ l, -9223372036854775808 ≤ t.n ∧ t.n ≤ 9223372036854775807 := by
  by_cases h0 : 0 < len
  · obtain ⟨b, off, hx, hr⟩ := h h0
    have key : ∀ k, k ≤ len → ∃ l : List TV, l.length = k ∧ (∀ j t, l[j]? = some t → ∃ z : Int, w.rangeAt b (off + j * 4) (tvz t z)) ∧ ∀ t ∈ l, -9223372036854775808 ≤ t.n ∧ t.n ≤ 9223372036854775807 := by
      intro k
      induction k with
      | zero => intro _; exact ⟨[], rfl, fun j t ht => by simp at ht, fun t ht => by cases ht⟩
      | succ k ih =>
        intro hk
        obtain ⟨l, h1, h2, h3⟩ := ih (by omega)
        obtain ⟨cs, h4, h5⟩ := hr k (by omega)
        obtain ⟨_, _, rfl, ⟨c0, rfl, _⟩, h41⟩ := okL_cons h4
        obtain ⟨_, _, rfl, ⟨c1, rfl, _⟩, h42⟩ := okL_cons h41
        obtain ⟨_, _, rfl, ⟨c2, rfl, k2⟩, h43⟩ := okL_cons h42
        obtain ⟨_, _, rfl, ⟨c3, rfl, _⟩, h44⟩ := okL_cons h43
        obtain rfl := okL_nil h44
        have hb : -9223372036854775808 ≤ c2 ∧ c2 ≤ 9223372036854775807 := by simpa [Lit.wf, IntKind.min, IntKind.max, IntKind.signed, IntKind.bits] using k2
        refine ⟨l ++ [⟨c0, c1, c2, 0⟩], by simp [h1], fun j t ht => ?_, fun t ht => ?_⟩
        · by_cases hj : j < l.length
          · rw [List.getElem?_append_left hj] at ht
            exact h2 j t ht
          · have hjl := (List.getElem?_eq_some_iff.1 ht).1
            rw [List.length_append, List.length_singleton] at hjl
            have : j = k := by omega
            subst this
            rw [List.getElem?_append_right (by omega), h1, Nat.sub_self] at ht
            obtain rfl : (⟨c0, c1, c2, 0⟩ : TV) = t := by simpa using ht
            exact ⟨c3, h5⟩
        · rcases List.mem_append.1 ht with ht | ht
          · exact h3 t ht
          · obtain rfl := List.mem_singleton.1 ht
            exact hb
    obtain ⟨l, h1, h2, h3⟩ := key len (Nat.le_refl _)
    exact ⟨l, h1, fun _ => ⟨b, off, hx, h2⟩, h3⟩
  · exact ⟨[], by simp; omega, fun h => absurd h (Nat.lt_irrefl _), fun t ht => by cases ht⟩
end Go.Proofs.YtiodkdafoocofaaGreatDoor.Y
