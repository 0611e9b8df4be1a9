/- The steps of ConnDelivers as an argument. -/
import Derived.Test.YthiocbcokfondaaGreatDoorQBunO
import Derived.Test.YthiocbcokfondaaGreatDoorQBunE
import Derived.Test.YthiocbcokfondaaGreatDoorQDl2
namespace Go.Proofs.YthiocbcokfondaaGreatDoor.Y
open Go.RowKit
theorem wK {α : Type} {R : Nat → α → Prop} : ∀ (n : Nat), (∀ j, j < n → ∃ a, R j a) → ∃ l : List α, l.length = n ∧ ∀ (j : Nat) (v : α), l[j]? = some v → R j v
  | 0, _ => ⟨[], rfl, fun j v h => by cases h⟩
  | n + 1, h => by
    obtain ⟨l, hl, hr⟩ := wK n fun j hj => h j (by omega)
    obtain ⟨a, ha⟩ := h n (by omega)
    refine ⟨l ++ [a], by rw [List.length_append, hl]; rfl, fun j v hj => ?_⟩
    rw [List.getElem?_append] at hj
    split at hj
    · exact hr j v hj
    · rename_i hn
      have hj2 : j - l.length = 0 := by
        refine Decidable.byContradiction fun h0 => ?_
        obtain ⟨k, hk⟩ : ∃ k, j - l.length = k + 1 := ⟨j - l.length - 1, by omega⟩
        rw [hk] at hj
        cases hj
      rw [hj2] at hj
      obtain rfl : a = v := by simpa using hj
      have : j = n := by omega
      subst this
      exact ha
theorem AD {w : World} {x : Option Addr} {n : Nat} (h : yy w x n 2 [.int .i64, .str]) : ∃ l : List (Int × ByteArray), l.length = n ∧ Rws (fun _ => True) w 2 Dt x l := by
  by_cases hn : 0 < n
  · obtain ⟨b, off, rfl, hc⟩ := h hn
    obtain ⟨l, hl, hr⟩ := wK (R := fun j (f : Int × ByteArray) => w.rangeAt b (off + j * 2) (Dt f)) n (fun j hj => by
      obtain ⟨cs, hok, hrg⟩ := hc j hj
      obtain ⟨_, _, rfl, ⟨a, rfl, _⟩, h1⟩ := ot hok
      obtain ⟨_, _, rfl, ⟨d, rfl, _⟩, h2⟩ := ot h1
      obtain rfl := AQ h2
      exact ⟨(a, d), hrg⟩)
    exact ⟨l, hl, DN BT (by decide) fun _ => ⟨b, off, rfl, hr⟩⟩
  · refine ⟨[], by simp; omega, dr⟩
end Go.Proofs.YthiocbcokfondaaGreatDoor.Y
