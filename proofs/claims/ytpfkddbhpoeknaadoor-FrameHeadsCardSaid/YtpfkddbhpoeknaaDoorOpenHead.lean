/- A head that comes in: its metadata lie in memory as 'MsIn' says. -/
import Derived.Test.YtpfkddbhpoeknaaDoorRead1
import Derived.ChangeSame
import Derived.DataReads
import Derived.Lib.SmallJoins
namespace Go.Proofs.YtpfkddbhpoeknaaDoor
open Go.RowKit Go.ChangeShapes
theorem list_choice {α : Type} {p : Nat → α → Prop} : ∀ n, (∀ i, i < n → ∃ x, p i x) → ∃ l : List α, l.length = n ∧ ∀ i (h : i < l.length), p i l[i]
  | 0, _ => ⟨[], rfl, fun i h => absurd h (Nat.not_lt_zero _)⟩
  | n + 1, h => by
    obtain ⟨l, hl, hp⟩ := list_choice n (fun i hi => h i (Nat.lt_succ_of_lt hi))
    obtain ⟨x, hx⟩ := h n (Nat.lt_succ_self n)
    refine ⟨l ++ [x], by simp [hl], fun i hi => ?_⟩
    by_cases e : i < l.length
    · rw [List.getElem_append_left e]; exact hp i e
    · have : i = l.length := by simp at hi; omega
      subst this
      simp only [List.getElem_append_right (Nat.le_refl _), Nat.sub_self, List.getElem_cons_zero]
      rw [hl]; exact hx
theorem cell_spot {w : World} {a : Addr} {v : Value} (h : w.cell? a = some v) : a = ⟨a.block, a.off, none⟩ := by
  obtain ⟨g, o, sp⟩ := a
  cases sp with
  | none => rfl
  | some k =>
    exfalso
    unfold World.cell? at h
    simp only at h
    split at h <;> simp_all
theorem metas_open {H : Type} {enc : TypeId × Value → H} {W : World} {sp : Nat → Bool} {held : Bool} {m : Nat} {v : Value} {y : DataW H × List MemPlace}
    (h : DataW.trod enc Tryd.prog W 0 sp held m 29 [v] = some y) : ∃ ms, MsIn W v ms := by
  rcases DataW.trod_slice Tryd.underlying29 h with ⟨hc, _⟩ | ⟨a, len, cap, elems, rest, n, _, hc, hx, hb, hl, hm, hlen, hel, _⟩
  · obtain rfl : v = .slice none 0 0 := by simpa using hc
    exact ⟨[], MsIn.zero W⟩
  · obtain rfl : v = .slice (some a) len cap := by simpa using hc
    have c2 : Tryd.prog.cellsOf 60 = 2 := by kernel_rfl
    have each : ∀ i, i < len → ∃ x : ByteArray × ByteArray, W.cell? (a.add (i * 2)) = some (.string x.1) ∧ W.cell? ((a.add (i * 2)).add 1) = some (.string x.2) := by
      intro i hi
      have h1 := hel i hi
      rw [List.getElem?_eq_getElem (by omega), c2, Option.bind_eq_some_iff] at h1
      obtain ⟨cs, hcs, hy⟩ := h1
      obtain ⟨_, hl2, hcell⟩ := World.cells?_some hcs
      obtain ⟨y0, y1, k, _, _, t0, t1⟩ := trod_struct2 Tryd.underlying60 hy
      have c1 : Tryd.prog.cellsOf 9 = 1 := by kernel_rfl
      simp only [c1] at t0 t1
      obtain ⟨s0, e0, _⟩ := DataW.trod_string Tryd.underlying9 t0
      obtain ⟨s1, e1, _⟩ := DataW.trod_string Tryd.underlying9 t1
      match cs, hl2 with
      | [x0, x1], _ =>
        simp at e0 e1
        subst e0 e1
        have k0 := hcell 0 (by omega)
        have k1 := hcell 1 (by omega)
        exact ⟨(s0, s1), by simpa [Addr.add] using k0, by simpa using k1⟩
    obtain ⟨ms, hms, hp⟩ := list_choice len each
    subst hms
    refine ⟨ms, some a, cap, rfl, fun hne => ?_⟩
    have hpos : 0 < ms.length := List.length_pos_iff.2 hne
    have h0 := (hp 0 hpos).1
    rw [Nat.zero_mul] at h0
    have ha := cell_spot (a := a) (by simpa [Addr.add] using h0)
    obtain ⟨g, o, spt⟩ := a
    simp only [Addr.mk.injEq, true_and] at ha
    subst ha
    have hadd : ∀ j, (⟨g, o, none⟩ : Addr).add j = ⟨g, o + j, none⟩ := fun j => by unfold Addr.add; split <;> simp_all
    have hadd2 : ∀ p j, (⟨g, p, none⟩ : Addr).add j = ⟨g, p + j, none⟩ := fun p j => by unfold Addr.add; split <;> simp_all
    rw [hadd] at h0
    refine ⟨g, o, rfl, cell_blk h0, fun i hi => ?_⟩
    obtain ⟨q0, q1⟩ := hp i hi
    rw [hadd] at q0 q1
    rw [hadd2] at q1
    exact ⟨q0, q1⟩
end Go.Proofs.YtpfkddbhpoeknaaDoor
