/- Plain laws of sealed bytes: what is sealed is opened; what differs from it within four consecutive bytes is not. -/
import Derived.Test.YtpfkddbhpoeknaaGreatDoorDiff
import Derived.Test.YtpfkddbhpoeknaaGreatDoorSeal
namespace Go.Proofs.YtpfkddbhpoeknaaGreatDoor
open Go.RowKit

theorem sealB_data (s : ByteArray) : (sealB s).data.toList = s.data.toList ++ le4 (crcV s.data.toList) := by unfold sealB; simp [ByteArray.data_append]
theorem cat_ext (a b : ByteArray) : (a ++ b).extract 0 a.size = a := by
  refine ByteArray.ext (Array.ext' ?_)
  rw [ByteArray.data_extract, ByteArray.data_append]
  have : a.size = a.data.toList.length := by rw [Array.length_toList]; rfl
  simp
  rw [this, List.take_length]
theorem openB_seal (s : ByteArray) : openB (sealB s) = (s, 0) := by
  have h1 := sealB_size s
  have h2 : (sealB s).extract 0 ((sealB s).size - 4) = s := by rw [h1, show s.size + 4 - 4 = s.size by omega]; exact cat_ext _ _
  unfold openB
  rw [if_neg (by omega), h2, if_pos (by simp)]
theorem openB_ne (T : ByteArray) (h4 : 4 ≤ T.size) (h : crcR T.data.toList ≠ resid) : openB T = (⟨#[]⟩, 25) := by
  unfold openB
  rw [if_neg (by omega), if_neg]
  intro hq
  refine h ?_
  have e : sealB (T.extract 0 (T.size - 4)) = T := by
    have : (sealB (T.extract 0 (T.size - 4))).toList = T.toList := by simpa using hq
    rw [ByteArray.toList_eq, ByteArray.toList_eq] at this
    exact ByteArray.ext (Array.ext' this)
  rw [← e, sealB_data]
  exact resid_of _
theorem agree_split (L M : List UInt8) (q : Nat) (hl : M.length = L.length) (hq : q + 4 ≤ L.length) (ho : ∀ j, (j < q ∨ q + 4 ≤ j) → M[j]? = L[j]?) :
    ∃ p a b c d a' b' c' d' m, L = p ++ ([a, b, c, d] ++ m) ∧ M = p ++ ([a', b', c', d'] ++ m) := by
  have hs : ∀ X : List UInt8, q + 4 ≤ X.length → ∃ a b c d, X = X.take q ++ ([a, b, c, d] ++ X.drop (q + 4)) := by
    intro X hX
    refine ⟨X[q], X[q + 1], X[q + 2], X[q + 3], ?_⟩
    conv => lhs; rw [← List.take_append_drop q X]
    congr 1
    rw [List.drop_eq_getElem_cons (by omega), List.drop_eq_getElem_cons (by omega), List.drop_eq_getElem_cons (by omega), List.drop_eq_getElem_cons (by omega)]
    rfl
  obtain ⟨a, b, c, d, e1⟩ := hs L hq
  obtain ⟨a', b', c', d', e2⟩ := hs M (by omega)
  have e3 : M.take q = L.take q := by
    refine List.ext_getElem? fun j => ?_
    rw [List.getElem?_take, List.getElem?_take]
    split
    · rename_i h; exact ho j (.inl h)
    · rfl
  have e4 : M.drop (q + 4) = L.drop (q + 4) := by
    refine List.ext_getElem? fun j => ?_
    rw [List.getElem?_drop, List.getElem?_drop]
    exact ho _ (.inr (by omega))
  rw [e3, e4] at e2
  exact ⟨L.take q, a, b, c, d, a', b', c', d', L.drop (q + 4), e1, e2⟩
theorem near_ne (L M : List UInt8) (p : Nat) (hl : M.length = L.length) (h4 : 4 ≤ L.length) (ho : ∀ j, (j < p ∨ p + 4 ≤ j) → M[j]? = L[j]?) (hne : M ≠ L) : crcR M ≠ crcR L := by
  have hx : ∃ q, q + 4 ≤ L.length ∧ ∀ j, (j < q ∨ q + 4 ≤ j) → M[j]? = L[j]? := by
    by_cases hp : p + 4 ≤ L.length
    · exact ⟨p, hp, ho⟩
    · refine ⟨L.length - 4, by omega, fun j hj => ?_⟩
      rcases hj with h | h
      · exact ho j (.inl (by omega))
      · rw [List.getElem?_eq_none (by omega), List.getElem?_eq_none (by omega)]
  obtain ⟨q, hq, ho⟩ := hx
  obtain ⟨u, a, b, c, d, a', b', c', d', m, e1, e2⟩ := agree_split L M q hl hq ho
  rw [e1, e2]
  refine window_ne u m _ _ _ _ _ _ _ _ ?_
  rintro ⟨rfl, rfl, rfl, rfl⟩
  exact hne (e2.trans e1.symm)
/-- M is L, changed at some of the first k places from p on; c: it was changed. -/
structure Patch (L : List UInt8) (p : Int) (k : Nat) (M : List UInt8) (c : Bool) : Prop where
  len : M.length = L.length
  out : ∀ j : Nat, ((j : Int) < p ∨ p + k ≤ j) → M[j]? = L[j]?
  yes : c = true → ∃ j : Nat, M[j]? ≠ L[j]?
  no : c = false → M = L
theorem Patch.nil (L : List UInt8) (p : Int) : Patch L p 0 L false := ⟨rfl, fun _ _ => rfl, fun h => (by cases h), fun _ => rfl⟩
theorem Patch.skip {L M : List UInt8} {p : Int} {k : Nat} {c : Bool} (h : Patch L p k M c) : Patch L p (k + 1) M c := ⟨h.len, fun j hj => h.out j (by omega), h.yes, h.no⟩
theorem Patch.hit {L M : List UInt8} {p k : Nat} {c : Bool} (h : Patch L (p : Int) k M c) (hi : p + k < M.length) (v : UInt8) (hv : v ≠ M[p + k]) : Patch L (p : Int) (k + 1) (M.set (p + k) v) true := by
  refine ⟨by rw [List.length_set]; exact h.len, fun j hj => ?_, fun _ => ⟨p + k, ?_⟩, fun h => (by cases h)⟩
  · rw [List.getElem?_set_ne (by omega)]
    exact h.out j (by omega)
  · rw [List.getElem?_set_self hi, ← h.out (p + k) (by omega), List.getElem?_eq_getElem hi]
    exact fun e => hv (Option.some.inj e)
theorem Patch.open_ne {s : ByteArray} {p : Int} {M : List UInt8} (h : Patch (sealB s).data.toList p 4 M true) (hp : 0 ≤ p) : openB ⟨M.toArray⟩ = (⟨#[]⟩, 25) := by
  obtain ⟨P, rfl⟩ : ∃ P : Nat, p = P := ⟨p.toNat, by omega⟩
  have h4 : 4 ≤ (sealB s).data.toList.length := by rw [sealB_data]; simp [le4]
  have hm : (⟨M.toArray⟩ : ByteArray).size = M.length := by show M.toArray.size = _; simp
  refine openB_ne _ (by rw [hm, h.len]; exact h4) ?_
  have hr : crcR (sealB s).data.toList = resid := by rw [sealB_data]; exact resid_of _
  rw [← hr]
  refine near_ne _ _ P h.len h4 (fun j hj => h.out j (by omega)) fun e => ?_
  obtain ⟨j, hj⟩ := h.yes rfl
  exact hj (by rw [← e])
theorem Patch.open_eq {s : ByteArray} {p : Int} {k : Nat} {M : List UInt8} (h : Patch (sealB s).data.toList p k M false) : openB ⟨M.toArray⟩ = (s, 0) := by
  rw [h.no rfl]; exact openB_seal s
end Go.Proofs.YtpfkddbhpoeknaaGreatDoor
