/- The plain law of events: what a legal, and a complete, sequence holds. No program in sight. -/
import Derived.Test.YtcedpdofjbaciaaDoorComplete
namespace Go.Proofs.YtcedpdofjbaciaaDoor
open Go.RowKit

theorem firstFrom_snoc (s : Int) (c : UInt8) : ∀ (l : List UInt8) (t : St) (k : Nat),
    (firstFrom s t (l ++ [c]) k < 0) ↔ (firstFrom s t l k < 0 ∧ (l.foldl (fun t c => t.next s c.toNat) t).ok s c.toNat = true)
  | [], t, k => by
    simp only [List.nil_append, firstFrom, List.foldl_nil]
    cases h : t.ok s c.toNat <;> simp <;> omega
  | d :: l, t, k => by
    simp only [List.cons_append, firstFrom, List.foldl_cons]
    cases h : t.ok s d.toNat with
    | false => simp; intro h2; omega
    | true => simpa using firstFrom_snoc s c l (t.next s d.toNat) (k + 1)
theorem legal_snoc (s : Int) (l : List UInt8) (c : UInt8) : legalS s (l ++ [c]) = (legalS s l && (stAt s l).ok s c.toNat) := by
  unfold legalS firstS stAt
  rw [Bool.eq_iff_iff]
  simp [firstFrom_snoc]
theorem stAt_snoc (s : Int) (l : List UInt8) (c : UInt8) : stAt s (l ++ [c]) = (stAt s l).next s c.toNat := by simp [stAt]
theorem lastS_snoc (l : List UInt8) (c : UInt8) : lastS (l ++ [c]) = ((c.toNat : Int) == 115 || (c.toNat : Int) == 120) := by simp [lastS]
theorem ok_ed {s : Int} {t : St} {c : Int} (h : t.ok s c = true) : isS s = true ∧ t.ed = false := by
  unfold St.ok nok at h
  cases h1 : isS s <;> cases h2 : t.ed <;> simp [h1, h2] at h ⊢
theorem snoc_ind {p : List UInt8 → Prop} (h0 : p []) (h1 : ∀ l c, p l → p (l ++ [c])) : ∀ l, p l := by
  intro l
  have : ∀ r : List UInt8, p r.reverse := by
    intro r
    induction r with
    | nil => exact h0
    | cons c r ih => rw [List.reverse_cons]; exact h1 _ _ ih
  simpa using this l.reverse
/-- a legal sequence has ended exactly if its last event ends a call. -/
theorem legal_ed (s : Int) : ∀ l, legalS s l = true → (stAt s l).ed = lastS l := by
  refine snoc_ind (fun _ => rfl) fun l c ih h => ?_
  rw [legal_snoc, Bool.and_eq_true] at h
  obtain ⟨hs, hed⟩ := ok_ed h.2
  rw [stAt_snoc, lastS_snoc]
  unfold St.next
  simp only [ned, hs, hed]
  by_cases h1 : (c.toNat : Int) = 115
  · simp [h1]
  · by_cases h2 : (c.toNat : Int) = 120 <;> simp [h1, h2]
theorem legal_take (s : Int) (l m : List UInt8) : legalS s (l ++ m) = true → legalS s l = true := by
  refine snoc_ind (p := fun m => legalS s (l ++ m) = true → legalS s l = true) (by simp) (fun m c ih h => ?_) m
  rw [← List.append_assoc, legal_snoc, Bool.and_eq_true] at h
  exact ih h.1
theorem legal_drop (s : Int) (l : List UInt8) (c : UInt8) (m : List UInt8) (h : legalS s (l ++ c :: m) = true) : legalS s l = true ∧ completeS s l = false := by
  have h1 : legalS s (l ++ [c]) = true := legal_take s (l ++ [c]) m (by simpa using h)
  rw [legal_snoc, Bool.and_eq_true] at h1
  obtain ⟨_, hed⟩ := ok_ed h1.2
  refine ⟨h1.1, ?_⟩
  rw [completeS, ← legal_ed s l h1.1, hed]; simp
theorem legal_iff (s : Int) (hs : isS s = true) (l : List UInt8) : legalS s l = (completeS s l || completeS s (l ++ [120])) := by
  cases hl : legalS s l with
  | false => simp [completeS, legal_snoc, hl]
  | true =>
    have hed := legal_ed s l hl
    cases hla : lastS l with
    | true => simp [completeS, hl, hla]
    | false =>
      rw [hla] at hed
      have hok : (stAt s l).ok s (120 : Int) = true := by
        unfold St.ok nok
        simp [hs, hed]
      simp [completeS, hl, hla, legal_snoc, lastS_snoc, hok]
/-- what a legal sequence of a shape holds. -/
theorem legal_inv (s : Int) (hs : isS s = true) : ∀ l, legalS s l = true →
    stAt s l = ⟨cnt l 113, cnt l 114, decide (0 < cnt l 101), decide (0 < cnt l 115 + cnt l 120)⟩ ∧ cnt l 101 ≤ 1 ∧ cnt l 115 + cnt l 120 ≤ 1 ∧ (c2 s < 0 ∨ cnt l 113 ≤ c2 s) ∧ (c4 s < 0 ∨ cnt l 114 ≤ c4 s) ∧ (cnt l 115 = 0 ∨ (c1 s ≤ cnt l 113 ∧ c3 s ≤ cnt l 114)) := by
  refine snoc_ind ?_ fun l c ih h => ?_
  · intro _
    rcases isS_cases hs with rfl | rfl | rfl | rfl <;> simp [stAt, St.zero, cnt, c1, c2, c3, c4, isS, inS, outS]
  · rw [legal_snoc, Bool.and_eq_true] at h
    obtain ⟨i1, i2, i3, i4, i5, i6⟩ := ih h.1
    have hed := (ok_ed h.2).2
    have hok := h.2
    rw [i1] at hok hed
    rw [stAt_snoc, i1]
    have b1 := cnt_le l 101
    have b2 := cnt_le l 115
    have b3 := cnt_le l 120
    simp only [decide_eq_false_iff_not] at hed
    unfold St.ok nok at hok
    have hed2 : decide (0 < cnt l 115 + cnt l 120) = false := decide_eq_false hed
    simp only [hs, hed2, Bool.not_true, Bool.or_false, Bool.false_eq_true, if_false] at hok
    simp only [St.next, nq, nr, nen, ned, hs, hed2, Bool.not_true, Bool.or_false, Bool.false_eq_true, if_false, cnt_101]
    have h15 : cnt l 115 = 0 := by omega
    have h20 : cnt l 120 = 0 := by omega
    by_cases h1 : (c.toNat : Int) = 113
    · simp [h1, roomS] at hok ⊢; simp [h15, h20]; omega
    by_cases h2 : (c.toNat : Int) = 101
    · simp [h2] at hok ⊢; simp [h15, h20]; omega
    by_cases h3 : (c.toNat : Int) = 114
    · simp [h3, roomS] at hok ⊢; simp [h15, h20]; omega
    by_cases h4 : (c.toNat : Int) = 115
    · simp [h4] at hok ⊢; simp [h15, h20]; omega
    by_cases h5 : (c.toNat : Int) = 120
    · simp [h5] at hok ⊢; simp [h15, h20]; omega
    simp [h1, h2, h3, h4, h5] at hok
theorem complete_inv (s : Int) (l : List UInt8) (h : completeS s l = true) :
    cnt l 115 + cnt l 120 = 1 ∧ cnt l 101 ≤ 1 ∧ (c2 s < 0 ∨ cnt l 113 ≤ c2 s) ∧ (c4 s < 0 ∨ cnt l 114 ≤ c4 s) ∧ (cnt l 115 = 0 ∨ (c1 s ≤ cnt l 113 ∧ c3 s ≤ cnt l 114)) := by
  rw [completeS, Bool.and_eq_true] at h
  obtain ⟨hl, hla⟩ := h
  have hs : isS s = true := by
    revert hl hla
    refine snoc_ind (p := fun l => legalS s l = true → lastS l = true → isS s = true) (fun _ h => by simp [lastS] at h) (fun l c _ h _ => ?_) l
    rw [legal_snoc, Bool.and_eq_true] at h
    exact (ok_ed h.2).1
  obtain ⟨i1, i2, i3, i4, i5, i6⟩ := legal_inv s hs l hl
  have hed := legal_ed s l hl
  rw [hla, i1] at hed
  simp only [decide_eq_true_eq] at hed
  exact ⟨by omega, i2, i4, i5, i6⟩
end Go.Proofs.YtcedpdofjbaciaaDoor
