/- The reference's First, and that it is the program's. -/
import Derived.Test.YtngieldaebnffaaDoorRef
import Derived.Test.YtngieldaebnffaaDoorFirst
import Derived.Lib.Strings
namespace Go.Proofs.YtngieldaebnffaaDoor
open Go.RowKit

def refFrom (s : Int) : List UInt8 → List UInt8 → Nat → Int
  | _, [], _ => -1
  | pre, c :: l, k => if refOk s pre (c.toNat : Int) then refFrom s (pre ++ [c]) l (k + 1) else k
theorem extract_take (ev : ByteArray) (k : Nat) : (ev.extract 0 k).data.toList = ev.data.toList.take k := by
  simp [ByteArray.data_extract, List.extract_eq_take_drop]
theorem extract_le (ev : ByteArray) (k : Nat) : (ev.extract 0 k).size ≤ ev.size := by
  rw [ByteArray.size_extract]; omega
theorem refOk_nok (s : Int) (pre : List UInt8) (c : Int) (h : isS s = true) : refOk s pre c = St.ok s ⟨cnt pre 113, cnt pre 114, decide (0 < cnt pre 101), decide (0 < cnt pre 115 + cnt pre 120)⟩ c := by
  have hm : outS s = !must s := by rcases isS_cases h with rfl | rfl | rfl | rfl <;> decide
  unfold refOk St.ok nok
  simp only [h, Bool.not_true, Bool.false_or, hm]
  split
  · rfl
  · split
    · rfl
    · split
      · rfl
      · split
        · rfl
        · split
          · rfl
          · split
            · rename_i h5; simp [h5]
            · rename_i h5; simp [h5]
theorem cnt_101 (pre : List UInt8) (x : UInt8) (c : Int) : cnt (pre ++ [x]) c = if (x.toNat : Int) = c then cnt pre c + 1 else cnt pre c := by
  rw [cnt_snoc]; by_cases h : (x.toNat : Int) = c <;> simp [h]
theorem refFrom_eq (s : Int) (h : isS s = true) : ∀ (l pre : List UInt8) (k : Nat), stAt s pre = ⟨cnt pre 113, cnt pre 114, decide (0 < cnt pre 101), decide (0 < cnt pre 115 + cnt pre 120)⟩ → refFrom s pre l k = firstFrom s (stAt s pre) l k := by
  intro l
  induction l with
  | nil => intro pre k _; rfl
  | cons c l ih =>
    intro pre k hst
    have hok : refOk s pre (c.toNat : Int) = (stAt s pre).ok s c.toNat := by rw [hst]; exact refOk_nok s pre _ h
    unfold refFrom firstFrom
    rw [← hok]
    cases hr : refOk s pre (c.toNat : Int) with
    | false => rfl
    | true =>
      simp only [if_true]
      have e : stAt s (pre ++ [c]) = (stAt s pre).next s c.toNat := by simp [stAt]
      rw [ih (pre ++ [c]) (k + 1) ?_, e]
      rw [e, hst]
      have hb1 := cnt_le pre 101
      have hb2 := cnt_le pre 115
      have hb3 := cnt_le pre 120
      unfold refOk at hr
      simp only [h, Bool.not_true, Bool.false_or] at hr
      by_cases he : decide (0 < cnt pre 115 + cnt pre 120) = true
      · simp [he] at hr
      · have he' : decide (0 < cnt pre 115 + cnt pre 120) = false := by simpa using he
        simp only [he', Bool.false_eq_true, if_false] at hr
        have h15 : cnt pre 115 = 0 := by simp at he'; omega
        have h20 : cnt pre 120 = 0 := by simp at he'; omega
        simp only [St.next, nq, nr, nen, ned, h, Bool.not_true, Bool.false_or, he', Bool.false_eq_true, if_false, cnt_101]
        by_cases h1 : (c.toNat : Int) = 113
        · simp [h1, h15, h20]
        by_cases h2 : (c.toNat : Int) = 101
        · simp [h2, h15, h20]; omega
        by_cases h3 : (c.toNat : Int) = 114
        · simp [h3, h15, h20]
        by_cases h4 : (c.toNat : Int) = 115
        · simp [h4, h15, h20]
        by_cases h5 : (c.toNat : Int) = 120
        · simp [h5, h15, h20]
        simp [h1, h2, h3, h4, h5] at hr
theorem first_eq (s : Int) (l : List UInt8) : refFrom s [] l 0 = firstS s l := by
  cases h : isS s with
  | true => rw [refFrom_eq s h l [] 0 (by simp [stAt, St.zero, cnt])]; rfl
  | false =>
    cases l with
    | nil => rfl
    | cons c l => simp [refFrom, firstS, firstFrom, refOk, St.ok, nok, h]

end Go.Proofs.YtngieldaebnffaaDoor
