/- Names, plain: parts, full names and their pieces. No program in sight. -/
import Derived.Lib.SplitLaws
import Derived.Lib.IndexBytes
import Derived.Lib.Hide
import Derived.Test.YtmdkfbmpenohiaaDoorUtfLaw
namespace Go.Proofs.YtmdkfbmpenohiaaDoor
open Go

def clsN (c : Nat) : Nat := if 97 ≤ c ∧ c ≤ 122 then 1 else if 65 ≤ c ∧ c ≤ 90 then 2 else if 48 ≤ c ∧ c ≤ 57 then 3 else if c = 95 then 4 else 0
def letC (c : UInt8) : Bool := decide (clsN c.toNat = 1 ∨ clsN c.toNat = 2)
def goC (c : UInt8) : Bool := decide (clsN c.toNat ≠ 0)
def letH (l : List UInt8) : Bool := match l with | [] => false | c :: _ => letC c
/-- a part of a name. -/
def partOk (l : List UInt8) : Bool := decide (1 ≤ l.length ∧ l.length ≤ 40) && letH l && l.all goC
/-- the pieces between dots. -/
def dotP : List UInt8 → List (List UInt8)
  | [] => [[]]
  | c :: r => if c = 46 then [] :: dotP r else match dotP r with | p :: ps => (c :: p) :: ps | [] => [[c]]
/-- a full name. -/
def fullOk (l : List UInt8) : Bool := decide (l.length ≤ 120) && (dotP l).all partOk
def fullR (acc : List UInt8) : List UInt8 → Bool
  | [] => partOk acc
  | c :: r => if c = 46 then partOk acc && fullR [] r else fullR (acc ++ [c]) r
theorem splitK_dot : ∀ (l : List UInt8), Lib.splitK [46] 0 (l.count 46) l = dotP l
  | [] => rfl
  | c :: r => by
    have ih := splitK_dot r
    by_cases h : c = 46
    · subst h
      have hix : Lib.index (46 :: r) [46] = 0 := by rw [Lib.index_one, Lib.indexByte]; rfl
      rw [List.count_cons_self, Lib.splitK, hix]
      simp [dotP, ih]
    · have hc : (c :: r).count 46 = r.count 46 := List.count_cons_of_ne (by simpa using h)
      have hix : Lib.index (c :: r) [46] = if Lib.index r [46] = -1 then -1 else Lib.index r [46] + 1 := by
        rw [Lib.index_one, Lib.index_one]
        rw [Lib.indexByte]
        simp only [beq_iff_eq, if_neg h]
      rw [hc, dotP, if_neg h, ← ih]
      cases hk : r.count 46 with
      | zero => rfl
      | succ k =>
        have hge := Lib.index_ge r [46]
        have hne : Lib.index r [46] ≠ -1 := by
          intro e
          have := Lib.count_miss e
          rw [Lib.count_one, hk] at this
          omega
        obtain ⟨i, hi⟩ : ∃ i : Nat, Lib.index r [46] = i := ⟨(Lib.index r [46]).toNat, by omega⟩
        rw [Lib.splitK, Lib.splitK, hix, hi]
        rw [if_neg (show ¬ ((i : Int) = -1) by omega)]
        rw [if_neg (show ¬ (((i : Int) + 1 == -1) = true) by rw [beq_iff_eq]; omega), if_neg (show ¬ (((i : Int) == -1) = true) by rw [beq_iff_eq]; omega)]
        have e1 : (((i : Int) + 1).toNat + 0) = i + 1 := by omega
        have e2 : (((i : Int) + 1).toNat + [(46 : UInt8)].length) = i + 1 + 1 := by simp only [List.length_cons, List.length_nil]; omega
        rw [e1, e2]
        simp
theorem splitB_dot (s : ByteArray) : (Lib.splitB ⟨#[46]⟩ 0 (Lib.countB s ⟨#[46]⟩) s).map (·.data.toList) = dotP s.data.toList := by
  rw [Lib.splitB_data, ← splitK_dot]
  have : Lib.countB s ⟨#[46]⟩ = s.data.toList.count 46 := by
    unfold Lib.countB; exact Lib.count_one 46 _
  rw [this]
/-- a rune that is no ASCII is none of the class. -/
theorem dec_ge (l : List UInt8) (h : 128 ≤ atL l 0) : 128 ≤ (decL l).1 := by
  unfold decL
  rw [if_neg (by omega)]
  (repeat' split) <;> simp_all <;> omega
theorem dec_asc (l : List UInt8) (h : atL l 0 < 128) : decL l = (atL l 0, 1) := by unfold decL; rw [if_pos (by omega)]
theorem clsN_big {c : Nat} (h : 128 ≤ c) : clsN c = 0 := by unfold clsN; rw [if_neg (by omega), if_neg (by omega), if_neg (by omega), if_neg (by omega)]
theorem partOk_at {l : List UInt8} {k : Nat} (h : k < l.length) (hg : goC l[k] = false) : partOk l = false := by
  unfold partOk
  have : l.all goC = false := by
    rw [List.all_eq_false]
    exact ⟨l[k], List.getElem_mem h, by simp [hg]⟩
  rw [this, Bool.and_false]
theorem partOk_head {l : List UInt8} (h : 0 < l.length) (hg : letC l[0] = false) : partOk l = false := by
  unfold partOk
  cases l with
  | nil => simp at h
  | cons c r => rw [show letH (c :: r) = letC c from rfl]; simp at hg; simp [hg]
theorem partOk_ok {l : List UInt8} (hg : ∀ k (h : k < l.length), goC l[k] = true) (h0 : ∀ (h : 0 < l.length), letC l[0] = true) : partOk l = decide (1 ≤ l.length ∧ l.length ≤ 40) := by
  unfold partOk
  have : l.all goC = true := by
    rw [List.all_eq_true]
    intro x hx
    obtain ⟨k, hk, rfl⟩ := List.mem_iff_getElem.1 hx
    exact hg k hk
  rw [this, Bool.and_true]
  cases l with
  | nil => simp
  | cons c r => rw [show letH (c :: r) = letC c from rfl, show letC c = true from h0 (by simp), Bool.and_true]
end Go.Proofs.YtmdkfbmpenohiaaDoor
