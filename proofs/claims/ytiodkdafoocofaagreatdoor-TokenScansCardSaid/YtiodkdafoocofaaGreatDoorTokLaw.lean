/- Tokens, plain: what begins at a place, how tokens are read and written. No program. -/
import Derived.Test.YtiodkdafoocofaaGreatDoorIdLaw
import Derived.Test.YtiodkdafoocofaaGreatDoorQRnd
import Derived.Test.YtiodkdafoocofaaGreatDoorDec
namespace Go.Proofs.YtiodkdafoocofaaGreatDoor.Y
open Go.RowKit
def letN (c : Nat) : Bool := decide ((97 ≤ c ∧ c ≤ 122) ∨ (65 ≤ c ∧ c ≤ 90))
def digN (c : Nat) : Bool := decide (48 ≤ c ∧ c ≤ 57)
def goN (c : Nat) : Bool := letN c || digN c || decide (c = 95)
def sgN (c : Nat) : Bool := decide (c = 123 ∨ c = 125 ∨ c = 91 ∨ c = 93 ∨ c = 40 ∨ c = 41 ∨ c = 60 ∨ c = 62 ∨ c = 61 ∨ c = 59 ∨ c = 44 ∨ c = 64 ∨ c = 45)
def nlN (c : Nat) : Bool := c != 10
/-- how many bytes at the beginning are such. -/
def runL (p : Nat → Bool) : List UInt8 → Nat
  | [] => 0
  | c :: r => if p c.toNat = true then runL p r + 1 else 0
theorem runL_le (p : Nat → Bool) : ∀ l, runL p l ≤ l.length
  | [] => Nat.le_refl _
  | c :: r => by
    have := runL_le p r
    unfold runL; split <;> simp only [List.length_cons] <;> omega
theorem drop_at (l : List UInt8) (k j : Nat) : atL (l.drop k) j = atL l (k + j) := by
  unfold atL; rw [List.getD_eq_getElem?_getD, List.getD_eq_getElem?_getD, List.getElem?_drop]
theorem at_out {l : List UInt8} {k : Nat} (h : l.length ≤ k) : atL l k = 0 := by
  unfold atL; rw [List.getD_eq_getElem?_getD, List.getElem?_eq_none h]; rfl
theorem at_cons (c : UInt8) (r : List UInt8) (k : Nat) : atL (c :: r) (k + 1) = atL r k := by simp [atL]
theorem at_zero (c : UInt8) (r : List UInt8) : atL (c :: r) 0 = c.toNat := rfl
theorem runL_step (p : Nat → Bool) {l : List UInt8} {k : Nat} (h : k < l.length) : runL p (l.drop k) = if p (atL l k) = true then runL p (l.drop (k + 1)) + 1 else 0 := by
  have e : (l[k]).toNat = atL l k := by unfold atL; rw [List.getD_eq_getElem?_getD, List.getElem?_eq_getElem h]; rfl
  rw [List.drop_eq_getElem_cons h, runL, e]
theorem runL_end (p : Nat → Bool) {l : List UInt8} {k : Nat} (h : l.length ≤ k) : runL p (l.drop k) = 0 := by
  rw [List.drop_eq_nil_of_le h]; rfl
theorem runL_stop {p : Nat → Bool} : ∀ {l : List UInt8}, runL p l < l.length → p (atL l (runL p l)) = false
  | [], h => absurd h (Nat.lt_irrefl _)
  | c :: r, h => by
    unfold runL at h ⊢
    by_cases hc : p c.toNat = true
    · rw [if_pos hc] at h ⊢
      rw [at_cons]
      exact runL_stop (by simpa using h)
    · rw [if_neg hc]; simpa [at_zero] using hc
theorem runL_all {p : Nat → Bool} : ∀ {l : List UInt8} {k : Nat}, k < runL p l → p (atL l k) = true
  | [], _, h => by cases h
  | c :: r, k, h => by
    unfold runL at h
    by_cases hc : p c.toNat = true
    · rw [if_pos hc] at h
      cases k with
      | zero => exact hc
      | succ k => rw [at_cons]; exact runL_all (by omega)
    · rw [if_neg hc] at h; cases h
theorem runL_app {p : Nat → Bool} {m : List UInt8} (hm : m = [] ∨ p (atL m 0) = false) : ∀ l : List UInt8, runL p (l ++ m) = runL p l
  | [] => by
    cases m with
    | nil => rfl
    | cons c r =>
      rcases hm with h | h
      · cases h
      · rw [at_zero] at h
        rw [List.nil_append]; simp [runL, h]
  | c :: r => by rw [List.cons_append, runL, runL, runL_app hm r]
theorem runL_full {p : Nat → Bool} : ∀ {l : List UInt8}, (∀ b ∈ l, p b.toNat = true) → runL p l = l.length
  | [], _ => rfl
  | c :: r, h => by rw [runL, if_pos (h c (List.mem_cons_self ..)), runL_full (fun b hb => h b (List.mem_cons_of_mem _ hb))]; rfl
theorem runL_mem {p : Nat → Bool} : ∀ {l : List UInt8} {b : UInt8}, b ∈ l.take (runL p l) → p b.toNat = true
  | [], b, h => by simp at h
  | c :: r, b, h => by
    unfold runL at h
    by_cases hc : p c.toNat = true
    · rw [if_pos hc, List.take_succ_cons] at h
      rcases List.mem_cons.1 h with rfl | h
      · exact hc
      · exact runL_mem h
    · rw [if_neg hc] at h; simp at h
/-! names -/
/-- the length of the name, from a letter on. -/
def nmF : Nat → List UInt8 → Nat
  | 0, _ => 0
  | n + 1, l => if atL l (runL goN l) = 46 ∧ letN (atL l (runL goN l + 1)) = true then runL goN l + 1 + nmF n (l.drop (runL goN l + 1)) else runL goN l
theorem at_lt {l : List UInt8} {k c : Nat} (h : atL l k = c) (hc : c ≠ 0) : k < l.length := by
  rcases Nat.lt_or_ge k l.length with h1 | h1
  · exact h1
  · rw [at_out h1] at h; exact absurd h.symm hc
theorem let_ne {c : Nat} (h : letN c = true) : c ≠ 0 := by intro e; subst e; revert h; decide
theorem nmF_fuel : ∀ (n m : Nat) (l : List UInt8), l.length < n → l.length < m → nmF n l = nmF m l
  | 0, _, _, h, _ => by omega
  | _ + 1, 0, _, _, h => by omega
  | n + 1, m + 1, l, h1, h2 => by
    unfold nmF
    by_cases h : atL l (runL goN l) = 46 ∧ letN (atL l (runL goN l + 1)) = true
    · rw [if_pos h, if_pos h]
      have := at_lt h.1 (by decide)
      rw [nmF_fuel n m _ (by rw [List.length_drop]; omega) (by rw [List.length_drop]; omega)]
    · rw [if_neg h, if_neg h]
def nmL (l : List UInt8) : Nat := nmF (l.length + 1) l
theorem nmL_step (l : List UInt8) : nmL l = if atL l (runL goN l) = 46 ∧ letN (atL l (runL goN l + 1)) = true then runL goN l + 1 + nmL (l.drop (runL goN l + 1)) else runL goN l := by
  unfold nmL
  rw [nmF]
  by_cases h : atL l (runL goN l) = 46 ∧ letN (atL l (runL goN l + 1)) = true
  · rw [if_pos h, if_pos h]
    have := at_lt h.1 (by decide)
    rw [nmF_fuel l.length ((l.drop (runL goN l + 1)).length + 1) _ (by rw [List.length_drop]; omega) (by rw [List.length_drop]; omega)]
  · rw [if_neg h, if_neg h]
theorem nmL_le (n : Nat) : ∀ l : List UInt8, l.length ≤ n → nmL l ≤ l.length := by
  induction n with
  | zero => intro l h; rw [List.length_eq_zero_iff.1 (Nat.le_zero.1 h)]; decide
  | succ n ih =>
    intro l h
    rw [nmL_step]
    split
    · rename_i hc
      have h1 := at_lt hc.1 (by decide)
      have := ih (l.drop (runL goN l + 1)) (by rw [List.length_drop]; omega)
      rw [List.length_drop] at this
      omega
    · exact runL_le _ _
def dotH (l : List UInt8) : Bool := atL l 0 == 46
/-- the length of the name that l begins with; 0: none. -/
def nameL (l : List UInt8) : Nat := if atL l 0 = 46 then (if letN (atL l 1) = true then 1 + nmL (l.drop 1) else 0) else if letN (atL l 0) = true then nmL l else 0
theorem nameL_le (l : List UInt8) : nameL l ≤ l.length := by
  unfold nameL
  split
  · rename_i h
    have := at_lt h (by decide)
    split
    · have := nmL_le _ (l.drop 1) (Nat.le_refl _)
      rw [List.length_drop] at this; omega
    · exact Nat.zero_le _
  · split
    · exact nmL_le _ l (Nat.le_refl _)
    · exact Nat.zero_le _
theorem go_of_let {c : Nat} (h : letN c = true) : goN c = true := by unfold goN; rw [h]; rfl
theorem nmL_pos {l : List UInt8} (h : letN (atL l 0) = true) : 0 < nmL l := by
  have h0 : l ≠ [] := by intro e; subst e; revert h; decide
  have hl : 0 < l.length := List.length_pos_iff.2 h0
  have hr := runL_step goN (l := l) (k := 0) hl
  rw [if_pos (go_of_let h), List.drop_zero] at hr
  rw [nmL_step]
  split <;> omega
/-- without its first dot. -/
def undot (l : List UInt8) : List UInt8 := if atL l 0 = 46 then l.drop 1 else l
def fitL (l : List UInt8) : Bool := fullOk (undot l)
/-! what begins at a place -/
def spN (c : Nat) : Bool := decide (c = 32 ∨ c = 9 ∨ c = 13 ∨ c = 10)
def stL (l : List UInt8) : Nat :=
  if spN (atL l 0) = true then 1 else if atL l 0 = 47 ∧ atL l 1 = 47 then 2
  else if letN (atL l 0) = true ∨ (atL l 0 = 46 ∧ letN (atL l 1) = true) then 3
  else if digN (atL l 0) = true then 4 else if atL l 0 = 34 then 5 else if sgN (atL l 0) = true then 6 else 0
/-- a token: its kind, text, number and line. -/
structure TV where
  k : Int
  t : ByteArray
  n : Int
  ln : Nat
def TV.nil : TV := ⟨0, ⟨#[]⟩, 0, 0⟩
def nameT (l : List UInt8) : TV × Nat × Nat := if fitL (l.take (nameL l)) = true then (⟨1, ⟨(l.take (nameL l)).toArray⟩, 0, 0⟩, nameL l, 0) else (.nil, 0, 8)
def intT (l : List UInt8) : TV × Nat × Nat :=
  if (1 < runL digN l ∧ atL l 0 = 48) ∨ goN (atL l (runL digN l)) = true then (.nil, 0, 2)
  else if valN (l.take (runL digN l)) < 18446744073709551616 then (⟨2, ⟨#[]⟩, IntKind.i64.wrap (valN (l.take (runL digN l)) : Int), 0⟩, runL digN l, 0) else (.nil, 0, 6)
def textT (l : List UInt8) : TV × Nat × Nat :=
  if (unqS ⟨l.toArray⟩).err = 0 then (⟨3, (unqS ⟨l.toArray⟩).text, 0, 0⟩, (unqS ⟨l.toArray⟩).len, 0) else (.nil, 0, 2)
def oneT (l : List UInt8) : TV × Nat × Nat :=
  if stL l = 3 then nameT l else if stL l = 4 then intT l else if stL l = 5 then textT l
  else if stL l = 6 then (⟨4, ⟨(l.take 1).toArray⟩, 0, 0⟩, 1, 0) else (.nil, 0, 2)
/-- the tokens; a line and an error. -/
structure SV where
  l : List TV
  ln : Nat
  e : Nat
def scanF : Nat → List UInt8 → Nat → List TV → SV
  | 0, _, _, acc => ⟨acc, 0, 0⟩
  | f + 1, l, ln, acc => if l = [] then ⟨acc, 0, 0⟩
    else if atL l 0 = 10 then scanF f (l.drop 1) (ln + 1) acc
    else if stL l = 1 then scanF f (l.drop 1) ln acc
    else if stL l = 2 then scanF f (l.drop (runL nlN l)) ln acc
    else if (oneT l).2.2 ≠ 0 then ⟨[], ln, (oneT l).2.2⟩
    else scanF f (l.drop (oneT l).2.1) ln (acc ++ [{ (oneT l).1 with ln := ln }])
theorem unq_len {s : ByteArray} (h : (unqS s).err = 0) : 2 ≤ (unqS s).len ∧ (unqS s).len ≤ s.size ∧ quoteL (unqS s).text = s.data.toList.take (unqS s).len := by
  unfold unqS at *
  split at h
  · simp at h
  · rename_i h0
    rw [if_neg h0]
    split at h
    · simp at h
    · rename_i acc k hk
      split at h
      · rename_i hq
        rw [if_pos hq]
        have h2 := congrArg List.length hq
        rw [List.length_take, len_bytes] at h2
        have h3 : 2 ≤ (quoteL ⟨acc.toArray⟩).length := by unfold quoteL; simp
        refine ⟨?_, ?_, hq⟩
        · show 2 ≤ k + 1; omega
        · show k + 1 ≤ s.size
          have hb : k < s.size := by
            have key : ∀ (n : Nat) (L a : List UInt8) (j : Nat) {acc k}, uqF n L a j = some (acc, k) → j ≤ k ∧ k < j + L.length := by
              intro n
              induction n with
              | zero => intro L a j acc k h; simp [uqF] at h
              | succ n ih =>
                intro L a j acc k h
                unfold uqF at h
                split at h
                · simp at h
                · rename_i hL
                  have hl : 0 < L.length := List.length_pos_iff.2 hL
                  split at h
                  · simp only [Option.some.injEq, Prod.mk.injEq] at h; omega
                  · split at h
                    · simp at h
                    · have h4 := ih _ _ _ h
                      have h5 := oneS_ok L hl
                      rw [List.length_drop] at h4; omega
            have h4 := key _ _ _ _ hk
            rw [List.length_drop, len_bytes] at h4
            have : 0 < s.size := by omega
            omega
          omega
      · simp at h
theorem unq_err (s : ByteArray) : (unqS s).err = 0 ∨ ((unqS s).err = 2 ∧ (unqS s).text = ⟨#[]⟩ ∧ (unqS s).len = 0) := by
  unfold unqS
  split
  · exact .inr ⟨rfl, rfl, rfl⟩
  · split
    · exact .inr ⟨rfl, rfl, rfl⟩
    · split
      · exact .inl rfl
      · exact .inr ⟨rfl, rfl, rfl⟩
theorem lsz (l : List UInt8) : (⟨l.toArray⟩ : ByteArray).size = l.length := by show l.toArray.size = _; simp
theorem one_len {l : List UInt8} (hl : l ≠ []) (h : (oneT l).2.2 = 0) : 1 ≤ (oneT l).2.1 ∧ (oneT l).2.1 ≤ l.length := by
  have h0 : 0 < l.length := List.length_pos_iff.2 hl
  unfold oneT at *
  split at h
  · rename_i h3
    rw [if_pos h3]
    unfold nameT at *
    split at h
    · rename_i hf
      rw [if_pos hf]
      refine ⟨?_, nameL_le l⟩
      show 1 ≤ nameL l
      unfold stL at h3
      split at h3
      · simp at h3
      split at h3
      · simp at h3
      split at h3
      · rename_i hc
        unfold nameL
        rcases hc with hc | ⟨hc, hd⟩
        · have hne : atL l 0 ≠ 46 := by intro e; rw [e] at hc; revert hc; decide
          rw [if_neg hne, if_pos hc]; exact nmL_pos hc
        · rw [if_pos hc, if_pos hd]; omega
      · (repeat' split at h3) <;> simp at h3
    · simp at h
  · rename_i h3
    rw [if_neg h3]
    split at h
    · rename_i h4
      rw [if_pos h4]
      have hd : digN (atL l 0) = true := by
        unfold stL at h4
        (repeat' split at h4) <;> first | assumption | (simp at h4)
      have h5 := runL_step digN (l := l) (k := 0) h0
      rw [if_pos hd, List.drop_zero] at h5
      have h6 := runL_le digN l
      unfold intT at *
      (repeat' split at h) <;> first | (simp at h; done) | skip
      rename_i h7 h8
      rw [if_neg h7, if_pos h8]
      exact ⟨by show 1 ≤ runL digN l; omega, h6⟩
    · rename_i h4
      rw [if_neg h4]
      split at h
      · rename_i h5
        rw [if_pos h5]
        unfold textT at *
        split at h
        · rename_i h6
          rw [if_pos h6]
          have := unq_len h6
          rw [lsz] at this
          exact ⟨Nat.le_trans (by decide) this.1, this.2.1⟩
        · simp at h
      · rename_i h5
        rw [if_neg h5]
        split at h
        · rename_i h6
          rw [if_pos h6]; exact ⟨Nat.le_refl _, h0⟩
        · simp at h
theorem st2_run {l : List UInt8} (h : stL l = 2) : 1 ≤ runL nlN l := by
  unfold stL at h
  split at h
  · simp at h
  split at h
  · rename_i h1
    have h2 := at_lt h1.1 (by decide)
    have h5 := runL_step nlN (l := l) (k := 0) h2
    rw [if_pos (by rw [h1.1]; decide), List.drop_zero] at h5
    omega
  · (repeat' split at h) <;> simp at h
theorem scanF_fuel : ∀ (n m : Nat) (l : List UInt8) (ln : Nat) (acc : List TV), l.length ≤ n → l.length ≤ m → scanF n l ln acc = scanF m l ln acc := by
  intro n
  induction n with
  | zero =>
    intro m l ln acc h1 h2
    have : l = [] := List.length_eq_zero_iff.1 (by omega)
    subst this
    cases m <;> simp [scanF]
  | succ n ih =>
    intro m l ln acc h1 h2
    cases m with
    | zero =>
      have : l = [] := List.length_eq_zero_iff.1 (by omega)
      subst this; simp [scanF]
    | succ m =>
      unfold scanF
      by_cases hl : l = []
      · rw [if_pos hl, if_pos hl]
      · have h0 : 0 < l.length := List.length_pos_iff.2 hl
        rw [if_neg hl, if_neg hl]
        split
        · exact ih m _ _ _ (by rw [List.length_drop]; omega) (by rw [List.length_drop]; omega)
        · split
          · exact ih m _ _ _ (by rw [List.length_drop]; omega) (by rw [List.length_drop]; omega)
          · split
            · rename_i h2
              have := st2_run h2
              exact ih m _ _ _ (by rw [List.length_drop]; omega) (by rw [List.length_drop]; omega)
            · split
              · rfl
              · rename_i he
                have := one_len hl (by simpa using he)
                exact ih m _ _ _ (by rw [List.length_drop]; omega) (by rw [List.length_drop]; omega)
def scanS (l : List UInt8) (ln : Nat) (acc : List TV) : SV := scanF l.length l ln acc
theorem scanS_nil (ln : Nat) (acc : List TV) : scanS [] ln acc = ⟨acc, 0, 0⟩ := rfl
theorem scanS_step {l : List UInt8} (hl : l ≠ []) (ln : Nat) (acc : List TV) : scanS l ln acc =
    if atL l 0 = 10 then scanS (l.drop 1) (ln + 1) acc
    else if stL l = 1 then scanS (l.drop 1) ln acc
    else if stL l = 2 then scanS (l.drop (runL nlN l)) ln acc
    else if (oneT l).2.2 ≠ 0 then ⟨[], ln, (oneT l).2.2⟩
    else scanS (l.drop (oneT l).2.1) ln (acc ++ [{ (oneT l).1 with ln := ln }]) := by
  have h0 : 0 < l.length := List.length_pos_iff.2 hl
  obtain ⟨n, hn⟩ : ∃ n, l.length = n + 1 := ⟨l.length - 1, by omega⟩
  unfold scanS
  rw [hn]
  conv => lhs; unfold scanF
  rw [if_neg hl]
  split
  · exact scanF_fuel _ _ _ _ _ (by rw [List.length_drop]; omega) (by rw [List.length_drop]; omega)
  · split
    · exact scanF_fuel _ _ _ _ _ (by rw [List.length_drop]; omega) (by rw [List.length_drop]; omega)
    · split
      · rename_i h2
        have := st2_run h2
        exact scanF_fuel _ _ _ _ _ (by rw [List.length_drop]; omega) (by rw [List.length_drop]; omega)
      · split
        · rfl
        · rename_i he
          have := one_len hl (by simpa using he)
          exact scanF_fuel _ _ _ _ _ (by rw [List.length_drop]; omega) (by rw [List.length_drop]; omega)
def scanL (l : List UInt8) : SV := if l.length > 16384 then ⟨[], 0, 3⟩ else scanS l 1 []
/-! spaces and comments -/
def skipF : Nat → List UInt8 → Nat
  | 0, _ => 0
  | n + 1, l => if l = [] then 0 else if stL l = 1 then 1 + skipF n (l.drop 1) else if stL l = 2 then runL nlN l + skipF n (l.drop (runL nlN l)) else 0
theorem skipF_fuel : ∀ (n m : Nat) (l : List UInt8), l.length ≤ n → l.length ≤ m → skipF n l = skipF m l := by
  intro n
  induction n with
  | zero =>
    intro m l h1 h2
    have : l = [] := List.length_eq_zero_iff.1 (by omega)
    subst this
    cases m <;> simp [skipF]
  | succ n ih =>
    intro m l h1 h2
    cases m with
    | zero =>
      have : l = [] := List.length_eq_zero_iff.1 (by omega)
      subst this; simp [skipF]
    | succ m =>
      unfold skipF
      by_cases hl : l = []
      · rw [if_pos hl, if_pos hl]
      · have h0 : 0 < l.length := List.length_pos_iff.2 hl
        rw [if_neg hl, if_neg hl]
        split
        · rw [ih m _ (by rw [List.length_drop]; omega) (by rw [List.length_drop]; omega)]
        · split
          · rename_i h2
            have := st2_run h2
            rw [ih m _ (by rw [List.length_drop]; omega) (by rw [List.length_drop]; omega)]
          · rfl
def skipL (l : List UInt8) : Nat := skipF l.length l
theorem skipL_step {l : List UInt8} (hl : l ≠ []) : skipL l = if stL l = 1 then 1 + skipL (l.drop 1) else if stL l = 2 then runL nlN l + skipL (l.drop (runL nlN l)) else 0 := by
  have h0 : 0 < l.length := List.length_pos_iff.2 hl
  obtain ⟨n, hn⟩ : ∃ n, l.length = n + 1 := ⟨l.length - 1, by omega⟩
  unfold skipL
  rw [hn, skipF, if_neg hl]
  split
  · rw [skipF_fuel n _ _ (by rw [List.length_drop]; omega) (Nat.le_refl _)]
  · split
    · rename_i h2
      have := st2_run h2
      rw [skipF_fuel n _ _ (by rw [List.length_drop]; omega) (Nat.le_refl _)]
    · rfl
theorem skipL_le (n : Nat) : ∀ l : List UInt8, l.length ≤ n → skipL l ≤ l.length := by
  induction n with
  | zero => intro l h; rw [List.length_eq_zero_iff.1 (Nat.le_zero.1 h)]; decide
  | succ n ih =>
    intro l h
    by_cases hl : l = []
    · subst hl; decide
    have h0 : 0 < l.length := List.length_pos_iff.2 hl
    rw [skipL_step hl]
    split
    · have := ih (l.drop 1) (by rw [List.length_drop]; omega)
      rw [List.length_drop] at this; omega
    · split
      · rename_i h2
        have h3 := st2_run h2
        have h4 := runL_le nlN l
        have := ih (l.drop (runL nlN l)) (by rw [List.length_drop]; omega)
        rw [List.length_drop] at this; omega
      · exact Nat.zero_le _
theorem st_cons (l : List UInt8) : stL l = 1 ↔ spN (atL l 0) = true := by
  unfold stL
  constructor
  · intro h
    split at h
    · assumption
    · (repeat' split at h) <;> simp at h
  · intro h; rw [if_pos h]
theorem st_2 (l : List UInt8) : stL l = 2 → atL l 0 = 47 ∧ atL l 1 = 47 := by
  unfold stL
  intro h
  split at h
  · simp at h
  split at h
  · assumption
  · (repeat' split at h) <;> simp at h
theorem take_one_at {l : List UInt8} (h : l ≠ []) : l.take 1 = [UInt8.ofNat (atL l 0)] := by
  cases l with
  | nil => exact absurd rfl h
  | cons c r => rw [at_zero]; simp
theorem count_take_add (l : List UInt8) (a b : Nat) : (l.take (a + b)).count 10 = (l.take a).count 10 + ((l.drop a).take b).count 10 := by
  rw [List.take_add, List.count_append]
theorem run_count (l : List UInt8) : (l.take (runL nlN l)).count 10 = 0 := by
  rw [List.count_eq_zero]
  intro h
  have := runL_mem h
  revert this; decide
theorem scan_skip (n : Nat) : ∀ (l : List UInt8) (ln : Nat) (acc : List TV), l.length ≤ n → scanS l ln acc = scanS (l.drop (skipL l)) (ln + (l.take (skipL l)).count 10) acc := by
  induction n with
  | zero => intro l ln acc h; rw [List.length_eq_zero_iff.1 (Nat.le_zero.1 h)]; rfl
  | succ n ih =>
    intro l ln acc h
    by_cases hl : l = []
    · subst hl; rfl
    have h0 : 0 < l.length := List.length_pos_iff.2 hl
    rw [skipL_step hl]
    by_cases h1 : stL l = 1
    · rw [if_pos h1, scanS_step hl, count_take_add, ← List.drop_drop, take_one_at hl]
      by_cases h10 : atL l 0 = 10
      · rw [if_pos h10, ih _ _ _ (by rw [List.length_drop]; omega), h10]
        have : ([UInt8.ofNat 10].count 10) = 1 := by decide
        rw [this, Nat.add_assoc]
      · rw [if_neg h10, if_pos h1, ih _ _ _ (by rw [List.length_drop]; omega)]
        have : ([UInt8.ofNat (atL l 0)].count 10) = 0 := by
          rw [List.count_eq_zero]
          intro hm
          have h3 := congrArg UInt8.toNat (List.mem_singleton.1 hm)
          rw [UInt8.toNat_ofNat'] at h3
          have h4 := atL_lt l 0
          have : (10 : UInt8).toNat = 10 := rfl
          omega
        rw [this, Nat.zero_add]
    · rw [if_neg h1]
      by_cases h2 : stL l = 2
      · have h3 := st2_run h2
        have h4 := (st_2 l h2).1
        rw [if_pos h2, scanS_step hl, if_neg (by omega), if_neg h1, if_pos h2, count_take_add, ← List.drop_drop, run_count, Nat.zero_add, ih _ _ _ (by rw [List.length_drop]; omega)]
      · rw [if_neg h2]; simp
theorem skip_rest (n : Nat) : ∀ l : List UInt8, l.length ≤ n → stL (l.drop (skipL l)) ≠ 1 ∧ stL (l.drop (skipL l)) ≠ 2 := by
  induction n with
  | zero => intro l h; rw [List.length_eq_zero_iff.1 (Nat.le_zero.1 h)]; decide
  | succ n ih =>
    intro l h
    by_cases hl : l = []
    · subst hl; decide
    have h0 : 0 < l.length := List.length_pos_iff.2 hl
    rw [skipL_step hl]
    by_cases h1 : stL l = 1
    · rw [if_pos h1, ← List.drop_drop]; exact ih _ (by rw [List.length_drop]; omega)
    · rw [if_neg h1]
      by_cases h2 : stL l = 2
      · have h3 := st2_run h2
        rw [if_pos h2, ← List.drop_drop]; exact ih _ (by rw [List.length_drop]; omega)
      · rw [if_neg h2]; exact ⟨h1, h2⟩
/-! writing -/
def wrT (t : TV) : List UInt8 :=
  if t.k = 2 ∧ t.t.size = 0 then Lib.decDigits (IntKind.u64.wrap t.n).toNat else if t.n ≠ 0 then []
  else if t.k = 1 ∧ fitL t.t.data.toList = true then t.t.data.toList
  else if t.k = 3 then quoteL t.t
  else if t.k = 4 ∧ t.t.size = 1 ∧ sgN (atL t.t.data.toList 0) = true then t.t.data.toList else []
def sepT (t : TV) (last : Bool) : List UInt8 := if t.k = 4 ∧ (wrT t = [59] ∨ wrT t = [123] ∨ wrT t = [125]) then [10] else if last = true then [] else [32]
def prL : List TV → List UInt8
  | [] => []
  | t :: r => wrT t ++ sepT t r.isEmpty ++ prL r
def badT (l : List TV) : Bool := l.any fun t => (wrT t).isEmpty
def printL (l : List TV) : List UInt8 := if badT l = true ∨ (prL l).length > 16384 then [] else prL l
def printS (l : List TV) : ByteArray := ⟨(printL l).toArray⟩
def sameT (a b : TV) : Bool := a.k == b.k && a.t.data.toList == b.t.data.toList && a.n == b.n
def sameL : List TV → List TV → Bool
  | [], [] => true
  | a :: x, b :: y => sameT a b && sameL x y
  | _, _ => false
end Go.Proofs.YtiodkdafoocofaaGreatDoor.Y
