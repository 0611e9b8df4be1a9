/- Tokens, plain: what is written is read again; lines; spaces and comments. No program. -/
import Derived.Test.YtiodkdafoocofaaGreatDoorTokLaw
import Derived.WalkKit
import Derived.Laws.BitsAllLaws
import Derived.Laws.Bits64
namespace Go.Proofs.YtiodkdafoocofaaGreatDoor.Y
open Go.RowKit
theorem val_pos7 {c : UInt8} {r : List UInt8} (h : isDig c = true) (h48 : c.toNat ≠ 48) : 0 < valN (c :: r) := by
  rw [isDig_iff] at h
  unfold valN
  rw [valF_cons]
  have := valF_le r (0 * 10 + (c.toNat - 48))
  omega
theorem dec_step7 (u : Nat) (h : 10 ≤ u) : Lib.decDigits u = Lib.decDigits (u / 10) ++ [UInt8.ofNat (48 + u % 10)] := by
  conv => lhs; rw [Lib.decDigits]
  rw [dif_neg (by omega)]
theorem dec_back7 : ∀ (n : Nat) (l : List UInt8), l.length = n → l ≠ [] → l.all isDig = true → (l.head? = some 48 → l.length = 1) → Lib.decDigits (valN l) = l
  | 0, l, h, hne, _, _ => absurd (List.length_eq_zero_iff.1 h) hne
  | n + 1, l, h, hne, hd, h0 => by
    obtain ⟨m, c, rfl⟩ : ∃ m c, l = m ++ [c] := ⟨l.dropLast, l.getLast hne, (List.dropLast_concat_getLast hne).symm⟩
    rw [List.all_append, Bool.and_eq_true] at hd
    have hc : isDig c = true := by simpa using hd.2
    have hc' := (isDig_iff c).1 hc
    have hv : valN (m ++ [c]) = valN m * 10 + (c.toNat - 48) := by unfold valN; rw [valF_snoc]
    have ec : ∀ d, d = c.toNat - 48 → UInt8.ofNat (48 + d) = c := by
      intro d hd
      rw [hd, show 48 + (c.toNat - 48) = c.toNat by omega, UInt8.ofNat_toNat]
    rw [hv]
    cases m with
    | nil =>
      have e : valN ([] : List UInt8) = 0 := rfl
      rw [e, Nat.zero_mul, Nat.zero_add, Lib.decDigits_one (by omega), ec _ rfl]; rfl
    | cons a m =>
      have ha : isDig a = true := by
        have := hd.1
        simp only [List.all_cons, Bool.and_eq_true] at this; exact this.1
      have h48 : a.toNat ≠ 48 := by
        intro e
        have e2 : a = 48 := UInt8.toNat_inj.1 e
        subst e2
        have := h0 rfl
        simp at this
      have hp := val_pos7 (r := m) ha h48
      rw [dec_step7 _ (by omega), show (valN (a :: m) * 10 + (c.toNat - 48)) / 10 = valN (a :: m) by omega, show (valN (a :: m) * 10 + (c.toNat - 48)) % 10 = c.toNat - 48 by omega, ec _ rfl]
      rw [dec_back7 n (a :: m) (by simp only [List.length_append, List.length_cons, List.length_nil] at h ⊢; omega) (by simp) hd.1 (fun e => absurd (congrArg UInt8.toNat (Option.some.inj e)) h48)]
/-! a quoted text, and something behind it -/
theorem uq_allM : ∀ (n : Nat) (l acc m : List UInt8) (k : Nat), l.length ≤ n → uq (qrest n l ++ 34 :: m) acc k = some (acc ++ l, k + (qrest n l).length)
  | 0, l, acc, m, k, h => by
    have : l = [] := List.length_eq_zero_iff.1 (by omega)
    subst this
    show uq (34 :: m) acc k = _
    rw [uq_step _ _ _ (by simp), if_pos (show atL (34 :: m) 0 = 34 from rfl)]; simp [qrest]
  | n + 1, l, acc, m, k, h => by
    by_cases hl : l = []
    · subst hl
      have e : qrest (n + 1) [] = [] := by rw [qrest, if_pos rfl]
      rw [e]
      show uq (34 :: m) acc k = _
      rw [uq_step _ _ _ (by simp), if_pos (show atL (34 :: m) 0 = 34 from rfl)]; simp
    · have e : qrest (n + 1) l = qpart l ++ qrest n (l.drop (qlen l)) := by rw [qrest, if_neg hl]
      have hp := qlen_pos l
      rw [e, List.append_assoc, uq_part l _ acc k hl, uq_allM n _ _ _ _ (by rw [List.length_drop]; omega), List.append_assoc, List.take_append_drop, List.length_append, Nat.add_assoc]
theorem quoteL_eq (s : ByteArray) : quoteL s = 34 :: (qAt s 0 ++ [34]) := by simp [quoteL]
theorem unq_quoteM (s : ByteArray) (m : List UInt8) : unqS ⟨(quoteL s ++ m).toArray⟩ = ⟨s, (quoteL s).length, 0⟩ := by
  have hz : (quoteL s).length = (qAt s 0).length + 2 := by rw [quoteL_eq]; simp
  have hd : (⟨(quoteL s ++ m).toArray⟩ : ByteArray).data.toList = quoteL s ++ m := by simp
  have hq : uqAt ⟨(quoteL s ++ m).toArray⟩ 1 [] = some (s.data.toList, 1 + (qAt s 0).length) := by
    have h1 : (quoteL s ++ m).drop 1 = qAt s 0 ++ 34 :: m := by rw [quoteL_eq]; simp
    have h2 := uq_allM (s.data.toList.drop 0).length (s.data.toList.drop 0) [] m 1 (Nat.le_refl _)
    unfold uqAt
    rw [lsz, hd, h1, uqF_fuel _ ((qAt s 0 ++ 34 :: m).length + 1) _ _ _ (by simp [hz]; omega) (by omega)]
    exact h2
  unfold unqS
  rw [if_neg, hq]
  · dsimp only
    rw [if_pos]
    · rw [hz]; congr 1; omega
    · have e : (⟨s.data.toList.toArray⟩ : ByteArray) = s := rfl
      rw [e]
      show quoteL s = List.take _ (quoteL s ++ m)
      rw [show 1 + (qAt s 0).length + 1 = (quoteL s).length by omega, List.take_left]
  · rw [lsz, hd, List.length_append]
    rintro (h | h)
    · omega
    · exact h (by rw [quoteL_eq]; rfl)
theorem unq_back {l : List UInt8} (h : (unqS ⟨l.toArray⟩).err = 0) : l = quoteL (unqS ⟨l.toArray⟩).text ++ l.drop (unqS ⟨l.toArray⟩).len ∧ (quoteL (unqS ⟨l.toArray⟩).text).length = (unqS ⟨l.toArray⟩).len := by
  obtain ⟨h1, h2, h3⟩ := unq_len h
  rw [lsz] at h2
  have hd : (⟨l.toArray⟩ : ByteArray).data.toList = l := by simp
  rw [hd] at h3
  refine ⟨by rw [h3, List.take_append_drop], by rw [h3, List.length_take]; omega⟩
/-! no line feed in a token -/
theorem hxC_ge (d : Nat) (h : d < 16) : 48 ≤ (hxC d).toNat := by
  have : ∀ d, d < 16 → 48 ≤ (hxC d).toNat := by decide
  exact this d h
theorem qpart_nl (l : List UInt8) : ∀ b ∈ qpart l, b.toNat ≠ 10 := by
  intro b hb
  have hx := atL_lt l 0
  unfold qpart at hb
  have cst : ∀ (x y : UInt8), x.toNat ≠ 10 → y.toNat ≠ 10 → b ∈ [x, y] → b.toNat ≠ 10 := by
    intro x y hx hy hb
    simp only [List.mem_cons, List.not_mem_nil, or_false] at hb
    rcases hb with rfl | rfl <;> assumption
  split at hb
  · exact cst _ _ (by decide) (by decide) hb
  split at hb
  · exact cst _ _ (by decide) (by decide) hb
  split at hb
  · exact cst _ _ (by decide) (by decide) hb
  split at hb
  · exact cst _ _ (by decide) (by decide) hb
  split at hb
  · exact cst _ _ (by decide) (by decide) hb
  split at hb
  · rcases List.mem_append.1 hb with hb | hb
    · exact cst _ _ (by decide) (by decide) hb
    · unfold hx2 at hb
      have h1 := hxC_ge (atL l 0 / 16) (by omega)
      have h2 := hxC_ge (atL l 0 % 16) (by omega)
      exact cst _ _ (by omega) (by omega) hb
  · rename_i h5
    obtain ⟨i, hi, he⟩ := at_mem hb
    rw [← he]
    by_cases hlow : atL l 0 < 128
    · have := szL_one hlow
      have : i = 0 := by omega
      subst this; omega
    · have := szL_high l i (by omega) hi
      omega
theorem qrest_nl : ∀ (n : Nat) (l : List UInt8), ∀ b ∈ qrest n l, b.toNat ≠ 10
  | 0, l, b, hb => by cases hb
  | n + 1, l, b, hb => by
    unfold qrest at hb
    split at hb
    · cases hb
    · rcases List.mem_append.1 hb with hb | hb
      · exact qpart_nl l b hb
      · exact qrest_nl n _ b hb
theorem quote_nl (s : ByteArray) : ∀ b ∈ quoteL s, b.toNat ≠ 10 := by
  intro b hb
  rw [quoteL_eq] at hb
  have h34 : (34 : UInt8).toNat ≠ 10 := by decide
  rcases List.mem_cons.1 hb with rfl | hb
  · exact h34
  · rcases List.mem_append.1 hb with hb | hb
    · exact qrest_nl _ _ b hb
    · rw [List.mem_singleton.1 hb]; exact h34
theorem nm_bytes (n : Nat) : ∀ l : List UInt8, l.length ≤ n → ∀ b ∈ l.take (nmL l), goN b.toNat = true ∨ b.toNat = 46 := by
  induction n with
  | zero => intro l h b hb; rw [List.length_eq_zero_iff.1 (Nat.le_zero.1 h)] at hb; simp at hb
  | succ n ih =>
    intro l h b hb
    rw [nmL_step] at hb
    split at hb
    · rename_i hc
      have hlt := at_lt hc.1 (by decide)
      rw [List.take_add, List.take_add_one] at hb
      rcases List.mem_append.1 hb with hb | hb
      · rcases List.mem_append.1 hb with hb | hb
        · exact .inl (runL_mem hb)
        · right
          rw [List.getElem?_eq_getElem hlt] at hb
          have : b = l[runL goN l] := by simpa using hb
          rw [this]
          have h1 := hc.1
          unfold atL at h1
          rw [List.getD_eq_getElem?_getD, List.getElem?_eq_getElem hlt] at h1
          exact h1
      · exact ih _ (by rw [List.length_drop]; omega) b hb
    · exact .inl (runL_mem hb)
theorem name_bytes (l : List UInt8) : ∀ b ∈ l.take (nameL l), goN b.toNat = true ∨ b.toNat = 46 := by
  intro b hb
  unfold nameL at hb
  split at hb
  · rename_i h46
    split at hb
    · have hne : l ≠ [] := by intro e; subst e; revert h46; decide
      rw [List.take_add] at hb
      rcases List.mem_append.1 hb with hb | hb
      · rw [take_one_at hne, List.mem_singleton] at hb
        rw [hb, h46]; right; decide
      · exact nm_bytes _ _ (Nat.le_refl _) b hb
    · simp at hb
  · split at hb
    · exact nm_bytes _ _ (Nat.le_refl _) b hb
    · simp at hb
theorem goN_ge {c : Nat} (h : goN c = true) : 48 ≤ c := by
  unfold goN letN digN at h
  simp only [Bool.or_eq_true, decide_eq_true_eq] at h
  omega
theorem sg_of {l : List UInt8} (h : stL l = 6) : sgN (atL l 0) = true := by
  unfold stL at h
  (repeat' split at h) <;> first | assumption | (simp at h)
theorem dg_of {l : List UInt8} (h : stL l = 4) : digN (atL l 0) = true := by
  unfold stL at h
  (repeat' split at h) <;> first | assumption | (simp at h)
theorem tok_nl {l : List UInt8} (h : (oneT l).2.2 = 0) : (l.take (oneT l).2.1).count 10 = 0 := by
  rw [List.count_eq_zero]
  intro hm
  have key : ∀ b ∈ l.take (oneT l).2.1, b.toNat ≠ 10 := by
    intro b hb
    unfold oneT at h hb
    split at h
    · rename_i h3
      rw [if_pos h3] at hb
      unfold nameT at h hb
      split at h
      · rename_i hf
        rw [if_pos hf] at hb
        rcases name_bytes l b hb with h4 | h4
        · have := goN_ge h4; omega
        · omega
      · simp at h
    · rename_i h3
      rw [if_neg h3] at hb
      split at h
      · rename_i h4
        rw [if_pos h4] at hb
        unfold intT at h hb
        (repeat' split at h) <;> first | (simp at h; done) | skip
        rename_i h7 h8
        rw [if_neg h7, if_pos h8] at hb
        have := runL_mem hb
        unfold digN at this
        simp only [decide_eq_true_eq] at this; omega
      · rename_i h4
        rw [if_neg h4] at hb
        split at h
        · rename_i h5
          rw [if_pos h5] at hb
          unfold textT at h hb
          split at h
          · rename_i h6
            rw [if_pos h6] at hb
            have h7 := (unq_len h6).2.2
            rw [show (⟨l.toArray⟩ : ByteArray).data.toList = l by simp] at h7
            dsimp only at hb
            rw [← h7] at hb
            exact quote_nl _ b hb
          · simp at h
        · rename_i h5
          rw [if_neg h5] at hb
          split at h
          · rename_i h6
            rw [if_pos h6] at hb
            have h7 := sg_of h6
            have hne : l ≠ [] := by intro e; subst e; revert h6; decide
            dsimp only at hb
            rw [take_one_at hne, List.mem_singleton] at hb
            have := atL_lt l 0
            rw [hb, UInt8.toNat_ofNat']
            intro e
            have e : atL l 0 = 10 := by omega
            rw [e] at h7; revert h7; decide
          · simp at h
  exact key 10 hm rfl
/-! lines -/
def upT (d : Nat) (t : TV) : TV := { t with ln := t.ln + d }
def upS (d : Nat) (r : SV) : SV := ⟨r.l.map (upT d), if r.e = 0 then r.ln else r.ln + d, r.e⟩
theorem scan_up (n d : Nat) : ∀ (l : List UInt8) (ln : Nat) (acc : List TV), l.length ≤ n → scanS l (ln + d) (acc.map (upT d)) = upS d (scanS l ln acc) := by
  induction n with
  | zero => intro l ln acc h; rw [List.length_eq_zero_iff.1 (Nat.le_zero.1 h)]; simp [scanS_nil, upS]
  | succ n ih =>
    intro l ln acc h
    by_cases hl : l = []
    · subst hl; simp [scanS_nil, upS]
    have h0 : 0 < l.length := List.length_pos_iff.2 hl
    rw [scanS_step hl, scanS_step hl]
    split
    · rw [show ln + d + 1 = ln + 1 + d by omega]; exact ih _ _ _ (by rw [List.length_drop]; omega)
    · split
      · exact ih _ _ _ (by rw [List.length_drop]; omega)
      · split
        · rename_i h2
          have := st2_run h2
          exact ih _ _ _ (by rw [List.length_drop]; omega)
        · split
          · rename_i he; unfold upS; rw [if_neg he]; rfl
          · rename_i he
            have := one_len hl (by simpa using he)
            have := ih (l.drop (oneT l).2.1) ln (acc ++ [{ (oneT l).1 with ln := ln }]) (by rw [List.length_drop]; omega)
            rw [List.map_append] at this
            exact this
theorem at_nl (l : List UInt8) : atL (10 :: l) 0 = 10 := rfl
theorem scan_ahead (d : Nat) : ∀ (l : List UInt8) (ln : Nat) (acc : List TV), scanS (List.replicate d 10 ++ l) ln acc = scanS l (ln + d) acc := by
  induction d with
  | zero => intro l ln acc; rfl
  | succ d ih =>
    intro l ln acc
    rw [List.replicate_succ, List.cons_append, scanS_step (by simp), if_pos (at_nl _)]
    show scanS (List.replicate d 10 ++ l) (ln + 1) acc = _
    rw [ih]; congr 1; omega
/-- lines ascend, from a least one to a greatest one. -/
def linesOk : Nat → List TV → Nat → Prop
  | lo, [], hi => lo ≤ hi
  | lo, t :: r, hi => lo ≤ t.ln ∧ linesOk t.ln r hi
theorem linesOk_snoc {lo hi : Nat} {t : TV} : ∀ {l : List TV} , linesOk lo l hi → t.ln = hi → linesOk lo (l ++ [t]) hi := by
  intro l
  induction l generalizing lo with
  | nil => intro h e; exact ⟨by subst e; exact h, by subst e; exact Nat.le_refl _⟩
  | cons x r ih => intro h e; exact ⟨h.1, ih h.2 e⟩
theorem linesOk_mono {lo hi hi' : Nat} (hh : hi ≤ hi') : ∀ {l : List TV}, linesOk lo l hi → linesOk lo l hi' := by
  intro l
  induction l generalizing lo with
  | nil => intro h; exact Nat.le_trans h hh
  | cons x r ih => intro h; exact ⟨h.1, ih h.2⟩
theorem scan_lines (n : Nat) : ∀ (l : List UInt8) (ln : Nat) (acc : List TV), l.length ≤ n → linesOk 1 acc ln → linesOk 1 (scanS l ln acc).l (ln + l.count 10) ∧ ((scanS l ln acc).e ≠ 0 → 1 ≤ (scanS l ln acc).ln) ∧ (scanS l ln acc).ln ≤ ln + l.count 10 := by
  induction n with
  | zero => intro l ln acc h hk; rw [List.length_eq_zero_iff.1 (Nat.le_zero.1 h)]; exact ⟨linesOk_mono (Nat.le_add_right _ _) hk, fun h => absurd rfl h, Nat.zero_le _⟩
  | succ n ih =>
    intro l ln acc h hk
    by_cases hl : l = []
    · subst hl; exact ⟨linesOk_mono (Nat.le_add_right _ _) hk, fun h => absurd rfl h, Nat.zero_le _⟩
    have h0 : 0 < l.length := List.length_pos_iff.2 hl
    have low : ∀ {lo : Nat} {x : List TV} {hi : Nat}, linesOk lo x hi → lo ≤ hi := by
      intro lo x
      induction x generalizing lo with
      | nil => intro hi h; exact h
      | cons t r ih => intro hi h; exact Nat.le_trans h.1 (ih h.2)
    have hln := low hk
    have hc : ∀ k, (l.drop k).count 10 ≤ l.count 10 := fun k => (List.drop_sublist k l).count_le 10
    rw [scanS_step hl]
    split
    · rename_i h10
      have e1 : l.count 10 = 1 + (l.drop 1).count 10 := by
        conv => lhs; rw [← List.take_append_drop 1 l]
        rw [List.count_append, take_one_at hl, h10]; rfl
      rw [e1, ← Nat.add_assoc]
      exact ih _ _ _ (by rw [List.length_drop]; omega) (linesOk_mono (Nat.le_succ _) hk)
    · split
      · have := ih (l.drop 1) ln acc (by rw [List.length_drop]; omega) hk
        exact ⟨linesOk_mono (by have := hc 1; omega) this.1, this.2.1, by have := hc 1; omega⟩
      · split
        · rename_i h2
          have h3 := st2_run h2
          have := ih (l.drop (runL nlN l)) ln acc (by rw [List.length_drop]; omega) hk
          exact ⟨linesOk_mono (by have := hc (runL nlN l); omega) this.1, this.2.1, by have := hc (runL nlN l); omega⟩
        · split
          · exact ⟨by show 1 ≤ _; omega, fun _ => hln, Nat.le_add_right _ _⟩
          · rename_i he
            have h3 := one_len hl (by simpa using he)
            have := ih (l.drop (oneT l).2.1) ln (acc ++ [{ (oneT l).1 with ln := ln }]) (by rw [List.length_drop]; omega) (linesOk_snoc hk rfl)
            exact ⟨linesOk_mono (by have := hc (oneT l).2.1; omega) this.1, this.2.1, by have := hc (oneT l).2.1; omega⟩
theorem scan_err (n : Nat) : ∀ (l : List UInt8) (ln : Nat) (acc : List TV), l.length ≤ n → ((scanS l ln acc).e = 0 → (scanS l ln acc).ln = 0) ∧ ((scanS l ln acc).e ≠ 0 → (scanS l ln acc).l = []) := by
  induction n with
  | zero => intro l ln acc h; rw [List.length_eq_zero_iff.1 (Nat.le_zero.1 h)]; exact ⟨fun _ => rfl, fun h => absurd rfl h⟩
  | succ n ih =>
    intro l ln acc h
    by_cases hl : l = []
    · subst hl; exact ⟨fun _ => rfl, fun h => absurd rfl h⟩
    have h0 : 0 < l.length := List.length_pos_iff.2 hl
    rw [scanS_step hl]
    split
    · exact ih _ _ _ (by rw [List.length_drop]; omega)
    · split
      · exact ih _ _ _ (by rw [List.length_drop]; omega)
      · split
        · rename_i h2
          have h3 := st2_run h2
          exact ih _ _ _ (by rw [List.length_drop]; omega)
        · split
          · rename_i he; exact ⟨fun h => absurd h he, fun _ => rfl⟩
          · rename_i he
            have h3 := one_len hl (by simpa using he)
            exact ih _ _ _ (by rw [List.length_drop]; omega)
/-! a text that can be printed, and something behind it -/
theorem clsN_let (c : Nat) : (clsN c = 1 ∨ clsN c = 2) ↔ letN c = true := by
  unfold clsN letN
  simp only [decide_eq_true_eq]
  (repeat' split) <;> simp <;> omega
theorem letC_let (c : UInt8) : letC c = letN c.toNat := by
  rw [Bool.eq_iff_iff, ← clsN_let]; simp [letC]
theorem goC_go (c : UInt8) : goC c = goN c.toNat := by
  rw [Bool.eq_iff_iff]
  unfold goC goN letN digN clsN
  simp only [decide_eq_true_eq, Bool.or_eq_true]
  (repeat' split) <;> simp <;> omega
/-- what may stand behind a token. -/
def Sep (m : List UInt8) : Prop := m = [] ∨ (goN (atL m 0) = false ∧ atL m 0 ≠ 46)
theorem sep_run {m : List UInt8} (h : Sep m) (l : List UInt8) : runL goN (l ++ m) = runL goN l := runL_app (h.imp id (fun h => h.1)) l
theorem sep_dig {m : List UInt8} (h : Sep m) (l : List UInt8) : runL digN (l ++ m) = runL digN l :=
  runL_app (h.imp id (fun h => by have := h.1; unfold goN at this; simp only [Bool.or_eq_false_iff] at this; exact this.1.2)) l
theorem at_app_lt {l m : List UInt8} {k : Nat} (h : k < l.length) : atL (l ++ m) k = atL l k := by
  unfold atL; rw [List.getD_eq_getElem?_getD, List.getD_eq_getElem?_getD, List.getElem?_append_left h]
theorem at_app_ge {l m : List UInt8} {k : Nat} (h : l.length ≤ k) : atL (l ++ m) k = atL m (k - l.length) := by
  unfold atL; rw [List.getD_eq_getElem?_getD, List.getD_eq_getElem?_getD, List.getElem?_append_right h]
theorem sep0 {m : List UInt8} (h : Sep m) : goN (atL m 0) = false ∧ letN (atL m 0) = false ∧ atL m 0 ≠ 46 := by
  rcases h with rfl | h
  · decide
  · refine ⟨h.1, ?_, h.2⟩
    have := h.1; unfold goN at this; simp only [Bool.or_eq_false_iff] at this; exact this.1.1
theorem nm_app {m : List UInt8} (hm : Sep m) (n : Nat) : ∀ l : List UInt8, l.length ≤ n → nmL (l ++ m) = nmL l := by
  induction n with
  | zero =>
    intro l h
    rw [List.length_eq_zero_iff.1 (Nat.le_zero.1 h)]
    have := sep0 hm
    have e : runL goN m = 0 := by have := sep_run hm []; simpa [runL] using this
    rw [List.nil_append, nmL_step, e, if_neg (fun h => this.2.2 h.1)]
    decide
  | succ n ih =>
    intro l h
    have hr := runL_le goN l
    have h0 := sep0 hm
    rw [nmL_step, nmL_step l, sep_run hm]
    by_cases hlt : runL goN l < l.length
    · rw [at_app_lt hlt]
      by_cases h46 : atL l (runL goN l) = 46
      · have hn : letN (atL (l ++ m) (runL goN l + 1)) = letN (atL l (runL goN l + 1)) := by
          by_cases h1 : runL goN l + 1 < l.length
          · rw [at_app_lt h1]
          · rw [at_app_ge (by omega), show runL goN l + 1 - l.length = 0 by omega, at_out (l := l) (by omega), h0.2.1]; decide
        rw [hn]
        split
        · rw [List.drop_append_of_le_length (by omega), ih _ (by rw [List.length_drop]; omega)]
        · rfl
      · rw [if_neg (fun h => h46 h.1), if_neg (fun h => h46 h.1)]
    · rw [at_app_ge (by omega), show runL goN l - l.length = 0 by omega, if_neg (fun h => h0.2.2 h.1), if_neg (fun h => by rw [at_out (by omega)] at h; exact absurd h.1 (by decide))]
theorem name_app {m : List UInt8} (hm : Sep m) {l : List UInt8} (hl : l ≠ []) : nameL (l ++ m) = nameL l := by
  have h0 := sep0 hm
  have hlen : 0 < l.length := List.length_pos_iff.2 hl
  unfold nameL
  rw [at_app_lt hlen, List.drop_append_of_le_length (by omega), nm_app hm _ _ (Nat.le_refl _), nm_app hm _ _ (Nat.le_refl _)]
  have h1 : letN (atL (l ++ m) 1) = letN (atL l 1) := by
    by_cases h1 : 1 < l.length
    · rw [at_app_lt h1]
    · rw [at_app_ge (by omega), show 1 - l.length = 0 by omega, at_out (l := l) (by omega), h0.2.1]; decide
  rw [h1]
/-- nor a slash behind a slash. -/
theorem st_app {m : List UInt8} (hm : Sep m) (h47 : atL m 0 ≠ 47) {l : List UInt8} (hl : l ≠ []) : stL (l ++ m) = stL l := by
  have h0 := sep0 hm
  have hlen : 0 < l.length := List.length_pos_iff.2 hl
  unfold stL
  rw [at_app_lt hlen]
  have h1 : letN (atL (l ++ m) 1) = letN (atL l 1) ∧ (atL (l ++ m) 1 = 47 ↔ atL l 1 = 47) := by
    by_cases h1 : 1 < l.length
    · rw [at_app_lt h1]; exact ⟨rfl, Iff.rfl⟩
    · rw [at_app_ge (by omega), show 1 - l.length = 0 by omega, at_out (l := l) (by omega), h0.2.1]
      exact ⟨by decide, ⟨fun h => absurd h h47, fun h => by cases h⟩⟩
  rw [h1.1]
  simp only [h1.2]
theorem one_app {m : List UInt8} (hm : Sep m) (h47 : atL m 0 ≠ 47) {l : List UInt8} (hl : l ≠ []) (h : (oneT l).2.2 = 0) : oneT (l ++ m) = oneT l := by
  have hlen : 0 < l.length := List.length_pos_iff.2 hl
  have h0 := sep0 hm
  have hst := st_app hm h47 hl
  unfold oneT at h ⊢
  rw [hst]
  split at h
  · rename_i h3
    rw [if_pos h3, if_pos h3]
    unfold nameT
    rw [name_app hm hl, List.take_append_of_le_length (nameL_le l)]
  · rename_i h3
    rw [if_neg h3, if_neg h3]
    split at h
    · rename_i h4
      rw [if_pos h4, if_pos h4]
      unfold intT at h ⊢
      rw [sep_dig hm, at_app_lt hlen, List.take_append_of_le_length (runL_le _ l)]
      have e : goN (atL (l ++ m) (runL digN l)) = goN (atL l (runL digN l)) := by
        have hr := runL_le digN l
        by_cases h1 : runL digN l < l.length
        · rw [at_app_lt h1]
        · rw [at_app_ge (by omega), show runL digN l - l.length = 0 by omega, at_out (l := l) (by omega), h0.1]; decide
      rw [e]
    · rename_i h4
      rw [if_neg h4, if_neg h4]
      split at h
      · rename_i h5
        rw [if_pos h5, if_pos h5]
        unfold textT at h ⊢
        split at h
        · rename_i h6
          obtain ⟨h7, h8⟩ := unq_back h6
          have h9 : unqS ⟨(l ++ m).toArray⟩ = unqS ⟨l.toArray⟩ := by
            generalize hu : unqS ⟨l.toArray⟩ = u at *
            have e1 : l ++ m = quoteL u.text ++ (l.drop u.len ++ m) := by rw [← List.append_assoc, ← h7]
            rw [e1, unq_quoteM, h8]
            obtain ⟨a, b, c⟩ := u
            simp only at h6; subst h6; rfl
          rw [h9]
        · simp at h
      · rename_i h5
        rw [if_neg h5, if_neg h5]
        split at h
        · rename_i h6
          rw [if_pos h6, if_pos h6, List.take_append_of_le_length (by omega)]
        · simp at h
/-! what is scanned can be printed -/
theorem undot_trim (l : List UInt8) : Lib.trimPrefix l [46] = undot l := by
  unfold Lib.trimPrefix Lib.hasPrefix undot
  cases l with
  | nil => rfl
  | cons c r =>
    rw [at_zero]
    by_cases h : c.toNat = 46
    · have : c = 46 := UInt8.toNat_inj.1 h
      subst this; simp
    · have : ¬ (46 : UInt8) = c := by intro e; subst e; exact h rfl
      rw [if_neg h]; simp [this]
theorem name_ne {l : List UInt8} (h : stL l = 3) : 1 ≤ nameL l := by
  unfold stL at h
  split at h
  · simp at h
  split at h
  · simp at h
  split at h
  · rename_i hc
    unfold nameL
    rcases hc with hc | ⟨hc, hd⟩
    · have hne : atL l 0 ≠ 46 := by intro e; rw [e] at hc; revert hc; decide
      rw [if_neg hne, if_pos hc]; exact nmL_pos hc
    · rw [if_pos hc, if_pos hd]; omega
  · (repeat' split at h) <;> simp at h
theorem wrap_back (v : Nat) (h : v < 18446744073709551616) : (IntKind.u64.wrap (IntKind.i64.wrap (v : Int))).toNat = v := by
  rw [IntKind.wrap_u64]
  have e : IntKind.i64.wrap (v : Int) = (v : Int) ∨ IntKind.i64.wrap (v : Int) = (v : Int) - 18446744073709551616 := by
    by_cases hv : v < 9223372036854775808
    · left; exact IntWalk.i64_in _ (by omega)
    · right
      simp [IntKind.wrap, IntKind.signed, IntKind.bits]
      omega
  rcases e with e | e <;> rw [e] <;> omega
theorem one_wr {l : List UInt8} (hl : l ≠ []) (h : (oneT l).2.2 = 0) (ln : Nat) : wrT { (oneT l).1 with ln := ln } ≠ [] ∧ (wrT { (oneT l).1 with ln := ln }).length ≤ (oneT l).2.1 := by
  have hlen : 0 < l.length := List.length_pos_iff.2 hl
  have hpos := one_len hl h
  have key : wrT { (oneT l).1 with ln := ln } = l.take (oneT l).2.1 := by
    unfold oneT at h ⊢
    split at h
    · rename_i h3
      rw [if_pos h3]
      unfold nameT at h ⊢
      split at h
      · rename_i hf
        rw [if_pos hf]
        unfold wrT
        dsimp only
        rw [if_neg (by simp), if_neg (by simp), if_pos]
        exact ⟨rfl, by simpa using hf⟩
      · simp at h
    · rename_i h3
      rw [if_neg h3]
      split at h
      · rename_i h4
        rw [if_pos h4]
        have hd := dg_of h4
        unfold intT at h ⊢
        (repeat' split at h) <;> first | (simp at h; done) | skip
        rename_i h7 h8
        rw [if_neg h7, if_pos h8]
        unfold wrT
        dsimp only
        rw [if_pos ⟨rfl, rfl⟩, wrap_back _ h8]
        have hr := runL_step digN (l := l) (k := 0) hlen
        rw [if_pos hd, List.drop_zero] at hr
        have hrl := runL_le digN l
        refine dec_back7 _ _ rfl ?_ ?_ ?_
        · apply List.length_pos_iff.1; rw [List.length_take]; omega
        · rw [List.all_eq_true]
          intro b hb
          have := runL_mem hb
          rw [isDig_iff]; unfold digN at this; simpa using this
        · intro h48
          rw [List.length_take]
          have h1 : l.head? = some 48 := by
            cases l with
            | nil => simp at hlen
            | cons c r => rw [hr] at h48; simpa using h48
          have h2 : atL l 0 = 48 := by
            cases l with
            | nil => simp at hlen
            | cons c r => simp at h1; subst h1; rfl
          have : ¬ 1 < runL digN l := fun h9 => h7 (.inl ⟨h9, h2⟩)
          omega
      · rename_i h4
        rw [if_neg h4]
        split at h
        · rename_i h5
          rw [if_pos h5]
          unfold textT at h ⊢
          split at h
          · rename_i h6
            rw [if_pos h6]
            have h7 := (unq_len h6).2.2
            rw [show (⟨l.toArray⟩ : ByteArray).data.toList = l by simp] at h7
            unfold wrT
            dsimp only
            rw [if_neg (by simp), if_neg (by simp), if_neg (by simp), if_pos rfl, h7]
          · simp at h
        · rename_i h5
          rw [if_neg h5]
          split at h
          · rename_i h6
            rw [if_pos h6]
            have h7 := sg_of h6
            unfold wrT
            dsimp only
            rw [if_neg (by simp), if_neg (by simp), if_neg (by simp), if_neg (by simp), if_pos]
            refine ⟨rfl, by rw [lsz, List.length_take]; omega, ?_⟩
            rw [take_one_at hl]
            have := atL_lt l 0
            show sgN (UInt8.ofNat (atL l 0)).toNat = true
            rw [UInt8.toNat_ofNat', Nat.mod_eq_of_lt (by omega)]; exact h7
          · simp at h
  rw [key]
  refine ⟨?_, by rw [List.length_take]; omega⟩
  apply List.length_pos_iff.1; rw [List.length_take]; omega
theorem prL_snoc_len (l : List TV) (t : TV) : (prL (l ++ [t])).length ≤ (prL l).length + (wrT t).length + 2 := by
  induction l with
  | nil =>
    have : (sepT t true).length ≤ 1 := by unfold sepT; (repeat' split) <;> simp
    simp only [List.nil_append, prL, List.isEmpty_nil, List.append_nil, List.length_append, List.length_nil]
    omega
  | cons x r ih =>
    cases r with
    | nil =>
      have h1 : (sepT x false).length ≤ (sepT x true).length + 1 := by unfold sepT; (repeat' split) <;> simp
      simp only [List.cons_append, List.nil_append, prL, List.isEmpty_cons, List.isEmpty_nil, List.append_nil, List.length_append] at ih ⊢
      have h2 : (sepT t true).length ≤ 1 := by unfold sepT; (repeat' split) <;> simp
      omega
    | cons y r =>
      simp only [List.cons_append, prL, List.isEmpty_cons, List.length_append] at ih ⊢
      omega
theorem scan_pr (n : Nat) : ∀ (l : List UInt8) (ln : Nat) (acc : List TV), l.length ≤ n → badT acc = false → (scanS l ln acc).e = 0 → badT (scanS l ln acc).l = false ∧ (prL (scanS l ln acc).l).length ≤ (prL acc).length + 3 * l.length := by
  induction n with
  | zero => intro l ln acc h hb he; rw [List.length_eq_zero_iff.1 (Nat.le_zero.1 h)]; exact ⟨hb, Nat.le_add_right _ _⟩
  | succ n ih =>
    intro l ln acc h hb
    by_cases hl : l = []
    · subst hl; intro _; exact ⟨hb, Nat.le_add_right _ _⟩
    have h0 : 0 < l.length := List.length_pos_iff.2 hl
    rw [scanS_step hl]
    split
    · intro he
      have := ih (l.drop 1) _ acc (by rw [List.length_drop]; omega) hb he
      rw [List.length_drop] at this
      exact ⟨this.1, by omega⟩
    · split
      · intro he
        have := ih (l.drop 1) _ acc (by rw [List.length_drop]; omega) hb he
        rw [List.length_drop] at this
        exact ⟨this.1, by omega⟩
      · split
        · rename_i h2
          have h3 := st2_run h2
          intro he
          have := ih (l.drop (runL nlN l)) _ acc (by rw [List.length_drop]; omega) hb he
          rw [List.length_drop] at this
          exact ⟨this.1, by omega⟩
        · split
          · rename_i he; intro h; exact absurd h he
          · rename_i he
            have he : (oneT l).2.2 = 0 := by simpa using he
            have h3 := one_len hl he
            have h4 := one_wr hl he ln
            intro hs
            have := ih (l.drop (oneT l).2.1) _ _ (by rw [List.length_drop]; omega) (by
              unfold badT at hb ⊢
              rw [List.any_append, hb]
              simpa using h4.1) hs
            have h5 := prL_snoc_len acc { (oneT l).1 with ln := ln }
            rw [List.length_drop] at this
            exact ⟨this.1, by omega⟩
end Go.Proofs.YtiodkdafoocofaaGreatDoor.Y
