/- Tokens, plain: printed tokens are read again; spaces and comments change nothing but lines. No program. -/
import Derived.Test.YtiodkdafoocofaaGreatDoorTokRnd
namespace Go.Proofs.YtiodkdafoocofaaGreatDoor.Y
open Go.RowKit
/-! full names -/
theorem dotP_split : ∀ p : List UInt8, ∃ q ps, dotP p = q :: ps ∧ ((ps = [] ∧ p = q) ∨ ∃ p', p = q ++ 46 :: p' ∧ dotP p' = ps)
  | [] => ⟨[], [], rfl, .inl ⟨rfl, rfl⟩⟩
  | c :: r => by
    by_cases h : c = 46
    · subst h
      exact ⟨[], dotP r, by simp [dotP], .inr ⟨r, rfl, rfl⟩⟩
    · obtain ⟨q, ps, h1, h2⟩ := dotP_split r
      refine ⟨c :: q, ps, by rw [dotP, if_neg h, h1], ?_⟩
      rcases h2 with ⟨h2, h3⟩ | ⟨p', h2, h3⟩
      · exact .inl ⟨h2, by rw [h3]⟩
      · exact .inr ⟨p', by rw [h2]; rfl, h3⟩
theorem part_facts {q : List UInt8} (h : partOk q = true) : letN (atL q 0) = true ∧ (∀ b ∈ q, goN b.toNat = true) := by
  unfold partOk at h
  simp only [Bool.and_eq_true] at h
  constructor
  · have := h.1.2
    cases q with
    | nil => simp [letH] at this
    | cons c r => rw [at_zero, ← letC_let]; exact this
  · intro b hb
    rw [← goC_go]; exact List.all_eq_true.1 h.2 b hb
theorem full_name (n : Nat) : ∀ p : List UInt8, p.length ≤ n → (dotP p).all partOk = true → letN (atL p 0) = true ∧ nmL p = p.length := by
  induction n with
  | zero => intro p h h2; have hp := List.length_eq_zero_iff.1 (Nat.le_zero.1 h); subst hp; revert h2; decide
  | succ n ih =>
    intro p h h2
    obtain ⟨q, ps, h3, h4⟩ := dotP_split p
    rw [h3, List.all_cons, Bool.and_eq_true] at h2
    obtain ⟨f1, f2⟩ := part_facts h2.1
    have hq : q ≠ [] := by intro e; subst e; revert f1; decide
    have hq0 : 0 < q.length := List.length_pos_iff.2 hq
    rcases h4 with ⟨rfl, rfl⟩ | ⟨p', rfl, rfl⟩
    · refine ⟨f1, ?_⟩
      rw [nmL_step, runL_full f2, if_neg (fun h => by rw [at_out (Nat.le_refl _)] at h; exact absurd h.1 (by decide))]
    · have hl : (q ++ 46 :: p').length = q.length + 1 + p'.length := by simp; omega
      obtain ⟨g1, g2⟩ := ih p' (by omega) h2.2
      have e1 : runL goN (q ++ 46 :: p') = q.length := by rw [runL_app (.inr (by rw [at_zero]; decide)), runL_full f2]
      have e2 : atL (q ++ 46 :: p') q.length = 46 := by rw [at_app_ge (Nat.le_refl _), Nat.sub_self]; rfl
      have e3 : atL (q ++ 46 :: p') (q.length + 1) = atL p' 0 := by rw [at_app_ge (by omega), show q.length + 1 - q.length = 0 + 1 by omega, at_cons]
      have e4 : (q ++ 46 :: p').drop (q.length + 1) = p' := by
        have := List.drop_left (l₁ := q ++ [46]) (l₂ := p')
        rw [List.append_assoc] at this
        rw [List.length_append] at this
        exact this
      refine ⟨by rw [at_app_lt hq0]; exact f1, ?_⟩
      rw [nmL_step, e1, e2, e3, if_pos ⟨rfl, g1⟩, e4, g2, hl]
theorem fit_name {t : List UInt8} (h : fitL t = true) : nameL t = t.length ∧ stL t = 3 ∧ t ≠ [] := by
  unfold fitL fullOk at h
  rw [Bool.and_eq_true] at h
  obtain ⟨h1, h2⟩ := full_name _ _ (Nat.le_refl _) h.2
  unfold undot at h1 h2
  by_cases h46 : atL t 0 = 46
  · rw [if_pos h46] at h1 h2
    rw [drop_at] at h1
    have hlt := at_lt h46 (by decide)
    refine ⟨?_, ?_, List.length_pos_iff.1 hlt⟩
    · unfold nameL
      rw [if_pos h46, if_pos h1, h2, List.length_drop]; omega
    · unfold stL
      rw [if_neg (by rw [h46]; decide), if_neg (by omega), if_pos (.inr ⟨h46, h1⟩)]
  · rw [if_neg h46] at h1 h2
    have hne : t ≠ [] := by intro e; subst e; revert h1; decide
    refine ⟨?_, ?_, hne⟩
    · unfold nameL
      rw [if_neg h46, if_pos h1, h2]
    · have : ¬ spN (atL t 0) = true ∧ atL t 0 ≠ 47 := by
        unfold letN at h1; unfold spN
        simp only [decide_eq_true_eq] at h1 ⊢
        omega
      unfold stL
      rw [if_neg this.1, if_neg (fun h => this.2 h.1), if_pos (.inl h1)]
theorem dig_not {c : Nat} (h : digN c = true) : spN c = false ∧ c ≠ 47 ∧ letN c = false ∧ c ≠ 46 := by
  unfold digN at h; unfold spN letN
  simp only [decide_eq_true_eq, decide_eq_false_iff_not] at h ⊢
  omega
theorem sg_not {c : Nat} (h : sgN c = true) : spN c = false ∧ c ≠ 47 ∧ letN c = false ∧ c ≠ 46 ∧ digN c = false ∧ c ≠ 34 := by
  unfold sgN at h; unfold spN letN digN
  simp only [decide_eq_true_eq, decide_eq_false_iff_not] at h ⊢
  omega
theorem wrap_same {n : Int} (h : -9223372036854775808 ≤ n ∧ n ≤ 9223372036854775807) : IntKind.i64.wrap (((IntKind.u64.wrap n).toNat : Nat) : Int) = n ∧ (IntKind.u64.wrap n).toNat < 18446744073709551616 := by
  rw [IntKind.wrap_i64, IntKind.wrap_u64]; omega
theorem isDig_dig (b : UInt8) : isDig b = digN b.toNat := by
  rw [Bool.eq_iff_iff, isDig_iff]; unfold digN; simp
/-- a token, written, is read again. -/
theorem wr_one {t : TV} (hn : -9223372036854775808 ≤ t.n ∧ t.n ≤ 9223372036854775807) (h : wrT t ≠ []) : stL (wrT t) ≠ 1 ∧ stL (wrT t) ≠ 2 ∧ oneT (wrT t) = ({ t with ln := 0 }, (wrT t).length, 0) := by
  obtain ⟨k, x, n, ln⟩ := t
  unfold wrT at h ⊢
  dsimp only at hn h ⊢
  split at h
  · rename_i hc
    rw [if_pos hc]
    obtain ⟨rfl, hx⟩ := hc
    obtain ⟨w1, w2⟩ := wrap_same hn
    have hall : ∀ b ∈ Lib.decDigits (IntKind.u64.wrap n).toNat, digN b.toNat = true := fun b hb => by rw [← isDig_dig]; exact List.all_eq_true.1 (dec_all _) b hb
    have hhd := dec_head (IntKind.u64.wrap n).toNat
    have hv := dec_val (IntKind.u64.wrap n).toNat
    have h0 : (IntKind.u64.wrap n).toNat = 0 → (Lib.decDigits (IntKind.u64.wrap n).toNat).length = 1 := by
      intro e; rw [e, Lib.decDigits_one (by decide)]; rfl
    generalize Lib.decDigits (IntKind.u64.wrap n).toNat = l at *
    have hlen : 0 < l.length := List.length_pos_iff.2 h
    have hd : digN (atL l 0) = true := by
      cases l with
      | nil => exact absurd rfl h
      | cons c r => exact hall c (List.mem_cons_self ..)
    obtain ⟨d1, d2, d3, d4⟩ := dig_not hd
    have hst : stL l = 4 := by
      unfold stL
      rw [if_neg (by rw [d1]; decide), if_neg (fun h => d2 h.1), if_neg (by rw [d3]; rintro (h | h); exact absurd h (by decide); exact d4 h.1), if_pos hd]
    refine ⟨by omega, by omega, ?_⟩
    unfold oneT
    rw [if_neg (by omega), if_pos hst]
    unfold intT
    rw [runL_full hall, List.take_length, hv, at_out (Nat.le_refl _), if_neg, if_pos w2, w1]
    · have : x = ⟨#[]⟩ := by
        obtain ⟨⟨x⟩⟩ := x
        have : x = [] := List.length_eq_zero_iff.1 hx
        subst this; rfl
      rw [this]
    · rintro (⟨h1, h2⟩ | h1)
      · by_cases hz : (IntKind.u64.wrap n).toNat = 0
        · have := h0 hz; omega
        · refine hhd (by omega) ?_
          cases l with
          | nil => exact absurd rfl h
          | cons c r =>
            have : c = 48 := UInt8.toNat_inj.1 h2
            rw [this]; rfl
      · exact absurd h1 (by decide)
  rename_i hc
  rw [if_neg hc]
  split at h
  · exact absurd rfl h
  rename_i hn0
  have hn0 : n = 0 := by simpa using hn0
  subst hn0
  rw [if_neg (by simp)]
  split at h
  · rename_i hk
    rw [if_pos hk]
    obtain ⟨rfl, hf⟩ := hk
    obtain ⟨f1, f2, f3⟩ := fit_name hf
    refine ⟨by omega, by omega, ?_⟩
    unfold oneT
    rw [if_pos f2]
    unfold nameT
    rw [f1, List.take_length, if_pos hf]
  rename_i hk
  rw [if_neg hk]
  split at h
  · rename_i hk2
    subst hk2
    rw [if_pos rfl]
    have h34 : atL (quoteL x) 0 = 34 := by rw [quoteL_eq]; rfl
    have hst : stL (quoteL x) = 5 := by unfold stL; rw [h34]; rfl
    refine ⟨by omega, by omega, ?_⟩
    unfold oneT
    rw [if_neg (by omega), if_neg (by omega), if_pos hst]
    unfold textT
    have := unq_quoteM x []
    rw [List.append_nil] at this
    rw [this, if_pos rfl]
  rename_i hk2
  rw [if_neg hk2]
  split at h
  · rename_i hk3
    rw [if_pos hk3]
    obtain ⟨rfl, hs, hg⟩ := hk3
    obtain ⟨d1, d2, d3, d4, d5, d6⟩ := sg_not hg
    have hst : stL x.data.toList = 6 := by
      unfold stL
      rw [if_neg (by rw [d1]; decide), if_neg (fun h => d2 h.1), if_neg (by rw [d3]; rintro (h | h); exact absurd h (by decide); exact d4 h.1), if_neg (by rw [d5]; decide), if_neg d6, if_pos hg]
    refine ⟨by omega, by omega, ?_⟩
    unfold oneT
    have hl : x.data.toList.length = 1 := by rw [len_bytes]; exact hs
    rw [if_neg (by omega), if_neg (by omega), if_neg (by omega), if_pos hst, hl, List.take_of_length_le (by omega)]
  · exact absurd rfl h
theorem sameT_eq {a b : TV} : sameT a b = true ↔ a.k = b.k ∧ a.t = b.t ∧ a.n = b.n := by
  unfold sameT
  simp only [Bool.and_eq_true, beq_iff_eq]
  constructor
  · rintro ⟨⟨h1, h2⟩, h3⟩; exact ⟨h1, ByteArray.ext (Array.ext' h2), h3⟩
  · rintro ⟨h1, h2, h3⟩; exact ⟨⟨h1, by rw [h2]⟩, h3⟩
theorem sameL_refl : ∀ l : List TV, sameL l l = true
  | [] => rfl
  | t :: r => by rw [sameL, sameT_eq.2 ⟨rfl, rfl, rfl⟩, sameL_refl r]; rfl
theorem sameL_up (d : Nat) : ∀ l : List TV, sameL l (l.map (upT d)) = true
  | [] => rfl
  | t :: r => by rw [List.map_cons, sameL, show sameT t (upT d t) = true from sameT_eq.2 ⟨rfl, rfl, rfl⟩, sameL_up d r]; rfl
theorem wrT_same {a b : TV} (h : sameT a b = true) : wrT a = wrT b := by
  obtain ⟨h1, h2, h3⟩ := sameT_eq.1 h
  unfold wrT; rw [h1, h2, h3]
theorem sepT_same {a b : TV} (h : sameT a b = true) (q : Bool) : sepT a q = sepT b q := by
  have h1 := (sameT_eq.1 h).1
  have h2 := wrT_same h
  unfold sepT; rw [h1, h2]
theorem prL_same : ∀ {a b : List TV}, sameL a b = true → prL a = prL b ∧ badT a = badT b ∧ a.length = b.length
  | [], [], _ => ⟨rfl, rfl, rfl⟩
  | [], _ :: _, h => by cases h
  | _ :: _, [], h => by cases h
  | a :: x, b :: y, h => by
    rw [sameL, Bool.and_eq_true] at h
    obtain ⟨h1, h2, h3⟩ := prL_same h.2
    have he : x.isEmpty = y.isEmpty := by cases x <;> cases y <;> simp_all
    refine ⟨by rw [prL, prL, wrT_same h.1, sepT_same h.1, h1, he], ?_, by simp [h3]⟩
    unfold badT at h2 ⊢
    rw [List.any_cons, List.any_cons, wrT_same h.1, h2]
theorem sp_sep {m : List UInt8} (h : m = [] ∨ atL m 0 = 10 ∨ atL m 0 = 32) : Sep m ∧ atL m 0 ≠ 47 := by
  rcases h with rfl | h | h
  · exact ⟨.inl rfl, by decide⟩
  · exact ⟨.inr (by rw [h]; decide), by omega⟩
  · exact ⟨.inr (by rw [h]; decide), by omega⟩
theorem scan_print : ∀ (toks : List TV) (ln : Nat) (acc : List TV), (∀ t ∈ toks, wrT t ≠ [] ∧ -9223372036854775808 ≤ t.n ∧ t.n ≤ 9223372036854775807) → ∃ toks', scanS (prL toks) ln acc = ⟨acc ++ toks', 0, 0⟩ ∧ sameL toks toks' = true
  | [], ln, acc, _ => ⟨[], by simp [prL, scanS_nil], rfl⟩
  | t :: r, ln, acc, h => by
    obtain ⟨h1, h2⟩ := h t (List.mem_cons_self ..)
    obtain ⟨w1, w2, w3⟩ := wr_one h2 h1
    have hm : (sepT t r.isEmpty ++ prL r) = [] ∨ atL (sepT t r.isEmpty ++ prL r) 0 = 10 ∨ atL (sepT t r.isEmpty ++ prL r) 0 = 32 := by
      unfold sepT
      split
      · exact .inr (.inl rfl)
      · split
        · rename_i hr
          have : r = [] := by simpa using hr
          subst this; exact .inl rfl
        · exact .inr (.inr rfl)
    obtain ⟨s1, s2⟩ := sp_sep hm
    have hne : wrT t ++ (sepT t r.isEmpty ++ prL r) ≠ [] := fun e => h1 (List.append_eq_nil_iff.1 e).1
    have hst := st_app s1 s2 h1
    have hone : oneT (wrT t ++ (sepT t r.isEmpty ++ prL r)) = ({ t with ln := 0 }, (wrT t).length, 0) := by rw [one_app s1 s2 h1 (by rw [w3]), w3]
    have h10 : atL (wrT t ++ (sepT t r.isEmpty ++ prL r)) 0 ≠ 10 := by
      intro e
      have : stL (wrT t ++ (sepT t r.isEmpty ++ prL r)) = 1 := (st_cons _).2 (by rw [e]; decide)
      rw [hst] at this; exact w1 this
    have hstep : scanS (prL (t :: r)) ln acc = scanS (sepT t r.isEmpty ++ prL r) ln (acc ++ [{ t with ln := ln }]) := by
      rw [prL, List.append_assoc, scanS_step hne, if_neg h10, hst, if_neg w1, if_neg w2, hone, if_neg (by simp)]
      dsimp only
      rw [List.drop_left]
    have hr := fun ln acc => scan_print r ln acc (fun t ht => h t (List.mem_cons_of_mem _ ht))
    have fin : ∀ ln', ∃ toks', scanS (prL r) ln' (acc ++ [{ t with ln := ln }]) = ⟨acc ++ toks', 0, 0⟩ ∧ sameL (t :: r) toks' = true := by
      intro ln'
      obtain ⟨x, h3, h4⟩ := hr ln' (acc ++ [{ t with ln := ln }])
      exact ⟨{ t with ln := ln } :: x, by rw [h3]; simp, by rw [sameL, show sameT t { t with ln := ln } = true from sameT_eq.2 ⟨rfl, rfl, rfl⟩, h4]; rfl⟩
    rw [hstep]
    unfold sepT
    split
    · rw [List.singleton_append, scanS_step (by simp), if_pos (at_nl _)]
      exact fin (ln + 1)
    · split
      · exact fin ln
      · rw [List.singleton_append, scanS_step (by simp), if_neg (by rw [at_zero]; decide), if_pos ((st_cons _).2 (by rw [at_zero]; decide))]
        exact fin ln
theorem print_scan {l : List TV} (hn : ∀ t ∈ l, -9223372036854775808 ≤ t.n ∧ t.n ≤ 9223372036854775807) (h : printL l ≠ []) : (scanL (printL l)).e = 0 ∧ sameL l (scanL (printL l)).l = true ∧ printL (scanL (printL l)).l = printL l := by
  unfold printL at h
  split at h
  · exact absurd rfl h
  · rename_i hc
    have hb : badT l = false := by simpa using fun h => hc (.inl h)
    have hlen : ¬ (prL l).length > 16384 := fun h => hc (.inr h)
    have e : printL l = prL l := by unfold printL; rw [if_neg hc]
    rw [e]
    obtain ⟨x, h1, h2⟩ := scan_print l 1 [] (fun t ht => ⟨by
      intro e
      unfold badT at hb
      rw [List.any_eq_false] at hb
      exact hb t ht (by rw [e]; rfl), hn t ht⟩)
    have hs : scanL (prL l) = ⟨x, 0, 0⟩ := by unfold scanL; rw [if_neg hlen, h1]; rfl
    rw [hs]
    obtain ⟨p1, p2, p3⟩ := prL_same h2
    refine ⟨rfl, h2, ?_⟩
    dsimp only
    unfold printL
    rw [← p1, ← p2, if_neg hc]
/-! spaces and comments around -/
theorem scan_ext {m' : List UInt8} (hm1 : ∀ ln acc, scanS (13 :: 10 :: m') ln acc = ⟨acc, 0, 0⟩) (hm2 : ∀ ln acc, scanS (10 :: m') ln acc = ⟨acc, 0, 0⟩) (n : Nat) :
    ∀ (l : List UInt8) (ln : Nat) (acc : List TV), l.length ≤ n → (scanS l ln acc).e = 0 → scanS (l ++ 13 :: 10 :: m') ln acc = scanS l ln acc := by
  have hsep : Sep (13 :: 10 :: m') := .inr (by rw [at_zero]; decide)
  have h47 : atL (13 :: 10 :: m') 0 ≠ 47 := by rw [at_zero]; decide
  induction n with
  | zero =>
    intro l ln acc h _
    rw [List.length_eq_zero_iff.1 (Nat.le_zero.1 h), List.nil_append, hm1]; rfl
  | succ n ih =>
    intro l ln acc h
    by_cases hl : l = []
    · subst hl; intro _; rw [List.nil_append, hm1]; rfl
    have h0 : 0 < l.length := List.length_pos_iff.2 hl
    have hne : l ++ 13 :: 10 :: m' ≠ [] := by simp
    rw [scanS_step hl, scanS_step hne, at_app_lt h0, st_app hsep h47 hl]
    split
    · rw [List.drop_append_of_le_length (by omega)]
      exact ih _ _ _ (by rw [List.length_drop]; omega)
    · split
      · rw [List.drop_append_of_le_length (by omega)]
        exact ih _ _ _ (by rw [List.length_drop]; omega)
      · split
        · rename_i h2
          have h3 := st2_run h2
          have h4 := runL_le nlN l
          intro he
          by_cases hlt : runL nlN l < l.length
          · have hs := runL_stop hlt
            have e : runL nlN (l ++ 13 :: 10 :: m') = runL nlN l := by
              have e1 : l ++ 13 :: 10 :: m' = l.take (runL nlN l) ++ (l.drop (runL nlN l) ++ 13 :: 10 :: m') := by rw [← List.append_assoc, List.take_append_drop]
              rw [e1, runL_app (.inr ?_), runL_full (fun b hb => runL_mem hb), List.length_take]
              · omega
              · rw [at_app_lt (by rw [List.length_drop]; omega), drop_at]; exact hs
            rw [e, List.drop_append_of_le_length (by omega)]
            exact ih _ _ _ (by rw [List.length_drop]; omega) he
          · have hend : runL nlN l = l.length := by omega
            have hall : ∀ b ∈ l ++ [13], nlN b.toNat = true := by
              intro b hb
              rcases List.mem_append.1 hb with hb | hb
              · have := List.take_length (l := l); rw [← hend] at this; rw [← this] at hb; exact runL_mem hb
              · rw [List.mem_singleton.1 hb]; decide
            have e : runL nlN (l ++ 13 :: 10 :: m') = l.length + 1 := by
              have e1 : l ++ 13 :: 10 :: m' = (l ++ [13]) ++ 10 :: m' := by simp
              rw [e1, runL_app (.inr (by rw [at_zero]; decide)), runL_full hall]; simp
            have e2 : (l ++ 13 :: 10 :: m').drop (l.length + 1) = 10 :: m' := by
              have := List.drop_left (l₁ := l ++ [13]) (l₂ := 10 :: m')
              rw [List.append_assoc] at this
              rw [List.length_append] at this
              exact this
            rw [e, e2, hm2, hend, List.drop_length, scanS_nil]
        · split
          · rename_i he; intro h; exact absurd h he
          · rename_i he
            have he' : (oneT l).2.2 = 0 := by simpa using he
            have h3 := one_len hl he'
            rw [one_app hsep h47 hl he', if_neg he, List.drop_append_of_le_length h3.2]
            exact ih _ _ _ (by rw [List.length_drop]; omega)
def tailB7 : List UInt8 := [32, 10, 47, 47, 32, 116, 104, 101, 114, 101]
def headB7 : List UInt8 := [47, 47, 32, 104, 101, 114, 101, 10, 9]
theorem tail_scan (ln : Nat) (acc : List TV) : scanS (10 :: tailB7) ln acc = ⟨acc, 0, 0⟩ := by
  unfold tailB7
  rw [scanS_step (by simp), if_pos (by decide), List.drop_succ_cons, List.drop_zero, scanS_step (by simp), if_neg (by decide), if_pos (by decide), List.drop_succ_cons, List.drop_zero, scanS_step (by simp), if_pos (by decide), List.drop_succ_cons, List.drop_zero, scanS_step (by simp), if_neg (by decide), if_neg (by decide), if_pos (by decide)]
  rfl
theorem tail_scan13 (ln : Nat) (acc : List TV) : scanS (13 :: 10 :: tailB7) ln acc = ⟨acc, 0, 0⟩ := by
  rw [scanS_step (by simp), if_neg (by decide), if_pos (by decide), List.drop_succ_cons, List.drop_zero, tail_scan]
theorem head_scan (l : List UInt8) (ln : Nat) (acc : List TV) : scanS (headB7 ++ l) ln acc = scanS l (ln + 1) acc := by
  have e1 : runL nlN (headB7 ++ l) = 7 := rfl
  have e2 : (headB7 ++ l).drop 7 = 10 :: 9 :: l := rfl
  rw [scanS_step (by simp [headB7]), if_neg (by show ¬ (47 : UInt8).toNat = 10; decide), if_neg, if_pos, e1, e2, scanS_step (by simp), if_pos (at_nl _), List.drop_succ_cons, List.drop_zero, scanS_step (by simp), if_neg (by rw [at_zero]; decide), if_pos ((st_cons _).2 (by rw [at_zero]; decide)), List.drop_succ_cons, List.drop_zero]
  · rfl
  · intro h
    have := (st_cons _).1 h
    exact absurd this (by show ¬ spN (47 : UInt8).toNat = true; decide)
theorem scan_around {l : List UInt8} (h : (scanS l 1 []).e = 0) : scanS (headB7 ++ l ++ 13 :: 10 :: tailB7) 1 [] = ⟨(scanS l 1 []).l.map (upT 1), 0, 0⟩ := by
  have h1 := scan_up l.length 1 l 1 [] (Nat.le_refl _)
  have h2 : (scanS l (1 + 1) []).e = 0 := by
    have := congrArg SV.e h1
    exact this.trans h
  rw [List.append_assoc, head_scan, scan_ext tail_scan13 tail_scan _ _ _ _ (Nat.le_refl _) h2]
  have h3 := (scan_err _ l 1 [] (Nat.le_refl _)).1 h
  rw [show scanS l (1 + 1) [] = upS 1 (scanS l 1 []) from h1]
  unfold upS
  rw [if_pos h, h, h3]
theorem scan_print2 {l : List UInt8} (hlen : l.length ≤ 3000) (h : (scanL l).e = 0) (hn : ∀ t ∈ (scanL l).l, -9223372036854775808 ≤ t.n ∧ t.n ≤ 9223372036854775807) : (scanL (printL (scanL l).l)).e = 0 ∧ sameL (scanL l).l (scanL (printL (scanL l).l)).l = true := by
  have e : scanL l = scanS l 1 [] := by unfold scanL; rw [if_neg (by omega)]
  rw [e] at h hn ⊢
  obtain ⟨h1, h2⟩ := scan_pr _ l 1 [] (Nat.le_refl _) rfl h
  have h2 : (prL (scanS l 1 []).l).length ≤ 3 * l.length := by simpa [prL] using h2
  have e2 : printL (scanS l 1 []).l = prL (scanS l 1 []).l := by
    unfold printL; rw [if_neg]; rw [h1]; rintro (h | h); exact absurd h (by decide); omega
  rw [e2]
  obtain ⟨x, h3, h4⟩ := scan_print _ 1 [] (fun t ht => ⟨by
      intro e
      unfold badT at h1
      rw [List.any_eq_false] at h1
      exact h1 t ht (by rw [e]; rfl), hn t ht⟩)
  have hs : scanL (prL (scanS l 1 []).l) = ⟨x, 0, 0⟩ := by unfold scanL; rw [if_neg (by omega), h3]; rfl
  rw [hs]; exact ⟨rfl, h4⟩
/-- the numbers of tokens that are read. -/
theorem one_num {l : List UInt8} : -9223372036854775808 ≤ (oneT l).1.n ∧ (oneT l).1.n ≤ 9223372036854775807 := by
  unfold oneT nameT intT textT TV.nil
  (repeat' split) <;> dsimp only <;> first | omega | (rw [IntKind.wrap_i64]; omega)
theorem scan_num (n : Nat) : ∀ (l : List UInt8) (ln : Nat) (acc : List TV), l.length ≤ n → (∀ t ∈ acc, -9223372036854775808 ≤ t.n ∧ t.n ≤ 9223372036854775807) → ∀ t ∈ (scanS l ln acc).l, -9223372036854775808 ≤ t.n ∧ t.n ≤ 9223372036854775807 := by
  induction n with
  | zero => intro l ln acc h ha; rw [List.length_eq_zero_iff.1 (Nat.le_zero.1 h)]; exact ha
  | succ n ih =>
    intro l ln acc h ha
    by_cases hl : l = []
    · subst hl; exact ha
    have h0 : 0 < l.length := List.length_pos_iff.2 hl
    rw [scanS_step hl]
    split
    · exact ih _ _ _ (by rw [List.length_drop]; omega) ha
    · split
      · exact ih _ _ _ (by rw [List.length_drop]; omega) ha
      · split
        · rename_i h2
          have h3 := st2_run h2
          exact ih _ _ _ (by rw [List.length_drop]; omega) ha
        · split
          · intro t ht; cases ht
          · rename_i he
            have h3 := one_len hl (by simpa using he)
            refine ih _ _ _ (by rw [List.length_drop]; omega) ?_
            intro t ht
            rcases List.mem_append.1 ht with ht | ht
            · exact ha t ht
            · rw [List.mem_singleton.1 ht]; exact one_num
end Go.Proofs.YtiodkdafoocofaaGreatDoor.Y
