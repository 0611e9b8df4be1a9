/- Scalar values: what is written is read again, and nothing else is read. No program. -/
import Derived.Test.YtihpeophmijaaaaDoorParLaw
import Derived.Test.YtihpeophmijaaaaDoorQRnd
namespace Go.Proofs.YtihpeophmijaaaaDoor.Y
open Go.RowKit
theorem val_pos {c : UInt8} {r : List UInt8} (h : isDig c = true) (h48 : c.toNat ≠ 48) : 0 < valN (c :: r) := by
  rw [isDig_iff] at h
  unfold valN
  rw [valF_cons]
  have := valF_le r (0 * 10 + (c.toNat - 48))
  omega
theorem dec_back : ∀ (n : Nat) (l : List UInt8), l.length = n → l ≠ [] → l.all isDig = true → (l.head? = some 48 → l.length = 1) → Lib.decDigits (valN l) = l
  | 0, l, h, hne, _, _ => absurd (List.length_eq_zero_iff.1 h) hne
  | n + 1, l, h, hne, hd, h0 => by
    obtain ⟨m, c, rfl⟩ : ∃ m c, l = m ++ [c] := ⟨l.dropLast, l.getLast hne, (List.dropLast_concat_getLast hne).symm⟩
    rw [List.all_append, Bool.and_eq_true] at hd
    have hc : isDig c = true := by simpa using hd.2
    have hc' := (isDig_iff c).1 hc
    have hv : valN (m ++ [c]) = valN m * 10 + (c.toNat - 48) := by unfold valN; rw [valF_snoc]
    have ec : ∀ d, d = c.toNat - 48 → UInt8.ofNat (48 + d) = c := by
      intro d hd
      rw [hd, show 48 + (c.toNat - 48) = c.toNat by omega, UInt8.ofNat_toNat]
    rw [hv]
    cases m with
    | nil =>
      have e : valN ([] : List UInt8) = 0 := rfl
      rw [e, Nat.zero_mul, Nat.zero_add, Lib.decDigits_one (by omega), ec _ rfl]; rfl
    | cons a m =>
      have ha : isDig a = true := by
        have := hd.1
        simp only [List.all_cons, Bool.and_eq_true] at this; exact this.1
      have h48 : a.toNat ≠ 48 := by
        intro e
        have e2 : a = 48 := UInt8.toNat_inj.1 e
        subst e2
        have := h0 rfl
        simp at this
      have hp := val_pos (r := m) ha h48
      rw [dec_step _ (by omega), show (valN (a :: m) * 10 + (c.toNat - 48)) / 10 = valN (a :: m) by omega, show (valN (a :: m) * 10 + (c.toNat - 48)) % 10 = c.toNat - 48 by omega, ec _ rfl]
      rw [dec_back n (a :: m) (by simp only [List.length_append, List.length_cons, List.length_nil] at h ⊢; omega) (by simp) hd.1 (fun e => absurd (congrArg UInt8.toNat (Option.some.inj e)) h48)]
theorem dig_neg (u : Nat) : negL (Lib.decDigits u) = false := by
  unfold negL
  cases h : Lib.decDigits u with
  | nil => rfl
  | cons c r =>
    have := dec_all u
    rw [h] at this
    simp only [List.all_cons, Bool.and_eq_true, isDig_iff] at this
    show (some c == some 45) = false
    rw [beq_eq_false_iff_ne]
    intro e
    have e2 := congrArg UInt8.toNat (Option.some.inj e)
    have : (45 : UInt8).toNat = 45 := rfl
    omega
theorem decS_pos {l : List UInt8} (h : negL l = false) : decS l = decOk l := by unfold decS decOk; rw [trim_pos h]
theorem dig_dec (u : Nat) : decS (Lib.decDigits u) = true := by rw [decS_pos (dig_neg u)]; exact decOk_dec u
theorem dig_mag (u : Nat) : magL (Lib.decDigits u) = u := by unfold magL; rw [trim_pos (dig_neg u)]; exact dec_val u
theorem neg_dec {u : Nat} (h : 0 < u) : decS (45 :: Lib.decDigits u) = true ∧ negL (45 :: Lib.decDigits u) = true ∧ magL (45 :: Lib.decDigits u) = u := by
  refine ⟨?_, rfl, ?_⟩
  · unfold decS
    rw [trim_neg, dec_all]
    have h1 : (Lib.decDigits u).isEmpty = false := by cases h : Lib.decDigits u with | nil => exact absurd h (dec_ne u) | cons => rfl
    have h2 : ((Lib.decDigits u).head? == some 48) = false := by rw [beq_eq_false_iff_ne]; exact Go.Proofs.YtihpeophmijaaaaDoor.dec_head u h
    rw [h1, h2]; rfl
  · unfold magL; rw [trim_neg]; exact dec_val u
/-- the text of a number is read again. -/
theorem itoa_parse (v : Int) (h1 : -9223372036854775808 ≤ v) (h2 : v < 9223372036854775808) : decS (Lib.itoa v) = true ∧ intO (Lib.itoa v) = some v := by
  unfold Lib.itoa
  by_cases h : v < 0
  · rw [if_pos h]
    obtain ⟨a1, a2, a3⟩ := neg_dec (u := v.natAbs) (by omega)
    refine ⟨a1, ?_⟩
    unfold intO
    rw [if_pos a2, a3, if_pos (by omega)]
    congr 1; omega
  · rw [if_neg h]
    refine ⟨dig_dec _, ?_⟩
    unfold intO
    rw [if_neg (by rw [dig_neg]; decide), dig_mag, if_pos (by omega)]
    congr 1; omega
theorem dec_text {l : List UInt8} (h : decS l = true) : Lib.decDigits (magL l) = Lib.trimPrefix l [45] := by
  obtain ⟨h1, h2, h3⟩ := decS_parts h
  unfold magL
  refine dec_back _ _ rfl h1 h2 fun h4 => ?_
  have := h3 h4
  subst this
  rfl
theorem itoa_back {l : List UInt8} {v : Int} (h : decS l = true) (hv : intO l = some v) : Lib.itoa v = l ∧ -9223372036854775808 ≤ v ∧ v < 9223372036854775808 := by
  have ht := dec_text h
  unfold intO at hv
  cases hn : negL l with
  | true =>
    have hp := mag_pos h hn
    rw [if_pos hn] at hv
    split at hv
    · rename_i hr
      obtain rfl := Option.some.inj hv
      obtain ⟨r, rfl⟩ := neg_cons hn
      rw [trim_neg] at ht
      refine ⟨?_, by omega, by omega⟩
      unfold Lib.itoa
      rw [if_pos (by omega), show (-(magL (45 :: r) : Int)).natAbs = magL (45 :: r) by omega, ht]
    · cases hv
  | false =>
    rw [if_neg (by rw [hn]; decide)] at hv
    split at hv
    · rename_i hr
      obtain rfl := Option.some.inj hv
      rw [trim_pos hn] at ht
      refine ⟨?_, by omega, by omega⟩
      unfold Lib.itoa
      rw [if_neg (by omega), show ((magL l : Nat) : Int).toNat = magL l by omega, ht]
    · cases hv
theorem uint_back {l : List UInt8} {u : Nat} (h : decS l = true) (hu : uintO l = some u) : Lib.decDigits u = l ∧ u < 18446744073709551616 := by
  have ht := dec_text h
  unfold uintO at hu
  cases hn : negL l with
  | true => rw [if_pos hn] at hu; cases hu
  | false =>
    rw [if_neg (by rw [hn]; decide)] at hu
    split at hu
    · obtain rfl := Option.some.inj hu
      rw [trim_pos hn] at ht
      exact ⟨ht, by assumption⟩
    · cases hu
theorem fits_parts {k b : Int} {t : ByteArray} {n : Nat} (h : fitsS k k b t n = true) : isS k = true ∧ n = 0 ∧ (if txS k = true then b = 0 else t = ⟨#[]⟩) ∧ withinS k b = true ∧ t.size ≤ 4096 ∧ (k = 7 → validS t = true) := by
  unfold fitsS leanS at h
  simp only [Bool.and_eq_true, decide_eq_true_eq, beq_iff_eq, Bool.or_eq_true, bne_iff_ne] at h
  obtain ⟨⟨⟨⟨⟨h1, _⟩, h2, h3⟩, h4⟩, h5⟩, h6⟩ := h
  refine ⟨h1, h2, ?_, h4, h5, fun e => h6.elim (fun h => absurd e h) id⟩
  by_cases hx : txS k = true
  · rw [if_pos hx] at h3 ⊢; simpa using h3
  · rw [if_neg hx] at h3 ⊢
    have : t.size = 0 := by simpa using h3
    exact ByteArray.ext (Array.eq_empty_of_size_eq_zero this)
theorem fits_make {k b : Int} {t : ByteArray} (h1 : isS k = true) (h3 : if txS k = true then b = 0 else t = ⟨#[]⟩) (h4 : withinS k b = true) (h5 : t.size ≤ 4096) (h6 : k = 7 → validS t = true) : fitsS k k b t (0 + 0 + 0 + 0) = true := by
  unfold fitsS leanS
  simp only [Bool.and_eq_true, decide_eq_true_eq, beq_iff_eq, Bool.or_eq_true, bne_iff_ne]
  refine ⟨⟨⟨⟨⟨h1, trivial⟩, trivial, ?_⟩, h4⟩, h5⟩, ?_⟩
  · by_cases hx : txS k = true
    · rw [if_pos hx] at h3 ⊢; simpa using h3
    · rw [if_neg hx] at h3 ⊢; subst h3; rfl
  · by_cases h : k = 7
    · exact .inr (h6 h)
    · exact .inl h
theorem wrap_back (u : Nat) (h : u < 18446744073709551616) : (IntKind.u64.wrap (IntKind.i64.wrap (u : Int))).toNat = u := by
  rw [toI u (by omega), IntKind.wrap_u64]; split <;> omega
theorem num_text {k : Int} {u : Nat} (hu : u < 18446744073709551616) (hw : withinS k u = true) : numP k (if sgK k = true then Lib.itoa (IntKind.i64.wrap u) else Lib.decDigits u) = ⟨k, u, ⟨#[]⟩, 0⟩ := by
  by_cases h : sgK k = true
  · rw [if_pos h]
    have hr := toI (u : Int) (by omega)
    obtain ⟨h1, h2⟩ := itoa_parse (IntKind.i64.wrap u) (by rw [hr]; split <;> omega) (by rw [hr]; split <;> omega)
    unfold numP numB
    rw [if_neg (by rw [h1]; decide), if_pos h, h2]
    simp only [Option.map_some, wrap_back u hu]
    rw [if_pos hw]
  · rw [if_neg h]
    unfold numP numB uintO
    rw [if_neg (by rw [dig_dec]; decide), if_neg h, if_neg (by rw [dig_neg]; decide), dig_mag, if_pos hu]
    simp only
    rw [if_pos hw]
theorem num_back {k : Int} {l : List UInt8} (h : (numP k l).e = 0) : (numP k l).k = k ∧ (numP k l).t = ⟨#[]⟩ ∧ (numP k l).b < 18446744073709551616 ∧ withinS k (numP k l).b = true ∧ (if sgK k = true then Lib.itoa (IntKind.i64.wrap (numP k l).b) else Lib.decDigits (numP k l).b) = l := by
  cases hd : decS l with
  | false => unfold numP at h; rw [if_pos hd] at h; cases h
  | true =>
    cases hb : numB k l with
    | none => unfold numP at h; rw [if_neg (by rw [hd]; decide), hb] at h; cases h
    | some b =>
      have e : numP k l = if withinS k b = true then ⟨k, b, ⟨#[]⟩, 0⟩ else .err 6 := by unfold numP; rw [if_neg (by rw [hd]; decide), hb]
      rw [e] at h ⊢
      by_cases hw : withinS k b = true
      · rw [if_pos hw]
        unfold numB at hb
        by_cases hs : sgK k = true
        · rw [if_pos hs] at hb ⊢
          cases hi : intO l with
          | none => rw [hi] at hb; cases hb
          | some v =>
            rw [hi] at hb
            obtain rfl := Option.some.inj hb
            obtain ⟨h1, h2, h3⟩ := itoa_back hd hi
            have hwv := IntKind.wrap_u64 v
            refine ⟨rfl, rfl, by dsimp only; omega, hw, ?_⟩
            dsimp only
            have e2 : (((IntKind.u64.wrap v).toNat : Nat) : Int) = IntKind.u64.wrap v := by omega
            have e3 : IntKind.i64.wrap (IntKind.u64.wrap v) = v := by
              rw [toI _ (by omega), hwv]; split <;> omega
            rw [e2, e3, h1]
        · rw [if_neg hs] at hb ⊢
          obtain ⟨h1, h2⟩ := uint_back hd hb
          exact ⟨rfl, rfl, h2, hw, h1⟩
      · rw [if_neg hw] at h; cases h
theorem tl_drop' (s : ByteArray) : (s.extract 1 s.size).data.toList = s.data.toList.drop 1 := by
  rw [ByteArray.data_extract, Array.toList_extract, List.extract_eq_take_drop]
  exact List.take_of_length_le (by rw [List.length_drop, len_bytes]; exact Nat.le_refl _)
theorem par8 (s : ByteArray) : parP 8 s = if s.data.toList.head? = some 120 then txtP 8 (s.extract 1 s.size) else .err 2 := by
  unfold parP
  rw [if_neg (by decide), if_neg (by decide), if_neg (by decide), if_neg (by decide), if_pos rfl]
theorem parN_of' {k : Int} {s : ByteArray} (h1 : isS k = true) (h2 : k ≠ 1) (h3 : k ≠ 6) (h4 : txS k = false) : parP k s = numP k s.data.toList := by
  unfold parP
  unfold txS at h4
  simp only [Bool.or_eq_false_iff, beq_eq_false_iff_ne] at h4
  rw [if_neg (by rw [h1]; decide), if_neg h2, if_neg h3, if_neg h4.1, if_neg h4.2]
/-- a value that fits is read again from its text. -/
theorem par_text {k : Int} {u : Nat} {t : ByteArray} {n : Nat} (hu : u < 18446744073709551616) (hf : fitsS k k u t n = true) (hn : normS k u = u) : parP k ⟨(textS k u t).toArray⟩ = ⟨k, u, t, 0⟩ := by
  obtain ⟨h1, _, h3, h4, h5, h6⟩ := fits_parts hf
  have hk : 1 ≤ k ∧ k ≤ 9 := by unfold isS at h1; simpa using h1
  have num : txS k = false → k ≠ 1 → k ≠ 6 → textS k u t = (if sgK k = true then Lib.itoa (IntKind.i64.wrap u) else Lib.decDigits u) → parP k ⟨(textS k u t).toArray⟩ = ⟨k, u, t, 0⟩ := by
    intro g1 g2 g3 g4
    rw [if_neg (by rw [g1]; decide)] at h3
    rw [parN_of' h1 g2 g3 g1, g4]
    show numP k _ = _
    rw [h3]
    exact num_text hu h4
  have hc : k = 1 ∨ k = 2 ∨ k = 3 ∨ k = 4 ∨ k = 5 ∨ k = 6 ∨ k = 7 ∨ k = 8 ∨ k = 9 := by omega
  rcases hc with rfl | rfl | rfl | rfl | rfl | rfl | rfl | rfl | rfl
  · have h01 : u = 0 ∨ u = 1 := by
      have : (u : Int) ≤ 1 := by simpa [withinS] using h4
      omega
    have ht : t = ⟨#[]⟩ := by simpa [txS] using h3
    subst ht
    rcases h01 with rfl | rfl <;> rfl
  · exact num rfl (by decide) (by decide) rfl
  · exact num rfl (by decide) (by decide) rfl
  · exact num rfl (by decide) (by decide) rfl
  · exact num rfl (by decide) (by decide) rfl
  · have ht : t = ⟨#[]⟩ := by simpa [txS] using h3
    subst ht
    have hd : dblP (doubleL u) = ⟨6, u, ⟨#[]⟩, 0⟩ := by
      have h0 := classS_0 (u : Int)
      by_cases c0 : classS u = 0
      · have hn' : u = 9221120237041090560 := by
          unfold normS at hn
          rw [if_pos ⟨rfl, c0⟩] at hn; omega
        subst hn'
        rfl
      · by_cases c1 : classS u = 1
        · have hm : u = 9218868437227405312 ∨ u = 18442240474082181120 := by
            unfold classS at c1
            (repeat' split at c1) <;> omega
          rcases hm with rfl | rfl <;> rfl
        · have e : doubleL u = [48, 120] ++ H.textL u := by unfold doubleL; rw [if_neg c0, if_neg c1]
          have hx : hexO ([48, 120] ++ H.textL u) = some u := by
            rw [hexO_Pu, H.Pu_text u hu, if_pos rfl]
          have w1 : ([48, 120] ++ H.textL u : List UInt8) ≠ nanB := by intro e; cases e
          have w2 : ([48, 120] ++ H.textL u : List UInt8) ≠ infB := by intro e; cases e
          have w3 : ([48, 120] ++ H.textL u : List UInt8) ≠ minfB := by intro e; cases e
          rw [e]
          unfold dblP
          rw [if_neg w1, if_neg w2, if_neg w3, hx]
          show (if 1 < classS (u : Int) then _ else _) = _
          rw [if_pos (by omega)]
    exact hd
  · have h0 : u = 0 := by
      have : (u : Int) = 0 := by simpa [txS] using h3
      omega
    subst h0
    show txtP 7 (quoteS t) = _
    unfold txtP
    rw [unq_quote, if_neg (by simp), if_neg (by decide), if_neg (by rw [h6 rfl]; decide), if_neg (by dsimp only; omega)]
  · have h0 : u = 0 := by
      have : (u : Int) = 0 := by simpa [txS] using h3
      omega
    subst h0
    have hx : (⟨([120] ++ quoteL ⟨(hexL t.data.toList).toArray⟩).toArray⟩ : ByteArray).extract 1 (⟨([120] ++ quoteL ⟨(hexL t.data.toList).toArray⟩).toArray⟩ : ByteArray).size = quoteS ⟨(hexL t.data.toList).toArray⟩ := by
      refine ByteArray.ext (Array.ext' ?_)
      rw [tl_drop']
      rfl
    have et : textS 8 0 t = [120] ++ quoteL ⟨(hexL t.data.toList).toArray⟩ := rfl
    have hh : (⟨([120] ++ quoteL ⟨(hexL t.data.toList).toArray⟩ : List UInt8).toArray⟩ : ByteArray).data.toList.head? = some (120 : UInt8) := rfl
    rw [et, par8, if_pos hh, hx]
    clear et hx hh
    unfold txtP
    have hun : unhS ⟨(hexL t.data.toList).toArray⟩ = (t, 0) := by
      unfold unhS
      rw [if_neg (by rw [lsize, hexL_len]; omega)]
      show (if (unhL (hexL t.data.toList)).2 = true then _ else _) = _
      rw [unh_hex, if_pos rfl]
    rw [unq_quote, if_neg (by simp), if_pos rfl]
    dsimp only
    rw [hun, if_neg (by simp), if_neg (by dsimp only; omega)]
  · exact num rfl (by decide) (by decide) rfl
theorem dbl_back {l : List UInt8} (h : (dblP l).e = 0) : (dblP l).k = 6 ∧ (dblP l).t = ⟨#[]⟩ ∧ (dblP l).b < 18446744073709551616 ∧ normS 6 (dblP l).b = (dblP l).b ∧ doubleL (dblP l).b = l := by
  by_cases h1 : l = nanB
  · subst h1; exact ⟨rfl, rfl, by decide, rfl, rfl⟩
  by_cases h2 : l = infB
  · subst h2; exact ⟨rfl, rfl, by decide, rfl, rfl⟩
  by_cases h3 : l = minfB
  · subst h3; exact ⟨rfl, rfl, by decide, rfl, rfl⟩
  have hp := dbl_prog h1 h2 h3
  have hlt := H.pu16_lt (Lib.trimPrefix l [48, 120])
  by_cases hc : (H.pu16 (Lib.trimPrefix l [48, 120])).2 = 0 ∧ doubleL (H.pu16 (Lib.trimPrefix l [48, 120])).1 = l
  · rw [if_pos hc] at hp
    have hx := (dbl_hex h1 h2 h3).1 hc.2
    rw [hp]
    refine ⟨rfl, rfl, hlt, ?_, hc.2⟩
    unfold normS
    rw [if_neg]
    rintro ⟨_, h0⟩
    dsimp only at h0
    omega
  · rw [if_neg hc] at hp
    rw [hp] at h; cases h
theorem txt_back {k : Int} {s : ByteArray} (hk : k = 7 ∨ k = 8) (h : (txtP k s).e = 0) : (txtP k s).k = k ∧ (txtP k s).b = 0 ∧ (txtP k s).t.size ≤ 4096 ∧ (k = 7 → validS (txtP k s).t = true ∧ quoteL (txtP k s).t = s.data.toList) ∧ (k = 8 → quoteL ⟨(hexL (txtP k s).t.data.toList).toArray⟩ = s.data.toList) := by
  by_cases hu : (unqS s).err ≠ 0 ∨ (unqS s).len ≠ s.size
  · unfold txtP at h; rw [if_pos hu] at h; cases h
  have hq := quote_unq (s := s) (by by_cases e : (unqS s).err = 0; exact e; exact absurd (.inl e) hu) (by by_cases e : (unqS s).len = s.size; exact e; exact absurd (.inr e) hu)
  rcases hk with rfl | rfl
  · have e : txtP 7 s = if validS (unqS s).text = false then .err 7 else if 4096 < (unqS s).text.size then .err 3 else ⟨7, 0, (unqS s).text, 0⟩ := by unfold txtP; rw [if_neg hu, if_neg (by decide)]
    rw [e] at h ⊢
    by_cases hv : validS (unqS s).text = false
    · rw [if_pos hv] at h; cases h
    rw [if_neg hv] at h ⊢
    by_cases hl : 4096 < (unqS s).text.size
    · rw [if_pos hl] at h; cases h
    rw [if_neg hl]
    exact ⟨rfl, rfl, by dsimp only; omega, fun _ => ⟨by simpa using hv, hq⟩, fun h => by cases h⟩
  · have e : txtP 8 s = if (unhS (unqS s).text).2 ≠ 0 then .err 2 else if 4096 < (unhS (unqS s).text).1.size then .err 3 else ⟨8, 0, (unhS (unqS s).text).1, 0⟩ := by unfold txtP; rw [if_neg hu, if_pos rfl]
    rw [e] at h ⊢
    by_cases hv : (unhS (unqS s).text).2 ≠ 0
    · rw [if_pos hv] at h; cases h
    rw [if_neg hv] at h ⊢
    by_cases hl : 4096 < (unhS (unqS s).text).1.size
    · rw [if_pos hl] at h; cases h
    rw [if_neg hl]
    refine ⟨rfl, rfl, by dsimp only; omega, (fun h => by cases h), fun _ => ?_⟩
    have hh : hexL (unhS (unqS s).text).1.data.toList = (unqS s).text.data.toList := by
      unfold unhS at hv ⊢
      split at hv
      · exact absurd (by decide) hv
      · rename_i h2
        rw [if_neg h2]
        split at hv
        · rename_i h3
          rw [if_pos h3]
          exact hex_unh _ h3
        · exact absurd (by decide) hv
    show quoteL ⟨(hexL (unhS (unqS s).text).1.data.toList).toArray⟩ = _
    rw [hh]
    exact hq
theorem fits_num' {k : Int} {b : Nat} (h1 : isS k = true) (h2 : txS k = false) (hw : withinS k b = true) : fitsS k k b ⟨#[]⟩ (0 + 0 + 0 + 0) = true :=
  fits_make h1 (by rw [if_neg (by rw [h2]; decide)]) hw (by decide) (fun h => by subst h; cases h2)
/-- what is read fits, is in normal form, and has that text. -/
theorem par_back {k : Int} {s : ByteArray} (h : (parP k s).e = 0) : (parP k s).k = k ∧ (parP k s).b < 18446744073709551616 ∧ fitsS k k (parP k s).b (parP k s).t (0 + 0 + 0 + 0) = true ∧ normS k (parP k s).b = (parP k s).b ∧ textS k (parP k s).b (parP k s).t = s.data.toList := by
  have h1 : isS k = true := by
    cases e : isS k with
    | true => rfl
    | false => unfold parP at h; rw [if_pos e] at h; cases h
  have hk : 1 ≤ k ∧ k ≤ 9 := by unfold isS at h1; simpa using h1
  have num : txS k = false → k ≠ 1 → k ≠ 6 → (∀ b t, textS k b t = (if sgK k = true then Lib.itoa (IntKind.i64.wrap (b : Int)) else Lib.decDigits b)) → (parP k s).k = k ∧ (parP k s).b < 18446744073709551616 ∧ fitsS k k (parP k s).b (parP k s).t (0 + 0 + 0 + 0) = true ∧ normS k (parP k s).b = (parP k s).b ∧ textS k (parP k s).b (parP k s).t = s.data.toList := by
    intro g1 g2 g3 g4
    rw [parN_of' h1 g2 g3 g1] at h ⊢
    obtain ⟨n1, n2, n3, n4, n5⟩ := num_back h
    refine ⟨n1, n3, ?_, ?_, ?_⟩
    · rw [n2]; exact fits_num' h1 g1 n4
    · unfold normS; rw [if_neg (fun e => g3 e.1)]
    · rw [g4]; exact n5
  have hc : k = 1 ∨ k = 2 ∨ k = 3 ∨ k = 4 ∨ k = 5 ∨ k = 6 ∨ k = 7 ∨ k = 8 ∨ k = 9 := by omega
  rcases hc with rfl | rfl | rfl | rfl | rfl | rfl | rfl | rfl | rfl
  · have e : parP 1 s = if s.data.toList = trueB then ⟨1, 1, ⟨#[]⟩, 0⟩ else if s.data.toList = falseB then ⟨1, 0, ⟨#[]⟩, 0⟩ else .err 2 := by unfold parP; rw [if_neg (by decide), if_pos rfl]
    rw [e] at h ⊢
    by_cases ht : s.data.toList = trueB
    · rw [if_pos ht, ht]; exact ⟨rfl, by decide, by decide, rfl, rfl⟩
    · rw [if_neg ht] at h ⊢
      by_cases hf : s.data.toList = falseB
      · rw [if_pos hf, hf]; exact ⟨rfl, by decide, by decide, rfl, rfl⟩
      · rw [if_neg hf] at h; cases h
  · exact num rfl (by decide) (by decide) fun _ _ => rfl
  · exact num rfl (by decide) (by decide) fun _ _ => rfl
  · exact num rfl (by decide) (by decide) fun _ _ => rfl
  · exact num rfl (by decide) (by decide) fun _ _ => rfl
  · have e : parP 6 s = dblP s.data.toList := by unfold parP; rw [if_neg (by decide), if_neg (by decide), if_pos rfl]
    rw [e] at h ⊢
    obtain ⟨d1, d2, d3, d4, d5⟩ := dbl_back h
    refine ⟨d1, d3, ?_, d4, d5⟩
    rw [d2]; exact fits_num' rfl rfl rfl
  · have e : parP 7 s = txtP 7 s := by unfold parP; rw [if_neg (by decide), if_neg (by decide), if_neg (by decide), if_pos rfl]
    rw [e] at h ⊢
    obtain ⟨t1, t2, t3, t4, _⟩ := txt_back (.inl rfl) h
    obtain ⟨t5, t6⟩ := t4 rfl
    refine ⟨t1, by omega, ?_, ?_, t6⟩
    · rw [t2]; exact fits_make rfl rfl rfl t3 (fun _ => t5)
    · unfold normS; rw [if_neg (fun e => absurd e.1 (by decide))]
  · rw [par8] at h ⊢
    by_cases hx : s.data.toList.head? = some 120
    · rw [if_pos hx] at h ⊢
      obtain ⟨t1, t2, t3, _, t4⟩ := txt_back (.inr rfl) h
      have t5 := t4 rfl
      refine ⟨t1, by omega, ?_, ?_, ?_⟩
      · rw [t2]; exact fits_make rfl rfl rfl t3 (fun h => by cases h)
      · unfold normS; rw [if_neg (fun e => absurd e.1 (by decide))]
      · show [120] ++ quoteL _ = _
        rw [t5, tl_drop']
        cases hl : s.data.toList with
        | nil => rw [hl] at hx; cases hx
        | cons c r => rw [hl] at hx; obtain rfl := Option.some.inj hx; rfl
    · rw [if_neg hx] at h; cases h
  · exact num rfl (by decide) (by decide) fun _ _ => rfl
end Go.Proofs.YtihpeophmijaaaaDoor.Y
