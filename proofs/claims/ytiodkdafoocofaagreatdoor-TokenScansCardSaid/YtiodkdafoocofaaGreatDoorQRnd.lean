/- Quoted texts and hexadecimal digits: what is written is read again. No program. -/
import Derived.Test.YtiodkdafoocofaaGreatDoorQuoteLaw
namespace Go.Proofs.YtiodkdafoocofaaGreatDoor.Y
open Go.RowKit
theorem szL_high (l : List UInt8) (i : Nat) (h : 128 ≤ atL l 0) (hi : i < szL l) : 128 ≤ atL l i := by
  unfold szL at hi
  simp only [btw_iff, tail1_iff, tail2_iff, tail3_iff, Nat.reduceAdd] at hi
  have hc : i = 0 ∨ i = 1 ∨ i = 2 ∨ i = 3 ∨ 4 ≤ i := by omega
  rcases hc with rfl | rfl | rfl | rfl | hc <;> (repeat' split at hi) <;> omega
def uq (L acc : List UInt8) (k : Nat) : Option (List UInt8 × Nat) := uqF (L.length + 1) L acc k
theorem uq_step (L acc : List UInt8) (k : Nat) (h : L ≠ []) : uq L acc k = if atL L 0 = 34 then some (acc, k) else if (oneS L).2 = 0 then none else uq (L.drop (oneS L).2) (acc ++ [UInt8.ofNat (oneS L).1]) (k + (oneS L).2) := by
  unfold uq
  rw [uqF, if_neg h]
  by_cases h3 : atL L 0 = 34
  · rw [if_pos h3, if_pos h3]
  · rw [if_neg h3, if_neg h3]
    by_cases h4 : (oneS L).2 = 0
    · rw [if_pos h4, if_pos h4]
    · rw [if_neg h4, if_neg h4]
      have := List.length_pos_iff.2 h
      exact uqF_fuel _ _ _ _ _ (by rw [List.length_drop]; omega) (by rw [List.length_drop]; omega)
theorem uq_one (L acc : List UInt8) (k c v n : Nat) (hc : atL L 0 = c) (h34 : c ≠ 34) (ho : oneS L = (v, n)) (hn : n ≠ 0) (hne : L ≠ []) : uq L acc k = uq (L.drop n) (acc ++ [UInt8.ofNat v]) (k + n) := by
  rw [uq_step L acc k hne, if_neg (by omega), ho, if_neg hn]
theorem uq_plain : ∀ (p rest acc : List UInt8) (k : Nat), (∀ b ∈ p, b.toNat ≠ 34 ∧ b.toNat ≠ 92) → uq (p ++ rest) acc k = uq rest (acc ++ p) (k + p.length)
  | [], rest, acc, k, _ => by simp
  | b :: p, rest, acc, k, h => by
    obtain ⟨h1, h2⟩ := h b (List.mem_cons_self ..)
    have ho : oneS (b :: (p ++ rest)) = (b.toNat, 1) := by
      unfold oneS; rw [if_neg (show ¬ atL (b :: (p ++ rest)) 0 = 92 from h2)]; rfl
    rw [List.cons_append, uq_one _ acc k b.toNat b.toNat 1 rfl h1 ho (by decide) (by simp), UInt8.ofNat_toNat]
    show uq (p ++ rest) (acc ++ [b]) (k + 1) = _
    rw [uq_plain p rest _ _ fun x hx => h x (List.mem_cons_of_mem _ hx), List.append_assoc, List.length_cons]
    congr 1; omega
theorem uq_esc (c v : Nat) (b : UInt8) (rest acc : List UInt8) (k : Nat) (hb : b.toNat = c) (h : (c = 34 ∧ v = 34) ∨ (c = 92 ∧ v = 92) ∨ (c = 110 ∧ v = 10) ∨ (c = 116 ∧ v = 9) ∨ (c = 114 ∧ v = 13)) : uq (92 :: b :: rest) acc k = uq rest (acc ++ [UInt8.ofNat v]) (k + 2) := by
  have h1 : atL (92 :: b :: rest) 1 = c := hb
  have ho : oneS (92 :: b :: rest) = (v, 2) := by
    unfold oneS
    rw [if_pos (show atL (92 :: b :: rest) 0 = 92 from rfl)]
    unfold escS
    rw [if_neg (by simp), h1]
    rcases h with ⟨rfl, rfl⟩ | ⟨rfl, rfl⟩ | ⟨rfl, rfl⟩ | ⟨rfl, rfl⟩ | ⟨rfl, rfl⟩ <;> rfl
  exact uq_one _ acc k 92 v 2 rfl (by decide) ho (by decide) (by simp)
theorem hv_hxC : ∀ d, d < 16 → hv (hxC d).toNat = d := by decide
theorem uq_hex (c : Nat) (hc : c < 256) (rest acc : List UInt8) (k : Nat) : uq ([92, 120] ++ hx2 c ++ rest) acc k = uq rest (acc ++ [UInt8.ofNat c]) (k + 4) := by
  have h2 := hv_hxC (c / 16) (by omega)
  have h3 := hv_hxC (c % 16) (by omega)
  have e2 : atL ([92, 120] ++ hx2 c ++ rest) 2 = (hxC (c / 16)).toNat := rfl
  have e3 : atL ([92, 120] ++ hx2 c ++ rest) 3 = (hxC (c % 16)).toNat := rfl
  have e1 : atL ([92, 120] ++ hx2 c ++ rest) 1 = 120 := rfl
  have hl : ([92, 120] ++ hx2 c ++ rest).length = rest.length + 4 := by simp [hx2]
  have ho : oneS ([92, 120] ++ hx2 c ++ rest) = (c, 4) := by
    unfold oneS
    rw [if_pos (show atL ([92, 120] ++ hx2 c ++ rest) 0 = 92 from rfl)]
    unfold escS
    rw [if_neg (by omega), e1, e2, e3, h2, h3, if_neg (by decide), if_neg (by decide), if_neg (by decide), if_neg (by decide), if_neg (by omega)]
    congr 1; omega
  exact uq_one _ acc k 92 c 4 rfl (by decide) ho (by decide) (by simp)
theorem szL_one {l : List UInt8} (h : atL l 0 < 128) : szL l = 1 := by unfold szL; rw [if_pos h]
theorem at_mem {l : List UInt8} {n : Nat} {b : UInt8} (h : b ∈ l.take n) : ∃ i, i < n ∧ atL l i = b.toNat := by
  obtain ⟨i, hi, he⟩ := List.getElem_of_mem h
  rw [List.length_take] at hi
  refine ⟨i, by omega, ?_⟩
  unfold atL
  rw [List.getD_eq_getElem?_getD, List.getElem?_eq_getElem (by omega)]
  rw [List.getElem_take] at he
  rw [← he]; rfl
theorem take_one (c : UInt8) (r : List UInt8) (n : Nat) (h : c.toNat = n) : (c :: r).take 1 = [UInt8.ofNat n] := by
  subst h; simp
theorem uq_part (l rest acc : List UInt8) (k : Nat) (hne : l ≠ []) : uq (qpart l ++ rest) acc k = uq rest (acc ++ l.take (qlen l)) (k + (qpart l).length) := by
  obtain ⟨c, r, rfl⟩ : ∃ c r, l = c :: r := by cases l with | nil => exact absurd rfl hne | cons c r => exact ⟨c, r, rfl⟩
  have h0 : atL (c :: r) 0 = c.toNat := rfl
  have hc := c.toNat_lt
  have small : c.toNat < 128 → qlen (c :: r) = 1 := fun h => by unfold qlen; rw [szL_one (by rw [h0]; exact h)]; rfl
  by_cases h1 : c.toNat = 34
  · have e : qpart (c :: r) = [92, 34] := by unfold qpart; rw [h0, if_pos h1]
    rw [e, small (by omega), take_one c r _ h1]
    exact uq_esc 34 34 34 rest acc k rfl (.inl ⟨rfl, rfl⟩)
  by_cases h2 : c.toNat = 92
  · have e : qpart (c :: r) = [92, 92] := by unfold qpart; rw [h0, if_neg h1, if_pos h2]
    rw [e, small (by omega), take_one c r _ h2]
    exact uq_esc 92 92 92 rest acc k rfl (.inr (.inl ⟨rfl, rfl⟩))
  by_cases h3 : c.toNat = 10
  · have e : qpart (c :: r) = [92, 110] := by unfold qpart; rw [h0, if_neg h1, if_neg h2, if_pos h3]
    rw [e, small (by omega), take_one c r _ h3]
    exact uq_esc 110 10 110 rest acc k rfl (.inr (.inr (.inl ⟨rfl, rfl⟩)))
  by_cases h4 : c.toNat = 9
  · have e : qpart (c :: r) = [92, 116] := by unfold qpart; rw [h0, if_neg h1, if_neg h2, if_neg h3, if_pos h4]
    rw [e, small (by omega), take_one c r _ h4]
    exact uq_esc 116 9 116 rest acc k rfl (.inr (.inr (.inr (.inl ⟨rfl, rfl⟩))))
  by_cases h5 : c.toNat = 13
  · have e : qpart (c :: r) = [92, 114] := by unfold qpart; rw [h0, if_neg h1, if_neg h2, if_neg h3, if_neg h4, if_pos h5]
    rw [e, small (by omega), take_one c r _ h5]
    exact uq_esc 114 13 114 rest acc k rfl (.inr (.inr (.inr (.inr ⟨rfl, rfl⟩))))
  by_cases h6 : c.toNat < 32 ∨ c.toNat = 127 ∨ szL (c :: r) = 0
  · have e : qpart (c :: r) = [92, 120] ++ hx2 c.toNat := by unfold qpart; rw [h0, if_neg h1, if_neg h2, if_neg h3, if_neg h4, if_neg h5, if_pos h6]
    have hq : qlen (c :: r) = 1 := by
      rcases h6 with h | h | h
      · exact small (by omega)
      · exact small (by omega)
      · unfold qlen; rw [if_pos h]
    rw [e, hq, take_one c r _ rfl, uq_hex c.toNat hc]
    rfl
  · have e : qpart (c :: r) = (c :: r).take (szL (c :: r)) := by unfold qpart; rw [h0, if_neg h1, if_neg h2, if_neg h3, if_neg h4, if_neg h5, if_neg h6]
    have hq : qlen (c :: r) = szL (c :: r) := by unfold qlen; rw [if_neg (fun h => h6 (.inr (.inr h)))]
    rw [e, hq]
    refine uq_plain _ rest acc k fun b hb => ?_
    obtain ⟨i, hi, he⟩ := at_mem hb
    by_cases hs : c.toNat < 128
    · rw [szL_one (by rw [h0]; exact hs)] at hi
      obtain rfl : i = 0 := by omega
      rw [h0] at he
      omega
    · have := szL_high (c :: r) i (by rw [h0]; omega) hi
      omega
theorem uq_all : ∀ (n : Nat) (l acc : List UInt8) (k : Nat), l.length ≤ n → uq (qrest n l ++ [34]) acc k = some (acc ++ l, k + (qrest n l).length)
  | 0, l, acc, k, h => by
    have : l = [] := List.length_eq_zero_iff.1 (by omega)
    subst this
    show uq [34] acc k = _
    rw [uq_step _ _ _ (by simp), if_pos (show atL [34] 0 = 34 from rfl)]; simp [qrest]
  | n + 1, l, acc, k, h => by
    by_cases hl : l = []
    · subst hl
      have e : qrest (n + 1) [] = [] := by rw [qrest, if_pos rfl]
      rw [e]
      show uq [34] acc k = _
      rw [uq_step _ _ _ (by simp), if_pos (show atL [34] 0 = 34 from rfl)]; simp
    · have e : qrest (n + 1) l = qpart l ++ qrest n (l.drop (qlen l)) := by rw [qrest, if_neg hl]
      have hp := qlen_pos l
      rw [e, List.append_assoc, uq_part l _ acc k hl, uq_all n _ _ _ (by rw [List.length_drop]; omega), List.append_assoc, List.take_append_drop, List.length_append, Nat.add_assoc]
/-- a text, quoted, is read again. -/
theorem unq_quote (s : ByteArray) : unqS (quoteS s) = ⟨s, (quoteS s).size, 0⟩ := by
  have hz : (quoteS s).size = (qAt s 0).length + 2 := by
    show (quoteL s).toArray.size = _
    unfold quoteL; simp
  have hq : uqAt (quoteS s) 1 [] = some (s.data.toList, 1 + (qAt s 0).length) := by
    have h1 : (quoteS s).data.toList.drop 1 = qAt s 0 ++ [34] := rfl
    have h2 := uq_all (s.data.toList.drop 0).length (s.data.toList.drop 0) [] 1 (Nat.le_refl _)
    unfold uqAt
    rw [h1, uqF_fuel _ ((qAt s 0 ++ [34]).length + 1) _ _ _ (by rw [hz]; simp) (by omega)]
    exact h2
  unfold unqS
  rw [if_neg, hq]
  · dsimp only
    have hl : (quoteL s).length = (qAt s 0).length + 2 := by unfold quoteL; simp
    rw [if_pos]
    · rw [hz]; congr 1; omega
    · show quoteL s = (quoteL s).take _
      rw [List.take_of_length_le (by omega)]
  · rintro (h | h)
    · omega
    · exact h rfl
/-- what is read is what stands there. -/
theorem quote_unq {s : ByteArray} (h1 : (unqS s).err = 0) (h2 : (unqS s).len = s.size) : quoteL (unqS s).text = s.data.toList := by
  unfold unqS at *
  split at h1
  · cases h1
  · rename_i h0
    rw [if_neg h0] at h2 ⊢
    split at h1
    · cases h1
    · rename_i acc k e
      rw [e] at h2
      dsimp only at h1 h2 ⊢
      split at h1
      · rename_i h3
        rw [if_pos h3] at h2 ⊢
        dsimp only at h2 ⊢
        rw [h3, List.take_of_length_le (by rw [len_bytes]; omega)]
      · cases h1
theorem unh_hex : ∀ l : List UInt8, unhL (hexL l) = (l, true)
  | [] => rfl
  | b :: r => by
    have hb := b.toNat_lt
    have h2 := hv_hxC (b.toNat / 16) (by omega)
    have h3 := hv_hxC (b.toNat % 16) (by omega)
    show unhL (hxC (b.toNat / 16) :: hxC (b.toNat % 16) :: hexL r) = _
    rw [unhL, h2, h3, if_neg (by omega), unh_hex r]
    have e : (16 * ((b.toNat / 16 : Nat) : Int) + ((b.toNat % 16 : Nat) : Int)).toNat = b.toNat := by omega
    rw [e, UInt8.ofNat_toNat]
set_option maxRecDepth 20000 in
theorem hxC_hv (c : UInt8) (h : ¬ hv c.toNat < 0) : hxC (hv c.toNat).toNat = c := by
  have : ∀ c : Fin 256, ¬ hv (UInt8.ofNat c.1).toNat < 0 → hxC (hv (UInt8.ofNat c.1).toNat).toNat = UInt8.ofNat c.1 := by decide
  have h2 := this ⟨c.toNat, c.toNat_lt⟩
  simp only [UInt8.ofNat_toNat] at h2
  exact h2 h
theorem hex_unh : ∀ l : List UInt8, (unhL l).2 = true → hexL (unhL l).1 = l
  | [], _ => rfl
  | [_], h => by cases h
  | a :: b :: r, h => by
    unfold unhL at h ⊢
    split at h
    · cases h
    · rename_i hc
      rw [if_neg hc]
      have ra := hv_rng a.toNat
      have rb := hv_rng b.toNat
      have ih := hex_unh r h
      have ha : ¬ hv a.toNat < 0 := fun h => hc (.inl h)
      have hb : ¬ hv b.toNat < 0 := fun h => hc (.inr h)
      show hx2 (UInt8.ofNat (16 * hv a.toNat + hv b.toNat).toNat).toNat ++ hexL (unhL r).1 = _
      rw [ih]
      have e : (UInt8.ofNat (16 * hv a.toNat + hv b.toNat).toNat).toNat = 16 * (hv a.toNat).toNat + (hv b.toNat).toNat := by rw [UInt8.toNat_ofNat']; omega
      rw [e]
      unfold hx2
      rw [show (16 * (hv a.toNat).toNat + (hv b.toNat).toNat) / 16 = (hv a.toNat).toNat by omega, show (16 * (hv a.toNat).toNat + (hv b.toNat).toNat) % 16 = (hv b.toNat).toNat by omega, hxC_hv a ha, hxC_hv b hb]
      rfl
end Go.Proofs.YtiodkdafoocofaaGreatDoor.Y
