/- Heads, plain: what is written is read back; what is read is what would be written. -/
import Derived.Test.YtpfkddbhpoeknaaGreatDoorHead1
namespace Go.Proofs.YtpfkddbhpoeknaaGreatDoor
open Go.RowKit
theorem ext_toL (s : ByteArray) (i j : Nat) : (s.extract i j).data.toList = (s.data.toList.take j).drop i := by
  simp [ByteArray.data_extract, Array.toList_extract, List.drop_take]
theorem takeN_put (u : Nat) (r : List UInt8) (hu : u < 18446744073709551616) : takeN ⟨(putL u ++ r).toArray⟩ 0 = ⟨u, ⟨r.toArray⟩, 0⟩ := by
  have h : TakeS ⟨(putL u ++ r).toArray⟩ = (u, (putL u).length, 0) := takeL_put u r hu
  unfold takeN
  rw [if_pos rfl, h]
  have : (⟨(putL u ++ r).toArray⟩ : ByteArray).extract (putL u).length (⟨(putL u ++ r).toArray⟩ : ByteArray).size = ⟨r.toArray⟩ := by
    refine ByteArray.ext (Array.ext' ?_)
    rw [ext_toL]
    show List.drop _ (List.take (putL u ++ r).toArray.size (putL u ++ r)) = r
    rw [List.size_toArray, List.take_length, List.drop_left]
  rw [this]
theorem takeX_put (x : ByteArray) (r : List UInt8) (hx : x.size < 18446744073709551616) : takeX ⟨(sized x ++ r).toArray⟩ 0 = ⟨x, ⟨r.toArray⟩, 0⟩ := by
  have h : takeN ⟨(sized x ++ r).toArray⟩ 0 = ⟨x.size, ⟨(x.data.toList ++ r).toArray⟩, 0⟩ := by
    unfold sized; rw [List.append_assoc]; exact takeN_put _ _ hx
  have hl : x.data.toList.length = x.size := by rw [Array.length_toList]; rfl
  unfold takeX textOf
  rw [h]
  have h2 : ¬ (⟨(x.data.toList ++ r).toArray⟩ : ByteArray).size < x.size := by
    show ¬ (x.data.toList ++ r).toArray.size < x.size
    rw [List.size_toArray, List.length_append, hl]; omega
  rw [if_pos rfl, if_neg h2]
  have h3 : (⟨(x.data.toList ++ r).toArray⟩ : ByteArray).extract 0 x.size = x := by
    refine ByteArray.ext (Array.ext' ?_)
    rw [ext_toL, ← hl]
    show List.drop 0 (List.take _ (x.data.toList ++ r)) = x.data.toList
    rw [List.take_left]; rfl
  have h4 : (⟨(x.data.toList ++ r).toArray⟩ : ByteArray).extract x.size (⟨(x.data.toList ++ r).toArray⟩ : ByteArray).size = ⟨r.toArray⟩ := by
    refine ByteArray.ext (Array.ext' ?_)
    rw [ext_toL, ← hl]
    show List.drop _ (List.take (x.data.toList ++ r).toArray.size (x.data.toList ++ r)) = r
    rw [List.size_toArray, List.take_length, List.drop_left]
  rw [h3, h4]
theorem metasF_put : ∀ (ms : List (ByteArray × ByteArray)) (r : List UInt8) (acc : List (ByteArray × ByteArray)), (∀ m ∈ ms, m.1.size < 4294967281 ∧ m.2.size < 4294967281) →
    metasF ms.length ⟨(ms.flatMap metaB ++ r).toArray⟩ 0 acc = ⟨acc ++ ms, ⟨r.toArray⟩, 0⟩
  | [], r, acc, _ => by simp [metasF]
  | m :: ms, r, acc, hz => by
    obtain ⟨z1, z2⟩ := hz m (List.mem_cons_self ..)
    have e : ((m :: ms).flatMap metaB ++ r) = sized m.1 ++ (sized m.2 ++ (ms.flatMap metaB ++ r)) := by simp [List.flatMap_cons, metaB]
    have h1 := takeX_put m.1 (sized m.2 ++ (ms.flatMap metaB ++ r)) (by omega)
    have h2 := takeX_put m.2 (ms.flatMap metaB ++ r) (by omega)
    show metasF (ms.length + 1) _ 0 acc = _
    unfold metasF
    rw [if_pos rfl, e, h1]
    show metasF ms.length (takeX ⟨(sized m.2 ++ (ms.flatMap metaB ++ r)).toArray⟩ 0).rest (takeX ⟨(sized m.2 ++ (ms.flatMap metaB ++ r)).toArray⟩ 0).err (acc ++ [(m.1, (takeX ⟨(sized m.2 ++ (ms.flatMap metaB ++ r)).toArray⟩ 0).text)]) = _
    rw [h2]
    have := metasF_put ms r (acc ++ [(m.1, m.2)]) (fun m' hm' => hz m' (List.mem_cons_of_mem _ hm'))
    simpa using this
theorem headE_late {h : HdV} (he : headE h = 0) : 0 ≤ h.late ∧ h.late ≤ 1099511627776 ∧ h.metas.length ≤ 16 := by
  unfold headE at he
  split at he
  · cases he
  · split at he
    · cases he
    · split at he
      · cases he
      · omega
theorem hdRead_headL {h : HdV} (he : headE h = 0) (hz : HdSz h) : hdRead ⟨(headL h).toArray⟩ = ⟨h, 0⟩ := by
  obtain ⟨l1, l2, l3⟩ := headE_late he
  obtain ⟨svc, mth, late, ms⟩ := h
  obtain ⟨n, rfl⟩ : ∃ n : Nat, late = n := ⟨late.toNat, by simp at l1; omega⟩
  obtain ⟨z1, z2, z3⟩ := hz
  simp only at l1 l2 l3 z1 z2 z3
  have e : headL ⟨svc, mth, n, ms⟩ = sized svc ++ (sized mth ++ (putL n ++ (putL ms.length ++ (ms.flatMap metaB ++ [])))) := by simp [headL]
  have h1 := takeX_put svc (sized mth ++ (putL n ++ (putL ms.length ++ (ms.flatMap metaB ++ [])))) (by omega)
  have h2 := takeX_put mth (putL n ++ (putL ms.length ++ (ms.flatMap metaB ++ []))) (by omega)
  have h3 := takeN_put n (putL ms.length ++ (ms.flatMap metaB ++ [])) (by omega)
  have h4 := takeN_put ms.length (ms.flatMap metaB ++ []) (by omega)
  have h5 := metasF_put ms [] [] z3
  have h6 : hdMetas ms.length ⟨(ms.flatMap metaB ++ []).toArray⟩ 0 = ⟨ms, ⟨#[]⟩, 0⟩ := by
    unfold hdMetas; rw [if_pos rfl, if_neg (by omega), h5]; simp
  unfold hdRead
  simp only [e, h1, h2, h3, h4, h6]
  unfold hdEnd
  rw [if_neg (by simp), if_neg (by simp [ByteArray.size]), if_neg (by omega)]
  simp only
  rw [if_neg (by rw [he]; simp), if_neg (by rw [e]; simp)]
theorem hdRead_good {s : ByteArray} (h : (hdRead s).err = 0) : headE (hdRead s).head = 0 ∧ headL (hdRead s).head = s.data.toList := by
  unfold hdRead hdEnd at h ⊢
  simp only at h ⊢
  split at h
  · rename_i q; exact absurd h q
  · rename_i q1
    rw [if_neg q1]
    split at h
    · cases h
    · rename_i q2
      rw [if_neg q2]
      split at h
      · cases h
      · rename_i q3
        rw [if_neg q3]
        split at h
        · rename_i q; exact absurd h q
        · rename_i q4
          rw [if_neg q4]
          split at h
          · cases h
          · rename_i q5
            rw [if_neg q5]
            exact ⟨Decidable.not_not.1 q4, Decidable.not_not.1 q5⟩
end Go.Proofs.YtpfkddbhpoeknaaGreatDoor
