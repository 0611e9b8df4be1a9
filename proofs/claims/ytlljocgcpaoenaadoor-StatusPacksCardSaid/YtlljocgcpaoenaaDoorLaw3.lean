/- The walks of the laws StatusPacks and StatusRoundTrips. -/
import Derived.Test.YtlljocgcpaoenaaDoorLaw
import Derived.Deep.DeepCutAuto
namespace Go.Proofs.YtlljocgcpaoenaaDoor
open Go.RowKit

theorem pk_ok (f : FuncId) (c : Int) (s t : ByteArray) (h : packS c s = t) (hc : ∀ w, Calls Tryd.prog f #[.agg #[.int .i64 c, .string s]] w fun e w' => e = .returned (.string (packS c s)) ∧ Below w.heap.size w w') (w : World) :
    Calls Tryd.prog f #[.agg #[.int .i64 c, .string s]] w fun e w' => e = .returned (.string t) ∧ Below w.heap.size w w' := by subst h; exact hc w
set_option maxHeartbeats 4000000 in
set_option maxRecDepth 100000 in
theorem packs_law (c : Int) (t : ByteArray) (w : World) (hg : Gs w) (hs : t.size ≤ 4611686018427387900) : Calls Tryd.prog 4 #[.agg #[.int .i64 c, .string t]] w (AnsB true w) := by
  have HG0 := Lib.hid hg; clear hg
  by_cases h5 : 5000 < t.size
  · go_enter Tryd.func4, Tryd.ntmps4
    go_wp2_with fail
    refine (awake_any _ (HG0.out.below ((Below.refl _ _).alloc (Nat.le_refl _) _))).mono ?_; rintro e w1 ⟨rfl, hb1⟩
    go_wp2_with fail
    go_ret
    exact ⟨rfl, ((Below.refl _ _).alloc (Nat.le_refl _) _).trans (hb1.mono (by simp))⟩
  · obtain ⟨d, hd⟩ : ∃ d, checkS c t = d := ⟨_, rfl⟩
    obtain ⟨P, hp⟩ : ∃ P, packS c t = P := ⟨_, rfl⟩
    have hdd : (d == d) = true := by simp
    have hpp : (P.toList == P.toList) = true := by simp
    have HC := Lib.hid (chk_ok _ c d t hd fun w => check_any c t w hs)
    have HC2 := Lib.hid (chk_ok _ c d t hd fun w => refCheck_any c t w hs)
    have HP := Lib.hid (pk_ok _ c t P hp fun w => pack_any c t w hs)
    have HP2 := Lib.hid (pk_ok _ c t P hp fun w => refPack_any c t w hs)
    have HB0 := Lib.hid (show Below w.heap.size w (w.alloc (.cells #[.int .i64 c, .string t] 29)) from (Below.refl _ _).alloc (Nat.le_refl _) _)
    have HG1 := Lib.hid (HG0.out.below HB0.out); clear HG0 hd hp
    go_enter Tryd.func4, Tryd.ntmps4
    go_wp2_with fail
    refine wp_region_T (InvB (w.heap.size + 1) _) kf3 (by kernel_rfl) (by kernel_rfl) (InvB.refl _ _).drew ?_
    (first | (refine wpT_skip rfl (fun K hK => ?_); try go_simp; refine hK _ _ ?_; clear hK K) | (refine wpT_pure rfl rfl _ (fun w' hI => by unfold InvB at hI; go_simp; rfl) (fun K hK => ?_); try go_simp; refine hK _ _ ?_; clear hK K) | (refine wpT_pure rfl rfl _ (fun w' hI => by go_simp; rfl) (fun K hK => ?_); try go_simp; refine hK _ _ ?_; clear hK K) | (refine wpT_read rfl rfl rfl _ (by go_simp; rfl) (fun K hK => ?_); try go_simp; refine hK _ _ ?_; clear hK K))
    refine wpT_act rfl rfl rfl (fun K hK => ?_); go_simp
    refine (HC.out _).mono ?_; rintro e w1 ⟨rfl, hb1⟩; try go_simp
    have HI1 := Lib.hid ((InvB.refl _ _).drew.below hb1 (show w.heap.size + 1 ≤ _ by simp)); have HS1 := Lib.hid (show w.heap.size + 1 ≤ w1.heap.size by have := hb1.size; simp at this; exact this)
    have HB1 := Lib.hid (HB0.out.drew.trans (hb1.mono (by simp))); have HGG1 := Lib.hid ((HG1.out.below (Below.refl _ _).drew).below hb1)
    refine hK _ _ ⟨HI1.out, ?_⟩; clear hK K hb1
    (first | (refine wpT_skip rfl (fun K hK => ?_); try go_simp; refine hK _ _ ?_; clear hK K) | (refine wpT_pure rfl rfl _ (fun w' hI => by unfold InvB at hI; go_simp; rfl) (fun K hK => ?_); try go_simp; refine hK _ _ ?_; clear hK K) | (refine wpT_pure rfl rfl _ (fun w' hI => by go_simp; rfl) (fun K hK => ?_); try go_simp; refine hK _ _ ?_; clear hK K) | (refine wpT_read rfl rfl rfl _ (by go_simp; rfl) (fun K hK => ?_); try go_simp; refine hK _ _ ?_; clear hK K))
    refine wpT_act rfl rfl rfl (fun K hK => ?_); go_simp
    refine (HC2.out _).mono ?_; rintro e w2 ⟨rfl, hb2⟩; try go_simp
    have HI2 := Lib.hid (HI1.out.below hb2 HS1.out); have HS2 := Lib.hid (Nat.le_trans HS1.out hb2.size)
    have HB2 := Lib.hid (HB1.out.trans (hb2.mono HB1.out.size)); have HGG2 := Lib.hid (HGG1.out.below hb2)
    refine hK _ _ ⟨HI2.out, ?_⟩; clear hK K hb2
    iterate 3 (first | (refine wpT_skip rfl (fun K hK => ?_); try go_simp; refine hK _ _ ?_; clear hK K) | (refine wpT_pure rfl rfl _ (fun w' hI => by unfold InvB at hI; go_simp; rfl) (fun K hK => ?_); try go_simp; refine hK _ _ ?_; clear hK K) | (refine wpT_pure rfl rfl _ (fun w' hI => by go_simp; rfl) (fun K hK => ?_); try go_simp; refine hK _ _ ?_; clear hK K) | (refine wpT_read rfl rfl rfl _ (by go_simp; rfl) (fun K hK => ?_); try go_simp; refine hK _ _ ?_; clear hK K))
    refine wpT_act rfl rfl rfl (fun K hK => ?_); go_simp
    refine (HP.out _).mono ?_; rintro e w3 ⟨rfl, hb3⟩; try go_simp
    have HI3 := Lib.hid (HI2.out.below hb3 HS2.out); have HS3 := Lib.hid (Nat.le_trans HS2.out hb3.size)
    have HB3 := Lib.hid (HB2.out.trans (hb3.mono HB2.out.size)); have HGG3 := Lib.hid (HGG2.out.below hb3)
    refine hK _ _ ⟨HI3.out, ?_⟩; clear hK K hb3
    (first | (refine wpT_skip rfl (fun K hK => ?_); try go_simp; refine hK _ _ ?_; clear hK K) | (refine wpT_pure rfl rfl _ (fun w' hI => by unfold InvB at hI; go_simp; rfl) (fun K hK => ?_); try go_simp; refine hK _ _ ?_; clear hK K) | (refine wpT_pure rfl rfl _ (fun w' hI => by go_simp; rfl) (fun K hK => ?_); try go_simp; refine hK _ _ ?_; clear hK K) | (refine wpT_read rfl rfl rfl _ (by go_simp; rfl) (fun K hK => ?_); try go_simp; refine hK _ _ ?_; clear hK K))
    refine wpT_act rfl rfl rfl (fun K hK => ?_); go_simp
    refine (HP2.out _).mono ?_; rintro e w4 ⟨rfl, hb4⟩; try go_simp
    have HI4 := Lib.hid (HI3.out.below hb4 HS3.out); have HS4 := Lib.hid (Nat.le_trans HS3.out hb4.size)
    have HB4 := Lib.hid (HB3.out.trans (hb4.mono HB3.out.size)); have HGG4 := Lib.hid (HGG3.out.below hb4)
    refine hK _ _ ⟨HI4.out, ?_⟩; clear hK K hb4
    iterate 3 (first | (refine wpT_skip rfl (fun K hK => ?_); try go_simp; refine hK _ _ ?_; clear hK K) | (refine wpT_pure rfl rfl _ (fun w' hI => by unfold InvB at hI; go_simp; rfl) (fun K hK => ?_); try go_simp; refine hK _ _ ?_; clear hK K) | (refine wpT_pure rfl rfl _ (fun w' hI => by go_simp; rfl) (fun K hK => ?_); try go_simp; refine hK _ _ ?_; clear hK K) | (refine wpT_read rfl rfl rfl _ (by go_simp; rfl) (fun K hK => ?_); try go_simp; refine hK _ _ ?_; clear hK K))
    refine wpT_act rfl rfl rfl (fun K hK => ?_); go_simp
    refine (awake_any _ HGG4.out).mono ?_; rintro e w5 ⟨rfl, hb5⟩; try go_simp
    have HI5 := Lib.hid (HI4.out.below hb5 HS4.out); have HS5 := Lib.hid (Nat.le_trans HS4.out hb5.size)
    have HB5 := Lib.hid (HB4.out.trans (hb5.mono HB4.out.size)); have HGG5 := Lib.hid (HGG4.out.below hb5)
    refine hK _ _ ⟨HI5.out, ?_⟩; clear hK K hb5
    iterate 2 (first | (refine wpT_skip rfl (fun K hK => ?_); try go_simp; refine hK _ _ ?_; clear hK K) | (refine wpT_pure rfl rfl _ (fun w' hI => by unfold InvB at hI; go_simp; rfl) (fun K hK => ?_); try go_simp; refine hK _ _ ?_; clear hK K) | (refine wpT_pure rfl rfl _ (fun w' hI => by go_simp; rfl) (fun K hK => ?_); try go_simp; refine hK _ _ ?_; clear hK K) | (refine wpT_read rfl rfl rfl _ (by go_simp; rfl) (fun K hK => ?_); try go_simp; refine hK _ _ ?_; clear hK K))
    refine wpT_nil ?_
    go_wp2
    go_ret
    exact ⟨rfl, HB5.out⟩
theorem unpackU_ok {d : ByteArray} {u n : Nat} {c : Int} {t : ByteArray} (h : unpackU d u n = ⟨c, t, 0⟩) : n = (putL u).length ∧ c = u ∧ t = d.extract n d.size ∧ checkS c t = 0 := by
  unfold unpackU at h
  split at h
  · cases h
  · rename_i h1
    split at h
    · cases h
    · split at h
      · rename_i h3
        simp only [UnS.mk.injEq, and_true] at h
        obtain ⟨rfl, rfl⟩ := h
        exact ⟨by omega, rfl, rfl, h3⟩
      · rename_i h3
        simp only [UnS.mk.injEq] at h
        exact absurd h.2.2 h3
theorem trip_A {c : Int} {t : ByteArray} (h : checkS c t = 0) : unpackS (packS c t) = ⟨c, t, 0⟩ := by
  obtain ⟨h1, h2, _, h4, _⟩ := checkS_ok h
  obtain ⟨k, rfl⟩ : ∃ k : Nat, c = k := ⟨c.toNat, by omega⟩
  have e : packS (k : Int) t = catB (putL k) t := by unfold packS; rw [if_pos h, Int.toNat_natCast]
  have ed : (catB (putL k) t).data.toList = putL k ++ t.data.toList := by unfold catB; simp [ByteArray.data_append]
  have et : TakeS (catB (putL k) t) = (k, (putL k).length, 0) := by unfold TakeS; rw [ed]; exact takeL_put k _ (by omega)
  have ex : (catB (putL k) t).extract (putL k).length (catB (putL k) t).size = t := by
    refine ByteArray.ext (Array.ext' ?_)
    have hs : (catB (putL k) t).size = (putL k).length + t.data.toList.length := by show (catB (putL k) t).data.size = _; rw [← Array.length_toList, ed, List.length_append]
    rw [ByteArray.data_extract, Array.toList_extract, ed, hs, List.extract_eq_take_drop, List.drop_left]
    exact List.take_of_length_le (by omega)
  rw [e]
  unfold unpackS
  rw [et]
  simp only [if_true]
  unfold unpackU
  rw [ex, if_neg (by omega), if_neg (by omega), if_pos h]
theorem trip_B {d : ByteArray} {c : Int} {t : ByteArray} (h : unpackS d = ⟨c, t, 0⟩) : checkS c t = 0 ∧ packS c t = d := by
  unfold unpackS at h
  split at h
  · rename_i h0
    obtain ⟨hn, hc, ht, hk⟩ := unpackU_ok h
    refine ⟨hk, ?_⟩
    unfold packS
    rw [if_pos hk]
    have e0 : TakeS d = ((TakeS d).1, (TakeS d).2.1, 0) := Prod.ext rfl (Prod.ext rfl h0)
    have hp := putL_take (l := d.data.toList) e0 hn
    refine ByteArray.ext (Array.ext' ?_)
    unfold catB
    rw [hc, ht]
    simp only [ByteArray.data_append, ByteArray.data_extract, Int.toNat_natCast, Array.toList_append, Array.toList_extract, List.extract_eq_take_drop]
    rw [hp]
    have hsz : d.size = d.data.toList.length := by rw [Array.length_toList]; rfl
    rw [hsz, List.take_of_length_le (l := d.data.toList.drop _) (by rw [List.length_drop]; exact Nat.le_refl _), List.take_append_drop]
  · rename_i h0
    simp only [UnS.mk.injEq] at h
    exact absurd h.2.2 h0
theorem unp_err {d : ByteArray} {c : Int} {t : ByteArray} {r : Int} (h : unpackS d = ⟨c, t, r⟩) (hr : r ≠ 0) : c = 0 ∧ t = ⟨#[]⟩ := by
  unfold unpackS unpackU at h
  (repeat' split at h) <;> simp only [UnS.mk.injEq] at h <;> obtain ⟨rfl, rfl, rfl⟩ := h <;> simp_all
end Go.Proofs.YtlljocgcpaoenaaDoor
