/- The walk of the law DigestSums. -/
import Derived.Test.YtngdndkgmbcnpaaDoorLawC
import Derived.Test.YtngdndkgmbcnpaaDoorEight
import Derived.Test.YtngdndkgmbcnpaaDoorRegion
namespace Go.Proofs.YtngdndkgmbcnpaaDoor
open Go.RowKit

theorem conv_inv (W : World) (base : Nat) (v : Value) (l : List UInt8) (h0 : l ≠ []) (h : W.ownsRow base 5 1 v l.length (cellsB l)) (W' : World) (hI : InvB W.heap.size W W') :
    (convert 29 9 v).run Tryd.prog W' = .ok (.string ⟨l.toArray⟩) W' := by
  obtain ⟨h1, h2 | ⟨g, cap, cur, rfl, hb, hg, hn, hm, hsz, htake⟩⟩ := h
  · exact absurd (List.length_eq_zero_iff.1 h2.2) h0
  · refine run_convert_bytes_back _ _ _ _ _ _ l Tryd.underlying29 Tryd.underlying5 Tryd.underlying9 fun j hj => ?_
    have := World.ownsRow.cells (w := W) (base := base) (e := 5) (size := 1) (v := .slice (some ⟨g, 0, none⟩) l.length cap) (n := l.length) (xs := cellsB l) ⟨h1, .inr ⟨g, cap, cur, rfl, hb, hg, hn, hm, hsz, htake⟩⟩ (g := g) rfl j (.int .u8 (l[j].toNat : Int)) (by simp [cellsB, List.getElem?_eq_getElem hj])
    have ha : (⟨g, 0, none⟩ : Addr).add j = ⟨g, j, none⟩ := by unfold Addr.add; split <;> simp_all
    have hlt := cell_lt (show W.cell? ⟨g, j, none⟩ = _ by rw [← ha]; exact this)
    rw [ha]
    exact (hI g j hlt).trans (by rw [← ha]; exact this)
theorem le8_bytes (a b : Nat) : (le8 a ++ bytesK b 0) = le8 a := by simp [bytesK]
set_option maxHeartbeats 4000000 in
set_option maxRecDepth 100000 in
theorem sums_main (s : ByteArray) (a b : Nat) (w : World) (hg : Gv w) (hs : s.size ≤ 3000) (ha : a < 18446744073709551616) (hb : b < 18446744073709551616) :
    Calls Tryd.prog 6 #[.string s, .int .u64 a, .int .u64 b] w (AnsB true w) := by
  have HG := Lib.hid hg; clear hg
  have HA := Lib.hid ha; have HBB := Lib.hid hb; clear ha hb
  obtain ⟨i0, hi, hz0, hz1, hz2⟩ := info_parts infoU8
  have HI := Lib.hid hi; clear hi
  have HZ := Lib.hid hz0; clear hz0
  have HZ1 := Lib.hid hz1; clear hz1
  have HZ2 := Lib.hid hz2; clear hz2
  have hs2 : s.size ≤ 9223372036854775806 := by omega
  go_enter Tryd.func6, Tryd.ntmps6
  go_wp2
  go_loopw [7, 8] (fun v i wr => ∃ k : Nat, k ≤ 8 ∧ i = .int .i64 k ∧ wr.ownsRow w.heap.size 5 1 v k (cellsB (bytesK a k)) ∧ Below w.heap.size w wr) (fun _ i _ => 8 - (intOf i).toNat)
  case atStart => exact ⟨0, by omega, rfl, World.ownsRow_nil _ _ _ _, Below.refl _ _⟩
  case round =>
    obtain ⟨k, hk, rfl, hown, hb⟩ := hrel
    by_cases hlt : k < 8
    · have HS := Lib.hid (bytesK_succ a k)
      have HO := Lib.hid hown; clear hown
      have HB := Lib.hid hb; have hbs := hb.size; clear hb
      have hc : k = 0 ∨ k = 1 ∨ k = 2 ∨ k = 3 ∨ k = 4 ∨ k = 5 ∨ k = 6 ∨ k = 7 := by omega
      rcases hc with rfl | rfl | rfl | rfl | rfl | rfl | rfl | rfl
      all_goals
        clear hk hlt
        go_wp2_with (at_builtin; refine wpList_append_own _ rfl _ _ 29 rfl w.heap.size 5 i0 (.int .u8 0) 1 1 Tryd.underlying29 HI.out HZ.out HZ1.out HZ2.out rfl (by decide) _ _ (cellsB (bytesK a _)) rfl (HO.out.alloc _) ⟨wr.heap.size, 0, none⟩ 1 1 _ rfl rfl (cell_one_new _ _ _) (by simp [Value.oneCell']) (by unfold maxLen; omega) (by omega) (by simp; omega) ?_; intro v' w1 hown' hgrow _)
        have hb1 : Below w.heap.size w w1 := (HB.out.alloc hbs _).grown hgrow (by simp; omega) (fun g hg => (HO.out.lt g hg).1)
        have HO' := Lib.hid hown'; clear hown' hgrow
        go_wp2
        go_roundw
        case rel => exact ⟨_, by decide, rfl, by rw [HS.out, cellsB_snoc, ← byte_cell _ _ rfl]; simpa using HO'.out, hb1⟩
        case measure => simp [intOf]
    · have hk8 : (k : Int) = 8 := by omega
      rw [hk8]
      clear hk8
      obtain rfl : k = 8 := by omega
      rw [bytesK_le8, ← le8_bytes a b] at hown
      have HO := Lib.hid hown; clear hown hlt hk
      have HB := Lib.hid hb; have hbs0 := hb.size; clear hb
      obtain ⟨wo, rfl⟩ : ∃ wo : World, wo = wr := ⟨_, rfl⟩
      go_wp2
      go_loopw [7, 9] (fun v i wr => ∃ k : Nat, k ≤ 8 ∧ i = .int .i64 k ∧ wr.ownsRow w.heap.size 5 1 v (8 + k) (cellsB (le8 a ++ bytesK b k)) ∧ Below w.heap.size w wr) (fun _ i _ => 8 - (intOf i).toNat)
      case atStart => exact ⟨0, by omega, rfl, HO.out, HB.out⟩
      case round =>
        clear HO HB
        obtain ⟨k, hk, rfl, hown, hb⟩ := hrel
        by_cases hlt : k < 8
        · have HS := Lib.hid (bytesK_succ b k)
          have HO := Lib.hid hown; clear hown
          have HB := Lib.hid hb; have hbs := hb.size; clear hb
          have hc : k = 0 ∨ k = 1 ∨ k = 2 ∨ k = 3 ∨ k = 4 ∨ k = 5 ∨ k = 6 ∨ k = 7 := by omega
          rcases hc with rfl | rfl | rfl | rfl | rfl | rfl | rfl | rfl
          all_goals
            clear hk hlt
            go_wp2_with (at_builtin; refine wpList_append_own _ rfl _ _ 29 rfl w.heap.size 5 i0 (.int .u8 0) 1 1 Tryd.underlying29 HI.out HZ.out HZ1.out HZ2.out rfl (by decide) _ _ (cellsB (le8 a ++ bytesK b _)) rfl (HO.out.alloc _) ⟨wr.heap.size, 0, none⟩ 1 1 _ rfl rfl (cell_one_new _ _ _) (by simp [Value.oneCell']) (by unfold maxLen; omega) (by omega) (by simp; omega) ?_; intro v' w1 hown' hgrow _)
            have hb1 : Below w.heap.size w w1 := (HB.out.alloc hbs _).grown hgrow (by simp; omega) (fun g hg => (HO.out.lt g hg).1)
            have HO' := Lib.hid hown'; clear hown' hgrow
            go_wp2
            go_roundw
            case rel => exact ⟨_, by decide, rfl, by rw [HS.out, ← List.append_assoc, cellsB_snoc, ← byte_cell _ _ rfl]; simpa using HO'.out, hb1⟩
            case measure => simp [intOf]
        · obtain rfl : k = 8 := by omega
          rw [bytesK_le8] at hown
          have HCV := Lib.hid (conv_inv wr w.heap.size _ (le8 a ++ le8 b) (by simp [le8, le4]) hown)
          clear hown hlt hk
          have HB := Lib.hid hb; have hbs := hb.size
          have HG1 := Lib.hid (HG.out.below hb); clear hb
          have HM := Lib.hid (show fnvI (⟨(le8 a ++ le8 b).toArray⟩ : ByteArray).data.toList = mixI a b from rfl)
          have HL := Lib.hid (show (⟨(le8 a ++ le8 b).toArray⟩ : ByteArray).size ≤ 9223372036854775806 by rw [mk_size, List.length_append]; show 8 + 8 ≤ _; omega)
          go_wp2
          refine wp_region_T (InvB wr.heap.size wr) kf2 (by kernel_rfl) (by kernel_rfl) (InvB.refl _ _).drew ?_
          iterate 1 (first | (refine wpT_skip rfl (fun K hK => ?_); try go_simp; refine hK _ _ ?_; clear hK K) | (refine wpT_pure rfl rfl _ (fun w' hI => by unfold InvB at hI; go_simp; rfl) (fun K hK => ?_); try go_simp; refine hK _ _ ?_; clear hK K) | (refine wpT_pure rfl rfl _ (fun w' hI => by go_simp; rfl) (fun K hK => ?_); try go_simp; refine hK _ _ ?_; clear hK K) | (refine wpT_read rfl rfl rfl _ (by go_simp; rfl) (fun K hK => ?_); try go_simp; refine hK _ _ ?_; clear hK K))
          refine wpT_act rfl rfl rfl (fun K hK => ?_)
          go_simp
          refine (fnv_any s _ hs2).mono ?_; rintro e w' ⟨rfl, rfl⟩
          try go_simp
          refine hK _ _ ⟨(InvB.refl _ _).drew, ?_⟩; clear hK K
          iterate 1 (first | (refine wpT_skip rfl (fun K hK => ?_); try go_simp; refine hK _ _ ?_; clear hK K) | (refine wpT_pure rfl rfl _ (fun w' hI => by unfold InvB at hI; go_simp; rfl) (fun K hK => ?_); try go_simp; refine hK _ _ ?_; clear hK K) | (refine wpT_pure rfl rfl _ (fun w' hI => by go_simp; rfl) (fun K hK => ?_); try go_simp; refine hK _ _ ?_; clear hK K) | (refine wpT_read rfl rfl rfl _ (by go_simp; rfl) (fun K hK => ?_); try go_simp; refine hK _ _ ?_; clear hK K))
          refine wpT_act rfl rfl rfl (fun K hK => ?_)
          go_simp
          refine (refFnv_any s _ hs2).mono ?_; rintro e w' ⟨rfl, rfl⟩
          try go_simp
          refine hK _ _ ⟨(InvB.refl _ _).drew, ?_⟩; clear hK K
          iterate 3 (first | (refine wpT_skip rfl (fun K hK => ?_); try go_simp; refine hK _ _ ?_; clear hK K) | (refine wpT_pure rfl rfl _ (fun w' hI => by unfold InvB at hI; go_simp; rfl) (fun K hK => ?_); try go_simp; refine hK _ _ ?_; clear hK K) | (refine wpT_pure rfl rfl _ (fun w' hI => by go_simp; rfl) (fun K hK => ?_); try go_simp; refine hK _ _ ?_; clear hK K) | (refine wpT_read rfl rfl rfl _ (by go_simp; rfl) (fun K hK => ?_); try go_simp; refine hK _ _ ?_; clear hK K))
          refine wpT_act rfl rfl rfl (fun K hK => ?_)
          go_simp
          refine (crc_any s _ hs2).mono ?_; rintro e w' ⟨rfl, rfl⟩
          try go_simp
          refine hK _ _ ⟨(InvB.refl _ _).drew, ?_⟩; clear hK K
          iterate 1 (first | (refine wpT_skip rfl (fun K hK => ?_); try go_simp; refine hK _ _ ?_; clear hK K) | (refine wpT_pure rfl rfl _ (fun w' hI => by unfold InvB at hI; go_simp; rfl) (fun K hK => ?_); try go_simp; refine hK _ _ ?_; clear hK K) | (refine wpT_pure rfl rfl _ (fun w' hI => by go_simp; rfl) (fun K hK => ?_); try go_simp; refine hK _ _ ?_; clear hK K) | (refine wpT_read rfl rfl rfl _ (by go_simp; rfl) (fun K hK => ?_); try go_simp; refine hK _ _ ?_; clear hK K))
          refine wpT_act rfl rfl rfl (fun K hK => ?_)
          go_simp
          refine (refCrc_any s _ hs2).mono ?_; rintro e w' ⟨rfl, rfl⟩
          try go_simp
          refine hK _ _ ⟨(InvB.refl _ _).drew, ?_⟩; clear hK K
          iterate 5 (first | (refine wpT_skip rfl (fun K hK => ?_); try go_simp; refine hK _ _ ?_; clear hK K) | (refine wpT_pure rfl rfl _ (fun w' hI => by unfold InvB at hI; go_simp; rfl) (fun K hK => ?_); try go_simp; refine hK _ _ ?_; clear hK K) | (refine wpT_pure rfl rfl _ (fun w' hI => by go_simp; rfl) (fun K hK => ?_); try go_simp; refine hK _ _ ?_; clear hK K) | (refine wpT_read rfl rfl rfl _ (by go_simp; rfl) (fun K hK => ?_); try go_simp; refine hK _ _ ?_; clear hK K))
          refine wpT_act rfl rfl rfl (fun K hK => ?_)
          go_simp
          refine (mix_any a b _).mono ?_; rintro e w1 ⟨rfl, hm1⟩
          have HM1 := Lib.hid ((InvB.refl wr.heap.size wr).drew.below hm1 (Nat.le_refl _)); have HX1 := Lib.hid hm1; have g1 := hm1.size; clear hm1
          try go_simp
          refine hK _ _ ⟨HM1.out, ?_⟩; clear hK K
          iterate 2 (first | (refine wpT_skip rfl (fun K hK => ?_); try go_simp; refine hK _ _ ?_; clear hK K) | (refine wpT_pure rfl rfl _ (fun w' hI => by unfold InvB at hI; go_simp; rfl) (fun K hK => ?_); try go_simp; refine hK _ _ ?_; clear hK K) | (refine wpT_pure rfl rfl _ (fun w' hI => by go_simp; rfl) (fun K hK => ?_); try go_simp; refine hK _ _ ?_; clear hK K) | (refine wpT_read rfl rfl rfl _ (by go_simp; rfl) (fun K hK => ?_); try go_simp; refine hK _ _ ?_; clear hK K))
          refine wpT_act rfl rfl rfl (fun K hK => ?_)
          go_simp
          refine (refMix_any a b _ HA.out HBB.out).mono ?_; rintro e w2 ⟨rfl, hm2⟩
          have HM2 := Lib.hid (HM1.out.below hm2 g1); have HX2 := Lib.hid hm2; have g2 := hm2.size; clear hm2
          try go_simp
          refine hK _ _ ⟨HM2.out, ?_⟩; clear hK K
          iterate 5 (first | (refine wpT_skip rfl (fun K hK => ?_); try go_simp; refine hK _ _ ?_; clear hK K) | (refine wpT_pure rfl rfl _ (fun w' hI => by unfold InvB at hI; go_simp; rfl) (fun K hK => ?_); try go_simp; refine hK _ _ ?_; clear hK K) | (refine wpT_pure rfl rfl _ (fun w' hI => by go_simp; rfl) (fun K hK => ?_); try go_simp; refine hK _ _ ?_; clear hK K) | (refine wpT_read rfl rfl rfl _ (by go_simp; rfl) (fun K hK => ?_); try go_simp; refine hK _ _ ?_; clear hK K))
          refine wpT_act rfl rfl rfl (fun K hK => ?_)
          go_simp
          refine (mix_any a b _).mono ?_; rintro e w3 ⟨rfl, hm3⟩
          have HM3 := Lib.hid (HM2.out.below hm3 (Nat.le_trans g1 g2)); have HX3 := Lib.hid hm3; have g3 := hm3.size; clear hm3
          try go_simp
          refine hK _ _ ⟨HM3.out, ?_⟩; clear hK K
          iterate 1 (first | (refine wpT_skip rfl (fun K hK => ?_); try go_simp; refine hK _ _ ?_; clear hK K) | (refine wpT_pure rfl rfl _ (fun w' hI => by unfold InvB at hI; go_simp; rfl) (fun K hK => ?_); try go_simp; refine hK _ _ ?_; clear hK K) | (refine wpT_pure rfl rfl _ (fun w' hI => by go_simp; rfl) (fun K hK => ?_); try go_simp; refine hK _ _ ?_; clear hK K) | (refine wpT_read rfl rfl rfl _ (by go_simp; rfl) (fun K hK => ?_); try go_simp; refine hK _ _ ?_; clear hK K))
          refine wpT_pure rfl rfl (.string ⟨(le8 a ++ le8 b).toArray⟩) (fun w' hI => by have hcv := HCV.out w' hI; go_simp) (fun K hK => ?_); try go_simp
          refine hK _ _ ?_; clear hK K
          iterate 0 (first | (refine wpT_skip rfl (fun K hK => ?_); try go_simp; refine hK _ _ ?_; clear hK K) | (refine wpT_pure rfl rfl _ (fun w' hI => by unfold InvB at hI; go_simp; rfl) (fun K hK => ?_); try go_simp; refine hK _ _ ?_; clear hK K) | (refine wpT_pure rfl rfl _ (fun w' hI => by go_simp; rfl) (fun K hK => ?_); try go_simp; refine hK _ _ ?_; clear hK K) | (refine wpT_read rfl rfl rfl _ (by go_simp; rfl) (fun K hK => ?_); try go_simp; refine hK _ _ ?_; clear hK K))
          refine wpT_act rfl rfl rfl (fun K hK => ?_)
          go_simp
          refine (fnv_any _ _ HL.out).mono ?_; rintro e w4 ⟨rfl, rfl⟩
          rw [HM.out]
          try go_simp
          refine hK _ _ ⟨HM3.out, ?_⟩; clear hK K
          iterate 3 (first | (refine wpT_skip rfl (fun K hK => ?_); try go_simp; refine hK _ _ ?_; clear hK K) | (refine wpT_pure rfl rfl _ (fun w' hI => by unfold InvB at hI; go_simp; rfl) (fun K hK => ?_); try go_simp; refine hK _ _ ?_; clear hK K) | (refine wpT_pure rfl rfl _ (fun w' hI => by go_simp; rfl) (fun K hK => ?_); try go_simp; refine hK _ _ ?_; clear hK K) | (refine wpT_read rfl rfl rfl _ (by go_simp; rfl) (fun K hK => ?_); try go_simp; refine hK _ _ ?_; clear hK K))
          have HG5 := Lib.hid (((HG1.out.below (Below.refl _ _).drew).below HX1.out).below HX2.out |>.below HX3.out)
          refine wpT_act rfl rfl rfl (fun K hK => ?_)
          go_simp
          refine (awake_any _ (HG5.out)).mono ?_; rintro e w5 ⟨rfl, hm5⟩
          have HM5 := Lib.hid (HM3.out.below hm5 (Nat.le_trans (Nat.le_trans g1 g2) g3)); have HX5 := Lib.hid hm5; clear hm5
          try go_simp
          refine hK _ _ ⟨HM5.out, ?_⟩; clear hK K
          iterate 2 (first | (refine wpT_skip rfl (fun K hK => ?_); try go_simp; refine hK _ _ ?_; clear hK K) | (refine wpT_pure rfl rfl _ (fun w' hI => by unfold InvB at hI; go_simp; rfl) (fun K hK => ?_); try go_simp; refine hK _ _ ?_; clear hK K) | (refine wpT_pure rfl rfl _ (fun w' hI => by go_simp; rfl) (fun K hK => ?_); try go_simp; refine hK _ _ ?_; clear hK K) | (refine wpT_read rfl rfl rfl _ (by go_simp; rfl) (fun K hK => ?_); try go_simp; refine hK _ _ ?_; clear hK K))
          refine wpT_nil ?_
          go_wp2
          go_ret
          exact ⟨rfl, HB.out.trans ((Below.refl w.heap.size wr).drew.trans ((HX1.out.mono hbs).trans ((HX2.out.mono (by simp at g1; omega)).trans ((HX3.out.mono (by simp at g1; omega)).trans (HX5.out.mono (by simp at g1; omega))))))⟩
theorem sums_law (s : ByteArray) (a b : Nat) (w : World) (hg : Gv w) (ha : a < 18446744073709551616) (hb : b < 18446744073709551616) :
    Calls Tryd.prog 6 #[.string s, .int .u64 a, .int .u64 b] w (AnsB true w) := by
  by_cases hs : 3000 < s.size
  · have HG := Lib.hid hg; clear hg
    go_enter Tryd.func6, Tryd.ntmps6
    go_wp2_with fail
    refine (awake_any _ HG.out).mono ?_; rintro e w8 ⟨rfl, hb8⟩
    go_wp2_with fail
    go_ret
    exact ⟨rfl, hb8⟩
  · exact sums_main s a b w hg (by omega) ha hb
end Go.Proofs.YtngdndkgmbcnpaaDoor
