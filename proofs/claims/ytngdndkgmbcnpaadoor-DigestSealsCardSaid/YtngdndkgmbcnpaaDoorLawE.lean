/- The walk of the law DigestSeals. -/
import Derived.Test.YtngdndkgmbcnpaaDoorLawC
import Derived.Test.YtngdndkgmbcnpaaDoorSealLaw
namespace Go.Proofs.YtngdndkgmbcnpaaDoor
open Go.RowKit

theorem byte_ne (n : Nat) (h : (n : Int) % 256 ≠ 0) : (UInt8.ofNat n).toNat ≠ 0 := by rw [UInt8.toNat_ofNat']; omega
theorem xor_ne' (a x : UInt8) (h : x.toNat ≠ 0) : a ^^^ x ≠ a := xor_ne a x h
theorem xor8n (a : UInt8) (X : Int) (n : Nat) (h : X = (n : Int) % 256) : bits .xor .u8 (a.toNat : Int) X = (((a ^^^ UInt8.ofNat n).toNat : Nat) : Int) := by
  have e : X = ((UInt8.ofNat n).toNat : Int) := by rw [UInt8.toNat_ofNat', h]; omega
  rw [e]; exact xor8 a _
set_option maxHeartbeats 4000000 in
set_option maxRecDepth 100000 in
theorem seals_main (s : ByteArray) (p : Int) (u : Nat) (w : World) (hg : Gv w) (hs : s.size ≤ 3000) (hp : -9223372036854775808 ≤ p) (hp2 : p ≤ 9223372036854775807) :
    Calls Tryd.prog 8 #[.string s, .int .i64 p, .int .u32 u] w (AnsB true w) := by
  have HG := Lib.hid hg; clear hg
  have HS := Lib.hid (show s.size ≤ 281474976710656 by omega)
  have hss := sealB_size s
  have HT := Lib.hid (show (sealB s).size ≤ 281474976710656 by omega)
  have HP := Lib.hid (openB_seal s)
  have hL : (sealB s).data.toList.length = s.size + 4 := by rw [Array.length_toList]; exact hss
  have hq : (s.toList == s.toList) = true := by simp
  go_enter Tryd.func8, Tryd.ntmps8
  go_wp2_with fail
  refine (seal_any s _ HS.out).mono ?_; rintro e w1 ⟨rfl, hb1⟩
  have HG1 := Lib.hid (HG.out.below hb1)
  go_wp2_with fail
  refine (open_ok _ s 0 _ HT.out HP.out).mono ?_; rintro e w2 ⟨rfl, hb2⟩
  have HG2 := Lib.hid (HG1.out.below hb2)
  obtain ⟨cap, W1, hcv, hb3, hlt, hcap, hbs⟩ := bs_of (sealB s) w2
  have HG3 := Lib.hid (HG2.out.below hb3)
  have hB3 : Below w.heap.size w W1 := hb1.trans ((hb2.mono hb1.size).trans (hb3.mono (Nat.le_trans hb1.size hb2.size)))
  have hsz2 : w.heap.size ≤ w2.heap.size := Nat.le_trans hb1.size hb2.size
  have HB3 := Lib.hid hB3; have HBS := Lib.hid hbs
  clear hb1 hb2 hb3 hB3 hbs
  go_wp2_with fail
  go_loopw [11, 12] (fun ch i wr => ∃ (k : Nat) (M : List UInt8) (c : Bool), k ≤ 4 ∧ i = .int .i64 k ∧ ch = .bool c ∧ Patch (sealB s).data.toList p k M c ∧ (c = true → 0 ≤ p) ∧ Bs wr w2.heap.size M ∧ Below w.heap.size w wr ∧ Gv wr) (fun _ i _ => 4 - (intOf i).toNat)
  case atStart => exact ⟨0, _, false, by omega, rfl, rfl, Patch.nil _ _, fun h => (by cases h), HBS.out, HB3.out, HG3.out⟩
  case round =>
    clear HBS HB3 HG3 hcv
    obtain ⟨k, M, c, hk, rfl, rfl, hpt, hpc, hbs, hbl, hgv⟩ := hrel
    have HPT := Lib.hid hpt; have HPC := Lib.hid hpc; have HBS := Lib.hid hbs; have HBL := Lib.hid hbl; have HGV := Lib.hid hgv
    have hM : M.length = s.size + 4 := hpt.len.trans hL
    clear hpt hpc hbs hbl hgv
    by_cases hlt : k < 4
    · have hc : k = 0 ∨ k = 1 ∨ k = 2 ∨ k = 3 := by omega
      rcases hc with rfl | rfl | rfl | rfl
      · clear hk hlt
        have HN := Lib.hid (show ∃ (k : Nat) (N : List UInt8) (d : Bool), k ≤ 4 ∧ Value.int .i64 1 = .int .i64 (k : Int) ∧ Value.bool c = .bool d ∧ Patch (sealB s).data.toList p k N d ∧ (d = true → 0 ≤ p) ∧ Bs wr w2.heap.size N ∧ Below w.heap.size w wr ∧ Gv wr from
          ⟨1, M, c, by omega, rfl, rfl, HPT.out.skip, HPC.out, HBS.out, HBL.out, HGV.out⟩)
        by_cases h1 : 0 ≤ p
        · obtain ⟨P, rfl⟩ : ∃ P : Nat, p = P := ⟨p.toNat, by omega⟩
          by_cases h2 : P < s.size + 4
          · by_cases h3 : (u : Int) % 256 = 0
            · have hx1 : (((u : Int) % 256) == 0) = true := by simpa using h3
              have hx2 : (((u : Int) % 256) != 0) = false := by rw [bne, hx1]; rfl
              have h2' : (P : Int) < (s.size : Int) + 4 - 0 := by omega
              clear h3
              go_wp2
              go_roundw
              case rel => exact HN.out
              case measure => simp [intOf]
            · have hx1 : (((u : Int) % 256) == 0) = false := by simpa using h3
              have hx2 : (((u : Int) % 256) != 0) = true := by rw [bne, hx1]; rfl
              have h2' : (P : Int) < (s.size : Int) + 4 - 0 := by omega
              have hi : P < M.length := by omega
              have hcell := HBS.out.cell hi
              have hfree := HBS.out.free hi
              have hxx := xor8n M[P] ((u : Int) % 256) u (by omega)
              have hv := xor_ne' M[P] (UInt8.ofNat u) (byte_ne u (by omega))
              have HN2 := Lib.hid (show ∃ (k : Nat) (N : List UInt8) (d : Bool), k ≤ 4 ∧ Value.int .i64 1 = .int .i64 (k : Int) ∧ Value.bool true = .bool d ∧ Patch (sealB s).data.toList P k N d ∧ (d = true → (0 : Int) ≤ P) ∧ Bs (wr.setCell ⟨w2.heap.size, P, none⟩ (.int .u8 ((M[P] ^^^ UInt8.ofNat u).toNat : Int))) w2.heap.size N ∧ Below w.heap.size w (wr.setCell ⟨w2.heap.size, P, none⟩ (.int .u8 ((M[P] ^^^ UInt8.ofNat u).toNat : Int))) ∧ Gv (wr.setCell ⟨w2.heap.size, P, none⟩ (.int .u8 ((M[P] ^^^ UInt8.ofNat u).toNat : Int))) from
                ⟨1, _, true, by omega, rfl, rfl, HPT.out.hit (k := _) hi _ hv, fun _ => h1, HBS.out.set hi _, HBL.out.setCell (p := ⟨w2.heap.size, P, none⟩) hsz2 _, HG.out.below (HBL.out.setCell (p := ⟨w2.heap.size, P, none⟩) hsz2 _)⟩)
              clear h3 hv
              generalize M[P] = c0 at *
              generalize c0 ^^^ UInt8.ofNat u = c1 at *
              go_wp2
              go_roundw
              case rel => exact HN2.out
              case measure => simp [intOf]
          · have h2' : (s.size : Int) + 4 - 0 ≤ (P : Int) := by omega
            go_wp2
            go_roundw
            case rel => exact HN.out
            case measure => simp [intOf]
        · go_wp2
          go_roundw
          case rel => exact HN.out
          case measure => simp [intOf]
      · clear hk hlt
        have HN := Lib.hid (show ∃ (k : Nat) (N : List UInt8) (d : Bool), k ≤ 4 ∧ Value.int .i64 2 = .int .i64 (k : Int) ∧ Value.bool c = .bool d ∧ Patch (sealB s).data.toList p k N d ∧ (d = true → 0 ≤ p) ∧ Bs wr w2.heap.size N ∧ Below w.heap.size w wr ∧ Gv wr from
          ⟨2, M, c, by omega, rfl, rfl, HPT.out.skip, HPC.out, HBS.out, HBL.out, HGV.out⟩)
        by_cases h1 : 0 ≤ p
        · obtain ⟨P, rfl⟩ : ∃ P : Nat, p = P := ⟨p.toNat, by omega⟩
          by_cases h2 : P + 1 < s.size + 4
          · by_cases h3 : (u : Int) / 256 % 256 = 0
            · have hx1 : (((u : Int) / 256 % 256) == 0) = true := by simpa using h3
              have hx2 : (((u : Int) / 256 % 256) != 0) = false := by rw [bne, hx1]; rfl
              have h2' : (P : Int) < (s.size : Int) + 4 - 1 := by omega
              clear h3
              go_wp2
              go_roundw
              case rel => exact HN.out
              case measure => simp [intOf]
            · have hx1 : (((u : Int) / 256 % 256) == 0) = false := by simpa using h3
              have hx2 : (((u : Int) / 256 % 256) != 0) = true := by rw [bne, hx1]; rfl
              have h2' : (P : Int) < (s.size : Int) + 4 - 1 := by omega
              have hi : P + 1 < M.length := by omega
              have hcell := HBS.out.cell hi
              have hfree := HBS.out.free hi
              have hxx := xor8n M[P + 1] ((u : Int) / 256 % 256) (u / 256) (by omega)
              have hv := xor_ne' M[P + 1] (UInt8.ofNat (u / 256)) (byte_ne (u / 256) (by omega))
              have HN2 := Lib.hid (show ∃ (k : Nat) (N : List UInt8) (d : Bool), k ≤ 4 ∧ Value.int .i64 2 = .int .i64 (k : Int) ∧ Value.bool true = .bool d ∧ Patch (sealB s).data.toList P k N d ∧ (d = true → (0 : Int) ≤ P) ∧ Bs (wr.setCell ⟨w2.heap.size, P + 1, none⟩ (.int .u8 ((M[P + 1] ^^^ UInt8.ofNat (u / 256)).toNat : Int))) w2.heap.size N ∧ Below w.heap.size w (wr.setCell ⟨w2.heap.size, P + 1, none⟩ (.int .u8 ((M[P + 1] ^^^ UInt8.ofNat (u / 256)).toNat : Int))) ∧ Gv (wr.setCell ⟨w2.heap.size, P + 1, none⟩ (.int .u8 ((M[P + 1] ^^^ UInt8.ofNat (u / 256)).toNat : Int))) from
                ⟨2, _, true, by omega, rfl, rfl, HPT.out.hit (k := _) hi _ hv, fun _ => h1, HBS.out.set hi _, HBL.out.setCell (p := ⟨w2.heap.size, P + 1, none⟩) hsz2 _, HG.out.below (HBL.out.setCell (p := ⟨w2.heap.size, P + 1, none⟩) hsz2 _)⟩)
              clear h3 hv
              generalize M[P + 1] = c0 at *
              generalize c0 ^^^ UInt8.ofNat (u / 256) = c1 at *
              go_wp2
              go_roundw
              case rel => exact HN2.out
              case measure => simp [intOf]
          · have h2' : (s.size : Int) + 4 - 1 ≤ (P : Int) := by omega
            go_wp2
            go_roundw
            case rel => exact HN.out
            case measure => simp [intOf]
        · go_wp2
          go_roundw
          case rel => exact HN.out
          case measure => simp [intOf]
      · clear hk hlt
        have HN := Lib.hid (show ∃ (k : Nat) (N : List UInt8) (d : Bool), k ≤ 4 ∧ Value.int .i64 3 = .int .i64 (k : Int) ∧ Value.bool c = .bool d ∧ Patch (sealB s).data.toList p k N d ∧ (d = true → 0 ≤ p) ∧ Bs wr w2.heap.size N ∧ Below w.heap.size w wr ∧ Gv wr from
          ⟨3, M, c, by omega, rfl, rfl, HPT.out.skip, HPC.out, HBS.out, HBL.out, HGV.out⟩)
        by_cases h1 : 0 ≤ p
        · obtain ⟨P, rfl⟩ : ∃ P : Nat, p = P := ⟨p.toNat, by omega⟩
          by_cases h2 : P + 2 < s.size + 4
          · by_cases h3 : (u : Int) / 65536 % 256 = 0
            · have hx1 : (((u : Int) / 65536 % 256) == 0) = true := by simpa using h3
              have hx2 : (((u : Int) / 65536 % 256) != 0) = false := by rw [bne, hx1]; rfl
              have h2' : (P : Int) < (s.size : Int) + 4 - 2 := by omega
              clear h3
              go_wp2
              go_roundw
              case rel => exact HN.out
              case measure => simp [intOf]
            · have hx1 : (((u : Int) / 65536 % 256) == 0) = false := by simpa using h3
              have hx2 : (((u : Int) / 65536 % 256) != 0) = true := by rw [bne, hx1]; rfl
              have h2' : (P : Int) < (s.size : Int) + 4 - 2 := by omega
              have hi : P + 2 < M.length := by omega
              have hcell := HBS.out.cell hi
              have hfree := HBS.out.free hi
              have hxx := xor8n M[P + 2] ((u : Int) / 65536 % 256) (u / 65536) (by omega)
              have hv := xor_ne' M[P + 2] (UInt8.ofNat (u / 65536)) (byte_ne (u / 65536) (by omega))
              have HN2 := Lib.hid (show ∃ (k : Nat) (N : List UInt8) (d : Bool), k ≤ 4 ∧ Value.int .i64 3 = .int .i64 (k : Int) ∧ Value.bool true = .bool d ∧ Patch (sealB s).data.toList P k N d ∧ (d = true → (0 : Int) ≤ P) ∧ Bs (wr.setCell ⟨w2.heap.size, P + 2, none⟩ (.int .u8 ((M[P + 2] ^^^ UInt8.ofNat (u / 65536)).toNat : Int))) w2.heap.size N ∧ Below w.heap.size w (wr.setCell ⟨w2.heap.size, P + 2, none⟩ (.int .u8 ((M[P + 2] ^^^ UInt8.ofNat (u / 65536)).toNat : Int))) ∧ Gv (wr.setCell ⟨w2.heap.size, P + 2, none⟩ (.int .u8 ((M[P + 2] ^^^ UInt8.ofNat (u / 65536)).toNat : Int))) from
                ⟨3, _, true, by omega, rfl, rfl, HPT.out.hit (k := _) hi _ hv, fun _ => h1, HBS.out.set hi _, HBL.out.setCell (p := ⟨w2.heap.size, P + 2, none⟩) hsz2 _, HG.out.below (HBL.out.setCell (p := ⟨w2.heap.size, P + 2, none⟩) hsz2 _)⟩)
              clear h3 hv
              generalize M[P + 2] = c0 at *
              generalize c0 ^^^ UInt8.ofNat (u / 65536) = c1 at *
              go_wp2
              go_roundw
              case rel => exact HN2.out
              case measure => simp [intOf]
          · have h2' : (s.size : Int) + 4 - 2 ≤ (P : Int) := by omega
            go_wp2
            go_roundw
            case rel => exact HN.out
            case measure => simp [intOf]
        · go_wp2
          go_roundw
          case rel => exact HN.out
          case measure => simp [intOf]
      · clear hk hlt
        have HN := Lib.hid (show ∃ (k : Nat) (N : List UInt8) (d : Bool), k ≤ 4 ∧ Value.int .i64 4 = .int .i64 (k : Int) ∧ Value.bool c = .bool d ∧ Patch (sealB s).data.toList p k N d ∧ (d = true → 0 ≤ p) ∧ Bs wr w2.heap.size N ∧ Below w.heap.size w wr ∧ Gv wr from
          ⟨4, M, c, by omega, rfl, rfl, HPT.out.skip, HPC.out, HBS.out, HBL.out, HGV.out⟩)
        by_cases h1 : 0 ≤ p
        · obtain ⟨P, rfl⟩ : ∃ P : Nat, p = P := ⟨p.toNat, by omega⟩
          by_cases h2 : P + 3 < s.size + 4
          · by_cases h3 : (u : Int) / 16777216 % 256 = 0
            · have hx1 : (((u : Int) / 16777216 % 256) == 0) = true := by simpa using h3
              have hx2 : (((u : Int) / 16777216 % 256) != 0) = false := by rw [bne, hx1]; rfl
              have h2' : (P : Int) < (s.size : Int) + 4 - 3 := by omega
              clear h3
              go_wp2
              go_roundw
              case rel => exact HN.out
              case measure => simp [intOf]
            · have hx1 : (((u : Int) / 16777216 % 256) == 0) = false := by simpa using h3
              have hx2 : (((u : Int) / 16777216 % 256) != 0) = true := by rw [bne, hx1]; rfl
              have h2' : (P : Int) < (s.size : Int) + 4 - 3 := by omega
              have hi : P + 3 < M.length := by omega
              have hcell := HBS.out.cell hi
              have hfree := HBS.out.free hi
              have hxx := xor8n M[P + 3] ((u : Int) / 16777216 % 256) (u / 16777216) (by omega)
              have hv := xor_ne' M[P + 3] (UInt8.ofNat (u / 16777216)) (byte_ne (u / 16777216) (by omega))
              have HN2 := Lib.hid (show ∃ (k : Nat) (N : List UInt8) (d : Bool), k ≤ 4 ∧ Value.int .i64 4 = .int .i64 (k : Int) ∧ Value.bool true = .bool d ∧ Patch (sealB s).data.toList P k N d ∧ (d = true → (0 : Int) ≤ P) ∧ Bs (wr.setCell ⟨w2.heap.size, P + 3, none⟩ (.int .u8 ((M[P + 3] ^^^ UInt8.ofNat (u / 16777216)).toNat : Int))) w2.heap.size N ∧ Below w.heap.size w (wr.setCell ⟨w2.heap.size, P + 3, none⟩ (.int .u8 ((M[P + 3] ^^^ UInt8.ofNat (u / 16777216)).toNat : Int))) ∧ Gv (wr.setCell ⟨w2.heap.size, P + 3, none⟩ (.int .u8 ((M[P + 3] ^^^ UInt8.ofNat (u / 16777216)).toNat : Int))) from
                ⟨4, _, true, by omega, rfl, rfl, HPT.out.hit (k := _) hi _ hv, fun _ => h1, HBS.out.set hi _, HBL.out.setCell (p := ⟨w2.heap.size, P + 3, none⟩) hsz2 _, HG.out.below (HBL.out.setCell (p := ⟨w2.heap.size, P + 3, none⟩) hsz2 _)⟩)
              clear h3 hv
              generalize M[P + 3] = c0 at *
              generalize c0 ^^^ UInt8.ofNat (u / 16777216) = c1 at *
              go_wp2
              go_roundw
              case rel => exact HN2.out
              case measure => simp [intOf]
          · have h2' : (s.size : Int) + 4 - 3 ≤ (P : Int) := by omega
            go_wp2
            go_roundw
            case rel => exact HN.out
            case measure => simp [intOf]
        · go_wp2
          go_roundw
          case rel => exact HN.out
          case measure => simp [intOf]
    · obtain rfl : k = 4 := by omega
      have hbk := HBS.out.back cap
      rw [hM] at hbk
      have HM := Lib.hid (show (⟨M.toArray⟩ : ByteArray).size ≤ 281474976710656 by rw [mk_size, hM]; omega)
      cases c with
      | true =>
        have HO := Lib.hid (HPT.out.open_ne (HPC.out rfl))
        clear hlt hk
        go_wp2_with fail
        refine (open_ok _ _ _ _ HM.out HO.out).mono ?_; rintro e w4 ⟨rfl, hb4⟩
        go_wp2_with fail
        refine (awake_any _ (HGV.out.below hb4)).mono ?_; rintro e w5 ⟨rfl, hb5⟩
        go_wp2_with fail
        go_ret
        exact ⟨rfl, HBL.out.trans ((hb4.mono HBL.out.size).trans (hb5.mono (Nat.le_trans HBL.out.size hb4.size)))⟩
      | false =>
        have HO := Lib.hid HPT.out.open_eq
        clear hlt hk
        go_wp2_with fail
        refine (open_ok _ _ _ _ HM.out HO.out).mono ?_; rintro e w4 ⟨rfl, hb4⟩
        go_wp2_with fail
        refine (awake_any _ (HGV.out.below hb4)).mono ?_; rintro e w5 ⟨rfl, hb5⟩
        go_wp2_with fail
        go_ret
        exact ⟨rfl, HBL.out.trans ((hb4.mono HBL.out.size).trans (hb5.mono (Nat.le_trans HBL.out.size hb4.size)))⟩
theorem seals_law (s : ByteArray) (p : Int) (u : Nat) (w : World) (hg : Gv w) (hp : -9223372036854775808 ≤ p) (hp2 : p ≤ 9223372036854775807) :
    Calls Tryd.prog 8 #[.string s, .int .i64 p, .int .u32 u] w (AnsB true w) := by
  by_cases hs : 3000 < s.size
  · have HG := Lib.hid hg; clear hg
    go_enter Tryd.func8, Tryd.ntmps8
    go_wp2_with fail
    refine (awake_any _ HG.out).mono ?_; rintro e w8 ⟨rfl, hb8⟩
    go_wp2_with fail
    go_ret
    exact ⟨rfl, hb8⟩
  · exact seals_main s p u w hg (by omega) hp hp2
end Go.Proofs.YtngdndkgmbcnpaaDoor
