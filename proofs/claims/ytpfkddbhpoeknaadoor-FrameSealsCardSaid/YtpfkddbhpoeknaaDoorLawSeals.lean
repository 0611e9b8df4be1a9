/- FrameSeals: the law's own walk. -/
import Derived.Test.YtpfkddbhpoeknaaDoorAwake
import Derived.Test.YtpfkddbhpoeknaaDoorBs
namespace Go.Proofs.YtpfkddbhpoeknaaDoor
open Go.RowKit
theorem xor8b (a b : UInt8) : bits .xor .u8 (a.toNat : Int) (b.toNat : Int) = (((a ^^^ b).toNat : Nat) : Int) := by
  rw [u8_xor_nat a.toNat b.toNat a.toNat_lt b.toNat_lt, UInt8.toNat_xor]
theorem xor8n (a : UInt8) (X : Int) (n : Nat) (h : X = (n : Int) % 256) : bits .xor .u8 (a.toNat : Int) X = (((a ^^^ UInt8.ofNat n).toNat : Nat) : Int) := by
  have e : X = ((UInt8.ofNat n).toNat : Int) := by rw [UInt8.toNat_ofNat', h]; omega
  rw [e]; exact xor8b a _
theorem xor_ne8 (a x : UInt8) (h : x.toNat ≠ 0) : a ^^^ x ≠ a := by
  intro e
  refine h ?_
  have h2 : a ^^^ (a ^^^ x) = a ^^^ a := by rw [e]
  rw [← UInt8.xor_assoc, UInt8.xor_self, UInt8.zero_xor] at h2
  rw [h2]; rfl
/-- one byte more of the differences. -/
theorem patch_xor {L M : List UInt8} {P k u : Nat} {c : Bool} (h : Patch L (P : Int) k M c) (hc : c = false → u % 256 ^ k = 0) (hi : P + k < M.length) (x : Nat) (hx : x = u / 256 ^ k) {i : Nat} (hik : i = P + k) (hii : i < M.length := by omega) :
    ∃ c', Patch L (P : Int) (k + 1) (M.set i (M[i] ^^^ UInt8.ofNat x)) c' ∧ (c' = false → u % 256 ^ (k + 1) = 0) := by
  subst hik
  by_cases h0 : x % 256 = 0
  · have hz : UInt8.ofNat x = 0 := UInt8.toNat_inj.1 (by rw [UInt8.toNat_ofNat', h0]; rfl)
    refine ⟨c, ?_, fun e => ?_⟩
    · rw [hz, UInt8.xor_zero, List.set_getElem_self]; exact h.skip
    · have h1 := hc e
      rw [hx] at h0
      rw [Nat.pow_succ, Nat.mod_mul, h1, h0]; rfl
  · exact ⟨true, h.hit hi _ (xor_ne8 _ _ (by rw [UInt8.toNat_ofNat']; omega)), fun e => by cases e⟩
set_option maxHeartbeats 8000000 in
set_option maxRecDepth 100000 in
theorem seals_law (f : FrV) (p : Int) (u : Nat) (w : World) (hg : MLen w) (hu : u < 4294967296) : Calls Tryd.prog 5 #[.agg (fcells f), .int .i64 p, .int .u32 u] w fun e w' => e = .returned (.bool true) ∧ Below w.heap.size w w' := by
  have HG := Lib.hid hg; clear hg
  have HA := Lib.hid (fun w hg => awake_any w hg)
  have HB0 := Lib.hid (below_box w (.cells (fcells f) FT))
  by_cases h1 : 20000 < f.data.size
  · have hd := decide_eq_true (show (20000 : Int) < (f.data.size : Int) by omega)
    go_enter Tryd.func5, Tryd.ntmps5
    go_wp2_with fail
    refine (HA.out _ (HG.out.below HB0.out)).mono ?_; rintro e w1 ⟨rfl, hb1⟩
    go_wp2_with fail
    go_ret
    exact ⟨rfl, HB0.out.trans (hb1.mono HB0.out.size)⟩
  have hd := decide_eq_false (show ¬ (20000 : Int) < (f.data.size : Int) by omega)
  have HW := Lib.hid (fun w hg => write_any f w hg (by omega))
  by_cases hc : frameE f = 0
  case neg =>
    have hwr : writeF f = ⟨⟨#[]⟩, frameE f⟩ := by unfold writeF; rw [if_neg hc]
    rw [hwr] at HW
    obtain ⟨q1, q2⟩ := byte_eq hc
    generalize frameE f = c at *
    clear hc hwr h1
    go_enter Tryd.func5, Tryd.ntmps5
    go_wp2_with fail
    refine (HW.out _ (HG.out.below HB0.out)).mono ?_; rintro e w1 ⟨rfl, hb1⟩
    have HB1 := Lib.hid (HB0.out.trans (hb1.mono HB0.out.size)); clear hb1
    go_wp2_with fail
    refine (HA.out _ (HG.out.below HB1.out)).mono ?_; rintro e w2 ⟨rfl, hb2⟩
    go_wp2_with fail
    go_ret
    exact ⟨rfl, HB1.out.trans (hb2.mono HB1.out.size)⟩
  case pos =>
  have hwr : writeF f = ⟨frB f, 0⟩ := by unfold writeF; rw [if_pos hc]
  rw [hwr] at HW
  have hds : f.data.size ≤ 20000 := by omega
  have HCC := Lib.hid hc
  have hzz := frB_size f
  have hkk : hdLen f ≤ 31 := by
    have a := (putL_len f.strm.toNat).2; have b := (putL_len f.num.toNat).2; have c := (putL_len f.data.size).2
    unfold hdLen; omega
  clear hwr h1
  obtain ⟨fk, ft, fn, fd⟩ := f
  have HK0 := Lib.hid (Bk.new w FT #[.int .i64 fk, .int .i64 ft, .int .i64 fn, .string fd])
  simp only at hzz hds hd
  by_cases hp : p < 0
  · clear hzz hkk hc
    go_enter Tryd.func5, Tryd.ntmps5
    go_wp2_with fail
    refine (HW.out _ (HG.out.below HB0.out)).mono ?_; rintro e w1 ⟨rfl, hb1⟩
    have HB1 := Lib.hid (HB0.out.trans (hb1.mono HB0.out.size)); clear hb1
    go_wp2_with fail
    refine (HA.out _ (HG.out.below HB1.out)).mono ?_; rintro e w2 ⟨rfl, hb2⟩
    go_wp2_with fail
    go_ret
    exact ⟨rfl, HB1.out.trans (hb2.mono HB1.out.size)⟩
  obtain ⟨at_, rfl⟩ : ∃ n : Nat, p = n := ⟨p.toNat, by omega⟩
  by_cases hq : fd.size < at_
  · have hd2 := decide_eq_true (show (fd.size : Int) < (at_ : Int) by omega)
    have hd3 := decide_eq_false (show ¬ (at_ : Int) < 0 by omega)
    clear hzz hkk hc
    go_enter Tryd.func5, Tryd.ntmps5
    go_wp2_with fail
    refine (HW.out _ (HG.out.below HB0.out)).mono ?_; rintro e w1 ⟨rfl, hb1⟩
    have HB1 := Lib.hid (HB0.out.trans (hb1.mono HB0.out.size)); have HK1 := Lib.hid (HK0.out.keep hb1); clear hb1
    have k0 : w1.cell? ⟨w.heap.size, 0, none⟩ = some (.int .i64 fk) := HK1.out.at_ 0 rfl
    have k1 : w1.cell? ⟨w.heap.size, 1, none⟩ = some (.int .i64 ft) := HK1.out.at_ 1 rfl
    have k2 : w1.cell? ⟨w.heap.size, 2, none⟩ = some (.int .i64 fn) := HK1.out.at_ 2 rfl
    have k3 : w1.cell? ⟨w.heap.size, 3, none⟩ = some (.string fd) := HK1.out.at_ 3 rfl
    go_wp2_with fail
    refine (HA.out _ (HG.out.below HB1.out)).mono ?_; rintro e w2 ⟨rfl, hb2⟩
    go_wp2_with fail
    go_ret
    exact ⟨rfl, HB1.out.trans (hb2.mono HB1.out.size)⟩
  have hd2 := decide_eq_false (show ¬ (fd.size : Int) < (at_ : Int) by omega)
  have hd3 := decide_eq_false (show ¬ (at_ : Int) < 0 by omega)
  by_cases hu0 : u = 0
  · subst hu0
    clear hzz hkk hc
    go_enter Tryd.func5, Tryd.ntmps5
    go_wp2_with fail
    refine (HW.out _ (HG.out.below HB0.out)).mono ?_; rintro e w1 ⟨rfl, hb1⟩
    have HB1 := Lib.hid (HB0.out.trans (hb1.mono HB0.out.size)); have HK1 := Lib.hid (HK0.out.keep hb1); clear hb1
    have k0 : w1.cell? ⟨w.heap.size, 0, none⟩ = some (.int .i64 fk) := HK1.out.at_ 0 rfl
    have k1 : w1.cell? ⟨w.heap.size, 1, none⟩ = some (.int .i64 ft) := HK1.out.at_ 1 rfl
    have k2 : w1.cell? ⟨w.heap.size, 2, none⟩ = some (.int .i64 fn) := HK1.out.at_ 2 rfl
    have k3 : w1.cell? ⟨w.heap.size, 3, none⟩ = some (.string fd) := HK1.out.at_ 3 rfl
    go_wp2_with fail
    refine (HA.out _ (HG.out.below HB1.out)).mono ?_; rintro e w2 ⟨rfl, hb2⟩
    go_wp2_with fail
    go_ret
    exact ⟨rfl, HB1.out.trans (hb2.mono HB1.out.size)⟩
  have hun : ((u : Int) == 0) = false := by rw [beq_eq_false_iff_ne]; omega
  have HU0 := Lib.hid hu0; clear hu0
  obtain ⟨H, hH⟩ : ∃ n, n = hdLen ⟨fk, ft, fn, fd⟩ := ⟨_, rfl⟩
  rw [← hH] at hzz hkk
  obtain ⟨P, hP⟩ : ∃ n, n = H + at_ := ⟨_, rfl⟩
  have HPH := Lib.hid (show hdLen ⟨fk, ft, fn, fd⟩ ≤ P by omega)
  have HPT0 := Lib.hid (Patch.nil (frB ⟨fk, ft, fn, fd⟩).data.toList (P : Int))
  have HEND := Lib.hid (fun (M : List UInt8) (h : Patch (frB ⟨fk, ft, fn, fd⟩).data.toList (P : Int) 4 M true) => readL_patch ⟨fk, ft, fn, fd⟩ HCC.out HPH.out h)
  have hll : (frB ⟨fk, ft, fn, fd⟩).data.toList.length = (frB ⟨fk, ft, fn, fd⟩).size := by rw [Array.length_toList]; rfl
  generalize frB ⟨fk, ft, fn, fd⟩ = B at *
  have hsz4 : ((B.size : Int) - 4 - (fd.size : Int)) = (H : Int) := by omega
  have hpp : ((H : Int) + (at_ : Int)) = (P : Int) := by omega
  have hPB : P + 3 < B.size := by omega
  have hBb : B.size ≤ 21000 := by omega
  have hd6 := decide_eq_false (show ¬ (H : Int) < 0 by omega)
  have HHB := Lib.hid (show H ≤ 31 ∧ P ≤ 21000 from ⟨by omega, by omega⟩)
  clear hzz hkk hH hP hq hp hds hc
  go_enter Tryd.func5, Tryd.ntmps5
  go_wp2_with fail
  refine (HW.out _ (HG.out.below HB0.out)).mono ?_; rintro e w1 ⟨rfl, hb1⟩
  have HB1 := Lib.hid (HB0.out.trans (hb1.mono HB0.out.size)); have HK1 := Lib.hid (HK0.out.keep hb1); clear hb1
  obtain ⟨cap, W1, hcv, hb3, hlt, hcap, hbs⟩ := bs_of B w1
  have HB3 := Lib.hid (HB1.out.trans (hb3.mono HB1.out.size)); have HK3 := Lib.hid (HK1.out.keep hb3); have HBS0 := Lib.hid hbs; have HSZ := Lib.hid HB1.out.size
  clear hb3 hbs hcap hlt
  have k0 : w1.cell? ⟨w.heap.size, 0, none⟩ = some (.int .i64 fk) := HK1.out.at_ 0 rfl
  have k1 : w1.cell? ⟨w.heap.size, 1, none⟩ = some (.int .i64 ft) := HK1.out.at_ 1 rfl
  have k2 : w1.cell? ⟨w.heap.size, 2, none⟩ = some (.int .i64 fn) := HK1.out.at_ 2 rfl
  have k3 : w1.cell? ⟨w.heap.size, 3, none⟩ = some (.string fd) := HK1.out.at_ 3 rfl
  have m0 : W1.cell? ⟨w.heap.size, 0, none⟩ = some (.int .i64 fk) := HK3.out.at_ 0 rfl
  have m1 : W1.cell? ⟨w.heap.size, 1, none⟩ = some (.int .i64 ft) := HK3.out.at_ 1 rfl
  have m2 : W1.cell? ⟨w.heap.size, 2, none⟩ = some (.int .i64 fn) := HK3.out.at_ 2 rfl
  have m3 : W1.cell? ⟨w.heap.size, 3, none⟩ = some (.string fd) := HK3.out.at_ 3 rfl
  have hHb := HHB.out.1
  have hPb := HHB.out.2
  go_wp2_with fail
  clear k0 k1 k2 k3 m0 m1 m2 m3 hcv hsz4 hd6 hd hd2 hd3 hun
  go_loopw [11] (fun i wr => ∃ (k : Nat) (M : List UInt8) (c : Bool), k ≤ 4 ∧ i = .int .i64 k ∧ Patch B.data.toList (P : Int) k M c ∧ (c = false → u % 256 ^ k = 0) ∧ Bs wr w1.heap.size M ∧ Below w.heap.size w wr ∧ M.length = B.size) (fun i _ => 4 - (intOf i).toNat)
  case atStart => exact ⟨0, _, false, by omega, rfl, HPT0.out, fun _ => by simp [Nat.mod_one], HBS0.out, HB3.out, hll⟩
  case round =>
    clear HBS0 HB3 HPT0
    obtain ⟨k, M, c, hk, rfl, hpt, hpc, hbs, hbl, hM⟩ := hrel
    have HPT := Lib.hid hpt; have HPC := Lib.hid hpc; have HBS := Lib.hid hbs; have HBL := Lib.hid hbl
    clear hpt hpc hbs hbl
    by_cases hlt : k < 4
    · have hc : k = 0 ∨ k = 1 ∨ k = 2 ∨ k = 3 := by omega
      rcases hc with rfl | rfl | rfl | rfl
      · clear hk hlt
        have hi : P < M.length := by omega
        have hcell := HBS.out.cell hi
        have hfree := HBS.out.free hi
        have hxx := xor8n M[P] ((u : Int) % 256) u (by omega)
        have HN := Lib.hid (show ∃ (k : Nat) (M' : List UInt8) (c : Bool), k ≤ 4 ∧ Value.int .i64 1 = .int .i64 (k : Int) ∧ Patch B.data.toList (P : Int) k M' c ∧ (c = false → u % 256 ^ k = 0) ∧ Bs (wr.setCell ⟨w1.heap.size, P, none⟩ (.int .u8 ((M[P] ^^^ UInt8.ofNat u).toNat : Int))) w1.heap.size M' ∧ Below w.heap.size w (wr.setCell ⟨w1.heap.size, P, none⟩ (.int .u8 ((M[P] ^^^ UInt8.ofNat u).toNat : Int))) ∧ M'.length = B.size from by
          obtain ⟨c', hp', hc'⟩ := patch_xor (k := 0) (i := P) HPT.out HPC.out hi u (by simp) rfl
          exact ⟨1, _, c', by omega, rfl, hp', hc', HBS.out.set hi _, HBL.out.setCell (p := ⟨w1.heap.size, P, none⟩) HSZ.out _, by rw [List.length_set]; exact hM⟩)
        generalize M[P] = c0 at *
        generalize c0 ^^^ UInt8.ofNat u = c1 at *
        go_wp2
        go_roundw
        case rel => exact HN.out
        case measure => simp [intOf]
      · clear hk hlt
        have hi : P + 1 < M.length := by omega
        have hcell := HBS.out.cell hi
        have hfree := HBS.out.free hi
        have hxx := xor8n M[P + 1] ((u : Int) / 256 % 256) (u / 256) (by omega)
        have HN := Lib.hid (show ∃ (k : Nat) (M' : List UInt8) (c : Bool), k ≤ 4 ∧ Value.int .i64 2 = .int .i64 (k : Int) ∧ Patch B.data.toList (P : Int) k M' c ∧ (c = false → u % 256 ^ k = 0) ∧ Bs (wr.setCell ⟨w1.heap.size, P + 1, none⟩ (.int .u8 ((M[P + 1] ^^^ UInt8.ofNat (u / 256)).toNat : Int))) w1.heap.size M' ∧ Below w.heap.size w (wr.setCell ⟨w1.heap.size, P + 1, none⟩ (.int .u8 ((M[P + 1] ^^^ UInt8.ofNat (u / 256)).toNat : Int))) ∧ M'.length = B.size from by
          obtain ⟨c', hp', hc'⟩ := patch_xor (k := 1) (i := P + 1) HPT.out HPC.out hi (u / 256) rfl rfl
          exact ⟨2, _, c', by omega, rfl, hp', hc', HBS.out.set hi _, HBL.out.setCell (p := ⟨w1.heap.size, P + 1, none⟩) HSZ.out _, by rw [List.length_set]; exact hM⟩)
        generalize M[P + 1] = c0 at *
        generalize c0 ^^^ UInt8.ofNat (u / 256) = c1 at *
        go_wp2
        go_roundw
        case rel => exact HN.out
        case measure => simp [intOf]
      · clear hk hlt
        have hi : P + 2 < M.length := by omega
        have hcell := HBS.out.cell hi
        have hfree := HBS.out.free hi
        have hxx := xor8n M[P + 2] ((u : Int) / 65536 % 256) (u / 65536) (by omega)
        have HN := Lib.hid (show ∃ (k : Nat) (M' : List UInt8) (c : Bool), k ≤ 4 ∧ Value.int .i64 3 = .int .i64 (k : Int) ∧ Patch B.data.toList (P : Int) k M' c ∧ (c = false → u % 256 ^ k = 0) ∧ Bs (wr.setCell ⟨w1.heap.size, P + 2, none⟩ (.int .u8 ((M[P + 2] ^^^ UInt8.ofNat (u / 65536)).toNat : Int))) w1.heap.size M' ∧ Below w.heap.size w (wr.setCell ⟨w1.heap.size, P + 2, none⟩ (.int .u8 ((M[P + 2] ^^^ UInt8.ofNat (u / 65536)).toNat : Int))) ∧ M'.length = B.size from by
          obtain ⟨c', hp', hc'⟩ := patch_xor (k := 2) (i := P + 2) HPT.out HPC.out hi (u / 65536) rfl rfl
          exact ⟨3, _, c', by omega, rfl, hp', hc', HBS.out.set hi _, HBL.out.setCell (p := ⟨w1.heap.size, P + 2, none⟩) HSZ.out _, by rw [List.length_set]; exact hM⟩)
        generalize M[P + 2] = c0 at *
        generalize c0 ^^^ UInt8.ofNat (u / 65536) = c1 at *
        go_wp2
        go_roundw
        case rel => exact HN.out
        case measure => simp [intOf]
      · clear hk hlt
        have hi : P + 3 < M.length := by omega
        have hcell := HBS.out.cell hi
        have hfree := HBS.out.free hi
        have hxx := xor8n M[P + 3] ((u : Int) / 16777216) (u / 16777216) (by omega)
        have HN := Lib.hid (show ∃ (k : Nat) (M' : List UInt8) (c : Bool), k ≤ 4 ∧ Value.int .i64 4 = .int .i64 (k : Int) ∧ Patch B.data.toList (P : Int) k M' c ∧ (c = false → u % 256 ^ k = 0) ∧ Bs (wr.setCell ⟨w1.heap.size, P + 3, none⟩ (.int .u8 ((M[P + 3] ^^^ UInt8.ofNat (u / 16777216)).toNat : Int))) w1.heap.size M' ∧ Below w.heap.size w (wr.setCell ⟨w1.heap.size, P + 3, none⟩ (.int .u8 ((M[P + 3] ^^^ UInt8.ofNat (u / 16777216)).toNat : Int))) ∧ M'.length = B.size from by
          obtain ⟨c', hp', hc'⟩ := patch_xor (k := 3) (i := P + 3) HPT.out HPC.out hi (u / 16777216) rfl rfl
          exact ⟨4, _, c', by omega, rfl, hp', hc', HBS.out.set hi _, HBL.out.setCell (p := ⟨w1.heap.size, P + 3, none⟩) HSZ.out _, by rw [List.length_set]; exact hM⟩)
        generalize M[P + 3] = c0 at *
        generalize c0 ^^^ UInt8.ofNat (u / 16777216) = c1 at *
        go_wp2
        go_roundw
        case rel => exact HN.out
        case measure => simp [intOf]
    · obtain rfl : k = 4 := by omega
      have hct : c = true := by
        cases c with
        | true => rfl
        | false => exfalso; have := HPC.out rfl; have h0 := HU0.out; rw [show (256 : Nat) ^ 4 = 4294967296 by decide, Nat.mod_eq_of_lt hu] at this; exact h0 this
      subst hct
      have hrd := HEND.out M HPT.out
      have hback := HBS.out.back cap
      rw [hM] at hback
      have HRD := Lib.hid (fun w hg => (read_any ⟨M.toArray⟩ w hg (by show M.toArray.size < _; rw [List.size_toArray]; omega)).mono fun e w' he => (show e = .returned (.tuple #[.agg #[.int .i64 0, .int .i64 0, .int .i64 0, .string ⟨#[]⟩], .int .i64 0, .int .i64 25]) ∧ Below w.heap.size w w' by
        unfold RdPost at he; rw [show (⟨M.toArray⟩ : ByteArray).data.toList = M from rfl, hrd] at he; exact he))
      clear hrd hk hlt hpp hPB
      go_wp2_with fail
      refine (HRD.out _ (HG.out.below HBL.out)).mono ?_; rintro e w5 ⟨rfl, hb5⟩
      have HB5 := Lib.hid (HBL.out.trans (hb5.mono HBL.out.size)); clear hb5
      have HB6 := Lib.hid (HB5.out.alloc HB5.out.size (.cells #[.int .i64 0, .int .i64 0, .int .i64 0, .string ⟨#[]⟩] FT))
      go_wp2_with fail
      refine (HA.out _ (HG.out.below HB6.out)).mono ?_; rintro e w7 ⟨rfl, hb7⟩
      go_wp2_with fail
      go_ret
      exact ⟨rfl, HB6.out.trans (hb7.mono HB6.out.size)⟩
end Go.Proofs.YtpfkddbhpoeknaaDoor
