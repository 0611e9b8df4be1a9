/- Texts of this claim merged into one: QRd1F, QCn23, QCn24. -/
import Derived.Test.YthiocbcokfondaaGreatDoorQBunR
import Derived.Test.YthiocbcokfondaaGreatDoorQBunC22
namespace Go.Proofs.YthiocbcokfondaaGreatDoor
open Go.RowKit
def BQ (R : DL) (w : World) (e : Ending) (w' : World) : Prop := ∃ v, e = .returned (.tuple #[.agg (cY R.head v), .int .i64 R.err]) ∧ w'.ownsRow w.heap.size MT 2 v R.head.metas.length (eP R.head.metas) ∧ Below w.heap.size w w'
set_option maxHeartbeats 4000000 in
set_option maxRecDepth 100000 in
theorem qg (s0 : ByteArray) (w : World) (hg : MLen w) (hs : s0.size < 4294967281) :
    Calls Tryz.prog 76 #[.string s0] w (BQ (cP s0) w) := by
  have HG := Lib.hid hg; clear hg
  have HR0 := Lib.hid (show cP s0 = iv s0 ⟨(aE s0 0).text, (aE (aE s0 0).rest (aE s0 0).err).text, 0, []⟩ (bX (aE (aE s0 0).rest (aE s0 0).err).rest (aE (aE s0 0).rest (aE s0 0).err).err).num (lO (bX (bX (aE (aE s0 0).rest (aE s0 0).err).rest (aE (aE s0 0).rest (aE s0 0).err).err).rest (bX (aE (aE s0 0).rest (aE s0 0).err).rest (aE (aE s0 0).rest (aE s0 0).err).err).err).num (bX (bX (aE (aE s0 0).rest (aE s0 0).err).rest (aE (aE s0 0).rest (aE s0 0).err).err).rest (bX (aE (aE s0 0).rest (aE s0 0).err).rest (aE (aE s0 0).rest (aE s0 0).err).err).err).rest (bX (bX (aE (aE s0 0).rest (aE s0 0).err).rest (aE (aE s0 0).rest (aE s0 0).err).err).rest (bX (aE (aE s0 0).rest (aE s0 0).err).rest (aE (aE s0 0).rest (aE s0 0).err).err).err).err) from rfl)
  have h1 := gg s0 0
  have HT1 := Lib.hid (fun b w hk => gh b s0 0 w hk (by omega))
  generalize aE s0 0 = X1 at *
  obtain ⟨svc, s1, e1⟩ := X1
  have h2 := gg s1 e1
  have HT2 := Lib.hid (fun b w hk => gh b s1 e1 w hk (by have : s1.size ≤ s0.size := h1.1; omega))
  simp only at HR0
  generalize aE s1 e1 = X2 at *
  obtain ⟨mth, s2, e2⟩ := X2
  have h3 := iX s2 e2
  have h3l := jW s2 e2
  have HT3 := Lib.hid (fun b w hk => gZ b s2 e2 w hk (by have : s1.size ≤ s0.size := h1.1; have : s2.size ≤ s1.size := h2.1; omega))
  simp only at HR0
  generalize bX s2 e2 = X3 at *
  obtain ⟨late, s3, e3⟩ := X3
  have h4 := iX s3 e3
  have h4l := jW s3 e3
  have HT4 := Lib.hid (fun b w hk => gZ b s3 e3 w hk (by have : s1.size ≤ s0.size := h1.1; have : s2.size ≤ s1.size := h2.1; have : s3.size ≤ s2.size := h3; omega))
  simp only at HR0
  generalize bX s3 e3 = X4 at *
  obtain ⟨n, s4, e4⟩ := X4
  have b1 : s1.size ≤ s0.size := h1.1
  have b2 : s2.size ≤ s1.size := h2.1
  have b3 : s3.size ≤ s2.size := h3
  have b4 : s4.size ≤ s3.size := h4
  have b5 : svc.size ≤ s0.size := h1.2
  have b6 : mth.size ≤ s1.size := h2.2
  have n1 : late < 18446744073709551616 := h3l
  have n2 : n < 18446744073709551616 := h4l
  simp only [oT] at HR0
  clear h1 h2 h3 h4 h3l h4l
  generalize cP s0 = RR at *
  have HSZ := Lib.hid (show svc.size < 4294967281 ∧ mth.size < 4294967281 ∧ s4.size < 4294967281 from ⟨by omega, by omega, by omega⟩)
  have HN1 := Lib.hid n1; have HN2 := Lib.hid n2
  clear hs b1 b2 b3 b4 b5 b6 n1 n2
  go_enter Tryz.func76, Tryz.ntmps76
  have hsz1 : (w.alloc (.cells dQ HT)).heap.size = w.heap.size + 1 := by simp
  have HKR0 := Lib.hid ((Bk.new w HT dQ).more (.cells #[.string s0, .int .i64 0] TK))
  have HKT0 := Lib.hid (show Bk ((w.alloc (.cells dQ HT)).alloc (.cells #[.string s0, .int .i64 0] TK)) (w.heap.size + 1) TK #[.string s0, .int .i64 0] from by have h := Bk.new (w.alloc (.cells dQ HT)) TK #[.string s0, .int .i64 0]; rw [hsz1] at h; exact h)
  have HB0 := Lib.hid (show Below w.heap.size w ((w.alloc (.cells dQ HT)).alloc (.cells #[.string s0, .int .i64 0] TK)) from ((Below.refl _ _).alloc (Nat.le_refl _) _).alloc (by simp) _)
  clear hsz1
  go_wp2_with fail
  refine (HT1.out _ _ HKT0.out).mono ?_; rintro e w1 ⟨rfl, hkt1, hgr1⟩
  have HKT1 := Lib.hid hkt1; have HKR1 := Lib.hid (HKR0.out.beside hgr1 (by omega)); have HB1 := Lib.hid (HB0.out.grown hgr1 HB0.out.size (fun k hk => by have := Option.some.inj hk; omega))
  clear hkt1 hgr1 HKT0 HKR0 HB0
  go_wp2_with fail
  refine (HT2.out _ _ HKT1.out).mono ?_; rintro e w2 ⟨rfl, hkt2, hgr2⟩
  have HKT2 := Lib.hid hkt2; have HKR2 := Lib.hid (HKR1.out.beside hgr2 (by omega)); have HB2 := Lib.hid (HB1.out.grown hgr2 HB1.out.size (fun k hk => by have := Option.some.inj hk; omega))
  clear hkt2 hgr2 HKT1 HKR1 HB1
  have HNH := Lib.hid (show w2.heap.size ≠ w.heap.size + 1 from Nat.ne_of_gt HKT2.out.here)
  have HNR := Lib.hid (show w2.heap.size ≠ w.heap.size from Nat.ne_of_gt HKR2.out.here)
  have HHB := Lib.hid HB2.out.size
  have HKT12 := Lib.hid (HKT2.out.more (.cells #[.string svc, .string mth, .int .i64 0, .slice none 0 0] HT)); have HKR12 := Lib.hid (HKR2.out.more (.cells #[.string svc, .string mth, .int .i64 0, .slice none 0 0] HT)); have HB12 := Lib.hid (HB2.out.alloc HB2.out.size (.cells #[.string svc, .string mth, .int .i64 0, .slice none 0 0] HT)); have HKH12 := Lib.hid (Bk.new w2 HT #[.string svc, .string mth, .int .i64 0, .slice none 0 0])
  clear HKT2 HKR2 HB2
  go_wp2_with fail
  refine (HT3.out _ _ HKT12.out).mono ?_; rintro e w13 ⟨rfl, hkt13, hgr13⟩
  have HKT13 := Lib.hid hkt13; have HKR13 := Lib.hid (HKR12.out.beside hgr13 (by omega)); have HB13 := Lib.hid (HB12.out.grown hgr13 HB12.out.size (fun k hk => by have := Option.some.inj hk; omega)); have HKH13 := Lib.hid (HKH12.out.beside hgr13 HNH.out)
  clear hkt13 hgr13 HKT12 HKR12 HB12 HKH12
  go_wp2_with fail
  refine (HT4.out _ _ HKT13.out).mono ?_; rintro e w14 ⟨rfl, hkt14, hgr14⟩
  have HKT14 := Lib.hid hkt14; have HKR14 := Lib.hid (HKR13.out.beside hgr14 (by omega)); have HB14 := Lib.hid (HB13.out.grown hgr14 HB13.out.size (fun k hk => by have := Option.some.inj hk; omega)); have HKH14 := Lib.hid (HKH13.out.beside hgr14 HNH.out)
  clear hkt14 hgr14 HKT13 HKR13 HB13 HKH13
  have HE5 := Lib.hid (fun (h : (if e4 = 0 ∧ 16 < n then (3 : Int) else e4) = 0) => show n ≤ 16 from by split at h <;> omega)
  go_upto_region 4 with fail
  go_cut [31] (fun s31 wx => ∃ b : Bool, s31 = .bool b ∧ Hid (b = decide (e4 = 0 ∧ 16 < n)) ∧ wx = w14)
  case first =>
    have t1 : w14.cell? ⟨w.heap.size + 1, 1, none⟩ = some (.int .i64 e4) := HKT14.out.at_ 1 rfl
    by_cases h4 : e4 = 0
    · subst h4
      by_cases h16 : 16 < n
      · have hd := decide_eq_true (show (16 : Int) < (n : Int) by omega)
        go_wp2_with fail
        go_meet
        exact ⟨_, rfl, Lib.hid (by simp [h16]), rfl⟩
      · have hd := decide_eq_false (show ¬ (16 : Int) < (n : Int) by omega)
        go_wp2_with fail
        go_meet
        exact ⟨_, rfl, Lib.hid (by simp [h16]), rfl⟩
    · obtain ⟨q1, q2⟩ := aM h4
      go_wp2_with fail
      go_meet
      exact ⟨_, rfl, Lib.hid (by simp [h4]), rfl⟩
  case rest =>
  obtain ⟨b31, rfl, hb31, rfl⟩ := hcut
  go_upto_if 31 with fail
  go_cut [] (fun wx => Bk wx (w.heap.size + 1) TK #[.string s4, .int .i64 (if e4 = 0 ∧ 16 < n then 3 else e4)] ∧ Bk wx w.heap.size HT dQ ∧ Bk wx w2.heap.size HT #[.string svc, .string mth, .int .i64 0, .slice none 0 0] ∧ Below w.heap.size w wx)
  case first =>
    have cf := HKT14.out.free
    have t1 : wc.cell? ⟨w.heap.size + 1, 1, none⟩ = some (.int .i64 e4) := HKT14.out.at_ 1 rfl
    cases b31 with
    | true =>
      have h4 : e4 = 0 ∧ 16 < n := of_decide_eq_true hb31.out.symm
      go_wp2_with fail
      go_meet
      refine ⟨?_, HKR14.out.aside (show w.heap.size ≠ w.heap.size + 1 by omega) _, HKH14.out.aside HNH.out _, HB14.out.setCell (show w.heap.size ≤ w.heap.size + 1 by omega) _⟩
      rw [if_pos h4]
      exact HKT14.out.put 1 _
    | false =>
      have h4 : ¬ (e4 = 0 ∧ 16 < n) := of_decide_eq_false hb31.out.symm
      go_wp2_with fail
      go_meet
      refine ⟨?_, HKR14.out, HKH14.out, HB14.out⟩
      rw [if_neg h4]
      exact HKT14.out
  case rest =>
  obtain ⟨hkt, hkr, hkh, hb⟩ := hcut
  clear HKT14 HKR14 HKH14 HB14 HT1 HT2 HT3 HT4
  generalize (if e4 = 0 ∧ 16 < n then (3 : Int) else e4) = e5 at *
  have HKT := Lib.hid hkt; have HKR := Lib.hid hkr; have HKH := Lib.hid hkh; have HB := Lib.hid hb
  clear hkt hkr hkh hb
  obtain ⟨z1, z2, z4⟩ := HSZ.out
  have HZ1 := Lib.hid z1; have HZ2 := Lib.hid z2; have HZ4 := Lib.hid z4; clear z1 z2 z4
  obtain ⟨i0, hi, hz0, hz1, hz2⟩ := info_parts tw
  have HI := Lib.hid hi; have HIZ := Lib.hid hz0; have HIZ1 := Lib.hid hz1; have HIZ2 := Lib.hid hz2
  clear hi hz0 hz1 hz2
  go_wp2_with fail
  go_loopw [8] (fun x wr => ∃ (k : Nat) (s : ByteArray) (e : Int) (acc : List (ByteArray × ByteArray)) (v : Value), x = .int .u64 k ∧ k ≤ n ∧ (e = 0 → n ≤ 16) ∧ acc.length = k ∧ s.size < 4294967281 ∧ (∀ m ∈ acc, m.1.size < 4294967281 ∧ m.2.size < 4294967281) ∧ Bk wr (w.heap.size + 1) TK #[.string s, .int .i64 e] ∧ Bk wr w2.heap.size HT #[.string svc, .string mth, .int .i64 0, v] ∧ Bk wr w.heap.size HT dQ ∧ wr.ownsRow w.heap.size MT 2 v acc.length (eP acc) ∧ Below w.heap.size w wr ∧ ew n s4 e5 [] = ew (n - k) s e acc) (fun x _ => n - (intOf x).toNat)
  case atStart => exact ⟨0, s4, e5, [], .slice none 0 0, rfl, Nat.zero_le _, HE5.out, rfl, HZ4.out, fun _ h => (by cases h), HKT.out, HKH.out, HKR.out, World.ownsRow_nil _ _ _ _, HB.out, rfl⟩
  case round =>
    obtain ⟨k, s, e, acc, v, rfl, hkn, h16, hal, hss, hms, hkt, hkh, hkr, hown, hbw, hM⟩ := hrel
    have HKT := Lib.hid hkt; have HKH := Lib.hid hkh; have HKR := Lib.hid hkr; have HO := Lib.hid hown; have HB := Lib.hid hbw; have HM := Lib.hid hM; have HMS := Lib.hid hms; have HSS := Lib.hid hss; have HALN := Lib.hid hal; clear hal
    have t1 : wr.cell? ⟨w.heap.size + 1, 1, none⟩ = some (.int .i64 e) := hkt.at_ 1 rfl
    have t0 : wr.cell? ⟨w.heap.size + 1, 0, none⟩ = some (.string s) := hkt.at_ 0 rfl
    have hv3 : wr.cell? ⟨w2.heap.size, 3, none⟩ = some v := hkh.at_ 3 rfl
    clear hkt hkh hkr hown hbw hM hms hss
    by_cases he : e = 0
    · subst he
      have hn16 := h16 rfl
      clear h16
      by_cases hlt : k < n
      · have hd := decide_eq_true (show (k : Int) < (n : Int) by omega)
        have hx1 := gg s 0
        have hx2 := gg (aE s 0).rest (aE s 0).err
        have HS1 := Lib.hid (show (aE s 0).rest.size < 4294967281 from by have := HSS.out; omega)
        have HS2 := Lib.hid (show (aE (aE s 0).rest (aE s 0).err).rest.size < 4294967281 from by have := HSS.out; omega)
        have HT1s := Lib.hid (show (aE s 0).text.size < 4294967281 from by have := HSS.out; omega)
        have HT2s := Lib.hid (show (aE (aE s 0).rest (aE s 0).err).text.size < 4294967281 from by have := HSS.out; omega)
        have HMN := Lib.hid (show ew n s4 e5 [] = ew (n - (k + 1)) (aE (aE s 0).rest (aE s 0).err).rest (aE (aE s 0).rest (aE s 0).err).err (acc ++ [((aE s 0).text, (aE (aE s 0).rest (aE s 0).err).text)]) by
          rw [HM.out, show n - k = (n - (k + 1)) + 1 by omega, ew, if_pos rfl])
        clear hx1 hx2
        have HNO := Lib.hid (ej HO.out HKH.out (by decide))
        go_wp2_with fail
        refine jY (fun W' => W'.cell? ⟨w2.heap.size, 3, none⟩ = some v) Dk (by kernel_rfl) (by kernel_rfl) J J hv3 ?_
        iterate 3 ((refine az J J _ (fun w' hI => by go_simp; rfl) (fun K hK => ?_); try go_simp; refine hK _ _ ?_; clear hK K))
        refine bd J J J (fun K hK => ?_); go_simp
        refine (gh _ s 0 _ HKT.out.draw (by have := HSS.out; omega)).mono ?_; rintro e y1 ⟨rfl, hkt1, hgr1⟩; try go_simp
        have HKT1 := Lib.hid hkt1; have HKH1 := Lib.hid (Bk.beside (w := wr.drew) HKH.out hgr1 HNH.out); have HKR1 := Lib.hid (Bk.beside (w := wr.drew) HKR.out hgr1 (show w.heap.size ≠ w.heap.size + 1 by omega))
        have HO1 := Lib.hid (World.ownsRow.kept (w := wr.drew) HO.out hgr1 (.inr (ej (w := wr.drew) HO.out HKT.out (by decide))))
        have HB1 := Lib.hid (HB.out.drew.grown hgr1 HB.out.size (fun k hk => by have := Option.some.inj hk; omega))
        refine hK _ _ ⟨HKH1.out.at_ 3 rfl, ?_⟩; clear hK K hkt1 hgr1
        generalize hq1 : aE s 0 = X1 at *
        obtain ⟨a1, r1, c1⟩ := X1
        iterate 1 ((refine az J J _ (fun w' hI => by go_simp; rfl) (fun K hK => ?_); try go_simp; refine hK _ _ ?_; clear hK K))
        refine bd J J J (fun K hK => ?_); go_simp
        refine (gh _ r1 c1 _ HKT1.out (by have h : r1.size < 4294967281 := HS1.out; omega)).mono ?_; rintro e y2 ⟨rfl, hkt2, hgr2⟩; try go_simp
        have HKT2 := Lib.hid hkt2; have HKH2 := Lib.hid (Bk.beside HKH1.out hgr2 HNH.out); have HKR2 := Lib.hid (Bk.beside HKR1.out hgr2 (show w.heap.size ≠ w.heap.size + 1 by omega))
        have HO2 := Lib.hid (World.ownsRow.kept HO1.out hgr2 (.inr (ej HO1.out HKT1.out (by decide))))
        have HB2 := Lib.hid (HB1.out.grown hgr2 HB1.out.size (fun k hk => by have := Option.some.inj hk; omega))
        refine hK _ _ ⟨HKH2.out.at_ 3 rfl, ?_⟩; clear hK K hkt2 hgr2
        generalize hq2 : aE r1 c1 = X2 at *
        obtain ⟨a2, r2, c2⟩ := X2
        clear hq1 hq2
        iterate 1 ((refine az J J _ (fun w' hI => by go_simp; rfl) (fun K hK => ?_); try go_simp; refine hK _ _ ?_; clear hK K))
        have HOn := Lib.hid (kD HO2.out ((Below.refl y2.heap.size y2).alloc (Nat.le_refl _) (.cells #[.string a1, .string a2] MT)))
        have HKHn := Lib.hid (HKH2.out.more (.cells #[.string a1, .string a2] MT)); have HKRn := Lib.hid (HKR2.out.more (.cells #[.string a1, .string a2] MT)); have HKTn := Lib.hid (HKT2.out.more (.cells #[.string a1, .string a2] MT))
        have HBn := Lib.hid (HB2.out.alloc HB2.out.size (.cells #[.string a1, .string a2] MT))
        have HSn := Lib.hid HB2.out.size
        refine bd J J J (fun K hK => ?_); go_simp
        refine hK _ _ ⟨HKHn.out.at_ 3 rfl, ?_⟩; clear hK K
        refine bd J J J (fun K hK => ?_)
        refine wp_append_own _ _ _ 34 rfl w.heap.size MT i0 (.agg #[.string ⟨#[]⟩, .string ⟨#[]⟩]) 2 32 Tryz.underlying34 HI.out HIZ.out HIZ1.out HIZ2.out rfl (by decide) v acc.length (eP acc) rfl HOn.out ⟨y2.heap.size, 0, none⟩ 1 1 [.string a1, .string a2] J J (vW _ _ _) (by intro u hu; simp at hu; rcases hu with rfl | rfl <;> rfl) (by have := HALN.out; unfold maxLen; omega) (by have := HALN.out; omega) (by have := HSn.out; simp; omega) ?_
        intro v' w' hown' hgrow _
        have HO3 := Lib.hid hown'
        have HNR2 := Lib.hid (ej HOn.out HKRn.out (by decide)); have HNT2 := Lib.hid (ej HOn.out HKTn.out (by decide)); have HNH2 := Lib.hid (ej HOn.out HKHn.out (by decide))
        have HKH3 := Lib.hid (Bk.apart HKHn.out hgrow HNH2.out); have HKR3 := Lib.hid (Bk.apart HKRn.out hgrow HNR2.out); have HKT3 := Lib.hid (Bk.apart HKTn.out hgrow HNT2.out)
        have HB3 := Lib.hid (HBn.out.grown hgrow HBn.out.size (fun g hg => (HOn.out.lt g hg).1))
        clear hown' hgrow
        refine hK _ _ ⟨HKH3.out.at_ 3 rfl, ?_⟩; clear hK K
        iterate 1 ((refine az J J _ (fun w' hI => by go_simp; rfl) (fun K hK => ?_); try go_simp; refine hK _ _ ?_; clear hK K))
        refine db ?_
        have hv3' : w'.cell? ⟨w2.heap.size, 3, none⟩ = some v := HKH3.out.at_ 3 rfl
        have hf' := HKH3.out.free
        obtain ⟨ao, cp, rfl⟩ : ∃ ao cp, v' = .slice ao (acc.length + 1) cp := by
          rcases HO3.out.2 with ⟨h, h0⟩ | ⟨g, cap, cur, h, _⟩
          · omega
          · exact ⟨_, _, h⟩
        refine iZ rfl (fun K hK => ?_); go_simp
        refine hK _ _ ?_; clear hK K
        have HT4 := Lib.hid (HKT3.out.aside (a := ⟨w2.heap.size, 3, none⟩) (Ne.symm HNH.out) (.slice ao (acc.length + 1) cp))
        have HR4 := Lib.hid (HKR3.out.aside (a := ⟨w2.heap.size, 3, none⟩) (Ne.symm HNR.out) (.slice ao (acc.length + 1) cp))
        have HH4 := Lib.hid (show Bk (w'.setCell ⟨w2.heap.size, 3, none⟩ (.slice ao (acc.length + 1) cp)) w2.heap.size HT #[.string svc, .string mth, .int .i64 0, (.slice ao (acc.length + 1) cp)] from HKH3.out.put 3 _)
        have HO4 := Lib.hid (iA HO3.out (ej HO3.out HKH3.out (by decide)) 3 (.slice ao (acc.length + 1) cp))
        have HB4 := Lib.hid (HB3.out.setCell (p := ⟨w2.heap.size, 3, none⟩) HHB.out (.slice ao (acc.length + 1) cp))
        have HK1 := Lib.hid (show k + 1 ≤ n by omega)
        have HAL2 := Lib.hid (show (acc ++ [(a1, a2)]).length = k + 1 by rw [List.length_append, HALN.out]; rfl)
        have HMS2 := Lib.hid (show ∀ m ∈ acc ++ [(a1, a2)], m.1.size < 4294967281 ∧ m.2.size < 4294967281 from fun m hm => by
          rcases List.mem_append.1 hm with h | h
          · exact HMS.out m h
          · simp at h; subst h; exact ⟨HT1s.out, HT2s.out⟩)
        have HO5 := Lib.hid (show (w'.setCell ⟨w2.heap.size, 3, none⟩ (.slice ao (acc.length + 1) cp)).ownsRow w.heap.size MT 2 (.slice ao (acc.length + 1) cp) (acc ++ [(a1, a2)]).length (eP (acc ++ [(a1, a2)])) by rw [nl, List.length_append]; exact HO4.out)
        have hwk : IntKind.u64.wrap ((k : Int) + 1) = (k : Int) + 1 := by rw [IntKind.wrap_u64]; omega
        clear hv3' hf' hv3 t0 t1
        go_wp2_with fail
        clear hwk
        go_roundw
        case rel => exact ⟨k + 1, r2, c2, acc ++ [(a1, a2)], (.slice ao (acc.length + 1) cp), by go_num, HK1.out, fun _ => hn16, HAL2.out, HS2.out, HMS2.out, HT4.out, HH4.out, HR4.out, HO5.out, HB4.out, HMN.out⟩
        case measure => simp [intOf]; omega
      · have hd := decide_eq_false (show ¬ (k : Int) < (n : Int) by omega)
        have HE := Lib.hid (show ew n s4 e5 [] = ⟨acc, s, 0⟩ by rw [HM.out, show n - k = 0 by omega]; rfl)
        have HRE := Lib.hid (show RR = iv s0 ⟨svc, mth, 0, []⟩ late ⟨acc, s, 0⟩ by rw [HR0.out, HE.out])
        have r0 : wr.cell? ⟨w.heap.size, 0, none⟩ = some (.string ⟨#[]⟩) := HKR.out.at_ 0 rfl
        have r1 : wr.cell? ⟨w.heap.size, 1, none⟩ = some (.string ⟨#[]⟩) := HKR.out.at_ 1 rfl
        have r2 : wr.cell? ⟨w.heap.size, 2, none⟩ = some (.int .i64 0) := HKR.out.at_ 2 rfl
        have r3 : wr.cell? ⟨w.heap.size, 3, none⟩ = some (.slice none 0 0) := HKR.out.at_ 3 rfl
        have rf := HKR.out.free
        by_cases hs0 : s.size = 0
        · obtain ⟨x1, x2⟩ := lM hs0
          by_cases hl : 1099511627776 < late
          · have hdl := decide_eq_true (show (1099511627776 : Int) < (late : Int) by omega)
            have HRR := Lib.hid (show RR = ⟨dD, 6⟩ by rw [HRE.out]; unfold iv; rw [if_neg (by simp), if_neg (by simpa using hs0), if_pos hl])
            clear hs0
            go_wp2_with fail
            have HKRz := Lib.hid (dt HKR.out rfl (.string ⟨#[]⟩) (.string ⟨#[]⟩) (.int .i64 0) (.slice none 0 0))
            have HBz := Lib.hid (cq HB.out (Nat.le_refl _) (.string ⟨#[]⟩) (.string ⟨#[]⟩) (.int .i64 0) (.slice none 0 0))
            refine bodyPost_ret (v := .tuple #[.agg dQ, .int .i64 6]) (bZ Tryz.results76 _ J J HKRz.out iz) rfl ⟨.slice none 0 0, by rw [HRR.out]; rfl, ?_, HBz.out⟩
            rw [HRR.out]
            exact World.ownsRow_nil _ _ _ _
          · have hdl := decide_eq_false (show ¬ (1099511627776 : Int) < (late : Int) by omega)
            have hwl : IntKind.i64.wrap (late : Int) = late := IntWalk.i64_in _ (by omega)
            have HRF := Lib.hid (show RR = if bo ⟨svc, mth, late, acc⟩ ≠ 0 then ⟨dD, bo ⟨svc, mth, late, acc⟩⟩ else if dE ⟨svc, mth, late, acc⟩ ≠ s0.data.toList then ⟨dD, 5⟩ else ⟨⟨svc, mth, late, acc⟩, 0⟩ by
              rw [HRE.out]; unfold iv; rw [if_neg (by simp), if_neg (by simpa using hs0), if_neg hl])
            have h0 : wr.cell? ⟨w2.heap.size, 0, none⟩ = some (.string svc) := HKH.out.at_ 0 rfl
            have h1 : wr.cell? ⟨w2.heap.size, 1, none⟩ = some (.string mth) := HKH.out.at_ 1 rfl
            have h2 : wr.cell? ⟨w2.heap.size, 2, none⟩ = some (.int .i64 0) := HKH.out.at_ 2 rfl
            have hf := HKH.out.free
            have HNO := Lib.hid (ej HO.out HKH.out (by decide)); have HNO2 := Lib.hid (ej HO.out HKR.out (by decide))
            have HKH5 := Lib.hid (show Bk (wr.setCell ⟨w2.heap.size, 2, none⟩ (.int .i64 late)) w2.heap.size HT #[.string svc, .string mth, .int .i64 late, v] from HKH.out.put 2 _)
            have HKR5 := Lib.hid (HKR.out.aside (a := ⟨w2.heap.size, 2, none⟩) (Ne.symm HNR.out) (.int .i64 late))
            have HO5 := Lib.hid (iA HO.out HNO.out 2 (.int .i64 late))
            have HB5 := Lib.hid (HB.out.setCell (p := ⟨w2.heap.size, 2, none⟩) HHB.out (.int .i64 late))
            have HHC := Lib.hid (oR ⟨svc, mth, late, acc⟩ v (wr.setCell ⟨w2.heap.size, 2, none⟩ (.int .i64 late)) (HG.out.below HB5.out) (MsIn.own HO5.out) ⟨HZ1.out, HZ2.out, HMS.out⟩)
            clear hs0 hl
            by_cases hE0 : bo ⟨svc, mth, late, acc⟩ = 0
            · have HH2 := Lib.hid (show Calls Tryz.prog 44 #[.agg #[.string svc, .string mth, .int .i64 late, v]] (wr.setCell ⟨w2.heap.size, 2, none⟩ (.int .i64 late)) fun e w' => e = .returned (.tuple #[.string ⟨(dE ⟨svc, mth, late, acc⟩).toArray⟩, .int .i64 0]) ∧ Below (wr.setCell ⟨w2.heap.size, 2, none⟩ (.int .i64 late)).heap.size (wr.setCell ⟨w2.heap.size, 2, none⟩ (.int .i64 late)) w' by have := HHC.out; rw [ll hE0] at this; exact this)
              by_cases hq : dE ⟨svc, mth, late, acc⟩ = s0.data.toList
              · have HRR := Lib.hid (show RR = ⟨⟨svc, mth, late, acc⟩, 0⟩ by rw [HRF.out, if_neg (by simp [hE0]), if_neg (by simp [hq])])
                have hqb : (dE ⟨svc, mth, late, acc⟩ == s0.toList) = true := by rw [ByteArray.toList_eq, hq]; simp
                clear hq hE0
                generalize dE ⟨svc, mth, late, acc⟩ = LL at *
                go_wp2_with fail
                refine (HH2.out).mono ?_; rintro e w6 ⟨rfl, hb6⟩
                have HKR6 := Lib.hid (HKR5.out.keep hb6); have HKH6 := Lib.hid (HKH5.out.keep hb6); have HB6 := Lib.hid (HB5.out.trans (hb6.mono HB5.out.size)); have HO6 := Lib.hid (kD HO5.out hb6)
                clear hb6 r0 r1 r2 r3 rf h0 h1 h2 hf hv3
                have r0 : w6.cell? ⟨w.heap.size, 0, none⟩ = some (.string ⟨#[]⟩) := HKR6.out.at_ 0 rfl
                have r1 : w6.cell? ⟨w.heap.size, 1, none⟩ = some (.string ⟨#[]⟩) := HKR6.out.at_ 1 rfl
                have r2 : w6.cell? ⟨w.heap.size, 2, none⟩ = some (.int .i64 0) := HKR6.out.at_ 2 rfl
                have r3 : w6.cell? ⟨w.heap.size, 3, none⟩ = some (.slice none 0 0) := HKR6.out.at_ 3 rfl
                have rf := HKR6.out.free
                have h0 : w6.cell? ⟨w2.heap.size, 0, none⟩ = some (.string svc) := HKH6.out.at_ 0 rfl
                have h1 : w6.cell? ⟨w2.heap.size, 1, none⟩ = some (.string mth) := HKH6.out.at_ 1 rfl
                have h2 : w6.cell? ⟨w2.heap.size, 2, none⟩ = some (.int .i64 late) := HKH6.out.at_ 2 rfl
                have h3 : w6.cell? ⟨w2.heap.size, 3, none⟩ = some v := HKH6.out.at_ 3 rfl
                obtain ⟨ao, cp, rfl⟩ : ∃ ao cp, v = .slice ao acc.length cp := by
                  rcases HO6.out.2 with ⟨h, h0⟩ | ⟨g, cap, cur, h, _⟩
                  · exact ⟨none, 0, by rw [h, h0]⟩
                  · exact ⟨_, _, h⟩
                go_wp2_with fail
                have HKRz := Lib.hid (dt HKR6.out rfl (.string svc) (.string mth) (.int .i64 late) (.slice ao acc.length cp))
                have HBz := Lib.hid (cq HB6.out (Nat.le_refl _) (.string svc) (.string mth) (.int .i64 late) (.slice ao acc.length cp))
                have HOz := Lib.hid (tv HO6.out HNO2.out (.string svc) (.string mth) (.int .i64 late) (.slice ao acc.length cp))
                refine bodyPost_ret (v := .tuple #[.agg #[.string svc, .string mth, .int .i64 late, .slice ao acc.length cp], .int .i64 0]) (bZ Tryz.results76 _ J J HKRz.out iz) rfl ⟨.slice ao acc.length cp, by rw [HRR.out], ?_, HBz.out⟩
                rw [HRR.out]
                exact HOz.out
              · have hqb : (dE ⟨svc, mth, late, acc⟩ == s0.toList) = false := by rw [ByteArray.toList_eq]; simpa using hq
                have HRR := Lib.hid (show RR = ⟨dD, 5⟩ by rw [HRF.out, if_neg (by simp [hE0]), if_pos hq])
                clear hq hE0
                generalize dE ⟨svc, mth, late, acc⟩ = LL at *
                go_wp2_with fail
                refine (HH2.out).mono ?_; rintro e w6 ⟨rfl, hb6⟩
                have HKR6 := Lib.hid (HKR5.out.keep hb6); have HB6 := Lib.hid (HB5.out.trans (hb6.mono HB5.out.size))
                clear hb6 r0 r1 r2 r3 rf h0 h1 h2 hf hv3
                have r0 : w6.cell? ⟨w.heap.size, 0, none⟩ = some (.string ⟨#[]⟩) := HKR6.out.at_ 0 rfl
                have r1 : w6.cell? ⟨w.heap.size, 1, none⟩ = some (.string ⟨#[]⟩) := HKR6.out.at_ 1 rfl
                have r2 : w6.cell? ⟨w.heap.size, 2, none⟩ = some (.int .i64 0) := HKR6.out.at_ 2 rfl
                have r3 : w6.cell? ⟨w.heap.size, 3, none⟩ = some (.slice none 0 0) := HKR6.out.at_ 3 rfl
                have rf := HKR6.out.free
                go_wp2_with fail
                have HKRz := Lib.hid (dt HKR6.out rfl (.string ⟨#[]⟩) (.string ⟨#[]⟩) (.int .i64 0) (.slice none 0 0))
                have HBz := Lib.hid (cq HB6.out (Nat.le_refl _) (.string ⟨#[]⟩) (.string ⟨#[]⟩) (.int .i64 0) (.slice none 0 0))
                refine bodyPost_ret (v := .tuple #[.agg dQ, .int .i64 5]) (bZ Tryz.results76 _ J J HKRz.out iz) rfl ⟨.slice none 0 0, by rw [HRR.out]; rfl, ?_, HBz.out⟩
                rw [HRR.out]
                exact World.ownsRow_nil _ _ _ _
            · have HH2 := Lib.hid (show Calls Tryz.prog 44 #[.agg #[.string svc, .string mth, .int .i64 late, v]] (wr.setCell ⟨w2.heap.size, 2, none⟩ (.int .i64 late)) fun e w' => e = .returned (.tuple #[.string ⟨#[]⟩, .int .i64 (bo ⟨svc, mth, late, acc⟩)]) ∧ Below (wr.setCell ⟨w2.heap.size, 2, none⟩ (.int .i64 late)).heap.size (wr.setCell ⟨w2.heap.size, 2, none⟩ (.int .i64 late)) w' by have := HHC.out; rw [mM hE0] at this; exact this)
              obtain ⟨u1, u2⟩ := aM hE0
              have HRR0 := Lib.hid (show RR = ⟨dD, bo ⟨svc, mth, late, acc⟩⟩ by rw [HRF.out, if_pos hE0])
              generalize bo ⟨svc, mth, late, acc⟩ = EE at *
              have HRR := Lib.hid (show RR = ⟨dD, EE⟩ by exact HRR0.out)
              clear hE0
              go_wp2_with fail
              refine (HH2.out).mono ?_; rintro e w6 ⟨rfl, hb6⟩
              have HKR6 := Lib.hid (HKR5.out.keep hb6); have HB6 := Lib.hid (HB5.out.trans (hb6.mono HB5.out.size))
              clear hb6 r0 r1 r2 r3 rf h0 h1 h2 hf hv3
              have r0 : w6.cell? ⟨w.heap.size, 0, none⟩ = some (.string ⟨#[]⟩) := HKR6.out.at_ 0 rfl
              have r1 : w6.cell? ⟨w.heap.size, 1, none⟩ = some (.string ⟨#[]⟩) := HKR6.out.at_ 1 rfl
              have r2 : w6.cell? ⟨w.heap.size, 2, none⟩ = some (.int .i64 0) := HKR6.out.at_ 2 rfl
              have r3 : w6.cell? ⟨w.heap.size, 3, none⟩ = some (.slice none 0 0) := HKR6.out.at_ 3 rfl
              have rf := HKR6.out.free
              go_wp2_with fail
              have HKRz := Lib.hid (dt HKR6.out rfl (.string ⟨#[]⟩) (.string ⟨#[]⟩) (.int .i64 0) (.slice none 0 0))
              have HBz := Lib.hid (cq HB6.out (Nat.le_refl _) (.string ⟨#[]⟩) (.string ⟨#[]⟩) (.int .i64 0) (.slice none 0 0))
              refine bodyPost_ret (v := .tuple #[.agg dQ, .int .i64 EE]) (bZ Tryz.results76 _ J J HKRz.out iz) rfl ⟨.slice none 0 0, by rw [HRR.out]; rfl, ?_, HBz.out⟩
              rw [HRR.out]
              exact World.ownsRow_nil _ _ _ _
        · obtain ⟨x1, x2⟩ := kA hs0
          have HRR := Lib.hid (show RR = ⟨dD, 18⟩ by rw [HRE.out]; unfold iv; rw [if_neg (by simp), if_pos hs0])
          clear hs0
          go_wp2_with fail
          have HKRz := Lib.hid (dt HKR.out rfl (.string ⟨#[]⟩) (.string ⟨#[]⟩) (.int .i64 0) (.slice none 0 0))
          have HBz := Lib.hid (cq HB.out (Nat.le_refl _) (.string ⟨#[]⟩) (.string ⟨#[]⟩) (.int .i64 0) (.slice none 0 0))
          refine bodyPost_ret (v := .tuple #[.agg dQ, .int .i64 18]) (bZ Tryz.results76 _ J J HKRz.out iz) rfl ⟨.slice none 0 0, by rw [HRR.out]; rfl, ?_, HBz.out⟩
          rw [HRR.out]
          exact World.ownsRow_nil _ _ _ _
    · obtain ⟨q1, q2⟩ := aM he
      have HE := Lib.hid (show RR = ⟨dD, e⟩ by rw [HR0.out, HM.out, jx _ _ he]; unfold iv; rw [if_pos he])
      by_cases hlt : k < n
      · have hd := decide_eq_true (show (k : Int) < (n : Int) by omega)
        clear he
        go_wp2_with fail
        have r0 : wr.cell? ⟨w.heap.size, 0, none⟩ = some (.string ⟨#[]⟩) := HKR.out.at_ 0 rfl
        have r1 : wr.cell? ⟨w.heap.size, 1, none⟩ = some (.string ⟨#[]⟩) := HKR.out.at_ 1 rfl
        have r2 : wr.cell? ⟨w.heap.size, 2, none⟩ = some (.int .i64 0) := HKR.out.at_ 2 rfl
        have r3 : wr.cell? ⟨w.heap.size, 3, none⟩ = some (.slice none 0 0) := HKR.out.at_ 3 rfl
        have rf := HKR.out.free
        refine cc (fun W' => W'.cell? ⟨w.heap.size + 1, 1, none⟩ = some (.int .i64 e)) Dk (by kernel_rfl) (by kernel_rfl) t1 ?_
        iterate 5 ((refine az J J _ (fun w' hI => by go_simp; rfl) (fun K hK => ?_); try go_simp; refine hK _ _ ?_; clear hK K))
        refine bd J J J (fun K hK => ?_); go_simp
        have HKRz := Lib.hid ((dt HKR.out rfl (.string ⟨#[]⟩) (.string ⟨#[]⟩) (.int .i64 0) (.slice none 0 0)).draw)
        have HBz := Lib.hid ((cq HB.out (Nat.le_refl _) (.string ⟨#[]⟩) (.string ⟨#[]⟩) (.int .i64 0) (.slice none 0 0)).drew)
        have HTz := Lib.hid ((jy HKT.out (show w.heap.size + 1 ≠ w.heap.size by omega) (.string ⟨#[]⟩) (.string ⟨#[]⟩) (.int .i64 0) (.slice none 0 0)).draw)
        refine hK _ _ ⟨HTz.out.at_ 1 rfl, ?_⟩; clear hK K
        iterate 1 ((refine az J J _ (fun w' hI => by go_simp; rfl) (fun K hK => ?_); try go_simp; refine hK _ _ ?_; clear hK K))
        refine db ?_
        go_wp2_with fail
        refine bodyPost_ret (v := .tuple #[.agg dQ, .int .i64 e]) (bZ Tryz.results76 _ J J HKRz.out iz) rfl ⟨.slice none 0 0, by rw [HE.out]; rfl, ?_, HBz.out⟩
        rw [HE.out]
        exact World.ownsRow_nil _ _ _ _
      · have hd := decide_eq_false (show ¬ (k : Int) < (n : Int) by omega)
        clear he
        go_wp2_with fail
        have r0 : wr.cell? ⟨w.heap.size, 0, none⟩ = some (.string ⟨#[]⟩) := HKR.out.at_ 0 rfl
        have r1 : wr.cell? ⟨w.heap.size, 1, none⟩ = some (.string ⟨#[]⟩) := HKR.out.at_ 1 rfl
        have r2 : wr.cell? ⟨w.heap.size, 2, none⟩ = some (.int .i64 0) := HKR.out.at_ 2 rfl
        have r3 : wr.cell? ⟨w.heap.size, 3, none⟩ = some (.slice none 0 0) := HKR.out.at_ 3 rfl
        have rf := HKR.out.free
        refine cc (fun W' => W'.cell? ⟨w.heap.size + 1, 1, none⟩ = some (.int .i64 e)) Dk (by kernel_rfl) (by kernel_rfl) t1 ?_
        iterate 5 ((refine az J J _ (fun w' hI => by go_simp; rfl) (fun K hK => ?_); try go_simp; refine hK _ _ ?_; clear hK K))
        refine bd J J J (fun K hK => ?_); go_simp
        have HKRz := Lib.hid ((dt HKR.out rfl (.string ⟨#[]⟩) (.string ⟨#[]⟩) (.int .i64 0) (.slice none 0 0)).draw)
        have HBz := Lib.hid ((cq HB.out (Nat.le_refl _) (.string ⟨#[]⟩) (.string ⟨#[]⟩) (.int .i64 0) (.slice none 0 0)).drew)
        have HTz := Lib.hid ((jy HKT.out (show w.heap.size + 1 ≠ w.heap.size by omega) (.string ⟨#[]⟩) (.string ⟨#[]⟩) (.int .i64 0) (.slice none 0 0)).draw)
        refine hK _ _ ⟨HTz.out.at_ 1 rfl, ?_⟩; clear hK K
        iterate 1 ((refine az J J _ (fun w' hI => by go_simp; rfl) (fun K hK => ?_); try go_simp; refine hK _ _ ?_; clear hK K))
        refine db ?_
        go_wp2_with fail
        refine bodyPost_ret (v := .tuple #[.agg dQ, .int .i64 e]) (bZ Tryz.results76 _ J J HKRz.out iz) rfl ⟨.slice none 0 0, by rw [HE.out]; rfl, ?_, HBz.out⟩
        rw [HE.out]
        exact World.ownsRow_nil _ _ _ _
end Go.Proofs.YthiocbcokfondaaGreatDoor
namespace Go.Proofs.YthiocbcokfondaaGreatDoor.Y
open Go.RowKit
theorem E1 (s : ByteArray) (R : DL) (h : cP s = R) (w : World) (hg : MLen w) (hs : s.size < 4294967281) : Calls Tryz.prog 76 #[.string s] w fun e w' => ∃ p : Option Addr × Nat, True ∧ e = .returned (.tuple ⟨[.agg ⟨[.string R.head.svc, .string R.head.mth, .int .i64 R.head.late, .slice p.1 R.head.metas.length p.2]⟩, .int .i64 R.err]⟩) ∧ Made w w' [.own p.1 p.2 93 2 R.head.metas.length (R.head.metas.flatMap mC)] := by
  subst h
  refine (qg s w hg hs).mono fun e w' ⟨v, h1, h2, h3⟩ => ?_
  rcases id h2.2 with ⟨hv, h0⟩ | ⟨g, cap, cur, hv, _⟩
  · subst hv
    refine ⟨(none, 0), trivial, ?_, Made.one (a := none) (cap := 0) ?_ h3⟩
    · rw [h1, h0]
    · rw [h0] at h2 ⊢; exact h2
  · subst hv
    exact ⟨(some ⟨g, 0, none⟩, cap), trivial, h1, Made.one h2 h3⟩
theorem C7 {w0 w : World} {a b c d e : Ent} {M : List Ent} {F : Nat → Prop} {P : World → Prop} (h : Mem w0 w (a :: b :: c :: d :: e :: .rep F P :: M)) (Q : World → Prop) (hq : ∀ w, Ent.ok w0.heap.size w e → P w → Q w) (hk : ∀ w1 w2, (∀ k, (e.foot k ∨ F k) → w2.heap[k]? = w1.heap[k]?) → Q w1 → Q w2) : Mem w0 w (a :: b :: c :: d :: .rep (fun k => e.foot k ∨ F k) Q :: M) := by
  have hp : (a :: b :: c :: d :: e :: .rep F P :: M).Perm ([e, .rep F P] ++ (a :: b :: c :: d :: M)) := List.perm_append_comm (l₁ := [a, b, c, d]) (l₂ := [_, _]) |>.append_right M
  have h2 := Mem.fuse [e, .rep F P] (fun k => e.foot k ∨ F k) Q (h.perm hp) rfl (fun k hk => hk.elim (fun h => ⟨_, List.mem_cons_self .., h⟩) (fun h => ⟨_, List.mem_cons_of_mem _ (List.mem_cons_self ..), h⟩)) (fun hm => hq w hm.1 hm.2.2.1.2.1) hk
  exact h2.perm (List.perm_middle (l₁ := [a, b, c, d]) (l₂ := M)).symm
attribute [local irreducible] Calls
set_option maxRecDepth 100000 in
set_option maxHeartbeats 16000000 in
theorem xO {w0 : World} {M : List Ent} (gc : Nat) (v : NV) (f : aY) (w : World) (hv : VN v.c) (hms : cu v.c ≤ 500000000) (heq : v.c.ks = v.kv.map (·.k)) (hfd : f.data.size < 4294967281) (hg : MLen w0) (hM : Mem w0 w (.own v.o v.oc 65 4 v.c.ou.length (v.c.ou.flatMap fC) :: .own v.x v.xc 39 22 v.kv.length (v.kv.flatMap KC) :: .cl gc 28 [.int .i64 v.c.sd, .int .i64 v.c.nx, .int .i64 v.c.la, .int .i64 v.c.aw, .int .i64 v.c.sz, .int .i64 v.c.sw.size, .int .i64 v.c.sw.left, .int .i64 v.c.sw.held, .int .i64 v.c.rw.size, .int .i64 v.c.rw.left, .int .i64 v.c.rw.held, .slice v.x v.kv.length v.xc, .slice v.o v.c.ou.length v.oc, .slice v.p v.c.pg.length v.pc, .bool v.c.cl] :: .own v.p v.pc 3 1 v.c.pg.length (v.c.pg.flatMap iC) :: (v.kv.flatMap EK ++ M))) : Calls Tryz.prog 130 #[.pointer (some ⟨gc, 0, none⟩), .agg #[.int .i64 f.kind, .int .i64 f.strm, .int .i64 f.num, .string f.data]] w fun e w' => ∃ r : Value × NV × (Nat → Prop), (r.2.1.c = iw v.c f ∧ r.2.1.c.ks = r.2.1.kv.map (·.k) ∧ ∀ b, r.2.2 b → w0.heap.size ≤ b) ∧ e = .returned r.1 ∧ Mem w0 w' (CM gc r.2.2 r.2.1 M) := by
  obtain ⟨r, hr⟩ : ∃ x, dH f.strm 2 f.num v.c.sz = x := ⟨_, rfl⟩
  obtain ⟨R, hR⟩ : ∃ x, cP f.data = x := ⟨_, rfl⟩
  have hsz := hv.toVB.szl hms
  have hlk : v.c.ks.length = v.kv.length := by rw [heq, List.length_map]
  have hks := hsz.ks
  have hoz := hsz.ou.1
  obtain ⟨hM, hFK⟩ := mT hM
  refine cj hM Tryz.func130 rfl Tryz.ntmps130 J J ?_
  repeat' (first | refine ai ?_ | refine aa ?_ | refine ab ?_ | refine aU aD rfl (by kernel_rfl) ?_ | refine ag ?_ | (refine cJ ?_; intro g) | (refine aV J J J J J J ?_; intro g3) | ((first | refine' am rfl ?_ J J ?_ | refine' dg rfl ?_ J J J ?_); rotate_left; first | exact ak af J J J J | exact ae af 0 J J J J J | exact ae af 1 J J J J J | exact ae af 3 J J J J J) | refine br rfl (av J J J J ⟨J, J, J, J, trivial⟩ rfl (by kernel_rfl)) rfl (fun w hm => zC f.strm 2 f.num v.c.sz r hr w) J J ?_ | refine bW af J J J J J J ?_ | refine aj af 0 J J J J J J J J J J J J ?_ | refine aj af 3 J J J J J J J J J J J J ?_)
  refine eC (σ := Option Addr × Nat) (fun _ => True) (fun p => .tuple ⟨[.agg ⟨[.string R.head.svc, .string R.head.mth, .int .i64 R.head.late, .slice p.1 R.head.metas.length p.2]⟩, .int .i64 R.err]⟩) (fun p => [.own p.1 p.2 93 2 R.head.metas.length (R.head.metas.flatMap mC)]) rfl (av J J J J ⟨J, trivial⟩ rfl (by kernel_rfl)) (fun w1 hm => E1 f.data R hR w1 (hg.below hm.below) hfd) J J ?_
  rintro ⟨pm, pmc⟩ -
  dsimp only [List.cons_append, List.nil_append]
  repeat' (first | refine ai ?_ | refine aa ?_ | refine ab ?_ | refine ag ?_ | (refine aG af J J J J J J ?_; intro g6) | ((refine' am rfl ?_ J J ?_); rotate_left; first | exact ak af J J J J | exact aq af J J J J J J | exact ae af 6 J J J J J) | refine aj af 0 J J J J J J J J J J J J ?_)
  have hact := hv.toVB.acts
  by_cases haw : v.c.aw = 0
  · have hbw : (v.c.aw != 0) = false := by rw [haw]; rfl
    rw [hbw]
    refine mJ (σ := Nat × Array MapEntry × Nat) (fun s => s.2.1.size = pj v.c.ks) (fun s => .map (some s.1)) (fun s => [.obj s.1 (.map s.2.1 s.2.2)]) J J (av J J J J ⟨J, trivial⟩ rfl (by kernel_rfl)) (fun w1 hm => lZ (⟨{ v.c with la := f.strm }, v.x, v.xc, v.kv, v.o, v.oc, v.p, v.pc⟩ : NV) w1 (jB (v' := (⟨{ v.c with la := f.strm }, v.x, v.xc, v.kv, v.o, v.oc, v.p, v.pc⟩ : NV)) (hm.2.get (i := 5) rfl) (hm.2.get (i := 4) rfl) (hm.2.get (i := 7) rfl) heq (hm.2.get (i := 8) rfl).2.1) (show v.kv.length ≤ 606626243774 by omega)) J J ?_
    rintro ⟨gm, es, ck⟩ hes
    dsimp only [List.cons_append, List.nil_append]
    dsimp only at hes
    rw [hact] at hes
    repeat' (first | refine ab ?_ | refine ag ?_ | ((refine' am rfl ?_ J J ?_); rotate_left; first | exact nE 0 J J J J Tryz.underlying75 | exact ak af J J J J | exact aq af J J J J J J | exact bL J J J J J))
    by_cases hc : v.c.aw ≠ 0 ∨ 64 ≤ eo v.c.ks ∨ (dH f.strm 2 f.num v.c.sz).err ≠ 0 ∨ (cP f.data).err ≠ 0
    · have hc2 : 64 ≤ es.size ∨ r.err ≠ 0 ∨ R.err ≠ 0 := by
        rcases hc with h | h | h | h
        · exact absurd haw h
        · exact .inl (by omega)
        · exact .inr (.inl (by rw [← hr]; exact h))
        · exact .inr (.inr (by rw [← hR]; exact h))
      refine aB rfl (by simp only [Bool.false_or, Bool.or_eq_true, decide_eq_true_eq, bne_iff_ne, ne_eq]; omega) ?_
      have hap : iw v.c f = { v.c with la := f.strm, ou := v.c.ou ++ [(⟨5, f.strm, 12, emptyB⟩ : aY)] } := by unfold iw; rw [if_pos hc]
      rw [hap]
      repeat' (refine ai ?_)
      refine du 9 [60] [] aD rfl (by kernel_rfl) ?_
      iterate 8 (((refine' lX rfl ?_ J J J ?_); rotate_left; first | exact ak af J J J J | exact ae af 4 J J J J J | exact ae af 7 J J J J J | exact ap af J J ⟨J, J, J, trivial⟩ J J J))
      refine dV af 59 J J (by simp [aF]) rfl (by simp [aF]) rfl ⟨J, trivial⟩ J J J J J J J J J J J ?_
      refine gH ?_
      rintro s1 -
      dsimp only [List.cons_append, List.nil_append]
      refine ce af 6 0 J J J J J J J J J (fun _ _ => rfl) kS J J (by unfold maxLen; omega) (by omega) J J ?_
      intro sa sc
      repeat' (first | refine ab ?_ | refine aA ?_ | refine au ?_ | refine ag ?_ | ((refine' am rfl ?_ J J ?_); rotate_left; exact ak af J J J J) | refine aj af 8 J J J J J J J J J J J J ?_)
      (refine aC af (fun _ => 0) J J trivial rfl fun w1 hm => ?_)
      refine ⟨(_, ⟨{ v.c with la := f.strm, ou := v.c.ou ++ [(⟨5, f.strm, 12, emptyB⟩ : aY)] }, v.x, v.xc, v.kv, sa, sc, v.p, v.pc⟩, FK v.kv), ⟨rfl, heq, hFK⟩, rfl, ?_⟩
      have h1 := hm.mask [false, false, false, false, false, false, true, true, true, true, true] rfl
      unfold CM
      simp only [List.length_append, List.length_singleton, List.flatMap_append, List.flatMap_singleton]
      exact h1
    · have hc2 : ¬ (64 ≤ es.size ∨ r.err ≠ 0 ∨ R.err ≠ 0) := fun h => hc (by
        rcases h with h | h | h
        · exact .inr (.inl (by omega))
        · exact .inr (.inr (.inl (by rw [hr]; exact h)))
        · exact .inr (.inr (.inr (by rw [hR]; exact h))))
      have hap : iw v.c f = { v.c with la := f.strm, ks := v.c.ks ++ [⟨r.st, R.head.svc, R.head.mth, R.head.late, R.head.metas, [], []⟩] } := by unfold iw; rw [if_neg hc, hr, hR]
      rw [hap]
      refine ar rfl (by simp only [Bool.false_or, Bool.or_eq_false_iff, decide_eq_false_iff_not, bne_eq_false_iff_eq]; omega) ?_
      repeat' (first | refine ab ?_ | refine ay ?_)
      refine du 9 [72] [] aD rfl (by kernel_rfl) ?_
      iterate 8 (((refine' lX rfl ?_ J J J ?_); rotate_left; first | exact ak af J J J J | exact ae af 1 J J J J J | exact ae af 3 J J J J J | exact ae af 7 J J J J J | exact ap af J J ⟨J, J, trivial⟩ J J J))
      refine dV af 71 J J (by simp [aF]) rfl (by simp [aF]) rfl ⟨J, trivial⟩ J J J J J J J J J J J ?_
      refine gH ?_
      rintro s1 -
      dsimp only [List.cons_append, List.nil_append]
      refine ce af 7 0 J J J J J J J J J (fun _ _ => rfl) uN J J (by unfold maxLen; omega) (by omega) J J ?_
      intro sa sc
      repeat' (first | refine ag ?_ | ((refine' am rfl ?_ J J ?_); rotate_left; exact ak af J J J J) | refine aj af 8 J J J J J J J J J J J J ?_)
      (refine dU af (fun _ => 0) J J trivial rfl fun w1 hm => ?_)
      refine ⟨(_, ⟨{ v.c with la := f.strm, ks := v.c.ks ++ [⟨r.st, R.head.svc, R.head.mth, R.head.late, R.head.metas, [], []⟩] }, sa, sc, v.kv ++ [(⟨⟨r.st, R.head.svc, R.head.mth, R.head.late, R.head.metas, [], []⟩, pm, pmc, none, 0, none, 0⟩ : KV)], v.o, v.oc, v.p, v.pc⟩, fun k => (Ent.own pm pmc 93 2 R.head.metas.length (R.head.metas.flatMap mC)).foot k ∨ FK v.kv k), ⟨rfl, by rw [List.map_append, ← heq]; rfl, fun k hk => hk.elim (fun h => (gY (hm.2.get (i := 3) rfl) h).1) (hFK k)⟩, rfl, ?_⟩
      have h1 := (hm.mask [false, false, false, true, false, false, true, true, true, true, true] rfl).perm (List.perm_middle (l₁ := [_, _, _, _])).symm
      unfold CM
      simp only [List.length_append, List.length_singleton, List.flatMap_append, List.flatMap_singleton]
      refine C7 h1 _ (fun w2 ho hp x hx => ?_) (fun w1 w2 hk hp x hx => (hp x hx).agree hk)
      rcases List.mem_append.1 hx with hx | hx
      · exact (hp x hx).mono fun _ => .inr
      · obtain rfl := List.mem_singleton.1 hx
        exact ⟨(eg iI ho rfl).mono fun _ h => .inl h, dr, dr⟩
  · have hbw : (v.c.aw != 0) = true := by simpa using haw
    have hc : v.c.aw ≠ 0 ∨ 64 ≤ eo v.c.ks ∨ (dH f.strm 2 f.num v.c.sz).err ≠ 0 ∨ (cP f.data).err ≠ 0 := .inl haw
    rw [hbw]
    ((refine' am rfl ?_ J J ?_); rotate_left; exact jr (.map none) rfl)
    ((refine' am rfl ?_ J J ?_); rotate_left; exact jr (.int .i64 0) rfl)
    repeat' (first | refine ab ?_ | refine ag ?_ | ((refine' am rfl ?_ J J ?_); rotate_left; first | exact ak af J J J J | exact aq af J J J J J J | exact bL J J J J J))
    refine aB J J ?_
    have hap : iw v.c f = { v.c with la := f.strm, ou := v.c.ou ++ [(⟨5, f.strm, 12, emptyB⟩ : aY)] } := by unfold iw; rw [if_pos hc]
    rw [hap]
    repeat' (refine ai ?_)
    refine du 9 [60] [] aD rfl (by kernel_rfl) ?_
    iterate 8 (((refine' lX rfl ?_ J J J ?_); rotate_left; first | exact ak af J J J J | exact ae af 3 J J J J J | exact ae af 6 J J J J J | exact ap af J J ⟨J, J, J, trivial⟩ J J J))
    refine dV af 59 J J (by simp [aF]) rfl (by simp [aF]) rfl ⟨J, trivial⟩ J J J J J J J J J J J ?_
    refine gH ?_
    rintro s1 -
    dsimp only [List.cons_append, List.nil_append]
    refine ce af 5 0 J J J J J J J J J (fun _ _ => rfl) kS J J (by unfold maxLen; omega) (by omega) J J ?_
    intro sa sc
    repeat' (first | refine ab ?_ | refine aA ?_ | refine au ?_ | refine ag ?_ | ((refine' am rfl ?_ J J ?_); rotate_left; exact ak af J J J J) | refine aj af 7 J J J J J J J J J J J J ?_)
    (refine aC af (fun _ => 0) J J trivial rfl fun w1 hm => ?_)
    refine ⟨(_, ⟨{ v.c with la := f.strm, ou := v.c.ou ++ [(⟨5, f.strm, 12, emptyB⟩ : aY)] }, v.x, v.xc, v.kv, sa, sc, v.p, v.pc⟩, FK v.kv), ⟨rfl, heq, hFK⟩, rfl, ?_⟩
    have h1 := hm.mask [false, false, false, false, false, true, true, true, true, true] rfl
    unfold CM
    simp only [List.length_append, List.length_singleton, List.flatMap_append, List.flatMap_singleton]
    exact h1
end Go.Proofs.YthiocbcokfondaaGreatDoor.Y
namespace Go.Proofs.YthiocbcokfondaaGreatDoor.Y
open Go.RowKit
theorem Mem.repDup4 {w0 w : World} {a b c d : Ent} {M : List Ent} {F : Nat → Prop} {p p' : World → Prop} (h : Mem w0 w (a :: b :: c :: d :: .rep F p :: M)) (h1 : ∀ w, p w → p' w) (h2 : ∀ w1 w2, (∀ k, F k → w2.heap[k]? = w1.heap[k]?) → p' w1 → p' w2) : Mem w0 w (a :: b :: c :: .rep F p' :: d :: .rep F p :: M) := by
  have hq := h.perm (List.perm_middle (l₁ := [a, b, c, d]))
  have hd : Mem w0 w (.rep F p' :: .rep F p :: ([a, b, c, d] ++ M)) := by
    refine ⟨hq.1, ⟨hq.2.1.1, h1 _ hq.2.1.2.1, h2⟩, fun f hf k => ?_, hq.2⟩
    rcases List.mem_cons.1 hf with rfl | hf
    · exact ⟨fun hm => hm.elim, fun hm => hm.elim⟩
    · exact hq.2.2.1 f hf k
  refine hd.perm ?_
  have e1 : (.rep F p' :: .rep F p :: ([a, b, c, d] ++ M)).Perm (.rep F p' :: (a :: b :: c :: d :: .rep F p :: M)) := ((List.perm_middle (l₁ := [a, b, c, d])).symm).cons _
  exact e1.trans (List.perm_middle (l₁ := [a, b, c])).symm
theorem Cj {A : Nat → Prop} {w : World} {c : NL} {u : KV} {s : kW} (hI : Dp c u s) (h : KOk A w u) : KOk A w (uS u s) := by
  refine ⟨h.1, h.2.1, fun h0 => ?_⟩
  obtain ⟨b, off, j, e1, e2, e3⟩ := hI.at_ h0
  have h0' : 0 < s.r.length := h0
  have hob : 0 < u.k.ob.length := by
    rw [e3, List.length_drop] at h0'
    omega
  obtain ⟨b', off', e4, e5, e6, e7⟩ := h.2.2 hob
  rw [e1] at e4
  obtain ⟨rfl, rfl⟩ := (by simpa using e4 : b = b' ∧ off = off')
  refine ⟨b, off + j * 4, e2, e5, e6, fun n y hy => ?_⟩
  have hy' : (u.k.ob.drop j)[n]? = some y := by rw [← e3]; exact hy
  rw [List.getElem?_drop] at hy'
  have h8 := e7 (j + n) y hy'
  rw [show off + j * 4 + n * 4 = off + (j + n) * 4 by omega]
  exact h8
theorem Aj {u : KV} {f : aY} (h : u.k.ob.length ≤ u.oc) : (ji u f).k.ob.length ≤ (ji u f).oc := by
  unfold ji gD
  split
  · split
    · exact Nat.le_refl _
    · exact h
  · split
    · exact Nat.le_refl _
    · exact h
theorem wE {c : NL} {i : Nat} {u : KV} {s : kW} (hi : c.ks[i]? = some u.k) (h : kL u.k.ob u.k.st c.sw c.ou = ⟨s.st, s.w, s.r, s.ou⟩) : fw c i = { c with sw := s.w, ks := c.ks.set i (uS u s).k, ou := s.ou } := by
  rw [gQ hi, h]; rfl
structure nN where
  j : Nat
  c : NL
  kv : List KV
  o : Option Addr
  oc : Nat
structure FM (v : NV) (c1 : NL) (p : nN) : Prop where
  j : p.j ≤ v.kv.length
  vb : VB p.c
  eq : p.c.ks = p.kv.map (·.k)
  ln : p.kv.length = v.kv.length
  go : jG c1 v.kv.length 0 = jG p.c (v.kv.length - p.j) p.j
  ms : cu p.c ≤ 500000000
  pg : p.c.pg = v.c.pg
  at_ : ∀ m, p.j ≤ m → p.kv[m]? = v.kv[m]?
  ok : ∀ w, (∀ u ∈ v.kv, KOk (FK v.kv) w u) → ∀ u ∈ p.kv, KOk (FK v.kv) w u
attribute [local irreducible] Calls
set_option maxRecDepth 100000 in
set_option maxHeartbeats 32000000 in
theorem xP {w0 : World} {M : List Ent} (gc : Nat) (v : NV) (f : aY) (w : World) (hv : VN v.c) (hms : cu v.c ≤ 400000000) (heq : v.c.ks = v.kv.map (·.k)) (hcap : ∀ u ∈ v.kv, u.k.ib.length ≤ u.ic ∧ u.k.ob.length ≤ u.oc) (hcl : v.c.cl = false) (hf : aR f = 0) (hkk : 3 ≤ f.kind ∧ f.kind ≤ 6) (hgw : f.kind = 6 → f.strm = 0 → (cS v.c.sw f.num).err = 0) (hg : MLen w0) (hM : Mem w0 w (.own v.o v.oc 65 4 v.c.ou.length (v.c.ou.flatMap fC) :: .own v.x v.xc 39 22 v.kv.length (v.kv.flatMap KC) :: .cl gc 28 [.int .i64 v.c.sd, .int .i64 v.c.nx, .int .i64 v.c.la, .int .i64 v.c.aw, .int .i64 v.c.sz, .int .i64 v.c.sw.size, .int .i64 v.c.sw.left, .int .i64 v.c.sw.held, .int .i64 v.c.rw.size, .int .i64 v.c.rw.left, .int .i64 v.c.rw.held, .slice v.x v.kv.length v.xc, .slice v.o v.c.ou.length v.oc, .slice v.p v.c.pg.length v.pc, .bool v.c.cl] :: .own v.p v.pc 3 1 v.c.pg.length (v.c.pg.flatMap iC) :: (v.kv.flatMap EK ++ M))) : Calls Tryz.prog 132 #[.pointer (some ⟨gc, 0, none⟩), .agg #[.int .i64 f.kind, .int .i64 f.strm, .int .i64 f.num, .string f.data]] w fun e w' => ∃ r : Value × NV × (Nat → Prop), (r.2.1.c = gf v.c f ∧ r.2.1.c.ks = r.2.1.kv.map (·.k) ∧ ∀ b, r.2.2 b → w0.heap.size ≤ b) ∧ e = .returned r.1 ∧ Mem w0 w' (CM gc r.2.2 r.2.1 M) := by
  have hsz := hv.toVB.szl (by omega)
  have hlk : v.c.ks.length = v.kv.length := by rw [heq, List.length_map]
  have hks := hsz.ks
  have hoz := hsz.ou.1
  have hfz := gI hf
  obtain ⟨hM, hFK⟩ := mT hM
  refine cj hM Tryz.func132 rfl Tryz.ntmps132 J J ?_
  repeat' (first | refine ai ?_ | refine aa ?_ | refine ab ?_ | refine ag ?_ | (refine aV J J J J J J ?_; intro g3) | ((refine' am rfl ?_ J J ?_); rotate_left; first | exact ak af J J J J | exact aq af J J J J J J | exact ae af 0 J J J J J))
  by_cases h0 : f.strm = 0
  · have h6 : f.kind = 6 := by
      have := nI hf
      unfold ft at this
      rw [if_neg (by omega)] at this
      by_cases e : f.kind = 6
      · exact e
      · rw [if_neg e, h0] at this; cases this
    obtain ⟨_, b1, b2, hgv⟩ := nG (hgw h6 h0)
    have hvb1 : VB ({ v.c with sw := (⟨v.c.sw.size, v.c.sw.left + f.num, v.c.sw.held⟩ : bj) } : NL) := ⟨hv.sd, hv.sz, ma hv.sw b1 b2, hv.rw, hv.ss, hv.rs, hv.sh, hv.la, hv.aw, hv.n1, hv.n2, hv.pg, hv.pn, hv.cn, hv.pk, hv.asc, hv.ou, hv.cl, hv.tt⟩
    have hcr : gf v.c f = jG ({ v.c with sw := (⟨v.c.sw.size, v.c.sw.left + f.num, v.c.sw.held⟩ : bj) } : NL) v.kv.length 0 := by unfold gf; rw [if_pos h0, hgv, if_pos rfl, hlk]
    rw [hcr]
    refine aB rfl (by simpa using h0) ?_
    repeat' (first | refine ai ?_ | refine aa ?_ | refine ab ?_ | refine aU aD rfl (by kernel_rfl) ?_ | refine ag ?_ | (refine cJ ?_; intro g) | ((first | refine' am rfl ?_ J J ?_ | refine' dg rfl ?_ J J J ?_); rotate_left; first | exact ak af J J J J | exact aq af J J J J J J | exact ae af 0 J J J J J | exact ae af 3 J J J J J) | refine br rfl (av J J J J ⟨J, J, trivial⟩ rfl (by kernel_rfl)) rfl (fun w hm => Eh v.c.sw f.num ⟨(⟨v.c.sw.size, v.c.sw.left + f.num, v.c.sw.held⟩ : bj), 0⟩ hgv w) J J ?_ | refine bW af J J J J J J ?_ | refine aj af 0 J J J J J J J J J J J J ?_)
    refine aB J J ?_
    repeat' (first | refine ai ?_ | refine aa ?_ | refine ab ?_ | refine aJ ?_ | refine ag ?_ | ((refine' am rfl ?_ J J ?_); rotate_left; first | exact ak af J J J J | exact ae af 0 J J J J J | exact ae af 4 J J J J J | exact bh af J J J J J J J) | refine aj af 4 J J J J J J J J J J J J ?_)
    refine cK (σ := nN) (FM v ({ v.c with sw := (⟨v.c.sw.size, v.c.sw.left + f.num, v.c.sw.held⟩ : bj) } : NL)) (fun p => [(32, [], .int .i64 ((p.j : Nat) : Int)), (31, [], .int .i64 ((v.kv.length : Nat) : Int)), (0, [], .pointer (some ⟨gc, 0, none⟩))]) (fun p => .own p.o p.oc 65 4 p.c.ou.length (p.c.ou.flatMap fC) :: .own v.x v.xc 39 22 v.kv.length (p.kv.flatMap KC) :: .cl gc 28 [.int .i64 p.c.sd, .int .i64 p.c.nx, .int .i64 p.c.la, .int .i64 p.c.aw, .int .i64 p.c.sz, .int .i64 p.c.sw.size, .int .i64 p.c.sw.left, .int .i64 p.c.sw.held, .int .i64 p.c.rw.size, .int .i64 p.c.rw.left, .int .i64 p.c.rw.held, .slice v.x v.kv.length v.xc, .slice p.o p.c.ou.length p.oc, .slice v.p p.c.pg.length v.pc, .bool p.c.cl] :: .own v.p v.pc 3 1 v.c.pg.length (v.c.pg.flatMap iC) :: .rep (FK v.kv) (fun w => ∀ u ∈ v.kv, KOk (FK v.kv) w u) :: M) (fun p => v.kv.length - p.j) ⟨0, ({ v.c with sw := (⟨v.c.sw.size, v.c.sw.left + f.num, v.c.sw.held⟩ : bj) } : NL), v.kv, v.o, v.oc⟩ [false, false, true, true, true, true, true] ⟨Nat.zero_le _, hvb1, heq, rfl, rfl, (by show cu v.c ≤ 500000000; omega), rfl, fun _ _ => rfl, fun _ h => h⟩ ⟨J, J, J, trivial⟩ rfl ?_
    intro p hI
    have hj0 := hI.j
    by_cases hj : p.j < v.kv.length
    · obtain ⟨u, hu⟩ : ∃ u, p.kv[p.j]? = some u := ⟨p.kv[p.j]'(by rw [hI.ln]; exact hj), List.getElem?_eq_getElem _⟩
      have hu0 : v.kv[p.j]? = some u := by rw [← hI.at_ p.j (Nat.le_refl _)]; exact hu
      have hpi : p.c.ks[p.j]? = some u.k := by rw [hI.eq, List.getElem?_map, hu]; rfl
      have hsp := hI.vb.szl hI.ms
      have hps := hsp.ok u.k (List.mem_of_getElem? hpi)
      have hpo := hsp.ou.1
      have hum0 := List.mem_of_getElem? hu0
      refine ai ?_
      refine aa ?_
      refine mI 1 rfl (show 0 < v.kv.length by omega) ?_
      intro gx hgx
      rw [hgx]
      repeat' (first | refine ai ?_ | refine ab ?_ | refine ag ?_ | ((refine' am rfl ?_ J J ?_); rotate_left; exact aq af J J J J J J))
      refine aB rfl (by simp; omega) ?_
      repeat' (first | refine ai ?_ | refine aa ?_ | refine ab ?_ | refine ay ?_ | refine aJ ?_ | refine ag ?_ | ((refine' am rfl ?_ J J ?_); rotate_left; first | exact cm af (m := 22) p.j J J J J J J J J (fun _ => rfl) (fun _ => hj) | exact ak af J J J J | exact ae af 2 J J J J J))
      refine de (fun w1 hm => Mem.repDup4 (p' := fun w => Rws (FK v.kv) w 4 fC u.o u.k.ob) hm (fun w h => (h u hum0).2.2) (fun w1 w2 hk h => h.agree hk)) ?_
      refine bz (σ := Value × kW) (fun s => Dp p.c u s.2 ∧ kL u.k.ob u.k.st p.c.sw p.c.ou = ⟨s.2.st, s.2.w, s.2.r, s.2.ou⟩) (fun s => s.1) (fun s => _) rfl (av J J J J ⟨J, J, trivial⟩ rfl (by kernel_rfl)) (fun w1 hM => (pe gc gx v.xc p.o p.oc v.p v.pc p.c p.kv v.kv.length p.j u hu (FK v.kv) w1 hps.2.2.2.1 hps.2.2.2.2.1 (hcap u hum0).2 (by have := nJ (List.mem_of_getElem? hpi); have := hI.ms; unfold cu at this; omega) (hM.2.get (i := 3) rfl).2.1 hg hM).mono fun e w' ⟨s, h1, h2, h3⟩ => ⟨s, h1, h2, h3⟩) J J ?_
      rintro ⟨rv, s⟩ ⟨hSo, hsol⟩
      dsimp only at hSo hsol ⊢
      have hsl := wE hpi hsol
      obtain ⟨vb2, _, _⟩ := hI.vb.son hpi
      rw [hsl] at vb2
      have hms2 := pA hI.vb hpi
      rw [hsl] at hms2
      have hpl : p.j < p.kv.length := by rw [hI.ln]; exact hj
      repeat' (first | refine aa ?_ | refine ab ?_ | refine ax ?_ | refine ag ?_ | ((refine' am rfl ?_ J J ?_); rotate_left; first | exact bN J J J J J (by omega) | exact ak af J J J J))
      refine fU (M' := .own (⟨p.j + 1, { p.c with sw := s.w, ks := p.c.ks.set p.j (uS u s).k, ou := s.ou }, p.kv.set p.j (uS u s), s.o, s.oc⟩ : nN).o (⟨p.j + 1, { p.c with sw := s.w, ks := p.c.ks.set p.j (uS u s).k, ou := s.ou }, p.kv.set p.j (uS u s), s.o, s.oc⟩ : nN).oc 65 4 (⟨p.j + 1, { p.c with sw := s.w, ks := p.c.ks.set p.j (uS u s).k, ou := s.ou }, p.kv.set p.j (uS u s), s.o, s.oc⟩ : nN).c.ou.length ((⟨p.j + 1, { p.c with sw := s.w, ks := p.c.ks.set p.j (uS u s).k, ou := s.ou }, p.kv.set p.j (uS u s), s.o, s.oc⟩ : nN).c.ou.flatMap fC) :: .own (some ⟨gx, 0, none⟩) v.xc 39 22 v.kv.length ((⟨p.j + 1, { p.c with sw := s.w, ks := p.c.ks.set p.j (uS u s).k, ou := s.ou }, p.kv.set p.j (uS u s), s.o, s.oc⟩ : nN).kv.flatMap KC) :: .cl gc 28 [.int .i64 (⟨p.j + 1, { p.c with sw := s.w, ks := p.c.ks.set p.j (uS u s).k, ou := s.ou }, p.kv.set p.j (uS u s), s.o, s.oc⟩ : nN).c.sd, .int .i64 (⟨p.j + 1, { p.c with sw := s.w, ks := p.c.ks.set p.j (uS u s).k, ou := s.ou }, p.kv.set p.j (uS u s), s.o, s.oc⟩ : nN).c.nx, .int .i64 (⟨p.j + 1, { p.c with sw := s.w, ks := p.c.ks.set p.j (uS u s).k, ou := s.ou }, p.kv.set p.j (uS u s), s.o, s.oc⟩ : nN).c.la, .int .i64 (⟨p.j + 1, { p.c with sw := s.w, ks := p.c.ks.set p.j (uS u s).k, ou := s.ou }, p.kv.set p.j (uS u s), s.o, s.oc⟩ : nN).c.aw, .int .i64 (⟨p.j + 1, { p.c with sw := s.w, ks := p.c.ks.set p.j (uS u s).k, ou := s.ou }, p.kv.set p.j (uS u s), s.o, s.oc⟩ : nN).c.sz, .int .i64 (⟨p.j + 1, { p.c with sw := s.w, ks := p.c.ks.set p.j (uS u s).k, ou := s.ou }, p.kv.set p.j (uS u s), s.o, s.oc⟩ : nN).c.sw.size, .int .i64 (⟨p.j + 1, { p.c with sw := s.w, ks := p.c.ks.set p.j (uS u s).k, ou := s.ou }, p.kv.set p.j (uS u s), s.o, s.oc⟩ : nN).c.sw.left, .int .i64 (⟨p.j + 1, { p.c with sw := s.w, ks := p.c.ks.set p.j (uS u s).k, ou := s.ou }, p.kv.set p.j (uS u s), s.o, s.oc⟩ : nN).c.sw.held, .int .i64 (⟨p.j + 1, { p.c with sw := s.w, ks := p.c.ks.set p.j (uS u s).k, ou := s.ou }, p.kv.set p.j (uS u s), s.o, s.oc⟩ : nN).c.rw.size, .int .i64 (⟨p.j + 1, { p.c with sw := s.w, ks := p.c.ks.set p.j (uS u s).k, ou := s.ou }, p.kv.set p.j (uS u s), s.o, s.oc⟩ : nN).c.rw.left, .int .i64 (⟨p.j + 1, { p.c with sw := s.w, ks := p.c.ks.set p.j (uS u s).k, ou := s.ou }, p.kv.set p.j (uS u s), s.o, s.oc⟩ : nN).c.rw.held, .slice (some ⟨gx, 0, none⟩) v.kv.length v.xc, .slice (⟨p.j + 1, { p.c with sw := s.w, ks := p.c.ks.set p.j (uS u s).k, ou := s.ou }, p.kv.set p.j (uS u s), s.o, s.oc⟩ : nN).o (⟨p.j + 1, { p.c with sw := s.w, ks := p.c.ks.set p.j (uS u s).k, ou := s.ou }, p.kv.set p.j (uS u s), s.o, s.oc⟩ : nN).c.ou.length (⟨p.j + 1, { p.c with sw := s.w, ks := p.c.ks.set p.j (uS u s).k, ou := s.ou }, p.kv.set p.j (uS u s), s.o, s.oc⟩ : nN).oc, .slice v.p (⟨p.j + 1, { p.c with sw := s.w, ks := p.c.ks.set p.j (uS u s).k, ou := s.ou }, p.kv.set p.j (uS u s), s.o, s.oc⟩ : nN).c.pg.length v.pc, .bool (⟨p.j + 1, { p.c with sw := s.w, ks := p.c.ks.set p.j (uS u s).k, ou := s.ou }, p.kv.set p.j (uS u s), s.o, s.oc⟩ : nN).c.cl] :: .own v.p v.pc 3 1 v.c.pg.length (v.c.pg.flatMap iC) :: .rep (FK v.kv) (fun w => ∀ u ∈ v.kv, KOk (FK v.kv) w u) :: M) (fun w hM => hM.mask [true, true, true, false, true, true] rfl) ?_
      refine bA (⟨p.j + 1, { p.c with sw := s.w, ks := p.c.ks.set p.j (uS u s).k, ou := s.ou }, p.kv.set p.j (uS u s), s.o, s.oc⟩ : nN) [] ⟨hj, vb2, by show p.c.ks.set p.j (uS u s).k = (p.kv.set p.j (uS u s)).map (·.k); rw [List.map_set, hI.eq], by show (p.kv.set p.j (uS u s)).length = _; rw [List.length_set]; exact hI.ln, ?_, ?_, hI.pg, fun m hm => ?_, fun w h x hx => ?_⟩ (show v.kv.length - (p.j + 1) < v.kv.length - p.j by omega) ⟨J, J, J, trivial⟩ rfl
      · rw [hI.go, show v.kv.length - p.j = (v.kv.length - (p.j + 1)) + 1 by omega, jG, hsl]
      · exact Nat.le_trans hms2 hI.ms
      · show (p.kv.set p.j (uS u s))[m]? = _
        have hm' : p.j + 1 ≤ m := hm
        rw [List.getElem?_set_ne (by omega)]
        exact hI.at_ m (by omega)
      · have hx' : x ∈ p.kv.set p.j (uS u s) := hx
        rcases kI hpl hx' with rfl | hx'
        · exact Cj hSo (hI.ok w h u (List.mem_of_getElem? hu))
        · exact hI.ok w h x (List.mem_of_mem_eraseIdx hx')
    · have hjl : p.j = v.kv.length := by omega
      repeat' (first | refine ai ?_ | refine aa ?_ | refine ab ?_ | refine ag ?_ | ((refine' am rfl ?_ J J ?_); rotate_left; exact aq af J J J J J J))
      refine ar rfl (by simp; omega) ?_
      repeat' (first | refine ab ?_ | refine aA ?_ | refine bq ?_ | refine au ?_ | refine aN ?_ | refine aT ?_)
      (refine aC af (fun _ => 0) J J trivial rfl fun w1 hm => ?_)
      refine ⟨(_, ⟨p.c, v.x, v.xc, p.kv, p.o, p.oc, v.p, v.pc⟩, FK v.kv), ⟨by rw [hI.go, hjl, Nat.sub_self, jG], hI.eq, hFK⟩, rfl, ?_⟩
      unfold CM
      dsimp only
      rw [hI.ln, hI.pg]
      rw [hI.pg] at hm
      have h2 := hm.perm (List.perm_middle (l₁ := [_, _, _, _]))
      exact (h2.repTo (fun w h => hI.ok w h) (fun w1 w2 hk h x hx => (h x hx).agree hk)).perm (List.perm_middle (l₁ := [_, _, _, _])).symm
  · refine ar rfl (by simpa using h0) ?_
    obtain ⟨o, ho⟩ : ∃ o, dO f.strm v.c.ks 0 = o := ⟨_, rfl⟩
    repeat' (first | refine ai ?_ | refine aa ?_ | refine ab ?_ | refine ay ?_ | refine aU aD rfl (by kernel_rfl) ?_ | refine ag ?_ | refine bH ?_ | ((first | refine' am rfl ?_ J J ?_ | refine' dg rfl ?_ J J J ?_); rotate_left; first | exact ak af J J J J | exact aq af J J J J J J | exact ae af 0 J J J J J | exact ae af 3 J J J J J) | refine br rfl (av J J J J ⟨J, J, trivial⟩ rfl (by kernel_rfl)) rfl (fun w hm => vg v f.strm o w (jB (hm.2.get (i := 2) rfl) (hm.2.get (i := 1) rfl) (hm.2.get (i := 4) rfl) heq (hm.2.get (i := 5) rfl).2.1) (show v.kv.length ≤ 606626243774 by omega) ho) J J ?_)
    cases o with
    | none =>
      have hcr : gf v.c f = v.c := by unfold gf; rw [if_neg h0, ho]
      rw [hcr]
      refine ar J J ?_
      repeat' (refine ay ?_)
      (refine dU af (fun _ => 0) J J trivial rfl fun w1 hm => ?_)
      exact ⟨(_, v, FK v.kv), ⟨rfl, heq, hFK⟩, rfl, hm.mask [false, true, true, true, true, true] rfl⟩
    | some i =>
      obtain ⟨q, hq, hqi⟩ := lY ho
      obtain ⟨u, hu, huk⟩ : ∃ u, v.kv[i]? = some u ∧ u.k = q := by rw [heq, List.getElem?_map] at hq; simpa using hq
      subst huk
      have hi : i < v.kv.length := (List.getElem?_eq_some_iff.1 hu).1
      have hum := List.mem_of_getElem? hu
      have hso := Ai hv (i := i) (k := u.k) hq hf hqi.symm ⟨by omega, hkk.2⟩
      obtain ⟨hr1, hr2⟩ := pF (c := v.c) (f := f) hq hso
      obtain ⟨k', e', hrr⟩ := jA hv hq hf hqi.symm ⟨by omega, hkk.2⟩
      obtain ⟨vb1, _, _, _⟩ := lB hv hcl hq hrr
      have hms1 := pC hq hrr
      rw [hr1] at vb1 hms1
      have htx : u.k.st.text.size ≤ 4611686018427387900 := (hsz.ok u.k (List.mem_of_getElem? hq)).2.2.2.1
      have hcr : gf v.c f = fw (ep v.c i f) i := by unfold gf; rw [if_neg h0, ho]
      rw [hcr, hr1]
      have hiz : decide ((DS (some i)) ≥ 0) = true := decide_eq_true (by show ((i : Nat) : Int) ≥ 0; omega)
      refine aB rfl hiz ?_
      by_cases hxx : v.x = none
      · exfalso
        have := (hM.2.get (i := 1) rfl)
        obtain ⟨g, hg'⟩ := lH this (show 0 < v.kv.length by omega)
        rw [hxx] at hg'; cases hg'
      obtain ⟨gx, hgx⟩ : ∃ gx, v.x = some ⟨gx, 0, none⟩ := lH (hM.2.get (i := 1) rfl) (show 0 < v.kv.length by omega)
      rw [hgx]
      repeat' (refine ai ?_)
      refine fj [true, true, true, true, true, true] (fun _ => True) aD (by kernel_rfl) J J (fun _ _ => trivial) ?_
      iterate 6 (((refine' lw J J ?_ J J ?_); rotate_left; first | exact ak af J J J J | exact ae af 3 J J J J J))
      ((refine' lw J J ?_ J J ?_); rotate_left; exact cm af (m := 22) i J J J J J J J J (fun _ => rfl) (fun _ => hi))
      ((refine' lw J J ?_ J J ?_); rotate_left; exact ae af 0 J J J J J)
      refine gk (σ := Option Addr × Nat) (fun _ => True) (fun _ => .bool (vx u f)) (fun s => _) rfl (av J J J J ⟨J, J, J, trivial⟩ rfl (by kernel_rfl)) (fun w1 hM => (uk gc gx v.xc v.kv.length i _ _ _ _ _ _ _ _ _ _ _ _ _ _ v.kv u hu v.o v.oc v.c.ou f w1 htx (by omega) (by omega) hso hg (hM.perm (List.perm_middle (l₁ := [_]) |>.trans ((List.perm_middle (l₁ := [_])).cons _) |>.trans (((List.perm_middle (l₁ := [_])).cons _).cons _)))).mono fun e w' ⟨s, h1, h2, h3⟩ => ⟨s, h1, h2, h3⟩) J J ?_
      rintro ⟨qa, qc⟩ -
      obtain ⟨u2, hu2⟩ : ∃ u2 : KV, ji u f = u2 := ⟨_, rfl⟩
      obtain ⟨ou2, hou2⟩ : ∃ l, qf u f v.c.ou = l := ⟨_, rfl⟩
      have hcp2 : u2.k.ob.length ≤ u2.oc := by rw [← hu2]; exact Aj (hcap u hum).2
      have hok2 : ∀ {A : Nat → Prop} {w : World}, KOk A w u → KOk A w u2 := fun h => by rw [← hu2]; exact BO h
      rw [hu2, hou2] at vb1 hms1
      rw [hu2, hou2]
      have hat2 : (v.kv.set i u2)[i]? = some u2 := en hu _
      have hq2 : (v.c.ks.set i u2.k)[i]? = some u2.k := List.getElem?_set_self (by rw [hlk]; exact hi)
      have hs2 := vb1.szl (by omega)
      have hp2 := hs2.ok u2.k (List.mem_of_getElem? hq2)
      have hob2 := nJ (List.mem_of_getElem? hq2)
      have hms3 : ou2.length + u2.k.ob.length ≤ 500000000 := by have h9 := hms; unfold cu at hms1 h9; dsimp only at hms1; omega
      repeat' (first | refine aa ?_ | refine ab ?_ | ((refine' am rfl ?_ J J ?_); rotate_left; first | exact cm af (m := 22) i J J J J J J J J (fun _ => rfl) (fun _ => hi) | exact ak af J J J J | exact ae af 2 J J J J J))
      refine de (fun w1 hm => Mem.repDup4 (p' := fun w => Rws (FK v.kv) w 4 fC u2.o u2.k.ob) (hm.mask [true, true, true, false, true, true] rfl) (fun w h => (hok2 (h u hum)).2.2) (fun w1 w2 hk h => h.agree hk)) ?_
      refine bz (σ := Value × kW) (fun s => Dp { v.c with ou := ou2 } u2 s.2 ∧ kL u2.k.ob u2.k.st v.c.sw ou2 = ⟨s.2.st, s.2.w, s.2.r, s.2.ou⟩) (fun s => s.1) (fun s => _) rfl (av J J J J ⟨J, J, trivial⟩ rfl (by kernel_rfl)) (fun w1 hM => (pe gc gx v.xc qa qc v.p v.pc { v.c with ou := ou2 } (v.kv.set i u2) v.kv.length i u2 hat2 (FK v.kv) w1 hp2.2.2.2.1 hp2.2.2.2.2.1 hcp2 (by dsimp only; omega) (hM.2.get (i := 3) rfl).2.1 hg hM).mono fun e w' ⟨s, h1, h2, h3⟩ => ⟨s, h1, h2, h3⟩) J J ?_
      rintro ⟨rv, s⟩ ⟨hSo, hsol⟩
      dsimp only at hSo hsol ⊢
      have hsl := wE (c := { v.c with ks := v.c.ks.set i u2.k, ou := ou2 }) hq2 hsol
      rw [hsl]
      repeat' (refine ag ?_)
      (refine dU af (fun _ => 0) J J trivial rfl fun w1 hm => ?_)
      refine ⟨(_, ⟨{ v.c with sw := s.w, ks := (v.c.ks.set i u2.k).set i (uS u2 s).k, ou := s.ou }, some ⟨gx, 0, none⟩, v.xc, (v.kv.set i u2).set i (uS u2 s), s.o, s.oc, v.p, v.pc⟩, FK v.kv), ⟨rfl, by dsimp only; rw [List.map_set, List.map_set, heq], hFK⟩, rfl, ?_⟩
      have hll : ((v.kv.set i u2).set i (uS u2 s)).length = v.kv.length := by rw [List.length_set, List.length_set]
      unfold CM
      dsimp only
      rw [hll]
      have h2 := (hm.mask [true, true, true, false, true, true] rfl).perm (List.perm_middle (l₁ := [_, _, _, _]))
      refine (h2.repTo (fun w h x hx => ?_) (fun w1 w2 hk h x hx => (h x hx).agree hk)).perm (List.perm_middle (l₁ := [_, _, _, _])).symm
      rw [List.set_set] at hx
      rcases kI hi hx with rfl | hx
      · exact Cj hSo (hok2 (h u hum))
      · exact h x (List.mem_of_mem_eraseIdx hx)
end Go.Proofs.YthiocbcokfondaaGreatDoor.Y
