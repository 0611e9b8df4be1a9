/- Texts of this claim merged into one: QRead1, QUnp, QRead2, QRead3, QChk, QCk. -/
import Derived.Test.YthiocbcokfondaaGreatDoorQBunI
import Derived.Test.YthiocbcokfondaaGreatDoorQRegionZ
import Derived.Deep.DeepCutAuto
import Derived.Test.YthiocbcokfondaaGreatDoorQBunS
import Derived.Test.YthiocbcokfondaaGreatDoorQBunK
import Derived.Test.YthiocbcokfondaaGreatDoorQBunD
namespace Go.Proofs.YthiocbcokfondaaGreatDoor
open Go.RowKit
def Dk : Op → RK
  | .nilCheck _ => ⟨true, true⟩
  | o => Bs o
def eP (ms : List (ByteArray × ByteArray)) : List Value := ms.flatMap fun m => [.string m.1, .string m.2]
theorem qB : ∀ (ms : List (ByteArray × ByteArray)) (i : Nat) (h : i < ms.length), (eP ms)[i * 2]? = some (.string ms[i].1) ∧ (eP ms)[i * 2 + 1]? = some (.string ms[i].2)
  | [], _, h => absurd h (Nat.not_lt_zero _)
  | m :: r, 0, _ => by simp [eP]
  | m :: r, i + 1, h => by
    have ih := qB r i (by simpa using h)
    have e : eP (m :: r) = .string m.1 :: .string m.2 :: eP r := rfl
    rw [e, show (i + 1) * 2 = i * 2 + 1 + 1 by omega]
    simpa using ih
theorem nl (ms : List (ByteArray × ByteArray)) (a b : ByteArray) : eP (ms ++ [(a, b)]) = eP ms ++ [.string a, .string b] := by simp [eP]
theorem MsIn.own {w : World} {B : Nat} {v : Value} {ms : List (ByteArray × ByteArray)} (h : w.ownsRow B MT 2 v ms.length (eP ms)) : MsIn w v ms := by
  rcases h.2 with ⟨hv, h0⟩ | ⟨g, cap, cur, hv, hB, hg, r⟩
  · exact ⟨none, 0, by rw [hv, h0], fun hne => absurd (List.length_eq_zero_iff.1 h0) hne⟩
  · refine ⟨some ⟨g, 0, none⟩, cap, hv, fun _ => ⟨g, 0, rfl, (Array.getElem?_eq_some_iff.1 hg).1, fun i hi => ?_⟩⟩
    obtain ⟨e1, e2⟩ := qB ms i hi
    have c1 := h.cells (g := g) (by rw [hv]; rfl) (i * 2) _ e1
    have c2 := h.cells (g := g) (by rw [hv]; rfl) (i * 2 + 1) _ e2
    have ha : ∀ j, (⟨g, 0, none⟩ : Addr).add j = ⟨g, 0 + j, none⟩ := fun j => by unfold Addr.add; split <;> simp_all
    rw [ha] at c1 c2
    exact ⟨c1, c2⟩
theorem jx (n : Nat) (s : ByteArray) {e : Int} (he : e ≠ 0) (acc : List (ByteArray × ByteArray)) : ew n s e acc = ⟨acc, s, e⟩ := by
  cases n with
  | zero => rfl
  | succ n => rw [ew, if_neg he]
theorem oT (n : Nat) (s : ByteArray) (e : Int) : lO n s e = ew n s (if e = 0 ∧ 16 < n then 3 else e) [] := by
  unfold lO
  by_cases he : e = 0
  · subst he
    by_cases hn : 16 < n
    · rw [if_pos rfl, if_pos hn, if_pos ⟨rfl, hn⟩, jx _ _ (by omega)]
    · rw [if_pos rfl, if_neg hn, if_neg (by omega)]
  · rw [if_neg he, if_neg (by omega), jx _ _ he]
abbrev dQ : Array Value := #[.string ⟨#[]⟩, .string ⟨#[]⟩, .int .i64 0, .slice none 0 0]
def CI (R : DL) (w : World) (e : Ending) (w' : World) : Prop := ∃ v, e = .returned (.tuple #[.agg (cY R.head v), .int .i64 R.err]) ∧ MsIn w' v R.head.metas ∧ Below w.heap.size w w'
theorem iz : AggT Tryz.prog HT 4 := ⟨by kernel_rfl, by kernel_rfl⟩
theorem MsIn.zero (w : World) : MsIn w (.slice none 0 0) [] := ⟨none, 0, rfl, fun h => absurd rfl h⟩
theorem dt {w : World} {g : Nat} {cs : Array Value} (h : Bk w g HT cs) (hc : cs.size = 4) (a b c d : Value) : Bk ((((w.setCell ⟨g, 0, none⟩ a).setCell ⟨g, 1, none⟩ b).setCell ⟨g, 2, none⟩ c).setCell ⟨g, 3, none⟩ d) g HT #[a, b, c, d] := by
  have h2 := (((h.put 0 a).put 1 b).put 2 c).put 3 d
  obtain ⟨l⟩ := cs
  match l, hc with
  | [x0, x1, x2, x3], _ => exact h2
theorem jy {w : World} {g b : Nat} {ty : TypeId} {cs : Array Value} (h : Bk w g ty cs) (hn : g ≠ b) (x0 x1 x2 x3 : Value) : Bk ((((w.setCell ⟨b, 0, none⟩ x0).setCell ⟨b, 1, none⟩ x1).setCell ⟨b, 2, none⟩ x2).setCell ⟨b, 3, none⟩ x3) g ty cs :=
  (((h.aside hn x0).aside hn x1).aside hn x2).aside hn x3
theorem cq {B : Nat} {a w : World} (h : Below B a w) {b : Nat} (hb : B ≤ b) (x0 x1 x2 x3 : Value) : Below B a ((((w.setCell ⟨b, 0, none⟩ x0).setCell ⟨b, 1, none⟩ x1).setCell ⟨b, 2, none⟩ x2).setCell ⟨b, 3, none⟩ x3) :=
  (((h.setCell hb x0).setCell hb x1).setCell hb x2).setCell hb x3
theorem ej {w : World} {B : Nat} {e T : TypeId} {size : Nat} {v : Value} {n : Nat} {xs : List Value} {b : Nat} {cs : Array Value} (hown : w.ownsRow B e size v n xs) (hb : Bk w b T cs) (hTe : T ≠ e) : v.ownBlock ≠ some b := by
  rcases hown.2 with ⟨rfl, _⟩ | ⟨g, cap, cur, rfl, _, hg, _⟩
  · simp [Value.ownBlock]
  · intro h
    simp only [Value.ownBlock, Option.some.injEq] at h
    subst h
    unfold Bk at hb
    rw [hg] at hb
    simp only [Option.some.injEq, Obj.cells.injEq] at hb
    exact hTe hb.2.1.symm
theorem iA {w : World} {B : Nat} {e : TypeId} {size : Nat} {v : Value} {n : Nat} {xs : List Value} (h : w.ownsRow B e size v n xs) {b : Nat} (hn : v.ownBlock ≠ some b) (i : Nat) (u : Value) : (w.setCell ⟨b, i, none⟩ u).ownsRow B e size v n xs :=
  h.kept (row := some b) (gN (jw w _) i u) (.inr hn)
theorem tv {w : World} {B : Nat} {e : TypeId} {size : Nat} {v : Value} {n : Nat} {xs : List Value} (h : w.ownsRow B e size v n xs) {b : Nat} (hn : v.ownBlock ≠ some b) (x0 x1 x2 x3 : Value) : ((((w.setCell ⟨b, 0, none⟩ x0).setCell ⟨b, 1, none⟩ x1).setCell ⟨b, 2, none⟩ x2).setCell ⟨b, 3, none⟩ x3).ownsRow B e size v n xs :=
  iA (iA (iA (iA h hn 0 x0) hn 1 x1) hn 2 x2) hn 3 x3
theorem kD {w w' : World} {B : Nat} {e : TypeId} {size : Nat} {v : Value} {n : Nat} {xs : List Value} (h : w.ownsRow B e size v n xs) (hb : Below w.heap.size w w') : w'.ownsRow B e size v n xs :=
  h.kept (row := none) (iy hb) (by cases hv : v.ownBlock <;> simp)
theorem vW (W : World) (a b : ByteArray) : ∀ (j : Nat) (u : Value), [Value.string a, Value.string b][j]? = some u → (W.alloc (.cells #[.string a, .string b] MT)).cell? ((⟨W.heap.size, 0, none⟩ : Addr).add j) = some u := by
  intro j u hj
  have ha : (⟨W.heap.size, 0, none⟩ : Addr).add j = ⟨W.heap.size, 0 + j, none⟩ := by unfold Addr.add; split <;> simp_all
  rw [ha, Nat.zero_add]
  match j, hj with
  | 0, hj => simp at hj; subst hj; rw [World.cell?_alloc_mark]; rfl
  | 1, hj => simp at hj; subst hj; rw [World.cell?_alloc_mark]; rfl
  | j + 2, hj => simp at hj
theorem Bk.apart {w w' : World} {g : Nat} {ty : TypeId} {cs : Array Value} {r : Option Nat} (h : Bk w g ty cs) (hg : w.grownBy w' r) (hn : r ≠ some g) : Bk w' g ty cs := (hg.block g h.here (fun e => hn e.symm)).trans h
theorem tw : (Tryz.prog.info? MT).map (fun i => (i.zero, i.size, i.bytes)) = some (some (.agg #[.string ⟨#[]⟩, .string ⟨#[]⟩]), 2, 32) := by kernel_rfl
set_option maxHeartbeats 4000000 in
set_option maxRecDepth 100000 in
theorem rH (s0 : ByteArray) (w : World) (hg : MLen w) (hs : s0.size < 4294967281) :
    Calls Tryz.prog 76 #[.string s0] w (CI (cP s0) w) := by
  have HG := Lib.hid hg; clear hg
  have HR0 := Lib.hid (show cP s0 = iv s0 ⟨(aE s0 0).text, (aE (aE s0 0).rest (aE s0 0).err).text, 0, []⟩ (bX (aE (aE s0 0).rest (aE s0 0).err).rest (aE (aE s0 0).rest (aE s0 0).err).err).num (lO (bX (bX (aE (aE s0 0).rest (aE s0 0).err).rest (aE (aE s0 0).rest (aE s0 0).err).err).rest (bX (aE (aE s0 0).rest (aE s0 0).err).rest (aE (aE s0 0).rest (aE s0 0).err).err).err).num (bX (bX (aE (aE s0 0).rest (aE s0 0).err).rest (aE (aE s0 0).rest (aE s0 0).err).err).rest (bX (aE (aE s0 0).rest (aE s0 0).err).rest (aE (aE s0 0).rest (aE s0 0).err).err).err).rest (bX (bX (aE (aE s0 0).rest (aE s0 0).err).rest (aE (aE s0 0).rest (aE s0 0).err).err).rest (bX (aE (aE s0 0).rest (aE s0 0).err).rest (aE (aE s0 0).rest (aE s0 0).err).err).err).err) from rfl)
  have h1 := gg s0 0
  have HT1 := Lib.hid (fun b w hk => gh b s0 0 w hk (by omega))
  generalize aE s0 0 = X1 at *
  obtain ⟨svc, s1, e1⟩ := X1
  have h2 := gg s1 e1
  have HT2 := Lib.hid (fun b w hk => gh b s1 e1 w hk (by have : s1.size ≤ s0.size := h1.1; omega))
  simp only at HR0
  generalize aE s1 e1 = X2 at *
  obtain ⟨mth, s2, e2⟩ := X2
  have h3 := iX s2 e2
  have h3l := jW s2 e2
  have HT3 := Lib.hid (fun b w hk => gZ b s2 e2 w hk (by have : s1.size ≤ s0.size := h1.1; have : s2.size ≤ s1.size := h2.1; omega))
  simp only at HR0
  generalize bX s2 e2 = X3 at *
  obtain ⟨late, s3, e3⟩ := X3
  have h4 := iX s3 e3
  have h4l := jW s3 e3
  have HT4 := Lib.hid (fun b w hk => gZ b s3 e3 w hk (by have : s1.size ≤ s0.size := h1.1; have : s2.size ≤ s1.size := h2.1; have : s3.size ≤ s2.size := h3; omega))
  simp only at HR0
  generalize bX s3 e3 = X4 at *
  obtain ⟨n, s4, e4⟩ := X4
  have b1 : s1.size ≤ s0.size := h1.1
  have b2 : s2.size ≤ s1.size := h2.1
  have b3 : s3.size ≤ s2.size := h3
  have b4 : s4.size ≤ s3.size := h4
  have b5 : svc.size ≤ s0.size := h1.2
  have b6 : mth.size ≤ s1.size := h2.2
  have n1 : late < 18446744073709551616 := h3l
  have n2 : n < 18446744073709551616 := h4l
  simp only [oT] at HR0
  clear h1 h2 h3 h4 h3l h4l
  generalize cP s0 = RR at *
  have HSZ := Lib.hid (show svc.size < 4294967281 ∧ mth.size < 4294967281 ∧ s4.size < 4294967281 from ⟨by omega, by omega, by omega⟩)
  have HN1 := Lib.hid n1; have HN2 := Lib.hid n2
  clear hs b1 b2 b3 b4 b5 b6 n1 n2
  go_enter Tryz.func76, Tryz.ntmps76
  have hsz1 : (w.alloc (.cells dQ HT)).heap.size = w.heap.size + 1 := by simp
  have HKR0 := Lib.hid ((Bk.new w HT dQ).more (.cells #[.string s0, .int .i64 0] TK))
  have HKT0 := Lib.hid (show Bk ((w.alloc (.cells dQ HT)).alloc (.cells #[.string s0, .int .i64 0] TK)) (w.heap.size + 1) TK #[.string s0, .int .i64 0] from by have h := Bk.new (w.alloc (.cells dQ HT)) TK #[.string s0, .int .i64 0]; rw [hsz1] at h; exact h)
  have HB0 := Lib.hid (show Below w.heap.size w ((w.alloc (.cells dQ HT)).alloc (.cells #[.string s0, .int .i64 0] TK)) from ((Below.refl _ _).alloc (Nat.le_refl _) _).alloc (by simp) _)
  clear hsz1
  go_wp2_with fail
  refine (HT1.out _ _ HKT0.out).mono ?_; rintro e w1 ⟨rfl, hkt1, hgr1⟩
  have HKT1 := Lib.hid hkt1; have HKR1 := Lib.hid (HKR0.out.beside hgr1 (by omega)); have HB1 := Lib.hid (HB0.out.grown hgr1 HB0.out.size (fun k hk => by have := Option.some.inj hk; omega))
  clear hkt1 hgr1 HKT0 HKR0 HB0
  go_wp2_with fail
  refine (HT2.out _ _ HKT1.out).mono ?_; rintro e w2 ⟨rfl, hkt2, hgr2⟩
  have HKT2 := Lib.hid hkt2; have HKR2 := Lib.hid (HKR1.out.beside hgr2 (by omega)); have HB2 := Lib.hid (HB1.out.grown hgr2 HB1.out.size (fun k hk => by have := Option.some.inj hk; omega))
  clear hkt2 hgr2 HKT1 HKR1 HB1
  have HNH := Lib.hid (show w2.heap.size ≠ w.heap.size + 1 from Nat.ne_of_gt HKT2.out.here)
  have HNR := Lib.hid (show w2.heap.size ≠ w.heap.size from Nat.ne_of_gt HKR2.out.here)
  have HHB := Lib.hid HB2.out.size
  have HKT12 := Lib.hid (HKT2.out.more (.cells #[.string svc, .string mth, .int .i64 0, .slice none 0 0] HT)); have HKR12 := Lib.hid (HKR2.out.more (.cells #[.string svc, .string mth, .int .i64 0, .slice none 0 0] HT)); have HB12 := Lib.hid (HB2.out.alloc HB2.out.size (.cells #[.string svc, .string mth, .int .i64 0, .slice none 0 0] HT)); have HKH12 := Lib.hid (Bk.new w2 HT #[.string svc, .string mth, .int .i64 0, .slice none 0 0])
  clear HKT2 HKR2 HB2
  go_wp2_with fail
  refine (HT3.out _ _ HKT12.out).mono ?_; rintro e w13 ⟨rfl, hkt13, hgr13⟩
  have HKT13 := Lib.hid hkt13; have HKR13 := Lib.hid (HKR12.out.beside hgr13 (by omega)); have HB13 := Lib.hid (HB12.out.grown hgr13 HB12.out.size (fun k hk => by have := Option.some.inj hk; omega)); have HKH13 := Lib.hid (HKH12.out.beside hgr13 HNH.out)
  clear hkt13 hgr13 HKT12 HKR12 HB12 HKH12
  go_wp2_with fail
  refine (HT4.out _ _ HKT13.out).mono ?_; rintro e w14 ⟨rfl, hkt14, hgr14⟩
  have HKT14 := Lib.hid hkt14; have HKR14 := Lib.hid (HKR13.out.beside hgr14 (by omega)); have HB14 := Lib.hid (HB13.out.grown hgr14 HB13.out.size (fun k hk => by have := Option.some.inj hk; omega)); have HKH14 := Lib.hid (HKH13.out.beside hgr14 HNH.out)
  clear hkt14 hgr14 HKT13 HKR13 HB13 HKH13
  have HE5 := Lib.hid (fun (h : (if e4 = 0 ∧ 16 < n then (3 : Int) else e4) = 0) => show n ≤ 16 from by split at h <;> omega)
  go_upto_region 4 with fail
  go_cut [31] (fun s31 wx => ∃ b : Bool, s31 = .bool b ∧ Hid (b = decide (e4 = 0 ∧ 16 < n)) ∧ wx = w14)
  case first =>
    have t1 : w14.cell? ⟨w.heap.size + 1, 1, none⟩ = some (.int .i64 e4) := HKT14.out.at_ 1 rfl
    by_cases h4 : e4 = 0
    · subst h4
      by_cases h16 : 16 < n
      · have hd := decide_eq_true (show (16 : Int) < (n : Int) by omega)
        go_wp2_with fail
        go_meet
        exact ⟨_, rfl, Lib.hid (by simp [h16]), rfl⟩
      · have hd := decide_eq_false (show ¬ (16 : Int) < (n : Int) by omega)
        go_wp2_with fail
        go_meet
        exact ⟨_, rfl, Lib.hid (by simp [h16]), rfl⟩
    · obtain ⟨q1, q2⟩ := aM h4
      go_wp2_with fail
      go_meet
      exact ⟨_, rfl, Lib.hid (by simp [h4]), rfl⟩
  case rest =>
  obtain ⟨b31, rfl, hb31, rfl⟩ := hcut
  go_upto_if 31 with fail
  go_cut [] (fun wx => Bk wx (w.heap.size + 1) TK #[.string s4, .int .i64 (if e4 = 0 ∧ 16 < n then 3 else e4)] ∧ Bk wx w.heap.size HT dQ ∧ Bk wx w2.heap.size HT #[.string svc, .string mth, .int .i64 0, .slice none 0 0] ∧ Below w.heap.size w wx)
  case first =>
    have cf := HKT14.out.free
    have t1 : wc.cell? ⟨w.heap.size + 1, 1, none⟩ = some (.int .i64 e4) := HKT14.out.at_ 1 rfl
    cases b31 with
    | true =>
      have h4 : e4 = 0 ∧ 16 < n := of_decide_eq_true hb31.out.symm
      go_wp2_with fail
      go_meet
      refine ⟨?_, HKR14.out.aside (show w.heap.size ≠ w.heap.size + 1 by omega) _, HKH14.out.aside HNH.out _, HB14.out.setCell (show w.heap.size ≤ w.heap.size + 1 by omega) _⟩
      rw [if_pos h4]
      exact HKT14.out.put 1 _
    | false =>
      have h4 : ¬ (e4 = 0 ∧ 16 < n) := of_decide_eq_false hb31.out.symm
      go_wp2_with fail
      go_meet
      refine ⟨?_, HKR14.out, HKH14.out, HB14.out⟩
      rw [if_neg h4]
      exact HKT14.out
  case rest =>
  obtain ⟨hkt, hkr, hkh, hb⟩ := hcut
  clear HKT14 HKR14 HKH14 HB14 HT1 HT2 HT3 HT4
  generalize (if e4 = 0 ∧ 16 < n then (3 : Int) else e4) = e5 at *
  have HKT := Lib.hid hkt; have HKR := Lib.hid hkr; have HKH := Lib.hid hkh; have HB := Lib.hid hb
  clear hkt hkr hkh hb
  obtain ⟨z1, z2, z4⟩ := HSZ.out
  have HZ1 := Lib.hid z1; have HZ2 := Lib.hid z2; have HZ4 := Lib.hid z4; clear z1 z2 z4
  obtain ⟨i0, hi, hz0, hz1, hz2⟩ := info_parts tw
  have HI := Lib.hid hi; have HIZ := Lib.hid hz0; have HIZ1 := Lib.hid hz1; have HIZ2 := Lib.hid hz2
  clear hi hz0 hz1 hz2
  go_wp2_with fail
  go_loopw [8] (fun x wr => ∃ (k : Nat) (s : ByteArray) (e : Int) (acc : List (ByteArray × ByteArray)) (v : Value), x = .int .u64 k ∧ k ≤ n ∧ (e = 0 → n ≤ 16) ∧ acc.length = k ∧ s.size < 4294967281 ∧ (∀ m ∈ acc, m.1.size < 4294967281 ∧ m.2.size < 4294967281) ∧ Bk wr (w.heap.size + 1) TK #[.string s, .int .i64 e] ∧ Bk wr w2.heap.size HT #[.string svc, .string mth, .int .i64 0, v] ∧ Bk wr w.heap.size HT dQ ∧ wr.ownsRow w.heap.size MT 2 v acc.length (eP acc) ∧ Below w.heap.size w wr ∧ ew n s4 e5 [] = ew (n - k) s e acc) (fun x _ => n - (intOf x).toNat)
  case atStart => exact ⟨0, s4, e5, [], .slice none 0 0, rfl, Nat.zero_le _, HE5.out, rfl, HZ4.out, fun _ h => (by cases h), HKT.out, HKH.out, HKR.out, World.ownsRow_nil _ _ _ _, HB.out, rfl⟩
  case round =>
    obtain ⟨k, s, e, acc, v, rfl, hkn, h16, hal, hss, hms, hkt, hkh, hkr, hown, hbw, hM⟩ := hrel
    have HKT := Lib.hid hkt; have HKH := Lib.hid hkh; have HKR := Lib.hid hkr; have HO := Lib.hid hown; have HB := Lib.hid hbw; have HM := Lib.hid hM; have HMS := Lib.hid hms; have HSS := Lib.hid hss; have HALN := Lib.hid hal; clear hal
    have t1 : wr.cell? ⟨w.heap.size + 1, 1, none⟩ = some (.int .i64 e) := hkt.at_ 1 rfl
    have t0 : wr.cell? ⟨w.heap.size + 1, 0, none⟩ = some (.string s) := hkt.at_ 0 rfl
    have hv3 : wr.cell? ⟨w2.heap.size, 3, none⟩ = some v := hkh.at_ 3 rfl
    clear hkt hkh hkr hown hbw hM hms hss
    by_cases he : e = 0
    · subst he
      have hn16 := h16 rfl
      clear h16
      by_cases hlt : k < n
      · have hd := decide_eq_true (show (k : Int) < (n : Int) by omega)
        have hx1 := gg s 0
        have hx2 := gg (aE s 0).rest (aE s 0).err
        have HS1 := Lib.hid (show (aE s 0).rest.size < 4294967281 from by have := HSS.out; omega)
        have HS2 := Lib.hid (show (aE (aE s 0).rest (aE s 0).err).rest.size < 4294967281 from by have := HSS.out; omega)
        have HT1s := Lib.hid (show (aE s 0).text.size < 4294967281 from by have := HSS.out; omega)
        have HT2s := Lib.hid (show (aE (aE s 0).rest (aE s 0).err).text.size < 4294967281 from by have := HSS.out; omega)
        have HMN := Lib.hid (show ew n s4 e5 [] = ew (n - (k + 1)) (aE (aE s 0).rest (aE s 0).err).rest (aE (aE s 0).rest (aE s 0).err).err (acc ++ [((aE s 0).text, (aE (aE s 0).rest (aE s 0).err).text)]) by
          rw [HM.out, show n - k = (n - (k + 1)) + 1 by omega, ew, if_pos rfl])
        clear hx1 hx2
        have HNO := Lib.hid (ej HO.out HKH.out (by decide))
        go_wp2_with fail
        refine jY (fun W' => W'.cell? ⟨w2.heap.size, 3, none⟩ = some v) Dk (by kernel_rfl) (by kernel_rfl) J J hv3 ?_
        iterate 3 ((refine az J J _ (fun w' hI => by go_simp; rfl) (fun K hK => ?_); try go_simp; refine hK _ _ ?_; clear hK K))
        refine bd J J J (fun K hK => ?_); go_simp
        refine (gh _ s 0 _ HKT.out.draw (by have := HSS.out; omega)).mono ?_; rintro e y1 ⟨rfl, hkt1, hgr1⟩; try go_simp
        have HKT1 := Lib.hid hkt1; have HKH1 := Lib.hid (Bk.beside (w := wr.drew) HKH.out hgr1 HNH.out); have HKR1 := Lib.hid (Bk.beside (w := wr.drew) HKR.out hgr1 (show w.heap.size ≠ w.heap.size + 1 by omega))
        have HO1 := Lib.hid (World.ownsRow.kept (w := wr.drew) HO.out hgr1 (.inr (ej (w := wr.drew) HO.out HKT.out (by decide))))
        have HB1 := Lib.hid (HB.out.drew.grown hgr1 HB.out.size (fun k hk => by have := Option.some.inj hk; omega))
        refine hK _ _ ⟨HKH1.out.at_ 3 rfl, ?_⟩; clear hK K hkt1 hgr1
        generalize hq1 : aE s 0 = X1 at *
        obtain ⟨a1, r1, c1⟩ := X1
        iterate 1 ((refine az J J _ (fun w' hI => by go_simp; rfl) (fun K hK => ?_); try go_simp; refine hK _ _ ?_; clear hK K))
        refine bd J J J (fun K hK => ?_); go_simp
        refine (gh _ r1 c1 _ HKT1.out (by have h : r1.size < 4294967281 := HS1.out; omega)).mono ?_; rintro e y2 ⟨rfl, hkt2, hgr2⟩; try go_simp
        have HKT2 := Lib.hid hkt2; have HKH2 := Lib.hid (Bk.beside HKH1.out hgr2 HNH.out); have HKR2 := Lib.hid (Bk.beside HKR1.out hgr2 (show w.heap.size ≠ w.heap.size + 1 by omega))
        have HO2 := Lib.hid (World.ownsRow.kept HO1.out hgr2 (.inr (ej HO1.out HKT1.out (by decide))))
        have HB2 := Lib.hid (HB1.out.grown hgr2 HB1.out.size (fun k hk => by have := Option.some.inj hk; omega))
        refine hK _ _ ⟨HKH2.out.at_ 3 rfl, ?_⟩; clear hK K hkt2 hgr2
        generalize hq2 : aE r1 c1 = X2 at *
        obtain ⟨a2, r2, c2⟩ := X2
        clear hq1 hq2
        iterate 1 ((refine az J J _ (fun w' hI => by go_simp; rfl) (fun K hK => ?_); try go_simp; refine hK _ _ ?_; clear hK K))
        have HOn := Lib.hid (kD HO2.out ((Below.refl y2.heap.size y2).alloc (Nat.le_refl _) (.cells #[.string a1, .string a2] MT)))
        have HKHn := Lib.hid (HKH2.out.more (.cells #[.string a1, .string a2] MT)); have HKRn := Lib.hid (HKR2.out.more (.cells #[.string a1, .string a2] MT)); have HKTn := Lib.hid (HKT2.out.more (.cells #[.string a1, .string a2] MT))
        have HBn := Lib.hid (HB2.out.alloc HB2.out.size (.cells #[.string a1, .string a2] MT))
        have HSn := Lib.hid HB2.out.size
        refine bd J J J (fun K hK => ?_); go_simp
        refine hK _ _ ⟨HKHn.out.at_ 3 rfl, ?_⟩; clear hK K
        refine bd J J J (fun K hK => ?_)
        refine wp_append_own _ _ _ 34 rfl w.heap.size MT i0 (.agg #[.string ⟨#[]⟩, .string ⟨#[]⟩]) 2 32 Tryz.underlying34 HI.out HIZ.out HIZ1.out HIZ2.out rfl (by decide) v acc.length (eP acc) rfl HOn.out ⟨y2.heap.size, 0, none⟩ 1 1 [.string a1, .string a2] J J (vW _ _ _) (by intro u hu; simp at hu; rcases hu with rfl | rfl <;> rfl) (by have := HALN.out; unfold maxLen; omega) (by have := HALN.out; omega) (by have := HSn.out; simp; omega) ?_
        intro v' w' hown' hgrow _
        have HO3 := Lib.hid hown'
        have HNR2 := Lib.hid (ej HOn.out HKRn.out (by decide)); have HNT2 := Lib.hid (ej HOn.out HKTn.out (by decide)); have HNH2 := Lib.hid (ej HOn.out HKHn.out (by decide))
        have HKH3 := Lib.hid (Bk.apart HKHn.out hgrow HNH2.out); have HKR3 := Lib.hid (Bk.apart HKRn.out hgrow HNR2.out); have HKT3 := Lib.hid (Bk.apart HKTn.out hgrow HNT2.out)
        have HB3 := Lib.hid (HBn.out.grown hgrow HBn.out.size (fun g hg => (HOn.out.lt g hg).1))
        clear hown' hgrow
        refine hK _ _ ⟨HKH3.out.at_ 3 rfl, ?_⟩; clear hK K
        iterate 1 ((refine az J J _ (fun w' hI => by go_simp; rfl) (fun K hK => ?_); try go_simp; refine hK _ _ ?_; clear hK K))
        refine db ?_
        have hv3' : w'.cell? ⟨w2.heap.size, 3, none⟩ = some v := HKH3.out.at_ 3 rfl
        have hf' := HKH3.out.free
        obtain ⟨ao, cp, rfl⟩ : ∃ ao cp, v' = .slice ao (acc.length + 1) cp := by
          rcases HO3.out.2 with ⟨h, h0⟩ | ⟨g, cap, cur, h, _⟩
          · omega
          · exact ⟨_, _, h⟩
        refine iZ rfl (fun K hK => ?_); go_simp
        refine hK _ _ ?_; clear hK K
        have HT4 := Lib.hid (HKT3.out.aside (a := ⟨w2.heap.size, 3, none⟩) (Ne.symm HNH.out) (.slice ao (acc.length + 1) cp))
        have HR4 := Lib.hid (HKR3.out.aside (a := ⟨w2.heap.size, 3, none⟩) (Ne.symm HNR.out) (.slice ao (acc.length + 1) cp))
        have HH4 := Lib.hid (show Bk (w'.setCell ⟨w2.heap.size, 3, none⟩ (.slice ao (acc.length + 1) cp)) w2.heap.size HT #[.string svc, .string mth, .int .i64 0, (.slice ao (acc.length + 1) cp)] from HKH3.out.put 3 _)
        have HO4 := Lib.hid (iA HO3.out (ej HO3.out HKH3.out (by decide)) 3 (.slice ao (acc.length + 1) cp))
        have HB4 := Lib.hid (HB3.out.setCell (p := ⟨w2.heap.size, 3, none⟩) HHB.out (.slice ao (acc.length + 1) cp))
        have HK1 := Lib.hid (show k + 1 ≤ n by omega)
        have HAL2 := Lib.hid (show (acc ++ [(a1, a2)]).length = k + 1 by rw [List.length_append, HALN.out]; rfl)
        have HMS2 := Lib.hid (show ∀ m ∈ acc ++ [(a1, a2)], m.1.size < 4294967281 ∧ m.2.size < 4294967281 from fun m hm => by
          rcases List.mem_append.1 hm with h | h
          · exact HMS.out m h
          · simp at h; subst h; exact ⟨HT1s.out, HT2s.out⟩)
        have HO5 := Lib.hid (show (w'.setCell ⟨w2.heap.size, 3, none⟩ (.slice ao (acc.length + 1) cp)).ownsRow w.heap.size MT 2 (.slice ao (acc.length + 1) cp) (acc ++ [(a1, a2)]).length (eP (acc ++ [(a1, a2)])) by rw [nl, List.length_append]; exact HO4.out)
        have hwk : IntKind.u64.wrap ((k : Int) + 1) = (k : Int) + 1 := by rw [IntKind.wrap_u64]; omega
        clear hv3' hf' hv3 t0 t1
        go_wp2_with fail
        clear hwk
        go_roundw
        case rel => exact ⟨k + 1, r2, c2, acc ++ [(a1, a2)], (.slice ao (acc.length + 1) cp), by go_num, HK1.out, fun _ => hn16, HAL2.out, HS2.out, HMS2.out, HT4.out, HH4.out, HR4.out, HO5.out, HB4.out, HMN.out⟩
        case measure => simp [intOf]; omega
      · have hd := decide_eq_false (show ¬ (k : Int) < (n : Int) by omega)
        have HE := Lib.hid (show ew n s4 e5 [] = ⟨acc, s, 0⟩ by rw [HM.out, show n - k = 0 by omega]; rfl)
        have HRE := Lib.hid (show RR = iv s0 ⟨svc, mth, 0, []⟩ late ⟨acc, s, 0⟩ by rw [HR0.out, HE.out])
        have r0 : wr.cell? ⟨w.heap.size, 0, none⟩ = some (.string ⟨#[]⟩) := HKR.out.at_ 0 rfl
        have r1 : wr.cell? ⟨w.heap.size, 1, none⟩ = some (.string ⟨#[]⟩) := HKR.out.at_ 1 rfl
        have r2 : wr.cell? ⟨w.heap.size, 2, none⟩ = some (.int .i64 0) := HKR.out.at_ 2 rfl
        have r3 : wr.cell? ⟨w.heap.size, 3, none⟩ = some (.slice none 0 0) := HKR.out.at_ 3 rfl
        have rf := HKR.out.free
        by_cases hs0 : s.size = 0
        · obtain ⟨x1, x2⟩ := lM hs0
          by_cases hl : 1099511627776 < late
          · have hdl := decide_eq_true (show (1099511627776 : Int) < (late : Int) by omega)
            have HRR := Lib.hid (show RR = ⟨dD, 6⟩ by rw [HRE.out]; unfold iv; rw [if_neg (by simp), if_neg (by simpa using hs0), if_pos hl])
            clear hs0
            go_wp2_with fail
            have HKRz := Lib.hid (dt HKR.out rfl (.string ⟨#[]⟩) (.string ⟨#[]⟩) (.int .i64 0) (.slice none 0 0))
            have HBz := Lib.hid (cq HB.out (Nat.le_refl _) (.string ⟨#[]⟩) (.string ⟨#[]⟩) (.int .i64 0) (.slice none 0 0))
            refine bodyPost_ret (v := .tuple #[.agg dQ, .int .i64 6]) (bZ Tryz.results76 _ J J HKRz.out iz) rfl ⟨.slice none 0 0, by rw [HRR.out]; rfl, ?_, HBz.out⟩
            rw [HRR.out]
            exact MsIn.zero _
          · have hdl := decide_eq_false (show ¬ (1099511627776 : Int) < (late : Int) by omega)
            have hwl : IntKind.i64.wrap (late : Int) = late := IntWalk.i64_in _ (by omega)
            have HRF := Lib.hid (show RR = if bo ⟨svc, mth, late, acc⟩ ≠ 0 then ⟨dD, bo ⟨svc, mth, late, acc⟩⟩ else if dE ⟨svc, mth, late, acc⟩ ≠ s0.data.toList then ⟨dD, 5⟩ else ⟨⟨svc, mth, late, acc⟩, 0⟩ by
              rw [HRE.out]; unfold iv; rw [if_neg (by simp), if_neg (by simpa using hs0), if_neg hl])
            have h0 : wr.cell? ⟨w2.heap.size, 0, none⟩ = some (.string svc) := HKH.out.at_ 0 rfl
            have h1 : wr.cell? ⟨w2.heap.size, 1, none⟩ = some (.string mth) := HKH.out.at_ 1 rfl
            have h2 : wr.cell? ⟨w2.heap.size, 2, none⟩ = some (.int .i64 0) := HKH.out.at_ 2 rfl
            have hf := HKH.out.free
            have HNO := Lib.hid (ej HO.out HKH.out (by decide)); have HNO2 := Lib.hid (ej HO.out HKR.out (by decide))
            have HKH5 := Lib.hid (show Bk (wr.setCell ⟨w2.heap.size, 2, none⟩ (.int .i64 late)) w2.heap.size HT #[.string svc, .string mth, .int .i64 late, v] from HKH.out.put 2 _)
            have HKR5 := Lib.hid (HKR.out.aside (a := ⟨w2.heap.size, 2, none⟩) (Ne.symm HNR.out) (.int .i64 late))
            have HO5 := Lib.hid (iA HO.out HNO.out 2 (.int .i64 late))
            have HB5 := Lib.hid (HB.out.setCell (p := ⟨w2.heap.size, 2, none⟩) HHB.out (.int .i64 late))
            have HHC := Lib.hid (oR ⟨svc, mth, late, acc⟩ v (wr.setCell ⟨w2.heap.size, 2, none⟩ (.int .i64 late)) (HG.out.below HB5.out) (MsIn.own HO5.out) ⟨HZ1.out, HZ2.out, HMS.out⟩)
            clear hs0 hl
            by_cases hE0 : bo ⟨svc, mth, late, acc⟩ = 0
            · have HH2 := Lib.hid (show Calls Tryz.prog 44 #[.agg #[.string svc, .string mth, .int .i64 late, v]] (wr.setCell ⟨w2.heap.size, 2, none⟩ (.int .i64 late)) fun e w' => e = .returned (.tuple #[.string ⟨(dE ⟨svc, mth, late, acc⟩).toArray⟩, .int .i64 0]) ∧ Below (wr.setCell ⟨w2.heap.size, 2, none⟩ (.int .i64 late)).heap.size (wr.setCell ⟨w2.heap.size, 2, none⟩ (.int .i64 late)) w' by have := HHC.out; rw [ll hE0] at this; exact this)
              by_cases hq : dE ⟨svc, mth, late, acc⟩ = s0.data.toList
              · have HRR := Lib.hid (show RR = ⟨⟨svc, mth, late, acc⟩, 0⟩ by rw [HRF.out, if_neg (by simp [hE0]), if_neg (by simp [hq])])
                have hqb : (dE ⟨svc, mth, late, acc⟩ == s0.toList) = true := by rw [ByteArray.toList_eq, hq]; simp
                clear hq hE0
                generalize dE ⟨svc, mth, late, acc⟩ = LL at *
                go_wp2_with fail
                refine (HH2.out).mono ?_; rintro e w6 ⟨rfl, hb6⟩
                have HKR6 := Lib.hid (HKR5.out.keep hb6); have HKH6 := Lib.hid (HKH5.out.keep hb6); have HB6 := Lib.hid (HB5.out.trans (hb6.mono HB5.out.size)); have HO6 := Lib.hid (kD HO5.out hb6)
                clear hb6 r0 r1 r2 r3 rf h0 h1 h2 hf hv3
                have r0 : w6.cell? ⟨w.heap.size, 0, none⟩ = some (.string ⟨#[]⟩) := HKR6.out.at_ 0 rfl
                have r1 : w6.cell? ⟨w.heap.size, 1, none⟩ = some (.string ⟨#[]⟩) := HKR6.out.at_ 1 rfl
                have r2 : w6.cell? ⟨w.heap.size, 2, none⟩ = some (.int .i64 0) := HKR6.out.at_ 2 rfl
                have r3 : w6.cell? ⟨w.heap.size, 3, none⟩ = some (.slice none 0 0) := HKR6.out.at_ 3 rfl
                have rf := HKR6.out.free
                have h0 : w6.cell? ⟨w2.heap.size, 0, none⟩ = some (.string svc) := HKH6.out.at_ 0 rfl
                have h1 : w6.cell? ⟨w2.heap.size, 1, none⟩ = some (.string mth) := HKH6.out.at_ 1 rfl
                have h2 : w6.cell? ⟨w2.heap.size, 2, none⟩ = some (.int .i64 late) := HKH6.out.at_ 2 rfl
                have h3 : w6.cell? ⟨w2.heap.size, 3, none⟩ = some v := HKH6.out.at_ 3 rfl
                obtain ⟨ao, cp, rfl⟩ : ∃ ao cp, v = .slice ao acc.length cp := by
                  rcases HO6.out.2 with ⟨h, h0⟩ | ⟨g, cap, cur, h, _⟩
                  · exact ⟨none, 0, by rw [h, h0]⟩
                  · exact ⟨_, _, h⟩
                go_wp2_with fail
                have HKRz := Lib.hid (dt HKR6.out rfl (.string svc) (.string mth) (.int .i64 late) (.slice ao acc.length cp))
                have HBz := Lib.hid (cq HB6.out (Nat.le_refl _) (.string svc) (.string mth) (.int .i64 late) (.slice ao acc.length cp))
                have HOz := Lib.hid (tv HO6.out HNO2.out (.string svc) (.string mth) (.int .i64 late) (.slice ao acc.length cp))
                refine bodyPost_ret (v := .tuple #[.agg #[.string svc, .string mth, .int .i64 late, .slice ao acc.length cp], .int .i64 0]) (bZ Tryz.results76 _ J J HKRz.out iz) rfl ⟨.slice ao acc.length cp, by rw [HRR.out], ?_, HBz.out⟩
                rw [HRR.out]
                exact MsIn.own HOz.out
              · have hqb : (dE ⟨svc, mth, late, acc⟩ == s0.toList) = false := by rw [ByteArray.toList_eq]; simpa using hq
                have HRR := Lib.hid (show RR = ⟨dD, 5⟩ by rw [HRF.out, if_neg (by simp [hE0]), if_pos hq])
                clear hq hE0
                generalize dE ⟨svc, mth, late, acc⟩ = LL at *
                go_wp2_with fail
                refine (HH2.out).mono ?_; rintro e w6 ⟨rfl, hb6⟩
                have HKR6 := Lib.hid (HKR5.out.keep hb6); have HB6 := Lib.hid (HB5.out.trans (hb6.mono HB5.out.size))
                clear hb6 r0 r1 r2 r3 rf h0 h1 h2 hf hv3
                have r0 : w6.cell? ⟨w.heap.size, 0, none⟩ = some (.string ⟨#[]⟩) := HKR6.out.at_ 0 rfl
                have r1 : w6.cell? ⟨w.heap.size, 1, none⟩ = some (.string ⟨#[]⟩) := HKR6.out.at_ 1 rfl
                have r2 : w6.cell? ⟨w.heap.size, 2, none⟩ = some (.int .i64 0) := HKR6.out.at_ 2 rfl
                have r3 : w6.cell? ⟨w.heap.size, 3, none⟩ = some (.slice none 0 0) := HKR6.out.at_ 3 rfl
                have rf := HKR6.out.free
                go_wp2_with fail
                have HKRz := Lib.hid (dt HKR6.out rfl (.string ⟨#[]⟩) (.string ⟨#[]⟩) (.int .i64 0) (.slice none 0 0))
                have HBz := Lib.hid (cq HB6.out (Nat.le_refl _) (.string ⟨#[]⟩) (.string ⟨#[]⟩) (.int .i64 0) (.slice none 0 0))
                refine bodyPost_ret (v := .tuple #[.agg dQ, .int .i64 5]) (bZ Tryz.results76 _ J J HKRz.out iz) rfl ⟨.slice none 0 0, by rw [HRR.out]; rfl, ?_, HBz.out⟩
                rw [HRR.out]
                exact MsIn.zero _
            · have HH2 := Lib.hid (show Calls Tryz.prog 44 #[.agg #[.string svc, .string mth, .int .i64 late, v]] (wr.setCell ⟨w2.heap.size, 2, none⟩ (.int .i64 late)) fun e w' => e = .returned (.tuple #[.string ⟨#[]⟩, .int .i64 (bo ⟨svc, mth, late, acc⟩)]) ∧ Below (wr.setCell ⟨w2.heap.size, 2, none⟩ (.int .i64 late)).heap.size (wr.setCell ⟨w2.heap.size, 2, none⟩ (.int .i64 late)) w' by have := HHC.out; rw [mM hE0] at this; exact this)
              obtain ⟨u1, u2⟩ := aM hE0
              have HRR0 := Lib.hid (show RR = ⟨dD, bo ⟨svc, mth, late, acc⟩⟩ by rw [HRF.out, if_pos hE0])
              generalize bo ⟨svc, mth, late, acc⟩ = EE at *
              have HRR := Lib.hid (show RR = ⟨dD, EE⟩ by exact HRR0.out)
              clear hE0
              go_wp2_with fail
              refine (HH2.out).mono ?_; rintro e w6 ⟨rfl, hb6⟩
              have HKR6 := Lib.hid (HKR5.out.keep hb6); have HB6 := Lib.hid (HB5.out.trans (hb6.mono HB5.out.size))
              clear hb6 r0 r1 r2 r3 rf h0 h1 h2 hf hv3
              have r0 : w6.cell? ⟨w.heap.size, 0, none⟩ = some (.string ⟨#[]⟩) := HKR6.out.at_ 0 rfl
              have r1 : w6.cell? ⟨w.heap.size, 1, none⟩ = some (.string ⟨#[]⟩) := HKR6.out.at_ 1 rfl
              have r2 : w6.cell? ⟨w.heap.size, 2, none⟩ = some (.int .i64 0) := HKR6.out.at_ 2 rfl
              have r3 : w6.cell? ⟨w.heap.size, 3, none⟩ = some (.slice none 0 0) := HKR6.out.at_ 3 rfl
              have rf := HKR6.out.free
              go_wp2_with fail
              have HKRz := Lib.hid (dt HKR6.out rfl (.string ⟨#[]⟩) (.string ⟨#[]⟩) (.int .i64 0) (.slice none 0 0))
              have HBz := Lib.hid (cq HB6.out (Nat.le_refl _) (.string ⟨#[]⟩) (.string ⟨#[]⟩) (.int .i64 0) (.slice none 0 0))
              refine bodyPost_ret (v := .tuple #[.agg dQ, .int .i64 EE]) (bZ Tryz.results76 _ J J HKRz.out iz) rfl ⟨.slice none 0 0, by rw [HRR.out]; rfl, ?_, HBz.out⟩
              rw [HRR.out]
              exact MsIn.zero _
        · obtain ⟨x1, x2⟩ := kA hs0
          have HRR := Lib.hid (show RR = ⟨dD, 18⟩ by rw [HRE.out]; unfold iv; rw [if_neg (by simp), if_pos hs0])
          clear hs0
          go_wp2_with fail
          have HKRz := Lib.hid (dt HKR.out rfl (.string ⟨#[]⟩) (.string ⟨#[]⟩) (.int .i64 0) (.slice none 0 0))
          have HBz := Lib.hid (cq HB.out (Nat.le_refl _) (.string ⟨#[]⟩) (.string ⟨#[]⟩) (.int .i64 0) (.slice none 0 0))
          refine bodyPost_ret (v := .tuple #[.agg dQ, .int .i64 18]) (bZ Tryz.results76 _ J J HKRz.out iz) rfl ⟨.slice none 0 0, by rw [HRR.out]; rfl, ?_, HBz.out⟩
          rw [HRR.out]
          exact MsIn.zero _
    · obtain ⟨q1, q2⟩ := aM he
      have HE := Lib.hid (show RR = ⟨dD, e⟩ by rw [HR0.out, HM.out, jx _ _ he]; unfold iv; rw [if_pos he])
      by_cases hlt : k < n
      · have hd := decide_eq_true (show (k : Int) < (n : Int) by omega)
        clear he
        go_wp2_with fail
        have r0 : wr.cell? ⟨w.heap.size, 0, none⟩ = some (.string ⟨#[]⟩) := HKR.out.at_ 0 rfl
        have r1 : wr.cell? ⟨w.heap.size, 1, none⟩ = some (.string ⟨#[]⟩) := HKR.out.at_ 1 rfl
        have r2 : wr.cell? ⟨w.heap.size, 2, none⟩ = some (.int .i64 0) := HKR.out.at_ 2 rfl
        have r3 : wr.cell? ⟨w.heap.size, 3, none⟩ = some (.slice none 0 0) := HKR.out.at_ 3 rfl
        have rf := HKR.out.free
        refine cc (fun W' => W'.cell? ⟨w.heap.size + 1, 1, none⟩ = some (.int .i64 e)) Dk (by kernel_rfl) (by kernel_rfl) t1 ?_
        iterate 5 ((refine az J J _ (fun w' hI => by go_simp; rfl) (fun K hK => ?_); try go_simp; refine hK _ _ ?_; clear hK K))
        refine bd J J J (fun K hK => ?_); go_simp
        have HKRz := Lib.hid ((dt HKR.out rfl (.string ⟨#[]⟩) (.string ⟨#[]⟩) (.int .i64 0) (.slice none 0 0)).draw)
        have HBz := Lib.hid ((cq HB.out (Nat.le_refl _) (.string ⟨#[]⟩) (.string ⟨#[]⟩) (.int .i64 0) (.slice none 0 0)).drew)
        have HTz := Lib.hid ((jy HKT.out (show w.heap.size + 1 ≠ w.heap.size by omega) (.string ⟨#[]⟩) (.string ⟨#[]⟩) (.int .i64 0) (.slice none 0 0)).draw)
        refine hK _ _ ⟨HTz.out.at_ 1 rfl, ?_⟩; clear hK K
        iterate 1 ((refine az J J _ (fun w' hI => by go_simp; rfl) (fun K hK => ?_); try go_simp; refine hK _ _ ?_; clear hK K))
        refine db ?_
        go_wp2_with fail
        refine bodyPost_ret (v := .tuple #[.agg dQ, .int .i64 e]) (bZ Tryz.results76 _ J J HKRz.out iz) rfl ⟨.slice none 0 0, by rw [HE.out]; rfl, ?_, HBz.out⟩
        rw [HE.out]
        exact MsIn.zero _
      · have hd := decide_eq_false (show ¬ (k : Int) < (n : Int) by omega)
        clear he
        go_wp2_with fail
        have r0 : wr.cell? ⟨w.heap.size, 0, none⟩ = some (.string ⟨#[]⟩) := HKR.out.at_ 0 rfl
        have r1 : wr.cell? ⟨w.heap.size, 1, none⟩ = some (.string ⟨#[]⟩) := HKR.out.at_ 1 rfl
        have r2 : wr.cell? ⟨w.heap.size, 2, none⟩ = some (.int .i64 0) := HKR.out.at_ 2 rfl
        have r3 : wr.cell? ⟨w.heap.size, 3, none⟩ = some (.slice none 0 0) := HKR.out.at_ 3 rfl
        have rf := HKR.out.free
        refine cc (fun W' => W'.cell? ⟨w.heap.size + 1, 1, none⟩ = some (.int .i64 e)) Dk (by kernel_rfl) (by kernel_rfl) t1 ?_
        iterate 5 ((refine az J J _ (fun w' hI => by go_simp; rfl) (fun K hK => ?_); try go_simp; refine hK _ _ ?_; clear hK K))
        refine bd J J J (fun K hK => ?_); go_simp
        have HKRz := Lib.hid ((dt HKR.out rfl (.string ⟨#[]⟩) (.string ⟨#[]⟩) (.int .i64 0) (.slice none 0 0)).draw)
        have HBz := Lib.hid ((cq HB.out (Nat.le_refl _) (.string ⟨#[]⟩) (.string ⟨#[]⟩) (.int .i64 0) (.slice none 0 0)).drew)
        have HTz := Lib.hid ((jy HKT.out (show w.heap.size + 1 ≠ w.heap.size by omega) (.string ⟨#[]⟩) (.string ⟨#[]⟩) (.int .i64 0) (.slice none 0 0)).draw)
        refine hK _ _ ⟨HTz.out.at_ 1 rfl, ?_⟩; clear hK K
        iterate 1 ((refine az J J _ (fun w' hI => by go_simp; rfl) (fun K hK => ?_); try go_simp; refine hK _ _ ?_; clear hK K))
        refine db ?_
        go_wp2_with fail
        refine bodyPost_ret (v := .tuple #[.agg dQ, .int .i64 e]) (bZ Tryz.results76 _ J J HKRz.out iz) rfl ⟨.slice none 0 0, by rw [HE.out]; rfl, ?_, HBz.out⟩
        rw [HE.out]
        exact MsIn.zero _
end Go.Proofs.YthiocbcokfondaaGreatDoor
namespace Go.Proofs.YthiocbcokfondaaGreatDoor
open Go.RowKit
theorem B8 : AggT Tryz.prog 31 2 := ⟨by kernel_rfl, by kernel_rfl⟩
theorem DO (f : FuncId) (s : ByteArray) (u n : Nat) (c : Int) (h : cM s = (u, n, c)) (hc : ∀ w, Calls Tryz.prog f #[.string s] w fun e w' => e = .returned (.tuple #[.int .u64 ((cM s).1 : Nat), .int .i64 ((cM s).2.1 : Nat), .int .i64 (cM s).2.2]) ∧ w = w') (w : World) :
    Calls Tryz.prog f #[.string s] w fun e w' => e = .returned (.tuple #[.int .u64 u, .int .i64 n, .int .i64 c]) ∧ w = w' := by
  have := hc w; rw [h] at this; exact this
set_option maxHeartbeats 1000000 in
theorem lm (s : ByteArray) (w : World) (hs : s.size ≤ 4611686018427387900) :
    Calls Tryz.prog 77 #[.string s] w fun e w' => e = .returned (.tuple #[.agg #[.int .i64 (bu s).code, .string (bu s).text], .int .i64 (bu s).err]) ∧ Below w.heap.size w w' := by
  obtain ⟨u, n, c, hP⟩ : ∃ u n c, cM s = (u, n, c) := ⟨_, _, _, rfl⟩
  have HT := Lib.hid (DO _ s u n c hP fun w => sW s w (by omega))
  by_cases hc : c = 0
  · subst hc
    have HPP := Lib.hid (show bu s = gF s u n by unfold bu; rw [hP]; rfl)
    have hu64 := sX hP
    obtain ⟨hn0, hn10, hns⟩ := oB hP
    have hl : s.data.toList.length = s.size := by rw [Array.length_toList]; rfl
    rw [hl] at hns
    have HL := Lib.hid (fun w => A1 u w hu64)
    have HUN := Lib.hid (show ∀ x, gF s u n = x → bu s = x from fun x e => HPP.out.trans e)
    clear hP hl HPP
    by_cases h1 : n = (bB u).length
    · have hq := (jS (show (n : Int) = ((bB u).length : Int) by omega)).2
      by_cases h2 : 13 < u
      · have HR := Lib.hid (HUN.out ⟨0, ⟨#[]⟩, 6⟩ (by unfold gF; rw [if_neg (by omega), if_pos h2]))
        clear h1 hu64
        go_enter Tryz.func77, Tryz.ntmps77
        go_wp2_with fail
        refine (HT.out _).mono ?_; rintro e w1 ⟨rfl, rfl⟩
        go_wp2_with fail
        refine (HL.out _).mono ?_; rintro e w2 ⟨rfl, rfl⟩
        go_wp2_with fail
        exact bodyPost_ret (v := .tuple #[.agg #[.int .i64 0, .string ⟨#[]⟩], .int .i64 6]) (by simp [results, Tryz.results77, go_sem]) rfl ⟨by rw [HR.out], (Below.refl _ _).alloc (Nat.le_refl _) _⟩
      · have hd : (s.extract n s.size).size ≤ 4611686018427387900 := by rw [ByteArray.size_extract]; omega
        by_cases h3 : bU u (s.extract n s.size) = 0
        · have HR := Lib.hid (HUN.out ⟨u, s.extract n s.size, 0⟩ (by unfold gF; rw [if_neg (by omega), if_neg h2, if_pos h3]))
          have HC := Lib.hid (yL _ (u : Int) 0 _ h3 fun w => kB _ _ w hd)
          clear h1 h3 hu64 hd
          go_enter Tryz.func77, Tryz.ntmps77
          go_wp2_with fail
          refine (HT.out _).mono ?_; rintro e w1 ⟨rfl, rfl⟩
          go_wp2_with fail
          refine (HL.out _).mono ?_; rintro e w2 ⟨rfl, rfl⟩
          go_wp2_with fail
          refine (HC.out _).mono ?_; rintro e w3 ⟨rfl, hb3⟩
          have K0 := ((Bk.new w 31 #[.int .i64 0, .string ⟨#[]⟩]).more _).keep hb3
          have K1 := (Bk.new (w.alloc (.cells #[.int .i64 0, .string ⟨#[]⟩] 31)) 31 #[.int .i64 (u : Int), .string (s.extract n s.size)]).keep hb3
          have HB := Lib.hid (show Below w.heap.size w w3 from (((Below.refl _ _).alloc (Nat.le_refl _) _).alloc (by simp) _).trans (hb3.mono (by simp; omega)))
          have c0 := K0.at_ 0 rfl
          have c1 := K0.at_ 1 rfl
          have c2 := K1.at_ 0 rfl
          have c3 := K1.at_ 1 rfl
          rw [show (w.alloc (.cells #[.int .i64 0, .string ⟨#[]⟩] 31)).heap.size = w.heap.size + 1 by simp] at c2 c3
          have f0 := K0.free
          have HK := Lib.hid K0
          clear hb3 K0 K1
          go_wp2_with fail
          exact bodyPost_ret (bZ Tryz.results77 _ J J ((HK.out.put 0 _).put 1 _) B8) rfl ⟨by rw [HR.out]; rfl, (HB.out.setCell (Nat.le_refl _) _).setCell (Nat.le_refl _) _⟩
        · obtain ⟨d, hdd⟩ : ∃ d, bU u (s.extract n s.size) = d := ⟨_, rfl⟩
          have HR := Lib.hid (HUN.out ⟨0, ⟨#[]⟩, d⟩ (by unfold gF; rw [if_neg (by omega), if_neg h2, if_neg h3, hdd]))
          have HC := Lib.hid (yL _ (u : Int) d _ hdd fun w => kB _ _ w hd)
          obtain ⟨hq1, hq2⟩ := aM (show d ≠ 0 by omega)
          clear h1 h3 hu64 hd hdd
          go_enter Tryz.func77, Tryz.ntmps77
          go_wp2_with fail
          refine (HT.out _).mono ?_; rintro e w1 ⟨rfl, rfl⟩
          go_wp2_with fail
          refine (HL.out _).mono ?_; rintro e w2 ⟨rfl, rfl⟩
          go_wp2_with fail
          refine (HC.out _).mono ?_; rintro e w3 ⟨rfl, hb3⟩
          have K0 := ((Bk.new w 31 #[.int .i64 0, .string ⟨#[]⟩]).more _).keep hb3
          have K1 := (Bk.new (w.alloc (.cells #[.int .i64 0, .string ⟨#[]⟩] 31)) 31 #[.int .i64 (u : Int), .string (s.extract n s.size)]).keep hb3
          have HB := Lib.hid (show Below w.heap.size w w3 from (((Below.refl _ _).alloc (Nat.le_refl _) _).alloc (by simp) _).trans (hb3.mono (by simp; omega)))
          have c0 := K0.at_ 0 rfl
          have c1 := K0.at_ 1 rfl
          have c2 := K1.at_ 0 rfl
          have c3 := K1.at_ 1 rfl
          rw [show (w.alloc (.cells #[.int .i64 0, .string ⟨#[]⟩] 31)).heap.size = w.heap.size + 1 by simp] at c2 c3
          have f0 := K0.free
          have HK := Lib.hid K0
          clear hb3 K0 K1
          go_wp2_with fail
          exact bodyPost_ret (bZ Tryz.results77 _ J J ((HK.out.put 0 _).put 1 _) B8) rfl ⟨by rw [HR.out]; rfl, (HB.out.setCell (Nat.le_refl _) _).setCell (Nat.le_refl _) _⟩
    · have hq := (aM (show (n : Int) ≠ ((bB u).length : Int) by omega)).2
      have HR := Lib.hid (HUN.out ⟨0, ⟨#[]⟩, 5⟩ (by unfold gF; rw [if_pos h1]))
      clear h1 hu64
      go_enter Tryz.func77, Tryz.ntmps77
      go_wp2_with fail
      refine (HT.out _).mono ?_; rintro e w1 ⟨rfl, rfl⟩
      go_wp2_with fail
      refine (HL.out _).mono ?_; rintro e w2 ⟨rfl, rfl⟩
      go_wp2_with fail
      exact bodyPost_ret (v := .tuple #[.agg #[.int .i64 0, .string ⟨#[]⟩], .int .i64 5]) (by simp [results, Tryz.results77, go_sem]) rfl ⟨by rw [HR.out], (Below.refl _ _).alloc (Nat.le_refl _) _⟩
  · have HR := Lib.hid (show bu s = ⟨0, ⟨#[]⟩, c⟩ by unfold bu; rw [hP, if_neg hc])
    obtain ⟨hq1, hq2⟩ := aM hc
    clear hP hc
    go_enter Tryz.func77, Tryz.ntmps77
    go_wp2_with fail
    refine (HT.out _).mono ?_; rintro e w1 ⟨rfl, rfl⟩
    go_wp2_with fail
    exact bodyPost_ret (v := .tuple #[.agg #[.int .i64 0, .string ⟨#[]⟩], .int .i64 c]) (by simp [results, Tryz.results77, go_sem]) rfl ⟨by rw [HR.out], (Below.refl _ _).alloc (Nat.le_refl _) _⟩
end Go.Proofs.YthiocbcokfondaaGreatDoor
namespace Go.Proofs.YthiocbcokfondaaGreatDoor
open Go.RowKit
end Go.Proofs.YthiocbcokfondaaGreatDoor
namespace Go.Proofs.YthiocbcokfondaaGreatDoor
open Go.RowKit
end Go.Proofs.YthiocbcokfondaaGreatDoor
namespace Go.Proofs.YthiocbcokfondaaGreatDoor
open Go.RowKit
abbrev cA (f : aY) : Array Value := #[.int .i64 f.kind, .int .i64 f.strm, .int .i64 f.num, .string f.data]
abbrev FT : TypeId := 65
theorem rI (k s n : Int) (d : ByteArray) (w : World) :
    Calls Tryz.prog 73 #[.agg #[.int .i64 k, .int .i64 s, .int .i64 n, .string d]] w fun e w' => e = .returned (.bool (ft k s)) ∧ Below w.heap.size w w' := by
  go_enter Tryz.func73, Tryz.ntmps73
  go_wp2
  all_goals
    go_ret
    refine ⟨aP ?_, (Below.refl _ _).alloc (Nat.le_refl _) _⟩
    unfold ft
    rw [Bool.eq_iff_iff]
    (repeat' split) <;> simp_all <;> omega
theorem uT (k s n : Int) (d : ByteArray) (w : World) :
    Calls Tryz.prog 75 #[.agg #[.int .i64 k, .int .i64 s, .int .i64 n, .string d]] w fun e w' => e = .returned (.bool (gX k d)) ∧ Below w.heap.size w w' := by
  have hz : (d.toList.isEmpty) = decide (d.size = 0) := by
    by_cases h : d.size = 0
    · rw [(lM h).1, decide_eq_true h]
    · rw [(kA h).1, decide_eq_false h]
  have hz2 : (d.toList == []) = decide (d.size = 0) := by rw [← hz]; cases d.toList <;> rfl
  go_enter Tryz.func75, Tryz.ntmps75
  go_wp2
  all_goals
    go_ret
    refine ⟨aP ?_, (Below.refl _ _).alloc (Nat.le_refl _) _⟩
    unfold gX
    simp_all
theorem xk (n : Int) (w : World) :
    Calls Tryz.prog 140 #[.int .i64 n] w fun e w' => e = .returned (.bool (decide (1 ≤ n ∧ n ≤ 4))) ∧ w = w' := by
  have HC := Lib.hid (fun w => counts n w)
  have h2 : (c2 n != 0) = decide (1 ≤ n ∧ n ≤ 4) := by
    unfold c2 rA Eo
    rw [Bool.eq_iff_iff]
    (repeat' split) <;> simp_all <;> omega
  have H2 := Lib.hid h2; clear h2
  generalize c1 n = x1 at *
  generalize c2 n = x2 at *
  generalize c3 n = x3 at *
  generalize c4 n = x4 at *
  go_enter Tryz.func140, Tryz.ntmps140
  go_wp2_with fail
  refine (HC.out _).mono ?_; rintro e w1 ⟨rfl, rfl⟩
  go_wp2_with fail
  go_ret
  exact ⟨aP (by rw [← H2.out]), rfl⟩
theorem rJ (k s n : Int) (d : ByteArray) (w : World) :
    Calls Tryz.prog 74 #[.agg #[.int .i64 k, .int .i64 s, .int .i64 n, .string d]] w fun e w' => e = .returned (.bool (gG k n)) ∧ Below w.heap.size w w' := by
  by_cases h1 : k = 1
  · subst h1
    have HS := Lib.hid (fun w => xk n w)
    go_enter Tryz.func74, Tryz.ntmps74
    go_wp2_with fail
    refine (HS.out _).mono ?_; rintro e w1 ⟨rfl, rfl⟩
    go_wp2_with fail
    go_ret
    exact ⟨aP (by unfold gG; rw [if_pos rfl]; simp), (Below.refl _ _).alloc (Nat.le_refl _) _⟩
  · have q1 := (aM h1).1
    go_enter Tryz.func74, Tryz.ntmps74
    go_wp2
    all_goals
      go_ret
      refine ⟨aP ?_, (Below.refl _ _).alloc (Nat.le_refl _) _⟩
      unfold gG
      rw [Bool.eq_iff_iff]
      (repeat' split) <;> simp_all <;> omega
end Go.Proofs.YthiocbcokfondaaGreatDoor
namespace Go.Proofs.YthiocbcokfondaaGreatDoor
open Go.RowKit
theorem gi {f : aY} (h : f.kind < 1 ∨ 9 < f.kind ∨ ft f.kind f.strm = false ∨ gG f.kind f.num = false ∨ gX f.kind f.data = false) : aR f = 1 := by unfold aR; rw [if_pos h]
theorem qC {f : aY} (h : ¬ (f.kind < 1 ∨ 9 < f.kind ∨ ft f.kind f.strm = false ∨ gG f.kind f.num = false ∨ gX f.kind f.data = false)) (h2 : 16384 < f.data.size ∨ 2147483647 < f.strm) : aR f = 3 := by unfold aR; rw [if_neg h, if_pos h2]
theorem xl {f : aY} (h : ¬ (f.kind < 1 ∨ 9 < f.kind ∨ ft f.kind f.strm = false ∨ gG f.kind f.num = false ∨ gX f.kind f.data = false)) (h2 : ¬ (16384 < f.data.size ∨ 2147483647 < f.strm)) : aR f = if f.kind = 1 then (cP f.data).err else if f.kind = 4 then (bu f.data).err else 0 := by unfold aR; rw [if_neg h, if_neg h2]
theorem bp {n : Nat} {w w1 w2 : World} (h : Below n w w1) (hn : n ≤ w.heap.size) (h2 : Below w1.heap.size w1 w2) : Below n w w2 := h.trans (h2.mono (Nat.le_trans hn h.size))
theorem eK (w : World) (o : Obj) : Below w.heap.size w (w.alloc o) := (Below.refl _ _).alloc (Nat.le_refl _) _
theorem bF {w w' : World} {f : aY} (h : Below (w.heap.size + 1) (w.alloc (Obj.cells (cA f) FT)) w') :
    w'.cell? ⟨w.heap.size, 0, none⟩ = some (.int .i64 f.kind) ∧ w'.cell? ⟨w.heap.size, 1, none⟩ = some (.int .i64 f.strm) ∧ w'.cell? ⟨w.heap.size, 2, none⟩ = some (.int .i64 f.num) ∧ w'.cell? ⟨w.heap.size, 3, none⟩ = some (.string f.data) := by
  have hB : Bk w' w.heap.size FT (cA f) := (h.block _ (Nat.lt_succ_self _)).trans (Bk.new w FT (cA f))
  exact ⟨hB.at_ 0 rfl, hB.at_ 1 rfl, hB.at_ 2 rfl, hB.at_ 3 rfl⟩
theorem bS {w w' : World} {o : Obj} (h : Below (w.heap.size + 1) (w.alloc o) w') : Below w.heap.size w w' := (eK w o).trans (h.mono (Nat.le_succ _))
set_option maxHeartbeats 1600000 in
theorem lp (f : aY) (w : World) (hlen : MLen w) (hs : f.data.size < 4294967281) :
    Calls Tryz.prog 30 #[.agg (cA f)] w fun e w' => e = .returned (.int .i64 (aR f)) ∧ Below w.heap.size w w' := by
  obtain ⟨k, s, n, d⟩ := f
  have HG := Lib.hid hlen; clear hlen
  have hs : d.size < 4294967281 := hs
  have HS := Lib.hid (fun w => rI k s n d w)
  have HN := Lib.hid (fun w => rJ k s n d w)
  have HF := Lib.hid (fun w => uT k s n d w)
  have HH := Lib.hid (fun w hg => rH d w hg hs)
  have HU := Lib.hid (fun w => lm d w (by omega))
  by_cases h1 : k < 1
  · have HR := Lib.hid (gi (f := ⟨k, s, n, d⟩) (.inl h1))
    have HB0 := Lib.hid (eK w (Obj.cells (cA ⟨k, s, n, d⟩) FT)); have KB0 := Lib.hid (Below.refl (w.heap.size + 1) (w.alloc (Obj.cells (cA ⟨k, s, n, d⟩) FT))); have hsz : w.heap.size + 1 ≤ (w.alloc (Obj.cells (cA ⟨k, s, n, d⟩) FT)).heap.size := by simp
    go_enter Tryz.func30, Tryz.ntmps30
    go_wp2_with fail
    go_ret
    exact ⟨by (rw [HR.out]; try rfl), HB0.out⟩
  by_cases h2 : 9 < k
  · have HR := Lib.hid (gi (f := ⟨k, s, n, d⟩) (.inr (.inl h2)))
    have HB0 := Lib.hid (eK w (Obj.cells (cA ⟨k, s, n, d⟩) FT)); have KB0 := Lib.hid (Below.refl (w.heap.size + 1) (w.alloc (Obj.cells (cA ⟨k, s, n, d⟩) FT))); have hsz : w.heap.size + 1 ≤ (w.alloc (Obj.cells (cA ⟨k, s, n, d⟩) FT)).heap.size := by simp
    go_enter Tryz.func30, Tryz.ntmps30
    go_wp2_with fail
    go_ret
    exact ⟨by (rw [HR.out]; try rfl), HB0.out⟩
  by_cases h3 : ft k s = false
  · have HR := Lib.hid (gi (f := ⟨k, s, n, d⟩) (.inr (.inr (.inl h3))))
    have HB0 := Lib.hid (eK w (Obj.cells (cA ⟨k, s, n, d⟩) FT)); have KB0 := Lib.hid (Below.refl (w.heap.size + 1) (w.alloc (Obj.cells (cA ⟨k, s, n, d⟩) FT))); have hsz : w.heap.size + 1 ≤ (w.alloc (Obj.cells (cA ⟨k, s, n, d⟩) FT)).heap.size := by simp
    rw [h3] at HS
    clear h3
    go_enter Tryz.func30, Tryz.ntmps30
    go_wp2_with fail
    refine (HS.out _).mono ?_; rintro e w1 ⟨rfl, hb1⟩
    have KB1 := Lib.hid (bp KB0.out hsz hb1); have HB1 := Lib.hid (bS KB1.out); obtain ⟨c10, c11, c12, c13⟩ := bF (f := ⟨k, s, n, d⟩) KB1.out
    go_wp2_with fail
    go_ret
    exact ⟨by (rw [HR.out]; try rfl), HB1.out⟩
  have h3t : ft k s = true := by cases h : ft k s <;> simp_all
  rw [h3t] at HS
  by_cases h4 : gG k n = false
  · have HR := Lib.hid (gi (f := ⟨k, s, n, d⟩) (.inr (.inr (.inr (.inl h4)))))
    have HB0 := Lib.hid (eK w (Obj.cells (cA ⟨k, s, n, d⟩) FT)); have KB0 := Lib.hid (Below.refl (w.heap.size + 1) (w.alloc (Obj.cells (cA ⟨k, s, n, d⟩) FT))); have hsz : w.heap.size + 1 ≤ (w.alloc (Obj.cells (cA ⟨k, s, n, d⟩) FT)).heap.size := by simp
    rw [h4] at HN
    clear h4
    go_enter Tryz.func30, Tryz.ntmps30
    go_wp2_with fail
    refine (HS.out _).mono ?_; rintro e w1 ⟨rfl, hb1⟩
    have KB1 := Lib.hid (bp KB0.out hsz hb1); have HB1 := Lib.hid (bS KB1.out); obtain ⟨c10, c11, c12, c13⟩ := bF (f := ⟨k, s, n, d⟩) KB1.out
    go_wp2_with fail
    refine (HN.out _).mono ?_; rintro e w2 ⟨rfl, hb2⟩
    have KB2 := Lib.hid (bp KB1.out hsz hb2); have HB2 := Lib.hid (bS KB2.out); obtain ⟨c20, c21, c22, c23⟩ := bF (f := ⟨k, s, n, d⟩) KB2.out
    go_wp2_with fail
    go_ret
    exact ⟨by (rw [HR.out]; try rfl), HB2.out⟩
  have h4t : gG k n = true := by cases h : gG k n <;> simp_all
  rw [h4t] at HN
  by_cases h5 : gX k d = false
  · have HR := Lib.hid (gi (f := ⟨k, s, n, d⟩) (.inr (.inr (.inr (.inr h5)))))
    have HB0 := Lib.hid (eK w (Obj.cells (cA ⟨k, s, n, d⟩) FT)); have KB0 := Lib.hid (Below.refl (w.heap.size + 1) (w.alloc (Obj.cells (cA ⟨k, s, n, d⟩) FT))); have hsz : w.heap.size + 1 ≤ (w.alloc (Obj.cells (cA ⟨k, s, n, d⟩) FT)).heap.size := by simp
    rw [h5] at HF
    clear h3 h3t h4 h4t h5
    go_enter Tryz.func30, Tryz.ntmps30
    go_wp2_with fail
    refine (HS.out _).mono ?_; rintro e w1 ⟨rfl, hb1⟩
    have KB1 := Lib.hid (bp KB0.out hsz hb1); have HB1 := Lib.hid (bS KB1.out); obtain ⟨c10, c11, c12, c13⟩ := bF (f := ⟨k, s, n, d⟩) KB1.out
    go_wp2_with fail
    refine (HN.out _).mono ?_; rintro e w2 ⟨rfl, hb2⟩
    have KB2 := Lib.hid (bp KB1.out hsz hb2); have HB2 := Lib.hid (bS KB2.out); obtain ⟨c20, c21, c22, c23⟩ := bF (f := ⟨k, s, n, d⟩) KB2.out
    go_wp2_with fail
    refine (HF.out _).mono ?_; rintro e w3 ⟨rfl, hb3⟩
    have KB3 := Lib.hid (bp KB2.out hsz hb3); have HB3 := Lib.hid (bS KB3.out); obtain ⟨c30, c31, c32, c33⟩ := bF (f := ⟨k, s, n, d⟩) KB3.out
    go_wp2_with fail
    go_ret
    exact ⟨by (rw [HR.out]; try rfl), HB3.out⟩
  have h5t : gX k d = true := by cases h : gX k d <;> simp_all
  rw [h5t] at HF
  have hE : ¬ (k < 1 ∨ 9 < k ∨ ft k s = false ∨ gG k n = false ∨ gX k d = false) := by simp_all
  by_cases h6 : 16384 < d.size
  · have HR := Lib.hid (qC (f := ⟨k, s, n, d⟩) hE (.inl h6))
    have HB0 := Lib.hid (eK w (Obj.cells (cA ⟨k, s, n, d⟩) FT)); have KB0 := Lib.hid (Below.refl (w.heap.size + 1) (w.alloc (Obj.cells (cA ⟨k, s, n, d⟩) FT))); have hsz : w.heap.size + 1 ≤ (w.alloc (Obj.cells (cA ⟨k, s, n, d⟩) FT)).heap.size := by simp
    clear h3 h3t h4 h4t h5 h5t hE
    go_enter Tryz.func30, Tryz.ntmps30
    go_wp2_with fail
    refine (HS.out _).mono ?_; rintro e w1 ⟨rfl, hb1⟩
    have KB1 := Lib.hid (bp KB0.out hsz hb1); have HB1 := Lib.hid (bS KB1.out); obtain ⟨c10, c11, c12, c13⟩ := bF (f := ⟨k, s, n, d⟩) KB1.out
    go_wp2_with fail
    refine (HN.out _).mono ?_; rintro e w2 ⟨rfl, hb2⟩
    have KB2 := Lib.hid (bp KB1.out hsz hb2); have HB2 := Lib.hid (bS KB2.out); obtain ⟨c20, c21, c22, c23⟩ := bF (f := ⟨k, s, n, d⟩) KB2.out
    go_wp2_with fail
    refine (HF.out _).mono ?_; rintro e w3 ⟨rfl, hb3⟩
    have KB3 := Lib.hid (bp KB2.out hsz hb3); have HB3 := Lib.hid (bS KB3.out); obtain ⟨c30, c31, c32, c33⟩ := bF (f := ⟨k, s, n, d⟩) KB3.out
    go_wp2_with fail
    go_ret
    exact ⟨by (rw [HR.out]; try rfl), HB3.out⟩
  by_cases h7 : 2147483647 < s
  · have HR := Lib.hid (qC (f := ⟨k, s, n, d⟩) hE (.inr h7))
    have HB0 := Lib.hid (eK w (Obj.cells (cA ⟨k, s, n, d⟩) FT)); have KB0 := Lib.hid (Below.refl (w.heap.size + 1) (w.alloc (Obj.cells (cA ⟨k, s, n, d⟩) FT))); have hsz : w.heap.size + 1 ≤ (w.alloc (Obj.cells (cA ⟨k, s, n, d⟩) FT)).heap.size := by simp
    clear h3 h3t h4 h4t h5 h5t hE
    go_enter Tryz.func30, Tryz.ntmps30
    go_wp2_with fail
    refine (HS.out _).mono ?_; rintro e w1 ⟨rfl, hb1⟩
    have KB1 := Lib.hid (bp KB0.out hsz hb1); have HB1 := Lib.hid (bS KB1.out); obtain ⟨c10, c11, c12, c13⟩ := bF (f := ⟨k, s, n, d⟩) KB1.out
    go_wp2_with fail
    refine (HN.out _).mono ?_; rintro e w2 ⟨rfl, hb2⟩
    have KB2 := Lib.hid (bp KB1.out hsz hb2); have HB2 := Lib.hid (bS KB2.out); obtain ⟨c20, c21, c22, c23⟩ := bF (f := ⟨k, s, n, d⟩) KB2.out
    go_wp2_with fail
    refine (HF.out _).mono ?_; rintro e w3 ⟨rfl, hb3⟩
    have KB3 := Lib.hid (bp KB2.out hsz hb3); have HB3 := Lib.hid (bS KB3.out); obtain ⟨c30, c31, c32, c33⟩ := bF (f := ⟨k, s, n, d⟩) KB3.out
    go_wp2_with fail
    go_ret
    exact ⟨by (rw [HR.out]; try rfl), HB3.out⟩
  have hE2 : ¬ (16384 < d.size ∨ 2147483647 < s) := by omega
  have HE := Lib.hid (xl (f := ⟨k, s, n, d⟩) hE hE2)
  clear h3 h3t h4 h4t h5 h5t hE hE2
  have HB0 := Lib.hid (eK w (Obj.cells (cA ⟨k, s, n, d⟩) FT)); have KB0 := Lib.hid (Below.refl (w.heap.size + 1) (w.alloc (Obj.cells (cA ⟨k, s, n, d⟩) FT))); have hsz : w.heap.size + 1 ≤ (w.alloc (Obj.cells (cA ⟨k, s, n, d⟩) FT)).heap.size := by simp
  by_cases h8 : k = 1
  · subst h8
    have HR := Lib.hid (HE.out.trans (if_pos rfl))
    go_enter Tryz.func30, Tryz.ntmps30
    go_wp2_with fail
    refine (HS.out _).mono ?_; rintro e w1 ⟨rfl, hb1⟩
    have KB1 := Lib.hid (bp KB0.out hsz hb1); have HB1 := Lib.hid (bS KB1.out); obtain ⟨c10, c11, c12, c13⟩ := bF (f := ⟨1, s, n, d⟩) KB1.out
    go_wp2_with fail
    refine (HN.out _).mono ?_; rintro e w2 ⟨rfl, hb2⟩
    have KB2 := Lib.hid (bp KB1.out hsz hb2); have HB2 := Lib.hid (bS KB2.out); obtain ⟨c20, c21, c22, c23⟩ := bF (f := ⟨1, s, n, d⟩) KB2.out
    go_wp2_with fail
    refine (HF.out _).mono ?_; rintro e w3 ⟨rfl, hb3⟩
    have KB3 := Lib.hid (bp KB2.out hsz hb3); have HB3 := Lib.hid (bS KB3.out); obtain ⟨c30, c31, c32, c33⟩ := bF (f := ⟨1, s, n, d⟩) KB3.out
    go_wp2_with fail
    refine (HH.out _ (HG.out.below HB3.out)).mono ?_; rintro e w4 ⟨v, rfl, hmi, hb4⟩
    have KB4 := Lib.hid (bp KB3.out hsz hb4); have HB4 := Lib.hid (bS KB4.out)
    clear hmi
    go_wp2_with fail
    go_ret
    exact ⟨by (rw [HR.out]; try rfl), HB4.out⟩
  by_cases h9 : k = 4
  · subst h9
    have HR := Lib.hid (HE.out.trans ((if_neg (by simp)).trans (if_pos rfl)))
    go_enter Tryz.func30, Tryz.ntmps30
    go_wp2_with fail
    refine (HS.out _).mono ?_; rintro e w1 ⟨rfl, hb1⟩
    have KB1 := Lib.hid (bp KB0.out hsz hb1); have HB1 := Lib.hid (bS KB1.out); obtain ⟨c10, c11, c12, c13⟩ := bF (f := ⟨4, s, n, d⟩) KB1.out
    go_wp2_with fail
    refine (HN.out _).mono ?_; rintro e w2 ⟨rfl, hb2⟩
    have KB2 := Lib.hid (bp KB1.out hsz hb2); have HB2 := Lib.hid (bS KB2.out); obtain ⟨c20, c21, c22, c23⟩ := bF (f := ⟨4, s, n, d⟩) KB2.out
    go_wp2_with fail
    refine (HF.out _).mono ?_; rintro e w3 ⟨rfl, hb3⟩
    have KB3 := Lib.hid (bp KB2.out hsz hb3); have HB3 := Lib.hid (bS KB3.out); obtain ⟨c30, c31, c32, c33⟩ := bF (f := ⟨4, s, n, d⟩) KB3.out
    go_wp2_with fail
    refine (HU.out _).mono ?_; rintro e w4 ⟨rfl, hb4⟩
    have KB4 := Lib.hid (bp KB3.out hsz hb4); have HB4 := Lib.hid (bS KB4.out); obtain ⟨c40, c41, c42, c43⟩ := bF (f := ⟨4, s, n, d⟩) KB4.out
    go_wp2_with fail
    go_ret
    exact ⟨by (rw [HR.out]; try rfl), HB4.out⟩
  have HR := Lib.hid (HE.out.trans ((if_neg h8).trans (if_neg h9)))
  go_enter Tryz.func30, Tryz.ntmps30
  go_wp2_with fail
  refine (HS.out _).mono ?_; rintro e w1 ⟨rfl, hb1⟩
  have KB1 := Lib.hid (bp KB0.out hsz hb1); have HB1 := Lib.hid (bS KB1.out); obtain ⟨c10, c11, c12, c13⟩ := bF (f := ⟨k, s, n, d⟩) KB1.out
  go_wp2_with fail
  refine (HN.out _).mono ?_; rintro e w2 ⟨rfl, hb2⟩
  have KB2 := Lib.hid (bp KB1.out hsz hb2); have HB2 := Lib.hid (bS KB2.out); obtain ⟨c20, c21, c22, c23⟩ := bF (f := ⟨k, s, n, d⟩) KB2.out
  go_wp2_with fail
  refine (HF.out _).mono ?_; rintro e w3 ⟨rfl, hb3⟩
  have KB3 := Lib.hid (bp KB2.out hsz hb3); have HB3 := Lib.hid (bS KB3.out); obtain ⟨c30, c31, c32, c33⟩ := bF (f := ⟨k, s, n, d⟩) KB3.out
  go_wp2_with fail
  go_ret
  exact ⟨by (rw [HR.out]; try rfl), HB3.out⟩
end Go.Proofs.YthiocbcokfondaaGreatDoor
