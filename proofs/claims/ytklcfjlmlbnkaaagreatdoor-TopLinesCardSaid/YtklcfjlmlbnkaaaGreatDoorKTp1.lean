/- The law TopLines: push. -/
import Derived.Test.YtklcfjlmlbnkaaaGreatDoorKBunC25
import Derived.Test.YtklcfjlmlbnkaaaGreatDoorKBunB
namespace Go.Proofs.YtklcfjlmlbnkaaaGreatDoor.Y
open Go.RowKit
attribute [local irreducible] Calls
set_option maxRecDepth 100000
set_option maxHeartbeats 32000000
theorem JE (f : FrV) (w : World) (hf : ay f = 0) (hg : MLen w) : Calls Tryz.prog 36 #[.agg #[.int .i64 f.kind, .int .i64 f.strm, .int .i64 f.num, .string f.data]] w fun e w' => e = .returned (.tuple #[.string (gF f), .int .i64 0]) ∧ Below w.heap.size w w' := by
  have h := zZ f w hg (by have := (fw hf).1; omega)
  have hw : nC f = ⟨gF f, 0⟩ := by unfold nC; rw [if_pos hf]
  rw [hw] at h
  exact h
theorem pW : ∀ (l : List FrV) (q : ByteArray), q.size ≤ (dR l q).size
  | [], _ => Nat.le_refl _
  | f :: r, q => by
    rw [dR]
    have := pW r (q ++ gF f)
    rw [ByteArray.size_append] at this
    omega
structure JF where
  n : Nat
  e : LV
  F : Nat → Prop
  q : ByteArray
  fl : List PkV
  a : Option Addr
  c : Nat
theorem Mem.repL {σ τ : Type} {O1 : (Nat → Prop) → World → σ → Prop} {O2 : (Nat → Prop) → World → τ → Prop} (K1 : Rp O1) {w0 w : World} {M : List Ent} {F : Nat → Prop} {s : σ} {t : τ} (h : Mem w0 w (.rep F (fun w => O1 F w s ∧ O2 F w t) :: M)) : Mem w0 w (.rep F (fun w => O1 F w s) :: M) :=
  ⟨h.1, ⟨h.2.1.1, h.2.1.2.1.1, fun _ _ hk h => K1.ag h hk⟩, h.2.2.1, h.2.2.2⟩
theorem Hp {w0 w : World} {M : List Ent} {F F1 FN FC FS : Nat → Prop} {e e1 : LV} {c1 kl sv : NV} {fa1 : Option Addr} {l : List FrV} {B C D : Ent} (h : Mem w0 w (.rep F (fun w => LOk F w e) :: .rep FN (fun w => NOk FN w c1 ∧ Rws FN w 4 fC fa1 l) :: B :: C :: D :: .rep F1 (fun w => LOk F1 w e1) :: .rep FC (fun w => NOk FC w kl) :: .rep FS (fun w => NOk FS w sv) :: M)) :
    Mem w0 w (B :: C :: D :: .rep F (fun w => LOk F w e) :: .rep F1 (fun w => LOk F1 w e1) :: .rep FN (fun w => NOk FN w c1) :: .rep FS (fun w => NOk FS w sv) :: M) :=
  ((((((((h.mask [true, true, true, true, true, true, false] rfl).pull 1 rfl).repL (O2 := fun F w (p : Option Addr × Nat) => Rws F w 4 fC p.1 l) (t := (fa1, 0)) rpN).pull 6 rfl).pull 1 rfl).pull 6 rfl).pull 3 rfl).pull 6 rfl).pull 6 rfl |>.pull 6 rfl
theorem CR {w0 : World} {M : List Ent} (g : Nat) (x : CX) (f : FX) (w : World) (hg : MLen w0) (hM : Mem w0 w (XM g x f M)) (hv : VN x.cl.c) (hms : cm x.cl.c ≤ 1000) (hq : (dR x.cl.c.ou x.qu).size ≤ 4000) (hfl : x.fly.length ≤ 1000000) (hw : x.e0.l.wait.length ≤ 64) (hn : 0 ≤ x.e0.l.next ∧ x.e0.l.next ≤ 1000000) (hx : 0 ≤ x.e0.l.exp ∧ x.e0.l.exp ≤ 1000000) :
    Calls Tryz.prog 17 #[.pointer (some ⟨g, 0, none⟩)] w fun e w' => ∃ r : CX × FX, cZ r.1 = fg (cZ x) ∧ e = .returned (.bool true) ∧ Mem w0 w' (XM g r.1 r.2 M) := by
  obtain ⟨e0, e1, fly, fa, fc, qu, re, kl, sv, nn, got, ga, gc⟩ := x
  obtain ⟨F0, F1, FC, FS⟩ := f
  dsimp only at hv hms hq hfl hw hn hx
  have hol : kl.c.ou.length ≤ 1000 := by have h9 := hms; unfold cm at h9; omega
  refine bv hM Tryz.func17 rfl Tryz.ntmps17 J J ?_
  repeat' refine nx ?_
  refine pU (rpN.and (JB 4 fC kl.c.ou)) (fun s => s.1.c = (gX kl.c).1) (fun s => .tuple #[.agg ⟨NC s.1⟩, .slice s.2.1 kl.c.ou.length s.2.2]) (Gg 5 rfl) (fun w1 hm => (wG (A := FC) kl w1 (hm.2.get (i := 5) rfl).2.1 ((hv.toVB.szl (by omega)).n (hm.2.get (i := 5) rfl).2.1)).mono fun e w2 ⟨v', p, h1, h2, h3, h4⟩ => ⟨(v', p), h1, h2, ⟨h3.1, h4.mono fun _ => .inr⟩, h3.2⟩) ?_
  rintro ⟨⟨c1, x1, xc1, kv1, o1, oc1, p1, pc1⟩, ⟨fa1, fc1⟩⟩ FN hc1
  dsimp only at hc1
  subst hc1
  repeat' (first | (refine al ?_; intro g3) | refine nx ?_)
  obtain ⟨c1, hc1⟩ : ∃ c, (⟨(gX kl.c).1, x1, xc1, kv1, o1, oc1, p1, pc1⟩ : NV) = c := ⟨_, rfl⟩
  have hcc : c1.c = (gX kl.c).1 := by rw [← hc1]
  refine bP (σ := Nat × ByteArray) (fun q => q.1 ≤ kl.c.ou.length ∧ dR kl.c.ou qu = dR (kl.c.ou.drop q.1) q.2) (fun q => [(5, [], .int .i64 ((q.1 : Nat) : Int)), (4, [], .slice fa1 kl.c.ou.length fc1), (0, [], .pointer (some ⟨g, 0, none⟩))]) (fun q => .rep FN (fun w => NOk FN w c1 ∧ Rws FN w 4 fC fa1 kl.c.ou) :: .cl g 36 (Ao e0 e1 fly fa fc q.2 re c1 sv nn got ga gc) :: .own fa fc 58 3 fly.length (fly.flatMap pC) :: .own ga gc 9 1 got.length (got.flatMap sC) :: .rep F0 (fun w => LOk F0 w e0) :: .rep F1 (fun w => LOk F1 w e1) :: .rep FC (fun w => NOk FC w kl) :: .rep FS (fun w => NOk FS w sv) :: M) (fun q => kl.c.ou.length - q.1) (0, qu) [false, true, true, true, true, true, true, true, true] ⟨Nat.zero_le _, rfl⟩ ⟨J, J, J, trivial⟩ (by rw [← hc1]; rfl) ?_
  rintro ⟨j, q⟩ ⟨hj0, hqq⟩
  dsimp only at hj0 hqq ⊢
  have hqs : q.size ≤ 4000 := by have := pW (kl.c.ou.drop j) q; rw [← hqq] at this; omega
  by_cases hj : j < kl.c.ou.length
  · refine gi (p := ∃ b off, fa1 = some ⟨b, off, none⟩ ∧ ∀ w, (NOk FN w c1 ∧ Rws FN w 4 fC fa1 kl.c.ou) → w.rangeAt b (off + j * 4) (fC kl.c.ou[j])) (fun w1 hM => ?_) ?_
    · obtain ⟨b, off, hx, hh⟩ := iz (hM.2.get (i := 0) rfl).2.1.2 (show 0 < kl.c.ou.length by omega)
      exact ⟨b, off, hx, fun w2 h2 => hh w2 h2.2 j _ (List.getElem?_eq_getElem hj)⟩
    rintro ⟨bl, ol, hlx, hrw⟩
    subst hlx
    have hfj : ay kl.c.ou[j] = 0 := hv.ou _ (List.getElem_mem hj)
    have hqj : dR kl.c.ou qu = dR (kl.c.ou.drop (j + 1)) (q ++ gF kl.c.ou[j]) := by rw [hqq, List.drop_eq_getElem_cons hj, dR]
    have hjs : q.size + (gF kl.c.ou[j]).size ≤ 4000 := by have := pW (kl.c.ou.drop (j + 1)) (q ++ gF kl.c.ou[j]); rw [← hqj, ByteArray.size_append] at this; omega
    repeat' refine nx ?_
    refine aq rfl (decide_eq_true (by omega)) ?_
    repeat' (first | refine vx rfl (ia (m := 4) j hj) ?_ | refine vx rfl (nV af 0 (cs := fC kl.c.ou[j]) J J J J J J (fun _ w h => hrw w h)) ?_ | refine cl (fun w hm => JE kl.c.ou[j] w hfj (hg.below hm.below)) ?_ | refine nx ?_)
    refine ai J J ?_
    repeat' (first | refine vx rfl (xx J J J J J (fun _ => by omega)) ?_ | refine vx rfl (bd J J J J J (by omega)) ?_ | refine nx ?_)
    exact aU (j + 1, q ++ gF kl.c.ou[j]) [] ⟨hj, hqj⟩ (show kl.c.ou.length - (j + 1) < kl.c.ou.length - j by omega) ⟨J, J, J, trivial⟩ rfl
  · have hjl : j = kl.c.ou.length := by omega
    subst hjl
    rw [List.drop_length] at hqq
    have hqe : dR kl.c.ou qu = q := hqq
    repeat' refine nx ?_
    refine ai rfl (decide_eq_false (by omega)) ?_
    repeat' refine nx ?_
    refine kO (fun w1 hm => hm.pull 4 rfl) ?_
    refine bP (σ := JF) (fun s => (cI q.size e0.l q fly = cI s.n s.e.l s.q s.fl ∧ s.q.size ≤ s.n) ∧ s.n ≤ 4000 ∧ s.e.l.wait.length ≤ 64 ∧ (0 ≤ s.e.l.next ∧ s.e.l.next + s.n ≤ 1004000) ∧ s.e.l.exp = e0.l.exp ∧ s.fl.length + s.n ≤ 1004000) (fun _ => [(0, [], .pointer (some ⟨g, 0, none⟩))]) (fun s => .rep s.F (fun w => LOk s.F w s.e) :: .rep FN (fun w => NOk FN w c1 ∧ Rws FN w 4 fC fa1 kl.c.ou) :: .cl g 36 (Ao s.e e1 s.fl s.a s.c s.q re c1 sv nn got ga gc) :: .own s.a s.c 58 3 s.fl.length (s.fl.flatMap pC) :: .own ga gc 9 1 got.length (got.flatMap sC) :: .rep F1 (fun w => LOk F1 w e1) :: .rep FC (fun w => NOk FC w kl) :: .rep FS (fun w => NOk FS w sv) :: M) (fun s => s.n) ⟨q.size, e0, F0, q, fly, fa, fc⟩ [] ⟨⟨rfl, Nat.le_refl _⟩, by dsimp only; omega, hw, by dsimp only; omega, rfl, by dsimp only; omega⟩ ⟨J, trivial⟩ rfl ?_
    rintro ⟨n, e, F, q1, fl, a, c⟩ ⟨⟨hs1, hs2⟩, hn4, hwl, hnx, hex, hfl1⟩
    dsimp only at hs1 hs2 hn4 hwl hnx hex hfl1 ⊢
    have hfin : ∀ (d : cI n e.l q1 fl = (e.l, q1, fl)), fg (cZ ⟨e0, e1, fly, fa, fc, qu, re, kl, sv, nn, got, ga, gc⟩) = cZ ⟨e, e1, fl, a, c, q1, re, c1, sv, nn, got, ga, gc⟩ := fun d => by
      have hp : kE (cZ ⟨e0, e1, fly, fa, fc, qu, re, kl, sv, nn, got, ga, gc⟩) = (e.l, q1, fl) := by
        show cI (dR kl.c.ou qu).size e0.l (dR kl.c.ou qu) fly = _
        rw [hqe, hs1, d]
      unfold fg
      rw [hp]
      unfold cZ
      rw [hcc]
    by_cases h0 : q1.size = 0
    · repeat' refine nx ?_
      refine ai rfl (decide_eq_false (by omega)) ?_
      repeat' refine nx ?_
      (refine rt ?_; refine fun w1 hm => ⟨(⟨e, e1, fl, a, c, q1, re, c1, sv, nn, got, ga, gc⟩, ⟨F, F1, FN, FS⟩), (hfin (lc (.inl h0))).symm, rfl, ?_⟩)
      exact Hp hm
    · obtain ⟨m, hm7⟩ : ∃ m, min q1.size 7 = m := ⟨_, rfl⟩
      have hmin : (if (7 : Int) < (q1.size : Int) then (7 : Int) else (q1.size : Int)) = ((m : Nat) : Int) := by split <;> omega
      obtain ⟨d, hd⟩ : ∃ d, q1.extract 0 m = d := ⟨_, rfl⟩
      obtain ⟨E, hE⟩ : ∃ E, gH e.l d = E := ⟨_, rfl⟩
      repeat' refine nx ?_
      refine aq rfl (decide_eq_true (by omega)) ?_
      repeat' refine nx ?_
      rw [hmin]
      have hds : (q1.extract m q1.size).size + m = q1.size := by rw [ByteArray.size_extract]; omega
      refine cU (fun b => F b ∨ b < w0.heap.size) 18 [73, 9, 10] [61, 74, 75, 76] [75, 76] (qP (i := 0) rfl) am rfl (by kernel_rfl) ?_
      iterate 11 (first | refine ff rfl (eI af 6 0 J J J J J J J J J J) J J J ?_ | refine ff rfl (xw af 0 m J J J J J J J J (fun _ => ⟨rfl, rfl, Nat.zero_le _, by omega⟩)) J J J ?_ | refine rv ?_)
      rw [hd]
      refine gG (F0 := F) rpL (fun s => s.l = if E = 0 then lU e.l d else e.l) (fun s => .tuple #[.agg ⟨LC s⟩, .agg ⟨pC (if E = 0 then gI e.l d else ⟨0, 0, ⟨#[]⟩⟩)⟩, .int .i64 E]) (fun _ h => .inl h) (fun w1 hm => (zS (A := F) e d w1 (hm.2.get (i := 0) rfl).2.1 hwl (by omega) (by omega)).mono fun ee w2 ⟨s, h1, h2, h3, h4⟩ => ⟨s, by rw [h1, hE], by rw [h2, hE], h3, h4⟩) ?_
      refine jf 11 J J J J J J J (by kernel_rfl) ?_
      refine cT 12 0 (m := 3) J J (fun x ⟨s, _, e⟩ => ⟨_, e, rfl⟩) J J J J J J (by kernel_rfl) ?_
      refine cT 12 1 (m := 3) J J (fun x ⟨s, _, e⟩ => ⟨_, e, rfl⟩) J J J J J J (by kernel_rfl) ?_
      refine cT 12 2 (m := 3) J J (fun x ⟨s, _, e⟩ => ⟨_, e, rfl⟩) J J J J J J (by kernel_rfl) ?_
      iterate 2 refine kW af J J J J J J J J ?_
      refine gy ?_
      refine fE ?_
      rintro ⟨v2, F2⟩ hl2
      dsimp only at hl2
      refine lK _ J J ?_
      iterate 3 refine lK _ J J ?_
      refine fE ?_
      rintro g9 -
      refine fE ?_
      rintro g10 -
      refine jB ?_
      dsimp only [List.cons_append, List.nil_append]
      repeat' refine nx ?_
      by_cases he : E = 0
      rotate_left
      · refine aq rfl (by simpa using he) ?_
        repeat' refine nx ?_
        (refine rt ?_; refine fun w1 hm => ⟨(⟨e, e1, fl, a, c, q1, re, c1, sv, nn, got, ga, gc⟩, ⟨F, F1, FN, FS⟩), (hfin (lc (.inr ?_))).symm, rfl, ?_⟩)
        · unfold qr
          rw [hm7, hd, hE]
          exact he
        · exact Hp (hm.mask [false, false, false, true] rfl)
      subst he
      rw [if_pos rfl] at hl2
      obtain ⟨np, hnp⟩ : ∃ p, gI e.l d = p := ⟨_, rfl⟩
      rw [if_pos rfl, hnp]
      refine ai J J ?_
      repeat' refine nx ?_
      refine bR [true, true, true, true, true, false] (fun w => w.cell? ⟨g, 0 + 13, none⟩ = some (.string q1)) am (by kernel_rfl) J J (fun w1 hm => yt (hm.2.get (i := 5) rfl).2 13 rfl) ?_
      repeat' (first | refine gp J J (eI af 6 0 J J J J J J J J J J) J J ?_ | refine gp J J (xw af m q1.size J J J J J J J J (fun _ => ⟨rfl, rfl, by omega, Nat.le_refl _⟩)) J J ?_ | refine rW af J J J J J J (fun w hp => hp) J J ?_ | refine oY af 5 J J J J J J J J J J J J (fun w1 hM => ⟨hM.mask [true, true, true, true, true, false] rfl, yt (hM.2.get (i := 5) rfl).2 13 rfl⟩) ?_ | refine yv ?_)
      refine iA (fun Q h => aC af 5 J J J J J J J J J J J J h) rfl ?_
      repeat' refine nx ?_
      refine bR [true, true, true, true, true, true, false] (fun _ => True) am (by kernel_rfl) J J (fun _ _ => trivial) ?_
      repeat' (first | refine gp J J (eI af 6 0 J J J J J J J J J J) J J ?_ | refine yv ?_)
      refine qQ af J J J ⟨J, trivial⟩ J J J J J J J J (fun _ _ hM => ⟨hM.mask [false, true, true, true, true, true, true, false] rfl, trivial⟩) J J ?_
      intro gs
      refine qR af 7 0 J J J J J J J J J (fun _ _ => rfl) lA J J (by unfold maxLen; omega) (by omega) J J (fun _ _ _ hM => ⟨hM.mask [false, true, true, true, true, true, true, false] rfl, trivial⟩) J J ?_
      intro ac cc
      repeat' refine yv ?_
      refine iA (fun Q h => aC af 6 J J J J J J J J J J J J h) rfl ?_
      have hw9 : e.l.wait.length < 64 := by
        unfold gH at hE
        split at hE
        · cases hE
        · split at hE
          · cases hE
          · omega
      have hpie : qr e.l q1 = 0 := by unfold qr; rw [hm7, hd]; exact hE
      obtain ⟨n1, rfl⟩ : ∃ k, n = k + 1 := ⟨n - 1, by omega⟩
      have hsg : cI (n1 + 1) e.l q1 fl = cI n1 v2.l (q1.extract m q1.size) (fl ++ [np]) := by
        rw [cI, if_neg (fun h => h.elim h0 (fun h => h hpie)), hm7, hd, hnp, hl2]
      repeat' refine nx ?_
      exact aU ⟨n1, v2, F2, q1.extract m q1.size, fl ++ [np], ac, cc⟩ [false, false, false, true, false, true, true, true, true, true, true, true] ⟨⟨by rw [hs1, hsg], by dsimp only; omega⟩, by dsimp only; omega, by dsimp only; rw [hl2]; unfold lU; rw [List.length_append]; exact hw9, by dsimp only; rw [hl2]; unfold lU; dsimp only; omega, by dsimp only; rw [hl2]; exact hex, by dsimp only; rw [List.length_append]; simp only [List.length_cons, List.length_nil]; omega⟩ (Nat.lt_succ_self n1) ⟨J, trivial⟩ (by dsimp only; unfold Ao; rw [show (fl ++ [np]).length = fl.length + 1 from List.length_append, show (fl ++ [np]).flatMap pC = fl.flatMap pC ++ pC np from by rw [List.flatMap_append]; rfl]; rfl)
end Go.Proofs.YtklcfjlmlbnkaaaGreatDoor.Y
