/- Texts of this claim merged into one: KLyF, KTp2. -/
import Derived.Test.YtklcfjlmlbnkaaaGreatDoorKBunM
import Derived.Test.YtklcfjlmlbnkaaaGreatDoorKTp1
import Derived.Test.YtklcfjlmlbnkaaaGreatDoorKBunTs
namespace Go.Proofs.YtklcfjlmlbnkaaaGreatDoor.Y
open Go.RowKit
section
variable {ms cs : List ByteArray} {a k : Nat} {sf gf ou : List FrV} {t : Int} {x : iN}
structure Gi (ms : List ByteArray) (gf : List FrV) (x : iN) (p : PkV) : Prop where
  w : x.e1.wait.length ≤ 1000
  e : x.e1.early.length ≤ 1000
  ex : 0 ≤ x.e1.exp ∧ x.e1.exp ≤ 1000000
  s : 0 ≤ p.seq ∧ p.seq ≤ 1000000
  r : (lT x p).size ≤ 4000
  n : (cK x.e1 p).2.length ≤ 4000
  ok : (aF (lT x p).data.toList).err = 0
  nx : x.nx ≤ ms.length
  sv : Er gf x.sv x.got
  fr : ∃ r, gf ++ (aF (lT x p).data.toList).frames ++ r = vz ms x.nx
theorem Ex (hm : fM ms) (h : HopI ms cs a k sf gf t ou x) (hf : x.fly.length ≤ 1000000) {i : Nat} (hi : i < cs.length) : Gi ms gf x (gJ cs i) := by
  have hsz := h.size hm
  have hmem : (gJ cs i).data ∈ cs := by
    have : cs[i]? = some cs[i] := List.getElem?_eq_getElem hi
    unfold gJ
    rw [this]
    exact List.getElem_mem hi
  obtain ⟨k', g1, g2, g3, g4, g5⟩ := tf h.r hi (by omega) (h.pr _ hmem)
  have ha : (lT x (gJ cs i)).data.toList = x.re.data.toList ++ cH ((cs.drop k).take (k' - k)) := by unfold lT; rw [pR, g3]
  have hR : cH (cs.take k) ++ cH ((cs.drop k).take (k' - k)) = cH (cs.take k') := by
    rw [← ji]
    congr 1
    have e : k' = k + (k' - k) := by omega
    conv => rhs; rw [e, List.take_add]
  have hfl : cH (cs.take k') ++ (cH (cs.drop k') ++ x.qu.data.toList) = bO sf := by rw [← List.append_assoc, ← ji, List.take_append_drop, h.by1]
  obtain ⟨e1, e2⟩ := h.by2.come ha ⟨cH (cs.drop k') ++ x.qu.data.toList, by rw [hR]; exact hfl⟩
  obtain ⟨r, hr⟩ := e2.sub
  have hn := h.near hm hf
  have hzz : ∀ q : ByteArray, q.data.toList.length = q.size := fun q => by rw [Array.length_toList]; rfl
  have hkl := h.r.kl
  refine ⟨by rw [h.r.wait]; exact Nat.zero_le _, Nat.le_trans hn.ea (by decide), by rw [h.r.exp]; omega, by rw [im]; omega, ?_, ?_, e1, h.nx, h.sv, r ++ ou, by rw [← List.append_assoc, hr, h.fr]⟩
  · have h1 := congrArg List.length ha
    have h2 := congrArg List.length hR
    have h3 := congrArg List.length hfl
    have h5 : (bO (sf ++ ou)).length = (bO sf).length + (bO ou).length := by rw [fp, List.length_append]
    have h4 := hn.re
    rw [List.length_append] at h1 h2 h3
    rw [hzz, hzz] at h1
    omega
  · rw [g3, List.length_take, List.length_drop]
    omega
theorem CW (hm : fM ms) {s : NL} {got : List ByteArray} {n : Nat} (h : Er gf s got) (hf : ∃ r, gf ++ r = vz ms n) (hn : n ≤ ms.length) : cm s ≤ 1000 ∧ got.length ≤ 6 ∧ VN s := by
  obtain ⟨r, hr⟩ := hf
  have h1 := congrArg List.length hr
  rw [List.length_append, ov hn] at h1
  have h2 := hm.n
  have h3 := (Gf h).1
  rcases h.2 with ⟨_, h4, _⟩ | ⟨o, _, h4, h5⟩
  · rw [h4, Ed]
    exact ⟨by omega, by omega, h4 ▸ h.1⟩
  · refine ⟨?_, by omega, h.1⟩
    rw [h4, Ec]
    omega
theorem Gj (hm : fM ms) {n : Nat} {f : FrV} {s : NL} {got : List ByteArray} (h : Er gf s got) (hf : ∃ t, gf ++ [f] ++ t = vz ms n) : (dg s f).2 = 0 ∧ Er (gf ++ [f]) (kF s f).1 (if (kF s f).2.2 = true then got ++ [(kF s f).2.1] else got) := by
  obtain ⟨h1, h2⟩ := ym hm [f] gf s got h hf
  exact ⟨h1.1, h2⟩
theorem vE : ∀ (l : List ByteArray) (q : ByteArray), q.size ≤ (mi l q).size
  | [], _ => Nat.le_refl _
  | d :: r, q => by
    rw [mi]
    have := vE r (q ++ d)
    rw [ByteArray.size_append] at this
    omega
end
end Go.Proofs.YtklcfjlmlbnkaaaGreatDoor.Y
namespace Go.Proofs.YtklcfjlmlbnkaaaGreatDoor.Y
open Go.RowKit
attribute [local irreducible] Calls
set_option maxRecDepth 100000
set_option maxHeartbeats 32000000
structure JG where
  j : Nat
  s : NV
  F : Nat → Prop
  got : List ByteArray
  a : Option Addr
  c : Nat
theorem xi {ms : List ByteArray} {gf : List FrV} {w0 : World} {M : List Ent} (g : Nat) (x : CX) (f : FX) (p : PkV) (w : World) (hg : MLen w0) (hM : Mem w0 w (XM g x f M)) (hm : fM ms) (hA : Gi ms gf (cZ x) p) :
    Calls Tryz.prog 13 #[.pointer (some ⟨g, 0, none⟩), .agg ⟨pC p⟩] w fun e w' => ∃ r : CX × FX, cZ r.1 = nT (cZ x) p ∧ e = .returned (.bool true) ∧ Mem w0 w' (XM g r.1 r.2 M) := by
  obtain ⟨aw, ae, ax, asq, ar, an, aok, anx, asv, afr⟩ := hA
  obtain ⟨e0, e1, fly, fa, fc, qu, re, kl, sv, nn, got, ga, gc⟩ := x
  obtain ⟨F0, F1, FC, FS⟩ := f
  unfold nT
  obtain ⟨R, hR⟩ : ∃ R, aF (lT (cZ ⟨e0, e1, fly, fa, fc, qu, re, kl, sv, nn, got, ga, gc⟩) p).data.toList = R := ⟨_, rfl⟩
  obtain ⟨q, hq⟩ : ∃ q, lT (cZ ⟨e0, e1, fly, fa, fc, qu, re, kl, sv, nn, got, ga, gc⟩) p = q := ⟨_, rfl⟩
  obtain ⟨L, hL⟩ : ∃ L, cK e1.l p = L := ⟨_, rfl⟩
  have hq2 : mi L.2 re = q := by rw [← hL]; exact hq
  rw [hR] at aok afr ⊢
  rw [hq] at ar
  rw [hq] at hR
  dsimp only [cZ] at aw ae ax an anx asv afr ⊢
  rw [hL] at an ⊢
  refine bv hM Tryz.func13 rfl Tryz.ntmps13 J J ?_
  repeat' (first | (refine bx ?_; intro g3) | refine nx ?_)
  refine cU (fun b => F1 b ∨ b < w0.heap.size) 11 [23, 5] [16, 24, 25] [25] (qP (i := 5) rfl) am rfl (by kernel_rfl) ?_
  iterate 6 (first | refine ff rfl (eI af 6 1 J J J J J J J J J J) J J J ?_ | refine rv ?_)
  refine gG (F0 := F1) (rpL.and (Gy 1 sC L.2)) (fun s => s.1.l = L.1) (fun s => .tuple #[.agg ⟨LC s.1⟩, .slice s.2.1 L.2.length s.2.2]) (fun _ h => .inl h) (fun w1 hm => (vy (A := F1) e1 p w1 (hm.2.get (i := 5) rfl).2.1 aw ae (by omega) (by omega)).mono fun ee w2 ⟨s, h1, h2, h3, h4⟩ => ⟨s, by rw [h1, hL], by rw [h2, hL], by rw [hL] at h3; exact h3, h4⟩) ?_
  refine jf 6 J J J J J J J (by kernel_rfl) ?_
  refine cT 7 0 (m := 2) J J (fun x ⟨s, _, e⟩ => ⟨_, e, rfl⟩) J J J J J J (by kernel_rfl) ?_
  refine cT 7 1 (m := 2) J J (fun x ⟨s, _, e⟩ => ⟨_, e, rfl⟩) J J J J J J (by kernel_rfl) ?_
  refine kW af J J J J J J J J ?_
  refine gy ?_
  refine fE ?_
  rintro ⟨⟨v2, ta, tc⟩, F2⟩ hl2
  dsimp only at hl2
  iterate 3 refine lK _ J J ?_
  refine fE ?_
  rintro g5 -
  refine jB ?_
  dsimp only [List.cons_append, List.nil_append]
  repeat' refine nx ?_
  refine bR [true, true, true, false] (fun _ => True) am (by kernel_rfl) J J (fun _ _ => trivial) ?_
  repeat' (first | refine gp J J (eI af 6 1 J J J J J J J J J J) J J ?_ | refine yv ?_)
  refine iA (fun Q h => aC af 3 J J J J J J J J J J J J h) rfl ?_
  repeat' refine nx ?_
  refine bP (σ := Nat × ByteArray) (fun s => s.1 ≤ L.2.length ∧ mi L.2 re = mi (L.2.drop s.1) s.2) (fun s => [(7, [], .int .i64 ((s.1 : Nat) : Int)), (6, [], .slice ta L.2.length tc), (0, [], .pointer (some ⟨g, 0, none⟩))]) (fun s => .rep F2 (fun w => LOk F2 w v2 ∧ Sl3 1 sC L.2 F2 w (ta, tc)) :: .cl g 36 (Ao e0 v2 fly fa fc qu s.2 kl sv nn got ga gc) :: .own fa fc 58 3 fly.length (fly.flatMap pC) :: .own ga gc 9 1 got.length (got.flatMap sC) :: .rep F0 (fun w => LOk F0 w e0) :: .rep FC (fun w => NOk FC w kl) :: .rep FS (fun w => NOk FS w sv) :: M) (fun s => L.2.length - s.1) (0, re) [false, true, false, true, true, true, true, false, true, true] ⟨Nat.zero_le _, rfl⟩ ⟨J, J, J, trivial⟩ rfl ?_
  rintro ⟨j, q1⟩ ⟨hj0, hqq⟩
  dsimp only at hj0 hqq ⊢
  rw [hq2] at hqq
  by_cases hj : j < L.2.length
  · refine gi (p := ∃ b off, ta = some ⟨b, off, none⟩ ∧ ∀ w, (LOk F2 w v2 ∧ Sl3 1 sC L.2 F2 w (ta, tc)) → w.cell? ⟨b, off + j * 1, none⟩ = some (.string L.2[j])) (fun w1 hM => ?_) ?_
    · obtain ⟨b, off, hx, hh⟩ := iz (hM.2.get (i := 0) rfl).2.1.2.1 (show 0 < L.2.length by omega)
      exact ⟨b, off, hx, fun w2 h2 => hh w2 h2.2.1 j _ (List.getElem?_eq_getElem hj) 0 _ rfl⟩
    rintro ⟨bl, ol, hlx, hrw⟩
    subst hlx
    have hqj : q = mi (L.2.drop (j + 1)) (q1 ++ L.2[j]) := by rw [hqq, List.drop_eq_getElem_cons hj, mi]
    have hjs : q1.size + (L.2[j]).size ≤ 4000 := by have := vE (L.2.drop (j + 1)) (q1 ++ L.2[j]); rw [← hqj, ByteArray.size_append] at this; omega
    repeat' refine nx ?_
    refine aq rfl (decide_eq_true (by omega)) ?_
    repeat' refine nx ?_
    refine bR [] (fun _ => True) am (by kernel_rfl) J J (fun _ _ => trivial) ?_
    repeat' (first | refine gp J J (ia (m := 1) j hj) J J ?_ | refine gp J J (tB af 0 J J J J J J (fun _ => hrw)) J J ?_ | refine gp J J (xx J J J J J (fun _ => by omega)) J J ?_ | refine yv ?_)
    refine iA (fun Q h => aC af 1 J J J J J J J J J J J J h) rfl ?_
    repeat' (first | refine vx rfl (bd J J J J J (by omega)) ?_ | refine nx ?_)
    exact aU (j + 1, q1 ++ L.2[j]) [] ⟨hj, hq2.trans hqj⟩ (show L.2.length - (j + 1) < L.2.length - j by omega) ⟨J, J, J, trivial⟩ rfl
  · have hjl : j = L.2.length := by omega
    subst hjl
    rw [List.drop_length] at hqq
    have hqe : q = q1 := hqq
    subst hqe
    repeat' refine nx ?_
    refine ai rfl (decide_eq_false (by omega)) ?_
    repeat' refine nx ?_
    repeat' refine nx ?_
    refine cQ (σ := Option Addr × Nat) (fun _ => True) (fun s => .tuple #[.slice s.1 R.frames.length s.2, .string ⟨R.rest.toArray⟩, .int .i64 0]) (fun s => [.own s.1 s.2 FT 4 R.frames.length (R.frames.flatMap fC)]) rfl (ap J J J J ⟨J, trivial⟩ rfl (by kernel_rfl)) (fun w1 hm => (xh q w1 (hg.below hm.below) (by omega)).mono fun e w2 ⟨s, h1, h2⟩ => ⟨s, trivial, by rw [h1, hR, aok], by rw [hR] at h2; exact h2⟩) J J ?_
    rintro ⟨ra, rc⟩ -
    dsimp only [List.cons_append, List.nil_append]
    repeat' refine nx ?_
    refine ai J J ?_
    repeat' refine nx ?_
    refine kO (fun w1 hm => (Mem.toRep1 R.frames ej J J hm).pull 7 rfl) ?_
    obtain ⟨FR, hFR⟩ : ∃ F : Nat → Prop, (fun b => ∃ ad, ra = some ad ∧ b = ad.block) = F := ⟨_, rfl⟩
    rw [hFR]
    obtain ⟨re2, hre2⟩ : ∃ b, (⟨R.rest.toArray⟩ : ByteArray) = b := ⟨_, rfl⟩
    rw [hre2]
    refine bP (σ := JG) (fun s => s.j ≤ R.frames.length ∧ Er (gf ++ R.frames.take s.j) s.s.c s.got ∧ eL R.frames sv.c got = eL (R.frames.drop s.j) s.s.c s.got) (fun s => [(11, [], .int .i64 ((s.j : Nat) : Int)), (8, [], .slice ra R.frames.length rc), (0, [], .pointer (some ⟨g, 0, none⟩))]) (fun s => .rep s.F (fun w => NOk s.F w s.s) :: .rep FR (fun w => Rws FR w 4 fC ra R.frames) :: .rep F2 (fun w => LOk F2 w v2 ∧ Sl3 1 sC L.2 F2 w (ta, tc)) :: .cl g 36 (Ao e0 v2 fly fa fc qu re2 kl s.s nn s.got s.a s.c) :: .own fa fc 58 3 fly.length (fly.flatMap pC) :: .own s.a s.c 9 1 s.got.length (s.got.flatMap sC) :: .rep F0 (fun w => LOk F0 w e0) :: .rep FC (fun w => NOk FC w kl) :: M) (fun s => R.frames.length - s.j) ⟨0, sv, FS, got, ga, gc⟩ [] ⟨Nat.zero_le _, by simpa using asv, rfl⟩ ⟨J, J, J, trivial⟩ rfl ?_
    rintro ⟨j, s, F, got1, a1, c1⟩ ⟨hj0, hsv, hfg⟩
    dsimp only at hj0 hsv hfg ⊢
    obtain ⟨rr, hrr⟩ := afr
    by_cases hj : j < R.frames.length
    · obtain ⟨fr, hfr⟩ : ∃ f, R.frames[j] = f := ⟨_, rfl⟩
      have hdr : R.frames.drop j = fr :: R.frames.drop (j + 1) := by rw [List.drop_eq_getElem_cons hj, hfr]
      have htk : R.frames.take (j + 1) = R.frames.take j ++ [fr] := by rw [List.take_add_one, List.getElem?_eq_getElem hj, hfr]; rfl
      have hpre : gf ++ R.frames.take j ++ (fr :: R.frames.drop (j + 1) ++ rr) = vz ms nn := by
        have h1 : R.frames.take j ++ (fr :: R.frames.drop (j + 1)) = R.frames := by rw [← hdr, List.take_append_drop]
        have h2 : gf ++ R.frames.take j ++ (fr :: R.frames.drop (j + 1) ++ rr) = gf ++ (R.frames.take j ++ (fr :: R.frames.drop (j + 1))) ++ rr := by simp
        rw [h2, h1, hrr]
      have hj9 : R.frames.length ≤ 100 := by
        have h1 := congrArg List.length hrr
        rw [List.length_append, List.length_append, ov anx] at h1
        have := hm.n
        omega
      obtain ⟨hms, hgl, hv⟩ := CW hm hsv ⟨_, hpre⟩ anx
      obtain ⟨hf0, hsv2⟩ := Gj hm (f := fr) hsv ⟨R.frames.drop (j + 1) ++ rr, by rw [← hpre]; simp⟩
      have hfe : ay fr = 0 := CG hm nn fr (by rw [← hpre]; simp)
      have hfd := (fw hfe).1
      have hmf := zG hv fr
      have hvf := hv.feed fr
      obtain ⟨T, hT⟩ : ∃ T, kF s.c fr = T := ⟨_, rfl⟩
      have hT2 : aG (dg s.c fr).1 1 = T := hT
      rw [hdr, eL, hT] at hfg
      rw [hT, List.append_assoc, ← htk] at hsv2
      obtain ⟨tc1, tm, tb⟩ := T
      dsimp only at hfg hsv2
      refine gi (p := ∃ b off, ra = some ⟨b, off, none⟩ ∧ ∀ w, Rws FR w 4 fC ra R.frames → w.rangeAt b (off + j * 4) (fC fr)) (fun w1 hM => ?_) ?_
      · obtain ⟨b, off, hx, hh⟩ := iz (hM.2.get (i := 1) rfl).2.1 (show 0 < R.frames.length by omega)
        exact ⟨b, off, hx, fun w2 h2 => hh w2 h2 j _ (by rw [List.getElem?_eq_getElem hj, hfr])⟩
      rintro ⟨bl, ol, hlx, hrw⟩
      subst hlx
      repeat' refine nx ?_
      refine aq rfl (decide_eq_true (by omega)) ?_
      repeat' refine nx ?_
      refine cU (fun b => F b ∨ b < w0.heap.size) 13 [79, 12] [70, 80, 81] [81] (qP (i := 0) rfl) am rfl (by kernel_rfl) ?_
      iterate 8 (first | refine ff rfl (ia (m := 4) j hj) J J J ?_ | refine ff rfl (nV af 1 (cs := fC fr) J J J J J J (fun _ w h => hrw w h)) J J J ?_ | refine rv ?_)
      refine gG (F0 := F) rpN (fun v => v.c = (dg s.c fr).1) (fun v => .tuple #[.agg ⟨NC v⟩, .int .i64 0]) (fun _ h => .inl h) (fun w1 hm => (zY (A := F) s fr w1 (hm.2.get (i := 0) rfl).2.1 hv (by omega) (by omega) (hg.below hm.below)).mono fun e w2 ⟨v', h1, h2, h3⟩ => ⟨v', h1, by rw [h2, hf0], h3.1, h3.2⟩) ?_
      refine jf 8 J J J J J J J (by kernel_rfl) ?_
      refine cT 9 0 (m := 2) J J (fun x ⟨s, _, e⟩ => ⟨_, e, rfl⟩) J J J J J J (by kernel_rfl) ?_
      refine cT 9 1 (m := 2) J J (fun x ⟨s, _, e⟩ => ⟨_, e, rfl⟩) J J J J J J (by kernel_rfl) ?_
      refine kW af J J J J J J J J ?_
      refine gy ?_
      refine fE ?_
      rintro ⟨v3, F3⟩ hv3
      dsimp only at hv3
      iterate 3 refine lK _ J J ?_
      refine fE ?_
      rintro g12 -
      refine jB ?_
      dsimp only [List.cons_append, List.nil_append]
      rw [← hv3] at hT2 hmf hvf
      repeat' refine nx ?_
      refine ai J J ?_
      repeat' refine nx ?_
      refine cU (fun b => F3 b ∨ b < w0.heap.size) 10 [90] [84, 91, 92, 93] [92, 93] (qP (i := 1) rfl) am rfl (by kernel_rfl) ?_
      iterate 5 refine rv ?_
      refine gG (F0 := F3) rpN (fun v => v.c = tc1) (fun v => .tuple #[.agg ⟨NC v⟩, .string tm, .bool tb]) (fun _ h => .inl h) (fun w1 hm => (zJ (A := F3) v3 1 w1 (hm.2.get (i := 1) rfl).2.1 hvf (by omega)).mono fun e w2 ⟨v', h1, h2, h3⟩ => ⟨v', by rw [h1, hT2], by rw [h2, hT2], h3.1, h3.2⟩) ?_
      refine jf 5 J J J J J J J (by kernel_rfl) ?_
      refine cT 6 0 (m := 3) J J (fun x ⟨s, _, e⟩ => ⟨_, e, rfl⟩) J J J J J J (by kernel_rfl) ?_
      refine cT 6 1 (m := 3) J J (fun x ⟨s, _, e⟩ => ⟨_, e, rfl⟩) J J J J J J (by kernel_rfl) ?_
      refine cT 6 2 (m := 3) J J (fun x ⟨s, _, e⟩ => ⟨_, e, rfl⟩) J J J J J J (by kernel_rfl) ?_
      refine gy ?_
      refine fE ?_
      rintro ⟨v4, F4⟩ hv4
      dsimp only at hv4
      iterate 4 refine lK _ J J ?_
      refine jB ?_
      dsimp only [List.cons_append, List.nil_append]
      repeat' refine nx ?_
      cases tb with
      | false =>
        rw [if_neg (by decide)] at hfg hsv2
        refine ai J J ?_
        repeat' (first | refine vx rfl (bd J J J J J (by omega)) ?_ | refine nx ?_)
        exact aU ⟨j + 1, v4, F4, got1, a1, c1⟩ [true, false, false, false] ⟨hj, by dsimp only; rw [hv4]; exact hsv2, by dsimp only; rw [hv4]; exact hfg⟩ (show R.frames.length - (j + 1) < R.frames.length - j by omega) ⟨J, J, J, trivial⟩ rfl
      | true =>
        rw [if_pos rfl] at hfg hsv2
        refine aq J J ?_
        repeat' refine nx ?_
        repeat' (first | (refine cE af J J J ⟨J, trivial⟩ J J J J J J J J ?_; intro gs) | (refine bA af 9 0 J J J J J J J J J (fun _ _ => rfl) xI J J (by unfold maxLen; omega) (by omega) J J ?_; intro ac cc) | refine vx rfl (bd J J J J J (by omega)) ?_ | refine nx ?_)
        exact aU ⟨j + 1, v4, F4, got1 ++ [tm], ac, cc⟩ [false, true, false, false, false] ⟨hj, by dsimp only; rw [hv4]; exact hsv2, by dsimp only; rw [hv4]; exact hfg⟩ (show R.frames.length - (j + 1) < R.frames.length - j by omega) ⟨J, J, J, trivial⟩ (by dsimp only; unfold Ao; rw [show (got1 ++ [tm]).length = got1.length + 1 from List.length_append, show (got1 ++ [tm]).flatMap sC = got1.flatMap sC ++ sC tm from by rw [List.flatMap_append]; rfl]; rfl)
    · have hjl : j = R.frames.length := by omega
      subst hjl
      rw [List.drop_length] at hfg
      have hfe : eL R.frames sv.c got = (s.c, got1) := hfg
      repeat' refine nx ?_
      refine ai rfl (decide_eq_false (by omega)) ?_
      repeat' refine nx ?_
      (refine rt ?_; refine fun w1 hm => ⟨(⟨e0, v2, fly, fa, fc, qu, re2, kl, s, nn, got1, a1, c1⟩, ⟨F0, F2, FC, F⟩), ?_, rfl, ?_⟩)
      · rw [hfe]
        dsimp only
        rw [hl2]
      · exact ((((((hm.mask [true, false] rfl).pull 6 rfl).pull 2 rfl).repL (O1 := LOk) (O2 := Sl3 1 sC L.2) (t := (ta, tc)) rpL).pull 6 rfl).pull 6 rfl).pull 6 rfl |>.pull 6 rfl
end Go.Proofs.YtklcfjlmlbnkaaaGreatDoor.Y
