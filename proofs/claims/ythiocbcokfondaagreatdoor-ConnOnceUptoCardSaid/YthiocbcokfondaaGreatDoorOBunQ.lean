/- Texts of this claim merged into one: OVFed, OVSz, OVStp. -/
import Derived.Test.YthiocbcokfondaaGreatDoorOBunP
namespace Go.Proofs.YthiocbcokfondaaGreatDoor.Y
structure zn (c : NL) (i : Nat) (k : KR) (f : bc) (k' : KR) (e : List bc) : Prop where
 eq : eo c i f = { c with ks := c.ks.set i k', ou := c.ou ++ e }
 pk : PK c.sd c.sz c.la k'
 id : k'.st.id = k.st.id
 dn : k.st.done = true → k' = k
 ib : k'.ib = k.ib
 nf : f.kind ≠ 6 → NF c.sw k'
 fr : ∀ x ∈ e, aQ x = 0 ∧ x.kind = 5
 da : qI c i f = true → f.kind = 2 → k'.st.done = false → aY k.ib + aT f.data ≤ k'.st.rcv.held
 ok : (bT k.st f).err = 0 → e = [] ∧ k' = dO { k with st := (bT k.st f).st }
 no : (bT k.st f).err ≠ 0 → e = [j8 k] ∧ k' = { k with st := dY k.st 11 ⟨#[]⟩, ob := [] }
theorem gY {c : NL} (h : VN c) {i : Nat} {k : KR} (hi : c.ks[i]? = some k) {f : bc} (hf : aQ f = 0) (hid : f.strm = k.st.id) (hkk : 2 ≤ f.kind ∧ f.kind ≤ 6) : ∃ k' e, zn c i k f k' e := by
 have hp := h.pk k (List.mem_of_getElem? hi)
 have hn := h.nf k (List.mem_of_getElem? hi)
 by_cases he : (bT k.st f).err = 0
 · have ho := xz he
   have hkp := ho.kept
   have hvs := rO ho
   refine ⟨dO { k with st := (bT k.st f).st }, [], ?_⟩
   have heq : eo c i f = { c with ks := c.ks.set i (dO { k with st := (bT k.st f).st }), ou := c.ou ++ [] } := by
    unfold eo
    rw [cV hi, if_neg (by rw [he]; simp), bE hi, List.append_nil]
   cases hd : (bT k.st f).st.done with
   | true =>
    have hs : dO { k with st := (bT k.st f).st } = { k with st := (bT k.st f).st, ob := [] } := by unfold dO; exact if_pos hd
    rw [hs] at heq ⊢
    refine ⟨heq, ⟨hvs, hkp.sd.trans hp.sd, hkp.sz.trans hp.z1, hkp.rz.trans hp.z2, hkp.hd.trans hp.h0, hp.he, hp.ib, by show (bT k.st f).st.id ≤ _; rw [hkp.id]; exact hp.la, fun _ => rfl, (fun e => by rw [show ({ k with st := (bT k.st f).st, ob := [] } : KR).st.done = true from hd] at e; cases e), (fun e => by rw [show ({ k with st := (bT k.st f).st, ob := [] } : KR).st.done = true from hd] at e; cases e), fun _ h => by cases h⟩, hkp.id, fun e => ?_, rfl, (fun _ f r e => by cases e), (fun _ h => by cases h), (fun _ _ e => by rw [show ({ k with st := (bT k.st f).st, ob := [] } : KR).st.done = true from hd] at e; cases e), fun _ => ⟨rfl, hs.symm⟩, fun e => absurd he e⟩
    rw [ho.keepDone e, ← hp.dn e]
   | false =>
    have hs : dO { k with st := (bT k.st f).st } = { k with st := (bT k.st f).st } := by unfold dO; exact if_neg (by show ¬ (bT k.st f).st.done = true; rw [hd]; simp)
    have hd0 : k.st.done = false := by rw [← (ho.more hd).done]; exact hd
    have hrc : k.st.rcv.held ≤ (bT k.st f).st.rcv.held ∧ (f.kind = 2 → (bT k.st f).st.rcv.held = k.st.rcv.held + aT f.data) ∧ (f.kind ≠ 6 → (bT k.st f).st.snd = k.st.snd) := by
     have h9 := ho.h
     generalize (bT k.st f).st = t at *
     have hc := dP f.data
     cases h9 with
     | old hx => exact absurd hx (by rw [hd0]; simp)
     | data => exact ⟨by show k.st.rcv.held ≤ k.st.rcv.held + aT f.data; omega, fun _ => rfl, fun _ => rfl⟩
     | fin hd hk => exact ⟨Int.le_refl _, fun e => by omega, fun _ => rfl⟩
     | stat hd hk => exact ⟨Int.le_refl _, fun e => by omega, fun _ => rfl⟩
     | reset hd hk => exact ⟨Int.le_refl _, fun e => by omega, fun _ => rfl⟩
     | win hd hk => exact ⟨Int.le_refl _, fun e => by omega, fun e => absurd hk e⟩
    rw [hs] at heq ⊢
    have hun := hp.un hd0
    refine ⟨heq, ⟨hvs, hkp.sd.trans hp.sd, hkp.sz.trans hp.z1, hkp.rz.trans hp.z2, hkp.hd.trans hp.h0, hp.he, hp.ib, by show (bT k.st f).st.id ≤ _; rw [hkp.id]; exact hp.la, (fun e => by rw [show ({ k with st := (bT k.st f).st } : KR).st.done = false from hd] at e; cases e), fun _ => (by show aY k.ib ≤ (bT k.st f).st.rcv.held; omega), fun _ => ?_, hp.kd⟩, hkp.id, (fun e => by rw [hd0] at e; cases e), rfl, fun h6 g r e => ?_, (fun _ h => by cases h), fun _ h2 _ => ?_, fun _ => ⟨rfl, hs.symm⟩, fun e => absurd he e⟩
    · exact lp (s := k.st) (lq hp.ahd) (ho.more hd) (hkp.hd.trans hp.h0) hp.ahd
    · show (bT k.st f).st.snd.left < _ ∨ _
      rw [hrc.2.2 h6]
      exact hn g r e
    · show aY k.ib + aT f.data ≤ (bT k.st f).st.rcv.held
      rw [hrc.2.1 h2]
      omega
 · have hd0 : k.st.done = false := eq_false_of_ne_true fun e => he (by rw [rN ⟨gE.2 hp.vs, hf, hid, hkk, .old e⟩])
   have hid' := hp.vs.id
   have hfr : aQ (j8 k) = 0 := Cy hid'.1 hid'.2 (by decide) (by decide)
   have hso : SndOk k.st (j8 k) (dY k.st 11 ⟨#[]⟩) := ⟨gE.2 hp.vs, hfr, rfl, hd0, .reset rfl⟩
   have hse := jE hso
   refine ⟨{ k with st := dY k.st 11 ⟨#[]⟩, ob := [] }, [j8 k], ?_, ⟨iH hso, hp.sd, hp.z1, hp.z2, hp.h0, hp.he, hp.ib, hp.la, fun _ => rfl, (fun e => by cases e), (fun e => by cases e), fun _ h => by cases h⟩, rfl, (fun e => by rw [hd0] at e; cases e), rfl, (fun _ f r e => by cases e), fun x hx => ?_, fun hb => ?_, fun e => absurd e he, fun _ => ⟨rfl, rfl⟩⟩
   · unfold eo
     rw [cV hi, if_pos he, bE hi, hse]
     dsimp only
     rw [if_pos (show (0 : Int) = 0 from rfl)]
     rfl
   · obtain rfl := List.mem_singleton.1 hx
     exact ⟨hfr, rfl⟩
   · unfold qI at hb
     rw [cV hi] at hb
     simp only [Bool.and_eq_true, decide_eq_true_eq] at hb
     exact absurd hb.1 he
theorem jH {c : NL} (h : VN c) (hc : c.cl = false) {i : Nat} {k k' : KR} (hi : c.ks[i]? = some k) {f : bc} {e : List bc} (hr : zn c i k f k' e) : VB (eo c i f) ∧ (∀ j x, j ≠ i → (eo c i f).ks[j]? = some x → NF (eo c i f).sw x) ∧ (eo c i f).ks[i]? = some k' ∧ (f.kind ≠ 6 → VN (eo c i f)) := by
 have hil := (List.getElem?_eq_some_iff.1 hi).1
 have hb : VB (eo c i f) := by
  rw [hr.eq]
  refine h.toVB.upd (k' := k') (sw' := c.sw) (rw' := c.rw) hi hr.pk hr.id (fun hd => by rw [hr.dn hd]; exact hd) h.sw h.ss h.sh h.rw h.rs (fun x hx => ?_) (fun e => ?_) ?_
  · rcases List.mem_append.1 hx with hx | hx
    · exact h.ou x hx
    · exact (hr.fr x hx).1
  · rw [hc] at e; cases e
  · rw [de hi, hr.ib]
    have := h.tt
    show bg c.ks - aY k.ib + aY k.ib ≤ c.rw.held
    omega
 have hj : ∀ j x, j ≠ i → (eo c i f).ks[j]? = some x → NF (eo c i f).sw x := fun j x hj hx => by
  rw [hr.eq] at hx ⊢
  have hx' : (c.ks.set i k')[j]? = some x := hx
  rw [List.getElem?_set_ne (fun e => hj e.symm)] at hx'
  exact h.nf x (List.mem_of_getElem? hx')
 have hki : (eo c i f).ks[i]? = some k' := by
  rw [hr.eq]
  exact List.getElem?_set_self hil
 refine ⟨hb, hj, hki, fun h6 => ⟨hb, fun x hx => ?_⟩⟩
 obtain ⟨j, hjx⟩ := List.getElem?_of_mem hx
 by_cases e : j = i
 · subst e
   rw [hki] at hjx
   obtain rfl := Option.some.inj hjx
   rw [hr.eq]
   exact hr.nf h6
 · exact hj j x e hjx
theorem l5 {c : NL} (h : VN c) {f : bc} (hl : aT f.data ≤ c.rw.left) : dF c f = { c with rw := ⟨c.rw.size, c.rw.left - aT f.data, c.rw.held + aT f.data⟩ } ∧ VN (dF c f) := by
 have hp := dP f.data
 have ha := qd h.rw (show 0 ≤ aT f.data by omega) hl
 have e : dF c f = { c with rw := ⟨c.rw.size, c.rw.left - aT f.data, c.rw.held + aT f.data⟩ } := by
  unfold dF
  rw [ha, if_pos rfl]
 refine ⟨e, ?_⟩
 rw [e]
 exact ⟨⟨h.sd, h.sz, h.sw, qe h.rw (by omega) hl, h.ss, h.rs, h.sh, h.la, h.aw, h.n1, h.n2, h.pg, h.pn, h.cn, h.pk, h.asc, h.ou, h.cl, by have := h.tt; show bg c.ks ≤ c.rw.held + aT f.data; omega⟩, h.nf⟩
theorem VN.data {c : NL} (h : VN c) (hc : c.cl = false) {f : bc} (hf : aQ f = 0) (hk : f.kind = 2) (hl : aT f.data ≤ c.rw.left) : VN (kZ c f) := by
 obtain ⟨e1, h1⟩ := l5 h hl
 have hks : (dF c f).ks = c.ks := by rw [e1]
 have hcl : (dF c f).cl = false := by rw [e1]; exact hc
 unfold kZ
 refine VN.gbC ?_
 cases hfi : cu f.strm c.ks 0 with
 | none => exact h1
 | some i =>
  obtain ⟨k, hi, hid⟩ := dh hfi
  dsimp only
  have hi1 : (dF c f).ks[i]? = some k := by rw [hks]; exact hi
  obtain ⟨k', e, hr⟩ := gY h1 hi1 hf hid.symm ⟨by omega, by omega⟩
  obtain ⟨v1, v2, v3, v4⟩ := jH h1 hcl hi1 hr
  cases hb : qI (dF c f) i f with
  | false => rw [if_neg (by simp)]; exact v4 (by omega)
  | true =>
   rw [if_pos rfl, bE v3]
   have v := v4 (by omega)
   have hpk := v.pk k' (List.mem_of_getElem? v3)
   have hil := (List.getElem?_eq_some_iff.1 v3).1
   refine v.upd (k' := { k' with ib := k'.ib ++ [f.data] }) (sw' := (eo (dF c f) i f).sw) (rw' := (eo (dF c f) i f).rw) (ou' := (eo (dF c f) i f).ou) v3 ?_ rfl (fun e => e) v.sw v.ss v.sh (Int.le_refl _) (v.nf k' (List.mem_of_getElem? v3)) v.rw v.rs v.ou (fun e => (v.cl e).1) ?_
   · refine hpk.rcv (w := k'.st.rcv) (ib := k'.ib ++ [f.data]) hpk.vs.rv rfl (fun m hm => ?_) (fun hd => ?_)
     · rcases List.mem_append.1 hm with hm | hm
       · exact hpk.ib m hm
       · obtain rfl := List.mem_singleton.1 hm
         exact (gX hf).1
     · rw [jG, hr.ib]
       exact hr.da hb hk hd
   · rw [de v3]
     show bg (eo (dF c f) i f).ks - aY k'.ib + aY (k'.ib ++ [f.data]) ≤ (eo (dF c f) i f).rw.held
     rw [jG, hr.eq]
     show bg ((dF c f).ks.set i k') - aY k'.ib + (aY k'.ib + aT f.data) ≤ (dF c f).rw.held
     rw [de hi1, hks, hr.ib, e1]
     have := h.tt
     show bg c.ks - aY k.ib + aY k.ib - aY k.ib + (aY k.ib + aT f.data) ≤ c.rw.held + aT f.data
     omega
theorem nM {c : NL} {i : Nat} : (eH c i).ks.length = c.ks.length := by
 unfold eH d7
 simp
theorem rS : ∀ (n i : Nat) (c : NL), VB c → i + n = c.ks.length → (∀ j k, j < i → c.ks[j]? = some k → NF c.sw k) → VN (iw c n i)
 | 0, i, c, h, hl, hn => ⟨h, fun k hk => by
  obtain ⟨j, hj⟩ := List.getElem?_of_mem hk
  exact hn j k (by have : j < c.ks.length := (List.getElem?_eq_some_iff.1 hj).1; omega) hj⟩
 | n + 1, i, c, h, hl, hn => by
  have hil : i < c.ks.length := by omega
  have hi : c.ks[i]? = some c.ks[i] := List.getElem?_eq_getElem hil
  obtain ⟨h1, h2, h3⟩ := h.son hi
  rw [iw]
  refine rS n (i + 1) (eH c i) h1 (by rw [nM]; omega) (fun j k hj hk => ?_)
  by_cases e : j = i
  · subst e; exact h3 k hk
  · refine (hn j k (by omega) ?_).less h2
    rw [gf hi] at hk
    have hk' : (c.ks.set i _)[j]? = some k := hk
    rw [List.getElem?_set_ne (fun e' => e e'.symm)] at hk'
    exact hk'
theorem VN.cred {c : NL} (h : VN c) (hc : c.cl = false) {f : bc} (hf : aQ f = 0) (hk : 3 ≤ f.kind ∧ f.kind ≤ 6) (hg : f.kind = 6 → f.strm = 0 → (cR c.sw f.num).err = 0) : VN (fR c f) := by
 unfold fR
 split
 · rename_i h0
   have h6 : f.kind = 6 := by
    have := mF hf
    unfold eS at this
    rw [if_neg (by omega)] at this
    by_cases e : f.kind = 6
    · exact e
    · rw [if_neg e, h0] at this; cases this
   have hge := hg h6 h0
   obtain ⟨a, b, d, e⟩ := li hge
   rw [if_pos hge, e]
   refine rS _ 0 _ ⟨h.sd, h.sz, lj h.sw b d, h.rw, h.ss, h.rs, h.sh, h.la, h.aw, h.n1, h.n2, h.pg, h.pn, h.cn, h.pk, h.asc, h.ou, h.cl, h.tt⟩ (by show 0 + c.ks.length = c.ks.length; omega) (fun j k hj => by omega)
 · cases hfi : cu f.strm c.ks 0 with
   | none => exact h
   | some i =>
    obtain ⟨k, hi, hid⟩ := dh hfi
    obtain ⟨k', e, hr⟩ := gY h hi hf hid.symm ⟨by omega, by omega⟩
    obtain ⟨v1, v2, v3, v4⟩ := jH h hc hi hr
    exact VN.son v1 v3 v2
theorem VN.acpt {c : NL} (h : VN c) (hc : c.cl = false) {f : bc} (hf : aQ f = 0) (hs : c.sd = 2) (hl : c.la < f.strm) : VN (gO c f) := by
 have hla := h.la
 have hz := (gX hf).2
 unfold gO
 split
 · have h1 := h.out (f := ⟨5, f.strm, 12, emptyB⟩) (Cy (by omega) hz (by decide) (by decide)) hc
   exact ⟨⟨h1.sd, h1.sz, h1.sw, h1.rw, h1.ss, h1.rs, h1.sh, ⟨by show 0 ≤ f.strm; omega, hz⟩, h1.aw, fun e => (by rw [show ({ c with la := f.strm, ou := c.ou ++ [⟨5, f.strm, 12, emptyB⟩] } : NL).sd = 2 from hs] at e; cases e), fun e => ⟨(h.n2 hs).1, by have := (h.n2 hs).2; show c.aw ≤ f.strm + 1; omega⟩, h1.pg, h1.pn, h1.cn, fun k hk => (h.pk k hk).la' (by show c.la ≤ f.strm; omega), h1.asc, h1.ou, h1.cl, h1.tt⟩, h1.nf⟩
 · rename_i g
   have g2 : ¬ 64 ≤ dN c.ks := fun e => g (.inr (.inl e))
   have g3 : (dq f.strm 2 f.num c.sz).err = 0 := Decidable.not_not.1 fun e => g (.inr (.inr (.inl e)))
   have g4 : (cU f.data).err = 0 := Decidable.not_not.1 fun e => g (.inr (.inr (.inr e)))
   have e1 : dq f.strm 2 f.num c.sz = dq f.strm c.sd f.num c.sz := by rw [hs]
   rw [e1] at g3 ⊢
   have := h.more (id := f.strm) (sh := f.num) (nx' := c.nx) (la' := f.strm) (ou' := c.ou) g3 hl rfl (fun e => by omega) (fun _ => (h.n2 hs).1) (by omega) hc (AK g4) h.ou
   exact this
theorem VN.act {c : NL} (h : VN c) (hc : c.cl = false) {f : bc} (hr : j7 c f = 0) : VN (pH c f) := by
 unfold j7 at hr
 split at hr
 · cases hr
 rename_i g1
 split at hr
 · cases hr
 rename_i g2
 split at hr
 · cases hr
 rename_i g3
 split at hr
 · cases hr
 rename_i g4
 have hf : aQ f = 0 := Decidable.not_not.1 fun e => g1 (.inl e)
 have hfo : qH c.sd f.kind = false := eq_false_of_ne_true fun e => g1 (.inr e)
 have hkk := mG hf
 unfold pH
 split
 · rename_i hk
   have hs : c.sd = 2 := by
    rcases h.sd with e | e
    · rw [e, hk] at hfo; exact absurd hfo (by decide)
    · exact e
   refine h.acpt hc hf hs ?_
   by_cases e : f.strm ≤ c.la
   · exact absurd (propext ⟨fun _ => e, fun _ => hk⟩) g2
   · omega
 rename_i hk1
 split
 · rename_i hk
   exact h.data hc hf hk (by have := fun e => g3 ⟨hk, e⟩; omega)
 rename_i hk2
 split
 · rename_i hk
   have hn : 0 ≤ f.num ∧ f.num ≤ 4294967295 := by
    have := nI hf
    unfold hX at this
    rw [hk] at this
    simpa using this
   exact h.out (Do hn.1 hn.2) hc
 rename_i hk7
 split
 · rename_i hk
   have hn : 0 ≤ f.num ∧ f.num ≤ 4294967295 := by
    have := nI hf
    unfold hX at this
    rw [hk] at this
    simpa using this
   refine ⟨⟨h.sd, h.sz, h.sw, h.rw, h.ss, h.rs, h.sh, h.la, h.aw, h.n1, h.n2, ?_, fun n hn' => ?_, h.cn, h.pk, h.asc, h.ou, h.cl, h.tt⟩, h.nf⟩
   · show ((c.pg ++ [f.num]).drop _).length ≤ 16
     rw [List.length_drop, List.length_append, List.length_singleton]
     omega
   · have := List.mem_of_mem_drop hn'
     rcases List.mem_append.1 this with hx | hx
     · exact h.pn n hx
     · obtain rfl := List.mem_singleton.1 hx
       exact hn
 rename_i hk8
 split
 · rename_i hk
   have hn : 0 ≤ f.num ∧ f.num ≤ 2147483647 := by
    have := nI hf
    unfold hX at this
    rw [hk] at this
    simpa using this
   have hs : c.sd = 1 := by
    rcases h.sd with e | e
    · exact e
    · rw [e, hk] at hfo; exact absurd hfo (by decide)
   have haw := h.aw
   refine uc (c := { c with aw := if c.aw = 0 ∨ f.num + 1 < c.aw then f.num + 1 else c.aw }) ⟨⟨h.sd, h.sz, h.sw, h.rw, h.ss, h.rs, h.sh, h.la, ?_, h.n1, fun e => (by have e' : c.sd = 2 := e; omega), h.pg, h.pn, h.cn, h.pk, h.asc, h.ou, h.cl, h.tt⟩, h.nf⟩ _
   show 0 ≤ (if c.aw = 0 ∨ f.num + 1 < c.aw then f.num + 1 else c.aw) ∧ (if c.aw = 0 ∨ f.num + 1 < c.aw then f.num + 1 else c.aw) ≤ 2147483648
   split <;> omega
 rename_i hk9
 exact h.cred hc hf ⟨by omega, by omega⟩ (fun a b => Decidable.not_not.1 fun e => g4 ⟨a, b, e⟩)
theorem VN.feed {c : NL} (h : VN c) (f : bc) : VN (dG c f).1 := by
 unfold dG
 split
 · exact h
 · rename_i hc
   split
   · exact h.close
   · rename_i hr
     exact h.act (eq_false_of_ne_true hc) (Decidable.not_not.1 hr)
end Go.Proofs.YthiocbcokfondaaGreatDoor.Y
namespace Go.Proofs.YthiocbcokfondaaGreatDoor.Y
def qg (l : List KR) : Nat := (l.map (·.ob.length)).sum
def bH (c : NL) : Nat := c.ks.length + c.ou.length + qg c.ks
theorem dQ (k : KR) (l : List KR) : qg (k :: l) = k.ob.length + qg l := by unfold qg; simp
theorem ud (a b : List KR) : qg (a ++ b) = qg a + qg b := by unfold qg; simp
theorem mH {k : KR} : ∀ {l : List KR}, k ∈ l → k.ob.length ≤ qg l
 | a :: l, h => by
  rw [dQ]
  rcases List.mem_cons.1 h with rfl | h
  · omega
  · have := mH h; omega
theorem j5 {k k' : KR} : ∀ {l : List KR} {i : Nat}, l[i]? = some k → qg (l.set i k') + k.ob.length = qg l + k'.ob.length
 | a :: l, 0, h => by
  obtain rfl := (by simpa using h : a = k)
  rw [List.set_cons_zero, dQ, dQ]; omega
 | a :: l, i + 1, h => by
  have h1 : l[i]? = some k := by simpa using h
  have := j5 (k' := k') h1
  rw [List.set_cons_succ, dQ, dQ]; omega
theorem zo {a b : List KR} (h : a.Sublist b) : qg a ≤ qg b := by
 induction h with
 | slnil => exact Nat.le_refl _
 | cons k _ ih => rw [dQ]; omega
 | cons_cons k _ ih => rw [dQ, dQ]; omega
theorem i7 : ∀ l : List ByteArray, (l.length : Int) ≤ aY l
 | [] => Int.le_refl _
 | s :: r => by rw [aY, List.length_cons]; have := i7 r; have := dP s; omega
theorem rT {k : KR} : ∀ {l : List KR}, k ∈ l → aY k.ib ≤ bg l
 | a :: l, h => by
  rw [bg]
  rcases List.mem_cons.1 h with rfl | h
  · have := ei l; omega
  · have := rT h; have := eE a.ib; omega
theorem VB.szl {c : NL} (h : VB c) (hm : bH c ≤ 500000000) : SzL c := by
 unfold bH at hm
 have hrw := br.1 h.rw
 have htt := h.tt
 refine ⟨by omega, ⟨by omega, fun f hf => by have := (gX (h.ou f hf)).1; omega⟩, by have := h.pg; omega, by omega, fun k hk => ?_⟩
 have hp := h.pk k hk
 obtain ⟨z1, z2⟩ := BR hp.he
 have hu := rT hk
 have hi := i7 k.ib
 have ho := mH hk
 refine ⟨by have : k.ms.length ≤ 16 := z2; omega, by omega, by omega, ?_, fun f hf => by have := (gX (xy hp.ahd f hf).1).1; omega, by omega, z1⟩
 cases hd : k.st.done with
 | true => have := rK (hp.vs.dn hd).2.2; omega
 | false => have := (hp.vs.nd hd).2.2.2; omega
theorem ls {c : NL} (h : VB c) {i : Nat} {k : KR} (hi : c.ks[i]? = some k) : bH (eH c i) ≤ bH c := by
 obtain ⟨q, hf⟩ := qf h.sw (h.pk k (List.mem_of_getElem? hi))
 rw [gf hi]
 generalize jk k.ob k.st c.sw c.ou = r at *
 unfold bH
 have h1 := j5 (k' := { k with st := r.st, ob := r.ob }) hi
 have h2 : k.ob.length = q.length + r.ob.length := by rw [hf.fac.sp]; simp
 have h3 : r.ou.length = c.ou.length + q.length := by rw [hf.ou]; simp
 dsimp only at h1 ⊢
 rw [List.length_set]
 omega
theorem rU {c : NL} (f : bc) : bH { c with ou := c.ou ++ [f] } = bH c + 1 := by unfold bH; simp; omega
theorem nN (c : NL) : bH (gbC c) ≤ bH c + 1 := by
 unfold gbC
 split
 · omega
 · unfold bH; simp; omega
theorem l6 {c : NL} {i : Nat} {k : KR} (hi : c.ks[i]? = some k) (g : KR → KR) (hg : (g k).ob.length ≤ k.ob.length) : bH (d7 c i g) ≤ bH c := by
 rw [bE hi]
 have h1 := j5 (k' := g k) hi
 unfold bH
 dsimp only
 rw [List.length_set]
 omega
theorem xE {c : NL} {i : Nat} {k : KR} (hi : c.ks[i]? = some k) (id : Int) : bH (gbK c i id) ≤ bH c + 1 := by
 unfold gbK
 split
 · omega
 · rw [bE hi]
   have h1 := j5 (k' := { k with st := { k.st with rcv := wv k.st.rcv (pF c i) } }) hi
   unfold bH
   dsimp only at h1 ⊢
   rw [List.length_set, List.length_append, List.length_singleton]
   omega
theorem rV (c : NL) (above : Int) : bH (pG c above) ≤ bH c := by
 have h : ∀ l : List KR, qg (l.map (ff above)) ≤ qg l := by
  intro l
  induction l with
  | nil => exact Nat.le_refl _
  | cons k r ih =>
   rw [List.map_cons, dQ, dQ]
   have : (ff above k).ob.length ≤ k.ob.length := by
    unfold ff dO
    repeat' split
    all_goals first | exact Nat.zero_le _ | exact Nat.le_refl _
   omega
 unfold bH pG
 have := h c.ks
 dsimp only
 rw [List.length_map]
 omega
theorem kJ (c : NL) : bH (eU c) ≤ bH c := by
 have h1 : bH { c with cl := true, ou := [] } ≤ bH c := by unfold bH; simp
 exact Nat.le_trans (rV _ 0) h1
theorem vc {c : NL} (h : VN c) (f : bc) (chk : Int) (hk : f.kind = 2 ∨ f.kind = 3 ∨ f.kind = 4) : bH (bG c f chk).1 ≤ bH c + 1 := by
 unfold bG
 split
 · exact Nat.le_add_right _ _
 · rename_i hw
   have hw : fE c f chk = 0 := Decidable.not_not.1 hw
   unfold fE at hw
   cases hfi : cu f.strm c.ks 0 with
   | none => rw [hfi] at hw; cases hw
   | some i =>
    obtain ⟨k, hi, hid⟩ := dh hfi
    rw [hfi] at hw
    dsimp only at hw
    rw [cV hi] at hw
    have hp := h.pk k (List.mem_of_getElem? hi)
    have e1 : chk = 0 := by
     refine Decidable.not_not.1 fun e => ?_
     rw [if_pos e] at hw; exact e hw
    rw [if_neg (by simpa using e1), if_neg (by simpa using hp.ahd)] at hw
    have hah := ll hp.ahd hw
    show bH (eH (d7 c i _) i) ≤ _
    rw [bE hi]
    have hb : VB { c with ks := c.ks.set i { k with ob := k.ob ++ [f] } } := by
     refine h.toVB.upd (k' := { k with ob := k.ob ++ [f] }) (sw' := c.sw) (rw' := c.rw) (ou' := c.ou) hi ?_ rfl (fun e => e) h.sw h.ss h.sh h.rw h.rs h.ou (fun e => (h.cl e).1) ?_
     · refine ⟨hp.vs, hp.sd, hp.z1, hp.z2, hp.h0, hp.he, hp.ib, hp.la, fun e => ?_, hp.un, fun _ => hah, fun x hx => ?_⟩
       · have hob := hp.dn e
         rw [hob, db] at hw
         exact absurd hw (j3 (s := fW k.st) e)
       · rcases List.mem_append.1 hx with hx | hx
         · exact hp.kd x hx
         · obtain rfl := List.mem_singleton.1 hx
           exact hk
     · rw [de hi]
       have := h.tt
       show bg c.ks - aY k.ib + aY k.ib ≤ c.rw.held
       omega
    have hil := (List.getElem?_eq_some_iff.1 hi).1
    refine Nat.le_trans (ls hb (i := i) (k := { k with ob := k.ob ++ [f] }) (List.getElem?_set_self hil)) ?_
    have h1 := j5 (k' := { k with ob := k.ob ++ [f] }) hi
    unfold bH
    dsimp only at h1 ⊢
    rw [List.length_append, List.length_singleton] at h1
    rw [List.length_set]
    omega
theorem rW {c : NL} (id code : Int) : bH (eC c id code).1 ≤ bH c + 1 := by
 unfold eC
 split
 · exact Nat.le_add_right _ _
 · rename_i hw
   have hw : jt c id code = 0 := Decidable.not_not.1 hw
   unfold jt at hw
   cases hfi : cu id c.ks 0 with
   | none => rw [hfi] at hw; cases hw
   | some i =>
    obtain ⟨k, hi, hid⟩ := dh hfi
    show bH { d7 c i _ with ou := _ } ≤ _
    have h1 := l6 hi (fun k => dO { k with st := (bB k.st ⟨5, id, code, emptyB⟩).st }) (by unfold dO; split <;> first | exact Nat.zero_le _ | exact Nat.le_refl _)
    rw [bE hi] at h1 ⊢
    unfold bH at h1 ⊢
    dsimp only at h1 ⊢
    rw [List.length_append, List.length_singleton]
    omega
theorem vd {c : NL} (id : Int) : bH (dD c id).1 ≤ bH c + 2 := by
 unfold dD
 cases hfi : cu id c.ks 0 with
 | none => exact Nat.le_add_right _ _
 | some i =>
  obtain ⟨k, hi, hid⟩ := dh hfi
  dsimp only
  rw [cV hi]
  cases hib : k.ib with
  | nil => exact Nat.le_add_right _ _
  | cons s r =>
   dsimp only
   have h1 := l6 hi (fun k => { k with ib := r }) (Nat.le_refl _)
   have hil := (List.getElem?_eq_some_iff.1 hi).1
   refine Nat.le_trans (nN _) ?_
   split
   · omega
   · have h2 := xE (c := d7 c i (fun k => { k with ib := r })) (i := i) (k := { k with ib := r }) (by rw [bE hi]; exact List.getElem?_set_self hil) id
     omega
theorem ve {c : NL} (id : Int) : bH (fF c id) ≤ bH c + 1 := by
 unfold fF
 cases hfi : cu id c.ks 0 with
 | none => exact Nat.le_add_right _ _
 | some i =>
  dsimp only
  split
  · omega
  · refine Nat.le_trans (nN _) ?_
    have h1 : (c.ks.eraseIdx i).Sublist c.ks := List.eraseIdx_sublist ..
    have := zo h1
    have := h1.length_le
    unfold bH
    dsimp only
    omega
theorem vf {c : NL} (hd : jh) (sh : Int) : bH (bu c hd sh).1 ≤ bH c + 2 := by
 unfold bu
 split
 · exact Nat.le_add_right _ _
 · unfold bH
   dsimp only
   rw [ud, dQ]
   simp only [List.length_append, List.length_singleton]
   show _ + (0 + qg []) ≤ _
   unfold qg
   simp
   omega
theorem nO : ∀ (n i : Nat) (c : NL), VB c → i + n = c.ks.length → bH (iw c n i) ≤ bH c
 | 0, i, c, h, hl => Nat.le_refl _
 | n + 1, i, c, h, hl => by
  have hil : i < c.ks.length := by omega
  have hi : c.ks[i]? = some c.ks[i] := List.getElem?_eq_getElem hil
  obtain ⟨h1, h2, h3⟩ := h.son hi
  rw [iw]
  have := nO n (i + 1) (eH c i) h1 (by rw [nM]; omega)
  have := ls h hi
  omega
theorem nP {c : NL} {i : Nat} {k k' : KR} (hi : c.ks[i]? = some k) {f : bc} {e : List bc} (hr : zn c i k f k' e) : bH (eo c i f) ≤ bH c + 1 := by
 rw [hr.eq]
 have h1 := j5 (k' := k') hi
 have h2 : k'.ob.length ≤ k.ob.length ∧ e.length ≤ 1 := by
  by_cases he : (bT k.st f).err = 0
  · obtain ⟨e1, e2⟩ := hr.ok he
    rw [e1, e2]
    refine ⟨?_, Nat.zero_le _⟩
    unfold dO
    split
    · exact Nat.zero_le _
    · exact Nat.le_refl _
  · obtain ⟨e1, e2⟩ := hr.no he
    rw [e1, e2]
    exact ⟨Nat.zero_le _, Nat.le_refl _⟩
 unfold bH
 dsimp only
 rw [List.length_set, List.length_append]
 omega
theorem vg {c : NL} (h : VN c) (f : bc) : bH (dG c f).1 ≤ bH c + 2 := by
 unfold dG
 split
 · exact Nat.le_add_right _ _
 rename_i hc0
 have hc : c.cl = false := eq_false_of_ne_true hc0
 split
 · have := kJ c
   dsimp only; omega
 rename_i hr
 have hr : j7 c f = 0 := Decidable.not_not.1 hr
 unfold j7 at hr
 split at hr
 · cases hr
 rename_i g1
 split at hr
 · cases hr
 rename_i g2
 split at hr
 · cases hr
 rename_i g3
 split at hr
 · cases hr
 rename_i g4
 have hf : aQ f = 0 := Decidable.not_not.1 fun e => g1 (.inl e)
 have hkk := mG hf
 dsimp only
 unfold pH
 split
 · unfold gO
   split
   · unfold bH; dsimp only; rw [List.length_append, List.length_singleton]; omega
   · unfold bH
     dsimp only
     rw [ud, dQ]
     simp only [List.length_append, List.length_singleton]
     show _ + (0 + qg []) ≤ _
     unfold qg
     simp
     omega
 rename_i hk1
 split
 · rename_i hk
   have hl : aT f.data ≤ c.rw.left := by have := fun e => g3 ⟨hk, e⟩; omega
   obtain ⟨e1, h1⟩ := l5 h hl
   have hm : bH (dF c f) = bH c := by rw [e1]; rfl
   have hks : (dF c f).ks = c.ks := by rw [e1]
   unfold kZ
   refine Nat.le_trans (nN _) ?_
   cases hfi : cu f.strm c.ks 0 with
   | none => dsimp only; omega
   | some i =>
    obtain ⟨k, hi, hid⟩ := dh hfi
    dsimp only
    have hi1 : (dF c f).ks[i]? = some k := by rw [hks]; exact hi
    obtain ⟨k', e, hrr⟩ := gY h1 hi1 hf hid.symm ⟨by omega, by omega⟩
    have h3 := nP hi1 hrr
    obtain ⟨v1, v2, v3, v4⟩ := jH h1 (by rw [e1]; exact hc) hi1 hrr
    split
    · have := l6 v3 (fun k => { k with ib := k.ib ++ [f.data] }) (Nat.le_refl _)
      omega
    · omega
 rename_i hk2
 split
 · rw [rU]; omega
 rename_i hk7
 split
 · unfold bH; dsimp only; omega
 rename_i hk8
 split
 · refine Nat.le_trans (rV _ _) ?_
   unfold bH; dsimp only; omega
 rename_i hk9
 unfold fR
 split
 · rename_i h0
   have h6 : f.kind = 6 := by
    have := mF hf
    unfold eS at this
    rw [if_neg (by omega)] at this
    by_cases e : f.kind = 6
    · exact e
    · rw [if_neg e, h0] at this; cases this
   have hge : (cR c.sw f.num).err = 0 := Decidable.not_not.1 fun e => g4 ⟨h6, h0, e⟩
   obtain ⟨a, b, d, e⟩ := li hge
   rw [if_pos hge, e]
   refine Nat.le_trans (nO _ 0 _ ⟨h.sd, h.sz, lj h.sw b d, h.rw, h.ss, h.rs, h.sh, h.la, h.aw, h.n1, h.n2, h.pg, h.pn, h.cn, h.pk, h.asc, h.ou, h.cl, h.tt⟩ (by show 0 + c.ks.length = c.ks.length; omega)) ?_
   unfold bH; dsimp only; omega
 · cases hfi : cu f.strm c.ks 0 with
   | none => dsimp only; omega
   | some i =>
    obtain ⟨k, hi, hid⟩ := dh hfi
    obtain ⟨k', e, hrr⟩ := gY h hi hf hid.symm ⟨by omega, by omega⟩
    obtain ⟨v1, v2, v3, v4⟩ := jH h hc hi hrr
    have h3 := nP hi hrr
    have h4 := ls v1 v3
    dsimp only
    omega
theorem rX (c : NL) (s : cE) : ∀ l : List bc, (∀ f ∈ l, f.kind = 2 ∨ f.kind = 3 ∨ f.kind = 4) → eI c l false s = true
 | [], _ => by rw [eI]
 | f :: r, h => by
  rw [eI, rX c s r (fun x hx => h x (List.mem_cons_of_mem _ hx))]
  rcases h f (List.mem_cons_self ..) with e | e | e <;> rw [e] <;> rfl
theorem PK.callOk {c : NL} {k : KR} (h : PK c.sd c.sz c.la k) (hn : NF c.sw k) (hw : bm c.sw = true) : callOk c k = true := by
 unfold Y.callOk
 rw [gE.2 h.vs, h.sd, h.z1, h.z2, h.h0, h.he, show (k.ib.all fun m => decide (m.size ≤ 16384)) = true from List.all_eq_true.2 fun m hm => decide_eq_true (h.ib m hm)]
 simp only [decide_true, Bool.and_true, Bool.true_and]
 cases hd : k.st.done with
 | true => rw [if_pos rfl, h.dn hd]; rfl
 | false =>
  rw [if_neg (by simp), decide_eq_true (h.un hd), decide_eq_true (h.ah hd), Bool.true_and, Bool.true_and]
  cases ho : k.ob with
  | nil => rw [eI]
  | cons f r =>
   have hk := h.kd
   rw [ho] at hk
   rw [eI, rX c k.st r (fun x hx => hk x (List.mem_cons_of_mem _ hx))]
   have h1 := hn f r ho
   have h2 : f.kind = 2 := by
    refine Decidable.not_not.1 fun e => ?_
    rw [b9, if_neg e] at h1
    have a := br.1 h.vs.sn
    have b := br.1 hw
    omega
   rw [iZ h2] at h1
   rw [h2]
   rcases h1 with h1 | h1
   · rw [decide_eq_false (show ¬ aT f.data ≤ k.st.snd.left by omega)]; rfl
   · rw [decide_eq_false (show ¬ aT f.data ≤ c.sw.left by omega), Bool.and_false]; rfl
theorem xF : ∀ (l : List KR) (p : Option Int), (∀ x, p = some x → ∀ k ∈ l, x < k.st.id) → (l.map (·.st.id)).Pairwise (· < ·) → ascB p l = true
 | [], _, _, _ => by rw [ascB.eq_def]
 | k :: r, p, h, hp => by
  rw [List.map_cons, List.pairwise_cons] at hp
  rw [ascB.eq_def]
  dsimp only
  rw [xF r (some k.st.id) (fun x e y hy => by obtain rfl := Option.some.inj e; exact hp.1 _ (List.mem_map_of_mem hy)) hp.2, Bool.and_true]
  cases p with
  | none => rfl
  | some x => exact decide_eq_true (h x rfl k (List.mem_cons_self ..))
theorem VB.acts {c : NL} (h : VB c) : l3 c.ks = dN c.ks := xn (xF c.ks none (fun _ e => by cases e) h.asc)
end Go.Proofs.YthiocbcokfondaaGreatDoor.Y
namespace Go.Proofs.YthiocbcokfondaaGreatDoor.Y
structure vi where
 kind : Int
 id : Int
 n : Int
 msg : ByteArray
 h : jh
 f : bc
 tc : Int
 tt : ByteArray
structure Cz where
 e : Int
 id : Int
 msg : ByteArray
 ok : Bool
 outs : List bc
def rY (e : Int) : Cz := ⟨e, 0, ⟨#[]⟩, false, []⟩
def cS (c : NL) (o : vi) : NL :=
 if o.kind = 0 then (bu c o.h o.n).1 else if o.kind = 1 then (jb c o.id o.msg).1 else if o.kind = 2 then (kg c o.id).1
 else if o.kind = 3 then (kh c o.id o.tc o.tt).1 else if o.kind = 4 then (eC c o.id o.n).1 else if o.kind = 5 then (dD c o.id).1
 else if o.kind = 6 then (dG c o.f).1 else if o.kind = 7 then (kY c).1 else if o.kind = 8 then (eT c o.n).1
 else if o.kind = 9 then iv c else if o.kind = 10 then eU c else if o.kind = 11 then fF c o.id else c
def cW (c : NL) (o : vi) : Cz :=
 if o.kind = 0 then ⟨(bu c o.h o.n).2.2, (bu c o.h o.n).2.1, ⟨#[]⟩, false, []⟩ else if o.kind = 1 then rY (jb c o.id o.msg).2 else if o.kind = 2 then rY (kg c o.id).2
 else if o.kind = 3 then rY (kh c o.id o.tc o.tt).2 else if o.kind = 4 then rY (eC c o.id o.n).2 else if o.kind = 5 then ⟨0, 0, (dD c o.id).2.1, (dD c o.id).2.2, []⟩
 else if o.kind = 6 then rY (dG c o.f).2 else if o.kind = 7 then ⟨0, 0, ⟨#[]⟩, false, (kY c).2⟩ else if o.kind = 8 then rY (eT c o.n).2 else rY 0
set_option maxHeartbeats 2000000 in
theorem nQ {c : NL} (o : vi) (p : NL → Prop) (h0 : p c) (h1 : p (bu c o.h o.n).1) (h2 : ∀ f chk, (f.kind = 2 ∨ f.kind = 3 ∨ f.kind = 4) → p (bG c f chk).1) (h3 : p (eC c o.id o.n).1) (h4 : p (dD c o.id).1) (h5 : o.kind = 6 → p (dG c o.f).1) (h6 : o.kind = 7 → p (kY c).1) (h7 : p (eT c o.n).1) (h8 : p (iv c)) (h9 : p (eU c)) (h10 : p (fF c o.id)) : p (cS c o) := by
 unfold cS
 split
 · exact h1
 split
 · exact h2 _ _ (.inl rfl)
 split
 · exact h2 _ _ (.inr (.inl rfl))
 split
 · exact h2 _ _ (.inr (.inr rfl))
 split
 · exact h3
 split
 · exact h4
 split
 · rename_i h; exact h5 h
 split
 · rename_i h; exact h6 h
 split
 · exact h7
 split
 · exact h8
 split
 · exact h9
 split
 · exact h10
 · exact h0
theorem VN.step {c : NL} (h : VN c) (o : vi) : VN (cS c o) :=
 nQ o VN h (h.open _ _) (fun f chk hk => h.wait f chk hk) (h.cancel _ _) (h.read _) (fun _ => h.feed _) (fun _ => h.flush) (h.ping _) h.away h.close (h.drop _)
theorem vj {c : NL} (h : VN c) (o : vi) : bH (cS c o) ≤ bH c + 2 :=
 nQ o (fun d => bH d ≤ bH c + 2) (Nat.le_add_right _ _) (vf _ _) (fun f chk hk => by have := vc h f chk hk; omega) (by have := rW (c := c) o.id o.n; omega) (vd _) (fun _ => vg h _) (fun _ => by unfold kY bH; dsimp only; simp; omega)
  (by
   unfold eT
   split
   · exact Nat.le_add_right _ _
   · split
     · exact Nat.le_add_right _ _
     · dsimp only; rw [rU]; omega)
  (by
   unfold iv
   split
   · unfold bH; dsimp only; rw [List.length_append, List.length_singleton]; omega
   · exact Nat.le_add_right _ _)
  (by have := kJ c; omega) (by have := ve (c := c) o.id; omega)
structure K2 (k k' : KR) : Prop where
 id : k'.st.id = k.st.id
 st : k.st.done = true → k'.st.done = true ∧ k'.st.code = k.st.code ∧ k'.st.text = k.st.text
theorem K2.refl (k : KR) : K2 k k := ⟨rfl, fun h => ⟨h, rfl, rfl⟩⟩
theorem K2.trans {a b d : KR} (h1 : K2 a b) (h2 : K2 b d) : K2 a d := ⟨h2.id.trans h1.id, fun h => by
 obtain ⟨x, y, z⟩ := h1.st h
 obtain ⟨x', y', z'⟩ := h2.st x
 exact ⟨x', y'.trans y, z'.trans z⟩⟩
def Kq (l l' : List KR) : Prop := ∀ k ∈ l, ∃ k' ∈ l', K2 k k'
def Kp (l l' : List KR) : Prop := ∀ k ∈ l, (∃ k' ∈ l', K2 k k') ∨ (k.st.done = true ∧ ∀ y ∈ l', y.st.id ≠ k.st.id)
theorem Kq.kp {l l' : List KR} (h : Kq l l') : Kp l l' := fun k hk => .inl (h k hk)
theorem Kq.refl (l : List KR) : Kq l l := fun k hk => ⟨k, hk, .refl k⟩
theorem Kq.trans {a b d : List KR} (h1 : Kq a b) (h2 : Kq b d) : Kq a d := fun k hk => by
 obtain ⟨k1, hk1, e1⟩ := h1 k hk
 obtain ⟨k2, hk2, e2⟩ := h2 k1 hk1
 exact ⟨k2, hk2, e1.trans e2⟩
theorem Kq.set {l : List KR} {i : Nat} {k k' : KR} (hi : l[i]? = some k) (h : K2 k k') : Kq l (l.set i k') := fun x hx => by
 obtain ⟨j, hj⟩ := List.getElem?_of_mem hx
 by_cases e : i = j
 · subst e
   rw [hi] at hj
   obtain rfl := Option.some.inj hj
   exact ⟨k', List.mem_of_getElem? (List.getElem?_set_self (List.getElem?_eq_some_iff.1 hi).1), h⟩
 · exact ⟨x, List.mem_of_getElem? (by rw [List.getElem?_set_ne e]; exact hj), .refl x⟩
theorem Kq.app (l r : List KR) : Kq l (l ++ r) := fun k hk => ⟨k, List.mem_append_left _ hk, .refl k⟩
theorem mI {c : NL} {i : Nat} {k : KR} (hi : c.ks[i]? = some k) {g : KR → KR} (h : K2 k (g k)) : Kq c.ks (d7 c i g).ks := by
 rw [bE hi]; exact Kq.set hi h
theorem s9 {c : NL} (h : VB c) {i : Nat} {k : KR} (hi : c.ks[i]? = some k) : Kq c.ks (eH c i).ks := by
 rw [gf hi]
 have hp := h.pk k (List.mem_of_getElem? hi)
 obtain ⟨q, hf⟩ := qf h.sw hp
 refine Kq.set hi ⟨hf.fac.kp.id, fun hd => ?_⟩
 show (jk k.ob k.st c.sw c.ou).st.done = true ∧ _
 rw [hp.dn hd, jk]
 exact ⟨hd, rfl, rfl⟩
theorem xG (c : NL) : Kq c.ks (gbC c).ks := by
 unfold gbC
 split <;> exact Kq.refl _
theorem AP {c : NL} {i : Nat} {k : KR} (hi : c.ks[i]? = some k) (id : Int) : Kq c.ks (gbK c i id).ks := by
 unfold gbK
 split
 · exact Kq.refl _
 · exact mI (g := fun k => { k with st := { k.st with rcv := wv k.st.rcv (pF c i) } }) hi ⟨rfl, fun h => ⟨h, rfl, rfl⟩⟩
theorem ue {k : KR} : K2 k (dO k) := by
 unfold dO
 split
 · exact ⟨rfl, fun h => ⟨h, rfl, rfl⟩⟩
 · exact K2.refl k
theorem AQ (above : Int) (k : KR) : K2 k (ff above k) := by
 unfold ff
 split
 · rename_i hc
   refine K2.trans (b := { k with st := nb k.st 12 emptyB }) ⟨?_, fun h => by rw [hc.1] at h; cases h⟩ ue
   show (nb k.st 12 emptyB).id = k.st.id
   unfold nb dY
   split <;> rfl
 · exact K2.refl k
theorem te (c : NL) (above : Int) : Kq c.ks (pG c above).ks := fun k hk => ⟨ff above k, List.mem_map_of_mem hk, AQ above k⟩
theorem xH {c : NL} {i : Nat} {k k' : KR} (hi : c.ks[i]? = some k) {f : bc} {e : List bc} (hr : zn c i k f k' e) : Kq c.ks (eo c i f).ks := by
 rw [hr.eq]
 exact Kq.set hi ⟨hr.id, fun h => by rw [hr.dn h]; exact ⟨h, rfl, rfl⟩⟩
theorem rZ : ∀ (n i : Nat) (c : NL), VB c → i + n = c.ks.length → Kq c.ks (iw c n i).ks
 | 0, _, c, _, _ => Kq.refl _
 | n + 1, i, c, h, hl => by
  have hil : i < c.ks.length := by omega
  have hi : c.ks[i]? = some c.ks[i] := List.getElem?_eq_getElem hil
  rw [iw]
  exact (s9 h hi).trans (rZ n (i + 1) (eH c i) (h.son hi).1 (by rw [nM]; omega))
theorem VN.waitVB {c : NL} (h : VN c) {f : bc} {i : Nat} {k : KR} (hi : c.ks[i]? = some k) (hk : f.kind = 2 ∨ f.kind = 3 ∨ f.kind = 4) (hw : (bB (db k.ob k.st).st f).err = 0) : VB { c with ks := c.ks.set i { k with ob := k.ob ++ [f] } } ∧ k.st.done = false := by
 have hp := h.pk k (List.mem_of_getElem? hi)
 have hah := ll hp.ahd hw
 have hnd : k.st.done = false := eq_false_of_ne_true fun e => by
  rw [hp.dn e, db] at hw
  exact absurd hw (j3 (s := fW k.st) e)
 refine ⟨h.toVB.upd (k' := { k with ob := k.ob ++ [f] }) (sw' := c.sw) (rw' := c.rw) (ou' := c.ou) hi ?_ rfl (fun e => e) h.sw h.ss h.sh h.rw h.rs h.ou (fun e => (h.cl e).1) ?_, hnd⟩
 · refine ⟨hp.vs, hp.sd, hp.z1, hp.z2, hp.h0, hp.he, hp.ib, hp.la, (fun e => by rw [show ({ k with ob := k.ob ++ [f] } : KR).st.done = false from hnd] at e; cases e), hp.un, fun _ => hah, fun x hx => ?_⟩
   rcases List.mem_append.1 hx with hx | hx
   · exact hp.kd x hx
   · obtain rfl := List.mem_singleton.1 hx
     exact hk
 · rw [de hi]
   have := h.tt
   show bg c.ks - aY k.ib + aY k.ib ≤ c.rw.held
   omega
theorem xI {c : NL} (h : VN c) (f : bc) (chk : Int) : (bG c f chk).1 = c ∧ (bG c f chk).2 ≠ 0 ∨ ∃ i k, cu f.strm c.ks 0 = some i ∧ c.ks[i]? = some k ∧ k.st.id = f.strm ∧ chk = 0 ∧ (bB (db k.ob k.st).st f).err = 0 ∧ bG c f chk = (eH { c with ks := c.ks.set i { k with ob := k.ob ++ [f] } } i, 0) := by
 unfold bG
 by_cases hw : fE c f chk = 0
 · rw [if_neg (by simpa using hw)]
   unfold fE at hw
   cases hfi : cu f.strm c.ks 0 with
   | none => rw [hfi] at hw; cases hw
   | some i =>
    obtain ⟨k, hi, hid⟩ := dh hfi
    rw [hfi] at hw
    dsimp only at hw
    rw [cV hi] at hw
    have hp := h.pk k (List.mem_of_getElem? hi)
    have e1 : chk = 0 := by
     refine Decidable.not_not.1 fun e => ?_
     rw [if_pos e] at hw; exact e hw
    rw [if_neg (by simpa using e1), if_neg (by simpa using hp.ahd)] at hw
    refine .inr ⟨i, k, rfl, hi, hid, e1, hw, ?_⟩
    show (eH (d7 c i _) i, (0 : Int)) = _
    rw [bE hi]
 · rw [if_pos hw]
   exact .inl ⟨rfl, hw⟩
theorem xJ {c : NL} {i : Nat} {k : KR} (hi : c.ks[i]? = some k) (k' : KR) : ({ c with ks := c.ks.set i k' } : NL).ks[i]? = some k' := List.getElem?_set_self (List.getElem?_eq_some_iff.1 hi).1
theorem zp {c : NL} (h : VN c) (f : bc) (chk : Int) (hk : f.kind = 2 ∨ f.kind = 3 ∨ f.kind = 4) : Kq c.ks (bG c f chk).1.ks := by
 rcases xI h f chk with ⟨e, _⟩ | ⟨i, k, hfi, hi, hid, hc, hw, e⟩
 · rw [e]; exact Kq.refl _
 · rw [e]
   obtain ⟨vb, hnd⟩ := h.waitVB hi hk hw
   exact (Kq.set (k' := { k with ob := k.ob ++ [f] }) hi ⟨rfl, fun e => by rw [hnd] at e; cases e⟩).trans (s9 vb (xJ hi _))
theorem vk {c : NL} (id code : Int) : Kq c.ks (eC c id code).1.ks := by
 unfold eC
 split
 · exact Kq.refl _
 · rename_i hw
   have hw : jt c id code = 0 := Decidable.not_not.1 hw
   unfold jt at hw
   cases hfi : cu id c.ks 0 with
   | none => rw [hfi] at hw; cases hw
   | some i =>
    obtain ⟨k, hi, hid⟩ := dh hfi
    rw [hfi] at hw
    dsimp only at hw
    rw [cV hi] at hw
    have ho := fc hw
    exact mI (g := fun k => dO { k with st := (bB k.st ⟨5, id, code, emptyB⟩).st }) hi (K2.trans (b := { k with st := (bB k.st ⟨5, id, code, emptyB⟩).st }) ⟨ho.kept.id, fun e => by rw [ho.d] at e; cases e⟩ ue)
theorem zq {c : NL} (id : Int) : Kq c.ks (dD c id).1.ks := by
 unfold dD
 cases hfi : cu id c.ks 0 with
 | none => exact Kq.refl _
 | some i =>
  obtain ⟨k, hi, hid⟩ := dh hfi
  dsimp only
  rw [cV hi]
  cases hib : k.ib with
  | nil => exact Kq.refl _
  | cons s r =>
   dsimp only
   have h1 : Kq c.ks (d7 c i (fun k => { k with ib := r })).ks := mI (g := fun k => { k with ib := r }) hi ⟨rfl, fun h => ⟨h, rfl, rfl⟩⟩
   have h2 : (d7 c i (fun k => { k with ib := r })).ks[i]? = some { k with ib := r } := by rw [bE hi]; exact xJ hi _
   refine Kq.trans ?_ (xG _)
   split
   · exact h1
   · exact h1.trans (AP h2 id)
theorem zr {c : NL} (h : VN c) (f : bc) : Kq c.ks (dG c f).1.ks := by
 unfold dG
 split
 · exact Kq.refl _
 rename_i hc0
 have hc : c.cl = false := eq_false_of_ne_true hc0
 split
 · exact te { c with cl := true, ou := [] } 0
 rename_i hr
 have hr : j7 c f = 0 := Decidable.not_not.1 hr
 unfold j7 at hr
 split at hr
 · cases hr
 rename_i g1
 split at hr
 · cases hr
 rename_i g2
 split at hr
 · cases hr
 rename_i g3
 split at hr
 · cases hr
 rename_i g4
 have hf : aQ f = 0 := Decidable.not_not.1 fun e => g1 (.inl e)
 have hkk := mG hf
 dsimp only
 unfold pH
 split
 · unfold gO
   split
   · exact Kq.refl _
   · exact Kq.app _ _
 rename_i hk1
 split
 · rename_i hk
   have hl : aT f.data ≤ c.rw.left := by have := fun e => g3 ⟨hk, e⟩; omega
   obtain ⟨e1, h1⟩ := l5 h hl
   have hks : (dF c f).ks = c.ks := by rw [e1]
   unfold kZ
   refine Kq.trans ?_ (xG _)
   cases hfi : cu f.strm c.ks 0 with
   | none => dsimp only; rw [hks]; exact Kq.refl _
   | some i =>
    obtain ⟨k, hi, hid⟩ := dh hfi
    dsimp only
    have hi1 : (dF c f).ks[i]? = some k := by rw [hks]; exact hi
    obtain ⟨k', e, hrr⟩ := gY h1 hi1 hf hid.symm ⟨by omega, by omega⟩
    obtain ⟨v1, v2, v3, v4⟩ := jH h1 (by rw [e1]; exact hc) hi1 hrr
    have h3 := xH hi1 hrr
    rw [hks] at h3
    split
    · exact h3.trans (mI (g := fun k => { k with ib := k.ib ++ [f.data] }) v3 ⟨rfl, fun h => ⟨h, rfl, rfl⟩⟩)
    · exact h3
 rename_i hk2
 split
 · exact Kq.refl _
 rename_i hk7
 split
 · exact Kq.refl _
 rename_i hk8
 split
 · exact te { c with aw := if c.aw = 0 ∨ f.num + 1 < c.aw then f.num + 1 else c.aw } f.num
 rename_i hk9
 unfold fR
 split
 · rename_i h0
   have h6 : f.kind = 6 := by
    have := mF hf
    unfold eS at this
    rw [if_neg (by omega)] at this
    by_cases e : f.kind = 6
    · exact e
    · rw [if_neg e, h0] at this; cases this
   have hge : (cR c.sw f.num).err = 0 := Decidable.not_not.1 fun e => g4 ⟨h6, h0, e⟩
   obtain ⟨a, b, d, e⟩ := li hge
   rw [if_pos hge, e]
   exact rZ _ 0 { c with sw := ⟨c.sw.size, c.sw.left + f.num, c.sw.held⟩ } ⟨h.sd, h.sz, lj h.sw b d, h.rw, h.ss, h.rs, h.sh, h.la, h.aw, h.n1, h.n2, h.pg, h.pn, h.cn, h.pk, h.asc, h.ou, h.cl, h.tt⟩ (by show 0 + c.ks.length = c.ks.length; omega)
 · cases hfi : cu f.strm c.ks 0 with
   | none => exact Kq.refl _
   | some i =>
    obtain ⟨k, hi, hid⟩ := dh hfi
    obtain ⟨k', e, hrr⟩ := gY h hi hf hid.symm ⟨by omega, by omega⟩
    obtain ⟨v1, v2, v3, v4⟩ := jH h hc hi hrr
    exact (xH hi hrr).trans (s9 v1 v3)
theorem qh {l : List KR} (h : (l.map (·.st.id)).Pairwise (· < ·)) {i j : Nat} {a b : KR} (hi : l[i]? = some a) (hj : l[j]? = some b) (e : a.st.id = b.st.id) : i = j := by
 have h1 : ∀ {i j : Nat} {a b : KR}, l[i]? = some a → l[j]? = some b → i < j → a.st.id < b.st.id := fun {i j a b} hi hj hij => by
  obtain ⟨hi1, hi2⟩ := List.getElem?_eq_some_iff.1 hi
  obtain ⟨hj1, hj2⟩ := List.getElem?_eq_some_iff.1 hj
  have := List.pairwise_iff_getElem.1 h i j (by rw [List.length_map]; exact hi1) (by rw [List.length_map]; exact hj1) hij
  rw [List.getElem_map, List.getElem_map, hi2, hj2] at this
  exact this
 rcases Nat.lt_trichotomy i j with hh | hh | hh
 · have := h1 hi hj hh; omega
 · exact hh
 · have := h1 hj hi hh; omega
theorem zt {c : NL} (h : VN c) (id : Int) : Kp c.ks (fF c id).ks := by
 unfold fF
 cases hfi : cu id c.ks 0 with
 | none => exact (Kq.refl _).kp
 | some i =>
  obtain ⟨k, hi, hid⟩ := dh hfi
  dsimp only
  rw [cV hi]
  split
  · exact (Kq.refl _).kp
  · rename_i hd
    have hd : k.st.done = true := by simpa using hd
    have e : (gbC { c with ks := c.ks.eraseIdx i }).ks = c.ks.eraseIdx i := by unfold gbC; split <;> rfl
    rw [e]
    intro x hx
    obtain ⟨j, hj⟩ := List.getElem?_of_mem hx
    by_cases hij : j = i
    · subst hij
      rw [hi] at hj
      obtain rfl := Option.some.inj hj
      refine .inr ⟨hd, fun y hy e => ?_⟩
      obtain ⟨n, hn⟩ := List.getElem?_of_mem hy
      rw [List.getElem?_eraseIdx] at hn
      split at hn
      · have := qh h.asc hn hi e; omega
      · have := qh h.asc hn hi e; omega
    · refine .inl ⟨x, ?_, .refl x⟩
      have : x ∈ c.ks.eraseIdx i := by
       rw [List.mem_eraseIdx_iff_getElem?]
       exact ⟨j, hij, hj⟩
      exact this
theorem zu {c : NL} (h : VN c) (o : vi) : Kp c.ks (cS c o).ks :=
 nQ o (fun d => Kp c.ks d.ks) (Kq.refl _).kp
  (by
   unfold bu
   split
   · exact (Kq.refl _).kp
   · exact (Kq.app _ _).kp)
  (fun f chk hk => (zp h f chk hk).kp) (vk _ _).kp (zq _).kp (fun _ => (zr h _).kp) (fun _ => (Kq.refl _).kp)
  (by
   unfold eT
   split
   · exact (Kq.refl _).kp
   · split <;> exact (Kq.refl _).kp)
  (by
   unfold iv
   split <;> exact (Kq.refl _).kp)
  (te { c with cl := true, ou := [] } 0).kp (zt h _)
def xK (k : KR) (y : KR) (ok : Bool) : Bool := !(k.st.done && ok && (!y.st.done || (y.st.code != k.st.code || !(y.st.text.toList == k.st.text.toList))) || !ok && !k.st.done)
theorem r5 {id : Int} : ∀ {l : List KR} {a : Nat}, (∀ k ∈ l, k.st.id ≠ id) → cu id l a = none
 | [], _, _ => rfl
 | k :: r, a, h => by
  rw [cu, if_neg (h k (List.mem_cons_self ..))]
  exact r5 fun x hx => h x (List.mem_cons_of_mem _ hx)
theorem pb {id : Int} : ∀ {l : List KR} {a i : Nat} {k : KR}, l[i]? = some k → k.st.id = id → ∃ j, cu id l a = some (a + j) ∧ ∃ k', l[j]? = some k' ∧ k'.st.id = id
 | [], _, _, _, h, _ => by simp at h
 | x :: r, a, i, k, h, e => by
  rw [cu]
  by_cases hx : x.st.id = id
  · rw [if_pos hx]
    exact ⟨0, rfl, x, rfl, hx⟩
  · rw [if_neg hx]
    cases i with
    | zero => obtain rfl := (by simpa using h : x = k); exact absurd e hx
    | succ i =>
     obtain ⟨j, h1, k', h2, h3⟩ := pb (a := a + 1) (show r[i]? = some k by simpa using h) e
     exact ⟨j + 1, by rw [h1]; congr 1; omega, k', by simpa using h2, h3⟩
theorem vm {l : List KR} (h : (l.map (·.st.id)).Pairwise (· < ·)) {i : Nat} {k : KR} (hi : l[i]? = some k) : cu k.st.id l 0 = some i := by
 obtain ⟨j, h1, k', h2, h3⟩ := pb (a := 0) hi rfl
 rw [h1, Nat.zero_add]
 rw [qh h h2 hi h3]
theorem zv {c d : NL} (h : VN d) (hk : Kp c.ks d.ks) {k : KR} (hm : k ∈ c.ks) : xK k (gN d k.st.id).1 (gN d k.st.id).2 = true := by
 unfold xK gN
 rcases hk k hm with ⟨k', hk', e⟩ | ⟨hd, hn⟩
 · obtain ⟨i, hi⟩ := List.getElem?_of_mem hk'
   rw [← e.id, vm h.asc hi]
   dsimp only
   rw [cV hi]
   cases hdn : k.st.done with
   | false => rfl
   | true =>
    obtain ⟨a, b, t⟩ := e.st hdn
    rw [a, b, t]
    simp
 · rw [r5 hn, hd]
   rfl
theorem vn {c : NL} (h : VN c) : (eU c).cl = true ∧ (eU c).ou = [] ∧ (∀ k ∈ (eU c).ks, k.st.done = true) ∧ ∀ f, (dG (eU c) f).2 = 20 :=
 ⟨rfl, rfl, nL h, fun f => by unfold dG; exact congrArg Prod.snd (if_pos rfl)⟩
end Go.Proofs.YthiocbcokfondaaGreatDoor.Y
