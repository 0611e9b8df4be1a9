/- Texts of this claim merged into one: BVFed, BVSz, BVStp. -/
import Derived.Test.YthiocbcokfondaaGreatDoorBBunP
namespace Go.Proofs.YthiocbcokfondaaGreatDoor.Y
structure AR (c : NL) (i : Nat) (k : KR) (f : bd) (k' : KR) (e : List bd) : Prop where
 eq : eu c i f = { c with ks := c.ks.set i k', ou := c.ou ++ e }
 pk : PK c.sd c.sz c.la k'
 id : k'.st.id = k.st.id
 dn : k.st.done = true → k' = k
 ib : k'.ib = k.ib
 nf : f.kind ≠ 6 → NF c.sw k'
 fr : ∀ x ∈ e, aQ x = 0 ∧ x.kind = 5
 da : qT c i f = true → f.kind = 2 → k'.st.done = false → aZ k.ib + aT f.data ≤ k'.st.rcv.held
 ok : (bY k.st f).err = 0 → e = [] ∧ k' = ez { k with st := (bY k.st f).st }
 no : (bY k.st f).err ≠ 0 → e = [jD k] ∧ k' = { k with st := ea k.st 11 ⟨#[]⟩, ob := [] }
theorem ji {c : NL} (h : VN c) {i : Nat} {k : KR} (hi : c.ks[i]? = some k) {f : bd} (hf : aQ f = 0) (hid : f.strm = k.st.id) (hkk : 2 ≤ f.kind ∧ f.kind ≤ 6) : ∃ k' e, AR c i k f k' e := by
 have hp := h.pk k (List.mem_of_getElem? hi)
 have hn := h.nf k (List.mem_of_getElem? hi)
 by_cases he : (bY k.st f).err = 0
 · have ho := xJ he
   have hkp := ho.kept
   have hvs := rZ ho
   refine ⟨ez { k with st := (bY k.st f).st }, [], ?_⟩
   have heq : eu c i f = { c with ks := c.ks.set i (ez { k with st := (bY k.st f).st }), ou := c.ou ++ [] } := by
    unfold eu
    rw [dQ hi, if_neg (by rw [he]; simp), bQ hi, List.append_nil]
   cases hd : (bY k.st f).st.done with
   | true =>
    have hs : ez { k with st := (bY k.st f).st } = { k with st := (bY k.st f).st, ob := [] } := by unfold ez; exact if_pos hd
    rw [hs] at heq ⊢
    refine ⟨heq, ⟨hvs, hkp.sd.trans hp.sd, hkp.sz.trans hp.z1, hkp.rz.trans hp.z2, hkp.hd.trans hp.h0, hp.he, hp.ib, by show (bY k.st f).st.id ≤ _; rw [hkp.id]; exact hp.la, fun _ => rfl, (fun e => by rw [show ({ k with st := (bY k.st f).st, ob := [] } : KR).st.done = true from hd] at e; cases e), (fun e => by rw [show ({ k with st := (bY k.st f).st, ob := [] } : KR).st.done = true from hd] at e; cases e), fun _ h => by cases h⟩, hkp.id, fun e => ?_, rfl, (fun _ f r e => by cases e), (fun _ h => by cases h), (fun _ _ e => by rw [show ({ k with st := (bY k.st f).st, ob := [] } : KR).st.done = true from hd] at e; cases e), fun _ => ⟨rfl, hs.symm⟩, fun e => absurd he e⟩
    rw [ho.keepDone e, ← hp.dn e]
   | false =>
    have hs : ez { k with st := (bY k.st f).st } = { k with st := (bY k.st f).st } := by unfold ez; exact if_neg (by show ¬ (bY k.st f).st.done = true; rw [hd]; simp)
    have hd0 : k.st.done = false := by rw [← (ho.more hd).done]; exact hd
    have hrc : k.st.rcv.held ≤ (bY k.st f).st.rcv.held ∧ (f.kind = 2 → (bY k.st f).st.rcv.held = k.st.rcv.held + aT f.data) ∧ (f.kind ≠ 6 → (bY k.st f).st.snd = k.st.snd) := by
     have h9 := ho.h
     generalize (bY k.st f).st = t at *
     have hc := dj f.data
     cases h9 with
     | old hx => exact absurd hx (by rw [hd0]; simp)
     | data => exact ⟨by show k.st.rcv.held ≤ k.st.rcv.held + aT f.data; omega, fun _ => rfl, fun _ => rfl⟩
     | fin hd hk => exact ⟨Int.le_refl _, fun e => by omega, fun _ => rfl⟩
     | stat hd hk => exact ⟨Int.le_refl _, fun e => by omega, fun _ => rfl⟩
     | reset hd hk => exact ⟨Int.le_refl _, fun e => by omega, fun _ => rfl⟩
     | win hd hk => exact ⟨Int.le_refl _, fun e => by omega, fun e => absurd hk e⟩
    rw [hs] at heq ⊢
    have hun := hp.un hd0
    refine ⟨heq, ⟨hvs, hkp.sd.trans hp.sd, hkp.sz.trans hp.z1, hkp.rz.trans hp.z2, hkp.hd.trans hp.h0, hp.he, hp.ib, by show (bY k.st f).st.id ≤ _; rw [hkp.id]; exact hp.la, (fun e => by rw [show ({ k with st := (bY k.st f).st } : KR).st.done = false from hd] at e; cases e), fun _ => (by show aZ k.ib ≤ (bY k.st f).st.rcv.held; omega), fun _ => ?_, hp.kd⟩, hkp.id, (fun e => by rw [hd0] at e; cases e), rfl, fun h6 g r e => ?_, (fun _ h => by cases h), fun _ h2 _ => ?_, fun _ => ⟨rfl, hs.symm⟩, fun e => absurd he e⟩
    · exact lz (s := k.st) (lA hp.ahd) (ho.more hd) (hkp.hd.trans hp.h0) hp.ahd
    · show (bY k.st f).st.snd.left < _ ∨ _
      rw [hrc.2.2 h6]
      exact hn g r e
    · show aZ k.ib + aT f.data ≤ (bY k.st f).st.rcv.held
      rw [hrc.2.1 h2]
      omega
 · have hd0 : k.st.done = false := eq_false_of_ne_true fun e => he (by rw [rY ⟨gK.2 hp.vs, hf, hid, hkk, .old e⟩])
   have hid' := hp.vs.id
   have hfr : aQ (jD k) = 0 := CC hid'.1 hid'.2 (by decide) (by decide)
   have hso : SndOk k.st (jD k) (ea k.st 11 ⟨#[]⟩) := ⟨gK.2 hp.vs, hfr, rfl, hd0, .reset rfl⟩
   have hse := jN hso
   refine ⟨{ k with st := ea k.st 11 ⟨#[]⟩, ob := [] }, [jD k], ?_, ⟨iR hso, hp.sd, hp.z1, hp.z2, hp.h0, hp.he, hp.ib, hp.la, fun _ => rfl, (fun e => by cases e), (fun e => by cases e), fun _ h => by cases h⟩, rfl, (fun e => by rw [hd0] at e; cases e), rfl, (fun _ f r e => by cases e), fun x hx => ?_, fun hb => ?_, fun e => absurd e he, fun _ => ⟨rfl, rfl⟩⟩
   · unfold eu
     rw [dQ hi, if_pos he, bQ hi, hse]
     dsimp only
     rw [if_pos (show (0 : Int) = 0 from rfl)]
     rfl
   · obtain rfl := List.mem_singleton.1 hx
     exact ⟨hfr, rfl⟩
   · unfold qT at hb
     rw [dQ hi] at hb
     simp only [Bool.and_eq_true, decide_eq_true_eq] at hb
     exact absurd hb.1 he
theorem kQ {c : NL} (h : VN c) (hc : c.cl = false) {i : Nat} {k k' : KR} (hi : c.ks[i]? = some k) {f : bd} {e : List bd} (hr : AR c i k f k' e) : VB (eu c i f) ∧ (∀ j x, j ≠ i → (eu c i f).ks[j]? = some x → NF (eu c i f).sw x) ∧ (eu c i f).ks[i]? = some k' ∧ (f.kind ≠ 6 → VN (eu c i f)) := by
 have hil := (List.getElem?_eq_some_iff.1 hi).1
 have hb : VB (eu c i f) := by
  rw [hr.eq]
  refine h.toVB.upd (k' := k') (sw' := c.sw) (rw' := c.rw) hi hr.pk hr.id (fun hd => by rw [hr.dn hd]; exact hd) h.sw h.ss h.sh h.rw h.rs (fun x hx => ?_) (fun e => ?_) ?_
  · rcases List.mem_append.1 hx with hx | hx
    · exact h.ou x hx
    · exact (hr.fr x hx).1
  · rw [hc] at e; cases e
  · rw [dk hi, hr.ib]
    have := h.tt
    show bh c.ks - aZ k.ib + aZ k.ib ≤ c.rw.held
    omega
 have hj : ∀ j x, j ≠ i → (eu c i f).ks[j]? = some x → NF (eu c i f).sw x := fun j x hj hx => by
  rw [hr.eq] at hx ⊢
  have hx' : (c.ks.set i k')[j]? = some x := hx
  rw [List.getElem?_set_ne (fun e => hj e.symm)] at hx'
  exact h.nf x (List.mem_of_getElem? hx')
 have hki : (eu c i f).ks[i]? = some k' := by
  rw [hr.eq]
  exact List.getElem?_set_self hil
 refine ⟨hb, hj, hki, fun h6 => ⟨hb, fun x hx => ?_⟩⟩
 obtain ⟨j, hjx⟩ := List.getElem?_of_mem hx
 by_cases e : j = i
 · subst e
   rw [hki] at hjx
   obtain rfl := Option.some.inj hjx
   rw [hr.eq]
   exact hr.nf h6
 · exact hj j x e hjx
theorem mf {c : NL} (h : VN c) {f : bd} (hl : aT f.data ≤ c.rw.left) : dN c f = { c with rw := ⟨c.rw.size, c.rw.left - aT f.data, c.rw.held + aT f.data⟩ } ∧ VN (dN c f) := by
 have hp := dj f.data
 have ha := ql h.rw (show 0 ≤ aT f.data by omega) hl
 have e : dN c f = { c with rw := ⟨c.rw.size, c.rw.left - aT f.data, c.rw.held + aT f.data⟩ } := by
  unfold dN
  rw [ha, if_pos rfl]
 refine ⟨e, ?_⟩
 rw [e]
 exact ⟨⟨h.sd, h.sz, h.sw, qm h.rw (by omega) hl, h.ss, h.rs, h.sh, h.la, h.aw, h.n1, h.n2, h.pg, h.pn, h.cn, h.pk, h.asc, h.ou, h.cl, by have := h.tt; show bh c.ks ≤ c.rw.held + aT f.data; omega⟩, h.nf⟩
theorem VN.data {c : NL} (h : VN c) (hc : c.cl = false) {f : bd} (hf : aQ f = 0) (hk : f.kind = 2) (hl : aT f.data ≤ c.rw.left) : VN (lh c f) := by
 obtain ⟨e1, h1⟩ := mf h hl
 have hks : (dN c f).ks = c.ks := by rw [e1]
 have hcl : (dN c f).cl = false := by rw [e1]; exact hc
 unfold lh
 refine VN.gbC ?_
 cases hfi : cX f.strm c.ks 0 with
 | none => exact h1
 | some i =>
  obtain ⟨k, hi, hid⟩ := d7 hfi
  dsimp only
  have hi1 : (dN c f).ks[i]? = some k := by rw [hks]; exact hi
  obtain ⟨k', e, hr⟩ := ji h1 hi1 hf hid.symm ⟨by omega, by omega⟩
  obtain ⟨v1, v2, v3, v4⟩ := kQ h1 hcl hi1 hr
  cases hb : qT (dN c f) i f with
  | false => rw [if_neg (by simp)]; exact v4 (by omega)
  | true =>
   rw [if_pos rfl, bQ v3]
   have v := v4 (by omega)
   have hpk := v.pk k' (List.mem_of_getElem? v3)
   have hil := (List.getElem?_eq_some_iff.1 v3).1
   refine v.upd (k' := { k' with ib := k'.ib ++ [f.data] }) (sw' := (eu (dN c f) i f).sw) (rw' := (eu (dN c f) i f).rw) (ou' := (eu (dN c f) i f).ou) v3 ?_ rfl (fun e => e) v.sw v.ss v.sh (Int.le_refl _) (v.nf k' (List.mem_of_getElem? v3)) v.rw v.rs v.ou (fun e => (v.cl e).1) ?_
   · refine hpk.rcv (w := k'.st.rcv) (ib := k'.ib ++ [f.data]) hpk.vs.rv rfl (fun m hm => ?_) (fun hd => ?_)
     · rcases List.mem_append.1 hm with hm | hm
       · exact hpk.ib m hm
       · obtain rfl := List.mem_singleton.1 hm
         exact (ia hf).1
     · rw [jO, hr.ib]
       exact hr.da hb hk hd
   · rw [dk v3]
     show bh (eu (dN c f) i f).ks - aZ k'.ib + aZ (k'.ib ++ [f.data]) ≤ (eu (dN c f) i f).rw.held
     rw [jO, hr.eq]
     show bh ((dN c f).ks.set i k') - aZ k'.ib + (aZ k'.ib + aT f.data) ≤ (dN c f).rw.held
     rw [dk hi1, hks, hr.ib, e1]
     have := h.tt
     show bh c.ks - aZ k.ib + aZ k.ib - aZ k.ib + (aZ k.ib + aT f.data) ≤ c.rw.held + aT f.data
     omega
theorem nP {c : NL} {i : Nat} : (eM c i).ks.length = c.ks.length := by
 unfold eM eb
 simp
theorem r8 : ∀ (n i : Nat) (c : NL), VB c → i + n = c.ks.length → (∀ j k, j < i → c.ks[j]? = some k → NF c.sw k) → VN (iH c n i)
 | 0, i, c, h, hl, hn => ⟨h, fun k hk => by
  obtain ⟨j, hj⟩ := List.getElem?_of_mem hk
  exact hn j k (by have : j < c.ks.length := (List.getElem?_eq_some_iff.1 hj).1; omega) hj⟩
 | n + 1, i, c, h, hl, hn => by
  have hil : i < c.ks.length := by omega
  have hi : c.ks[i]? = some c.ks[i] := List.getElem?_eq_getElem hil
  obtain ⟨h1, h2, h3⟩ := h.son hi
  rw [iH]
  refine r8 n (i + 1) (eM c i) h1 (by rw [nP]; omega) (fun j k hj hk => ?_)
  by_cases e : j = i
  · subst e; exact h3 k hk
  · refine (hn j k (by omega) ?_).less h2
    rw [gr hi] at hk
    have hk' : (c.ks.set i _)[j]? = some k := hk
    rw [List.getElem?_set_ne (fun e' => e e'.symm)] at hk'
    exact hk'
theorem VN.cred {c : NL} (h : VN c) (hc : c.cl = false) {f : bd} (hf : aQ f = 0) (hk : 3 ≤ f.kind ∧ f.kind ≤ 6) (hg : f.kind = 6 → f.strm = 0 → (cW c.sw f.num).err = 0) : VN (f3 c f) := by
 unfold f3
 split
 · rename_i h0
   have h6 : f.kind = 6 := by
    have := mN hf
    unfold eY at this
    rw [if_neg (by omega)] at this
    by_cases e : f.kind = 6
    · exact e
    · rw [if_neg e, h0] at this; cases this
   have hge := hg h6 h0
   obtain ⟨a, b, d, e⟩ := lw hge
   rw [if_pos hge, e]
   refine r8 _ 0 _ ⟨h.sd, h.sz, lx h.sw b d, h.rw, h.ss, h.rs, h.sh, h.la, h.aw, h.n1, h.n2, h.pg, h.pn, h.cn, h.pk, h.asc, h.ou, h.cl, h.tt⟩ (by show 0 + c.ks.length = c.ks.length; omega) (fun j k hj => by omega)
 · cases hfi : cX f.strm c.ks 0 with
   | none => exact h
   | some i =>
    obtain ⟨k, hi, hid⟩ := d7 hfi
    obtain ⟨k', e, hr⟩ := ji h hi hf hid.symm ⟨by omega, by omega⟩
    obtain ⟨v1, v2, v3, v4⟩ := kQ h hc hi hr
    exact VN.son v1 v3 v2
theorem VN.acpt {c : NL} (h : VN c) (hc : c.cl = false) {f : bd} (hf : aQ f = 0) (hs : c.sd = 2) (hl : c.la < f.strm) : VN (gV c f) := by
 have hla := h.la
 have hz := (ia hf).2
 unfold gV
 split
 · have h1 := h.out (f := ⟨5, f.strm, 12, emptyB⟩) (CC (by omega) hz (by decide) (by decide)) hc
   exact ⟨⟨h1.sd, h1.sz, h1.sw, h1.rw, h1.ss, h1.rs, h1.sh, ⟨by show 0 ≤ f.strm; omega, hz⟩, h1.aw, fun e => (by rw [show ({ c with la := f.strm, ou := c.ou ++ [⟨5, f.strm, 12, emptyB⟩] } : NL).sd = 2 from hs] at e; cases e), fun e => ⟨(h.n2 hs).1, by have := (h.n2 hs).2; show c.aw ≤ f.strm + 1; omega⟩, h1.pg, h1.pn, h1.cn, fun k hk => (h.pk k hk).la' (by show c.la ≤ f.strm; omega), h1.asc, h1.ou, h1.cl, h1.tt⟩, h1.nf⟩
 · rename_i g
   have g2 : ¬ 64 ≤ dS c.ks := fun e => g (.inr (.inl e))
   have g3 : (dv f.strm 2 f.num c.sz).err = 0 := Decidable.not_not.1 fun e => g (.inr (.inr (.inl e)))
   have g4 : (db f.data).err = 0 := Decidable.not_not.1 fun e => g (.inr (.inr (.inr e)))
   have e1 : dv f.strm 2 f.num c.sz = dv f.strm c.sd f.num c.sz := by rw [hs]
   rw [e1] at g3 ⊢
   have := h.more (id := f.strm) (sh := f.num) (nx' := c.nx) (la' := f.strm) (ou' := c.ou) g3 hl rfl (fun e => by omega) (fun _ => (h.n2 hs).1) (by omega) hc (AN g4) h.ou
   exact this
theorem VN.act {c : NL} (h : VN c) (hc : c.cl = false) {f : bd} (hr : kg c f = 0) : VN (pP c f) := by
 unfold kg at hr
 split at hr
 · cases hr
 rename_i g1
 split at hr
 · cases hr
 rename_i g2
 split at hr
 · cases hr
 rename_i g3
 split at hr
 · cases hr
 rename_i g4
 have hf : aQ f = 0 := Decidable.not_not.1 fun e => g1 (.inl e)
 have hfo : qS c.sd f.kind = false := eq_false_of_ne_true fun e => g1 (.inr e)
 have hkk := mO hf
 unfold pP
 split
 · rename_i hk
   have hs : c.sd = 2 := by
    rcases h.sd with e | e
    · rw [e, hk] at hfo; exact absurd hfo (by decide)
    · exact e
   refine h.acpt hc hf hs ?_
   by_cases e : f.strm ≤ c.la
   · exact absurd (propext ⟨fun _ => e, fun _ => hk⟩) g2
   · omega
 rename_i hk1
 split
 · rename_i hk
   exact h.data hc hf hk (by have := fun e => g3 ⟨hk, e⟩; omega)
 rename_i hk2
 split
 · rename_i hk
   have hn : 0 ≤ f.num ∧ f.num ≤ 4294967295 := by
    have := nN hf
    unfold ij at this
    rw [hk] at this
    simpa using this
   exact h.out (Dr hn.1 hn.2) hc
 rename_i hk7
 split
 · rename_i hk
   have hn : 0 ≤ f.num ∧ f.num ≤ 4294967295 := by
    have := nN hf
    unfold ij at this
    rw [hk] at this
    simpa using this
   refine ⟨⟨h.sd, h.sz, h.sw, h.rw, h.ss, h.rs, h.sh, h.la, h.aw, h.n1, h.n2, ?_, fun n hn' => ?_, h.cn, h.pk, h.asc, h.ou, h.cl, h.tt⟩, h.nf⟩
   · show ((c.pg ++ [f.num]).drop _).length ≤ 16
     rw [List.length_drop, List.length_append, List.length_singleton]
     omega
   · have := List.mem_of_mem_drop hn'
     rcases List.mem_append.1 this with hx | hx
     · exact h.pn n hx
     · obtain rfl := List.mem_singleton.1 hx
       exact hn
 rename_i hk8
 split
 · rename_i hk
   have hn : 0 ≤ f.num ∧ f.num ≤ 2147483647 := by
    have := nN hf
    unfold ij at this
    rw [hk] at this
    simpa using this
   have hs : c.sd = 1 := by
    rcases h.sd with e | e
    · exact e
    · rw [e, hk] at hfo; exact absurd hfo (by decide)
   have haw := h.aw
   refine ul (c := { c with aw := if c.aw = 0 ∨ f.num + 1 < c.aw then f.num + 1 else c.aw }) ⟨⟨h.sd, h.sz, h.sw, h.rw, h.ss, h.rs, h.sh, h.la, ?_, h.n1, fun e => (by have e' : c.sd = 2 := e; omega), h.pg, h.pn, h.cn, h.pk, h.asc, h.ou, h.cl, h.tt⟩, h.nf⟩ _
   show 0 ≤ (if c.aw = 0 ∨ f.num + 1 < c.aw then f.num + 1 else c.aw) ∧ (if c.aw = 0 ∨ f.num + 1 < c.aw then f.num + 1 else c.aw) ≤ 2147483648
   split <;> omega
 rename_i hk9
 exact h.cred hc hf ⟨by omega, by omega⟩ (fun a b => Decidable.not_not.1 fun e => g4 ⟨a, b, e⟩)
theorem VN.feed {c : NL} (h : VN c) (f : bd) : VN (dF c f).1 := by
 unfold dF
 split
 · exact h
 · rename_i hc
   split
   · exact h.close
   · rename_i hr
     exact h.act (eq_false_of_ne_true hc) (Decidable.not_not.1 hr)
end Go.Proofs.YthiocbcokfondaaGreatDoor.Y
namespace Go.Proofs.YthiocbcokfondaaGreatDoor.Y
def qo (l : List KR) : Nat := (l.map (·.ob.length)).sum
def bM (c : NL) : Nat := c.ks.length + c.ou.length + qo c.ks
theorem dT (k : KR) (l : List KR) : qo (k :: l) = k.ob.length + qo l := by unfold qo; simp
theorem um (a b : List KR) : qo (a ++ b) = qo a + qo b := by unfold qo; simp
theorem mP {k : KR} : ∀ {l : List KR}, k ∈ l → k.ob.length ≤ qo l
 | a :: l, h => by
  rw [dT]
  rcases List.mem_cons.1 h with rfl | h
  · omega
  · have := mP h; omega
theorem kc {k k' : KR} : ∀ {l : List KR} {i : Nat}, l[i]? = some k → qo (l.set i k') + k.ob.length = qo l + k'.ob.length
 | a :: l, 0, h => by
  obtain rfl := (by simpa using h : a = k)
  rw [List.set_cons_zero, dT, dT]; omega
 | a :: l, i + 1, h => by
  have h1 : l[i]? = some k := by simpa using h
  have := kc (k' := k') h1
  rw [List.set_cons_succ, dT, dT]; omega
theorem zv {a b : List KR} (h : a.Sublist b) : qo a ≤ qo b := by
 induction h with
 | slnil => exact Nat.le_refl _
 | cons k _ ih => rw [dT]; omega
 | cons_cons k _ ih => rw [dT, dT]; omega
theorem jj : ∀ l : List ByteArray, (l.length : Int) ≤ aZ l
 | [] => Int.le_refl _
 | s :: r => by rw [aZ, List.length_cons]; have := jj r; have := dj s; omega
theorem r9 {k : KR} : ∀ {l : List KR}, k ∈ l → aZ k.ib ≤ bh l
 | a :: l, h => by
  rw [bh]
  rcases List.mem_cons.1 h with rfl | h
  · have := en l; omega
  · have := r9 h; have := eJ a.ib; omega
theorem VB.szl {c : NL} (h : VB c) (hm : bM c ≤ 500000000) : SzL c := by
 unfold bM at hm
 have hrw := bi.1 h.rw
 have htt := h.tt
 refine ⟨by omega, ⟨by omega, fun f hf => by have := (ia (h.ou f hf)).1; omega⟩, by have := h.pg; omega, by omega, fun k hk => ?_⟩
 have hp := h.pk k hk
 obtain ⟨z1, z2⟩ := BT hp.he
 have hu := r9 hk
 have hi := jj k.ib
 have ho := mP hk
 refine ⟨by have : k.ms.length ≤ 16 := z2; omega, by omega, by omega, ?_, fun f hf => by have := (ia (xI hp.ahd f hf).1).1; omega, by omega, z1⟩
 cases hd : k.st.done with
 | true => have := rV (hp.vs.dn hd).2.2; omega
 | false => have := (hp.vs.nd hd).2.2.2; omega
theorem lC {c : NL} (h : VB c) {i : Nat} {k : KR} (hi : c.ks[i]? = some k) : bM (eM c i) ≤ bM c := by
 obtain ⟨q, hf⟩ := qn h.sw (h.pk k (List.mem_of_getElem? hi))
 rw [gr hi]
 generalize jW k.ob k.st c.sw c.ou = r at *
 unfold bM
 have h1 := kc (k' := { k with st := r.st, ob := r.ob }) hi
 have h2 : k.ob.length = q.length + r.ob.length := by rw [hf.fac.sp]; simp
 have h3 : r.ou.length = c.ou.length + q.length := by rw [hf.ou]; simp
 dsimp only at h1 ⊢
 rw [List.length_set]
 omega
theorem sb {c : NL} (f : bd) : bM { c with ou := c.ou ++ [f] } = bM c + 1 := by unfold bM; simp; omega
theorem nQ (c : NL) : bM (gbC c) ≤ bM c + 1 := by
 unfold gbC
 split
 · omega
 · unfold bM; simp; omega
theorem mg {c : NL} {i : Nat} {k : KR} (hi : c.ks[i]? = some k) (g : KR → KR) (hg : (g k).ob.length ≤ k.ob.length) : bM (eb c i g) ≤ bM c := by
 rw [bQ hi]
 have h1 := kc (k' := g k) hi
 unfold bM
 dsimp only
 rw [List.length_set]
 omega
theorem xO {c : NL} {i : Nat} {k : KR} (hi : c.ks[i]? = some k) (id : Int) : bM (gbK c i id) ≤ bM c + 1 := by
 unfold gbK
 split
 · omega
 · rw [bQ hi]
   have h1 := kc (k' := { k with st := { k.st with rcv := yi k.st.rcv (qR c i) } }) hi
   unfold bM
   dsimp only at h1 ⊢
   rw [List.length_set, List.length_append, List.length_singleton]
   omega
theorem sf (c : NL) (above : Int) : bM (pO c above) ≤ bM c := by
 have h : ∀ l : List KR, qo (l.map (fU above)) ≤ qo l := by
  intro l
  induction l with
  | nil => exact Nat.le_refl _
  | cons k r ih =>
   rw [List.map_cons, dT, dT]
   have : (fU above k).ob.length ≤ k.ob.length := by
    unfold fU ez
    repeat' split
    all_goals first | exact Nat.zero_le _ | exact Nat.le_refl _
   omega
 unfold bM pO
 have := h c.ks
 dsimp only
 rw [List.length_map]
 omega
theorem nR (c : NL) : bM (gU c) ≤ bM c := by
 have h1 : bM { c with cl := true, ou := [] } ≤ bM c := by unfold bM; simp
 exact Nat.le_trans (sf _ 0) h1
theorem vn {c : NL} (h : VN c) (f : bd) (chk : Int) (hk : f.kind = 2 ∨ f.kind = 3 ∨ f.kind = 4) : bM (bJ c f chk).1 ≤ bM c + 1 := by
 unfold bJ
 split
 · exact Nat.le_add_right _ _
 · rename_i hw
   have hw : fK c f chk = 0 := Decidable.not_not.1 hw
   unfold fK at hw
   cases hfi : cX f.strm c.ks 0 with
   | none => rw [hfi] at hw; cases hw
   | some i =>
    obtain ⟨k, hi, hid⟩ := d7 hfi
    rw [hfi] at hw
    dsimp only at hw
    rw [dQ hi] at hw
    have hp := h.pk k (List.mem_of_getElem? hi)
    have e1 : chk = 0 := by
     refine Decidable.not_not.1 fun e => ?_
     rw [if_pos e] at hw; exact e hw
    rw [if_neg (by simpa using e1), if_neg (by simpa using hp.ahd)] at hw
    have hah := ly hp.ahd hw
    show bM (eM (eb c i _) i) ≤ _
    rw [bQ hi]
    have hb : VB { c with ks := c.ks.set i { k with ob := k.ob ++ [f] } } := by
     refine h.toVB.upd (k' := { k with ob := k.ob ++ [f] }) (sw' := c.sw) (rw' := c.rw) (ou' := c.ou) hi ?_ rfl (fun e => e) h.sw h.ss h.sh h.rw h.rs h.ou (fun e => (h.cl e).1) ?_
     · refine ⟨hp.vs, hp.sd, hp.z1, hp.z2, hp.h0, hp.he, hp.ib, hp.la, fun e => ?_, hp.un, fun _ => hah, fun x hx => ?_⟩
       · have hob := hp.dn e
         rw [hob, dh] at hw
         exact absurd hw (ka (s := f9 k.st) e)
       · rcases List.mem_append.1 hx with hx | hx
         · exact hp.kd x hx
         · obtain rfl := List.mem_singleton.1 hx
           exact hk
     · rw [dk hi]
       have := h.tt
       show bh c.ks - aZ k.ib + aZ k.ib ≤ c.rw.held
       omega
    have hil := (List.getElem?_eq_some_iff.1 hi).1
    refine Nat.le_trans (lC hb (i := i) (k := { k with ob := k.ob ++ [f] }) (List.getElem?_set_self hil)) ?_
    have h1 := kc (k' := { k with ob := k.ob ++ [f] }) hi
    unfold bM
    dsimp only at h1 ⊢
    rw [List.length_append, List.length_singleton] at h1
    rw [List.length_set]
    omega
theorem sg {c : NL} (id code : Int) : bM (eT c id code).1 ≤ bM c + 1 := by
 unfold eT
 split
 · exact Nat.le_add_right _ _
 · rename_i hw
   have hw : lf c id code = 0 := Decidable.not_not.1 hw
   unfold lf at hw
   cases hfi : cX id c.ks 0 with
   | none => rw [hfi] at hw; cases hw
   | some i =>
    obtain ⟨k, hi, hid⟩ := d7 hfi
    show bM { eb c i _ with ou := _ } ≤ _
    have h1 := mg hi (fun k => ez { k with st := (bE k.st ⟨5, id, code, emptyB⟩).st }) (by unfold ez; split <;> first | exact Nat.zero_le _ | exact Nat.le_refl _)
    rw [bQ hi] at h1 ⊢
    unfold bM at h1 ⊢
    dsimp only at h1 ⊢
    rw [List.length_append, List.length_singleton]
    omega
theorem vo {c : NL} (id : Int) : bM (dK c id).1 ≤ bM c + 2 := by
 unfold dK
 cases hfi : cX id c.ks 0 with
 | none => exact Nat.le_add_right _ _
 | some i =>
  obtain ⟨k, hi, hid⟩ := d7 hfi
  dsimp only
  rw [dQ hi]
  cases hib : k.ib with
  | nil => exact Nat.le_add_right _ _
  | cons s r =>
   dsimp only
   have h1 := mg hi (fun k => { k with ib := r }) (Nat.le_refl _)
   have hil := (List.getElem?_eq_some_iff.1 hi).1
   refine Nat.le_trans (nQ _) ?_
   split
   · omega
   · have h2 := xO (c := eb c i (fun k => { k with ib := r })) (i := i) (k := { k with ib := r }) (by rw [bQ hi]; exact List.getElem?_set_self hil) id
     omega
theorem vp {c : NL} (id : Int) : bM (fZ c id) ≤ bM c + 1 := by
 unfold fZ
 cases hfi : cX id c.ks 0 with
 | none => exact Nat.le_add_right _ _
 | some i =>
  dsimp only
  split
  · omega
  · refine Nat.le_trans (nQ _) ?_
    have h1 : (c.ks.eraseIdx i).Sublist c.ks := List.eraseIdx_sublist ..
    have := zv h1
    have := h1.length_le
    unfold bM
    dsimp only
    omega
theorem vq {c : NL} (hd : ju) (sh : Int) : bM (bx c hd sh).1 ≤ bM c + 2 := by
 unfold bx
 split
 · exact Nat.le_add_right _ _
 · unfold bM
   dsimp only
   rw [um, dT]
   simp only [List.length_append, List.length_singleton]
   show _ + (0 + qo []) ≤ _
   unfold qo
   simp
   omega
theorem nS : ∀ (n i : Nat) (c : NL), VB c → i + n = c.ks.length → bM (iH c n i) ≤ bM c
 | 0, i, c, h, hl => Nat.le_refl _
 | n + 1, i, c, h, hl => by
  have hil : i < c.ks.length := by omega
  have hi : c.ks[i]? = some c.ks[i] := List.getElem?_eq_getElem hil
  obtain ⟨h1, h2, h3⟩ := h.son hi
  rw [iH]
  have := nS n (i + 1) (eM c i) h1 (by rw [nP]; omega)
  have := lC h hi
  omega
theorem nT {c : NL} {i : Nat} {k k' : KR} (hi : c.ks[i]? = some k) {f : bd} {e : List bd} (hr : AR c i k f k' e) : bM (eu c i f) ≤ bM c + 1 := by
 rw [hr.eq]
 have h1 := kc (k' := k') hi
 have h2 : k'.ob.length ≤ k.ob.length ∧ e.length ≤ 1 := by
  by_cases he : (bY k.st f).err = 0
  · obtain ⟨e1, e2⟩ := hr.ok he
    rw [e1, e2]
    refine ⟨?_, Nat.zero_le _⟩
    unfold ez
    split
    · exact Nat.zero_le _
    · exact Nat.le_refl _
  · obtain ⟨e1, e2⟩ := hr.no he
    rw [e1, e2]
    exact ⟨Nat.zero_le _, Nat.le_refl _⟩
 unfold bM
 dsimp only
 rw [List.length_set, List.length_append]
 omega
theorem vt {c : NL} (h : VN c) (f : bd) : bM (dF c f).1 ≤ bM c + 2 := by
 unfold dF
 split
 · exact Nat.le_add_right _ _
 rename_i hc0
 have hc : c.cl = false := eq_false_of_ne_true hc0
 split
 · have := nR c
   dsimp only; omega
 rename_i hr
 have hr : kg c f = 0 := Decidable.not_not.1 hr
 unfold kg at hr
 split at hr
 · cases hr
 rename_i g1
 split at hr
 · cases hr
 rename_i g2
 split at hr
 · cases hr
 rename_i g3
 split at hr
 · cases hr
 rename_i g4
 have hf : aQ f = 0 := Decidable.not_not.1 fun e => g1 (.inl e)
 have hkk := mO hf
 dsimp only
 unfold pP
 split
 · unfold gV
   split
   · unfold bM; dsimp only; rw [List.length_append, List.length_singleton]; omega
   · unfold bM
     dsimp only
     rw [um, dT]
     simp only [List.length_append, List.length_singleton]
     show _ + (0 + qo []) ≤ _
     unfold qo
     simp
     omega
 rename_i hk1
 split
 · rename_i hk
   have hl : aT f.data ≤ c.rw.left := by have := fun e => g3 ⟨hk, e⟩; omega
   obtain ⟨e1, h1⟩ := mf h hl
   have hm : bM (dN c f) = bM c := by rw [e1]; rfl
   have hks : (dN c f).ks = c.ks := by rw [e1]
   unfold lh
   refine Nat.le_trans (nQ _) ?_
   cases hfi : cX f.strm c.ks 0 with
   | none => dsimp only; omega
   | some i =>
    obtain ⟨k, hi, hid⟩ := d7 hfi
    dsimp only
    have hi1 : (dN c f).ks[i]? = some k := by rw [hks]; exact hi
    obtain ⟨k', e, hrr⟩ := ji h1 hi1 hf hid.symm ⟨by omega, by omega⟩
    have h3 := nT hi1 hrr
    obtain ⟨v1, v2, v3, v4⟩ := kQ h1 (by rw [e1]; exact hc) hi1 hrr
    split
    · have := mg v3 (fun k => { k with ib := k.ib ++ [f.data] }) (Nat.le_refl _)
      omega
    · omega
 rename_i hk2
 split
 · rw [sb]; omega
 rename_i hk7
 split
 · unfold bM; dsimp only; omega
 rename_i hk8
 split
 · refine Nat.le_trans (sf _ _) ?_
   unfold bM; dsimp only; omega
 rename_i hk9
 unfold f3
 split
 · rename_i h0
   have h6 : f.kind = 6 := by
    have := mN hf
    unfold eY at this
    rw [if_neg (by omega)] at this
    by_cases e : f.kind = 6
    · exact e
    · rw [if_neg e, h0] at this; cases this
   have hge : (cW c.sw f.num).err = 0 := Decidable.not_not.1 fun e => g4 ⟨h6, h0, e⟩
   obtain ⟨a, b, d, e⟩ := lw hge
   rw [if_pos hge, e]
   refine Nat.le_trans (nS _ 0 _ ⟨h.sd, h.sz, lx h.sw b d, h.rw, h.ss, h.rs, h.sh, h.la, h.aw, h.n1, h.n2, h.pg, h.pn, h.cn, h.pk, h.asc, h.ou, h.cl, h.tt⟩ (by show 0 + c.ks.length = c.ks.length; omega)) ?_
   unfold bM; dsimp only; omega
 · cases hfi : cX f.strm c.ks 0 with
   | none => dsimp only; omega
   | some i =>
    obtain ⟨k, hi, hid⟩ := d7 hfi
    obtain ⟨k', e, hrr⟩ := ji h hi hf hid.symm ⟨by omega, by omega⟩
    obtain ⟨v1, v2, v3, v4⟩ := kQ h hc hi hrr
    have h3 := nT hi hrr
    have h4 := lC v1 v3
    dsimp only
    omega
theorem si (c : NL) (s : cJ) : ∀ l : List bd, (∀ f ∈ l, f.kind = 2 ∨ f.kind = 3 ∨ f.kind = 4) → eN c l false s = true
 | [], _ => by rw [eN]
 | f :: r, h => by
  rw [eN, si c s r (fun x hx => h x (List.mem_cons_of_mem _ hx))]
  rcases h f (List.mem_cons_self ..) with e | e | e <;> rw [e] <;> rfl
theorem PK.callOk {c : NL} {k : KR} (h : PK c.sd c.sz c.la k) (hn : NF c.sw k) (hw : bq c.sw = true) : callOk c k = true := by
 unfold Y.callOk
 rw [gK.2 h.vs, h.sd, h.z1, h.z2, h.h0, h.he, show (k.ib.all fun m => decide (m.size ≤ 16384)) = true from List.all_eq_true.2 fun m hm => decide_eq_true (h.ib m hm)]
 simp only [decide_true, Bool.and_true, Bool.true_and]
 cases hd : k.st.done with
 | true => rw [if_pos rfl, h.dn hd]; rfl
 | false =>
  rw [if_neg (by simp), decide_eq_true (h.un hd), decide_eq_true (h.ah hd), Bool.true_and, Bool.true_and]
  cases ho : k.ob with
  | nil => rw [eN]
  | cons f r =>
   have hk := h.kd
   rw [ho] at hk
   rw [eN, si c k.st r (fun x hx => hk x (List.mem_cons_of_mem _ hx))]
   have h1 := hn f r ho
   have h2 : f.kind = 2 := by
    refine Decidable.not_not.1 fun e => ?_
    rw [bz, if_neg e] at h1
    have a := bi.1 h.vs.sn
    have b := bi.1 hw
    omega
   rw [jh h2] at h1
   rw [h2]
   rcases h1 with h1 | h1
   · rw [decide_eq_false (show ¬ aT f.data ≤ k.st.snd.left by omega)]; rfl
   · rw [decide_eq_false (show ¬ aT f.data ≤ c.sw.left by omega), Bool.and_false]; rfl
theorem xP : ∀ (l : List KR) (p : Option Int), (∀ x, p = some x → ∀ k ∈ l, x < k.st.id) → (l.map (·.st.id)).Pairwise (· < ·) → ascB p l = true
 | [], _, _, _ => by rw [ascB.eq_def]
 | k :: r, p, h, hp => by
  rw [List.map_cons, List.pairwise_cons] at hp
  rw [ascB.eq_def]
  dsimp only
  rw [xP r (some k.st.id) (fun x e y hy => by obtain rfl := Option.some.inj e; exact hp.1 _ (List.mem_map_of_mem hy)) hp.2, Bool.and_true]
  cases p with
  | none => rfl
  | some x => exact decide_eq_true (h x rfl k (List.mem_cons_self ..))
theorem VB.acts {c : NL} (h : VB c) : md c.ks = dS c.ks := xy (xP c.ks none (fun _ e => by cases e) h.asc)
end Go.Proofs.YthiocbcokfondaaGreatDoor.Y
namespace Go.Proofs.YthiocbcokfondaaGreatDoor.Y
structure sj where
 kind : Int
 id : Int
 n : Int
 msg : ByteArray
 h : ju
 f : bd
 tc : Int
 tt : ByteArray
structure CD where
 e : Int
 id : Int
 msg : ByteArray
 ok : Bool
 outs : List bd
def qv (e : Int) : CD := ⟨e, 0, ⟨#[]⟩, false, []⟩
def cG (c : NL) (o : sj) : NL :=
 if o.kind = 0 then (bx c o.h o.n).1 else if o.kind = 1 then (jm c o.id o.msg).1 else if o.kind = 2 then (km c o.id).1
 else if o.kind = 3 then (kn c o.id o.tc o.tt).1 else if o.kind = 4 then (eT c o.id o.n).1 else if o.kind = 5 then (dK c o.id).1
 else if o.kind = 6 then (dF c o.f).1 else if o.kind = 7 then (iF c).1 else if o.kind = 8 then (e9 c o.n).1
 else if o.kind = 9 then iG c else if o.kind = 10 then gU c else if o.kind = 11 then fZ c o.id else c
def cc (c : NL) (o : sj) : CD :=
 if o.kind = 0 then ⟨(bx c o.h o.n).2.2, (bx c o.h o.n).2.1, ⟨#[]⟩, false, []⟩ else if o.kind = 1 then qv (jm c o.id o.msg).2 else if o.kind = 2 then qv (km c o.id).2
 else if o.kind = 3 then qv (kn c o.id o.tc o.tt).2 else if o.kind = 4 then qv (eT c o.id o.n).2 else if o.kind = 5 then ⟨0, 0, (dK c o.id).2.1, (dK c o.id).2.2, []⟩
 else if o.kind = 6 then qv (dF c o.f).2 else if o.kind = 7 then ⟨0, 0, ⟨#[]⟩, false, (iF c).2⟩ else if o.kind = 8 then qv (e9 c o.n).2 else qv 0
set_option maxHeartbeats 2000000 in
theorem nU {c : NL} (o : sj) (p : NL → Prop) (h0 : p c) (h1 : p (bx c o.h o.n).1) (h2 : ∀ f chk, (f.kind = 2 ∨ f.kind = 3 ∨ f.kind = 4) → p (bJ c f chk).1) (h3 : p (eT c o.id o.n).1) (h4 : p (dK c o.id).1) (h5 : o.kind = 6 → p (dF c o.f).1) (h6 : o.kind = 7 → p (iF c).1) (h7 : p (e9 c o.n).1) (h8 : p (iG c)) (h9 : p (gU c)) (h10 : p (fZ c o.id)) : p (cG c o) := by
 unfold cG
 split
 · exact h1
 split
 · exact h2 _ _ (.inl rfl)
 split
 · exact h2 _ _ (.inr (.inl rfl))
 split
 · exact h2 _ _ (.inr (.inr rfl))
 split
 · exact h3
 split
 · exact h4
 split
 · rename_i h; exact h5 h
 split
 · rename_i h; exact h6 h
 split
 · exact h7
 split
 · exact h8
 split
 · exact h9
 split
 · exact h10
 · exact h0
theorem VN.step {c : NL} (h : VN c) (o : sj) : VN (cG c o) :=
 nU o VN h (h.open _ _) (fun f chk hk => h.wait f chk hk) (h.cancel _ _) (h.read _) (fun _ => h.feed _) (fun _ => h.flush) (h.ping _) h.away h.close (h.drop _)
theorem vu {c : NL} (h : VN c) (o : sj) : bM (cG c o) ≤ bM c + 2 :=
 nU o (fun d => bM d ≤ bM c + 2) (Nat.le_add_right _ _) (vq _ _) (fun f chk hk => by have := vn h f chk hk; omega) (by have := sg (c := c) o.id o.n; omega) (vo _) (fun _ => vt h _) (fun _ => by unfold iF bM; dsimp only; simp; omega)
  (by
   unfold e9
   split
   · exact Nat.le_add_right _ _
   · split
     · exact Nat.le_add_right _ _
     · dsimp only; rw [sb]; omega)
  (by
   unfold iG
   split
   · unfold bM; dsimp only; rw [List.length_append, List.length_singleton]; omega
   · exact Nat.le_add_right _ _)
  (by have := nR c; omega) (by have := vp (c := c) o.id; omega)
structure K2 (k k' : KR) : Prop where
 id : k'.st.id = k.st.id
 st : k.st.done = true → k'.st.done = true ∧ k'.st.code = k.st.code ∧ k'.st.text = k.st.text
theorem K2.refl (k : KR) : K2 k k := ⟨rfl, fun h => ⟨h, rfl, rfl⟩⟩
theorem K2.trans {a b d : KR} (h1 : K2 a b) (h2 : K2 b d) : K2 a d := ⟨h2.id.trans h1.id, fun h => by
 obtain ⟨x, y, z⟩ := h1.st h
 obtain ⟨x', y', z'⟩ := h2.st x
 exact ⟨x', y'.trans y, z'.trans z⟩⟩
def Kq (l l' : List KR) : Prop := ∀ k ∈ l, ∃ k' ∈ l', K2 k k'
def Kp (l l' : List KR) : Prop := ∀ k ∈ l, (∃ k' ∈ l', K2 k k') ∨ (k.st.done = true ∧ ∀ y ∈ l', y.st.id ≠ k.st.id)
theorem Kq.kp {l l' : List KR} (h : Kq l l') : Kp l l' := fun k hk => .inl (h k hk)
theorem Kq.refl (l : List KR) : Kq l l := fun k hk => ⟨k, hk, .refl k⟩
theorem Kq.trans {a b d : List KR} (h1 : Kq a b) (h2 : Kq b d) : Kq a d := fun k hk => by
 obtain ⟨k1, hk1, e1⟩ := h1 k hk
 obtain ⟨k2, hk2, e2⟩ := h2 k1 hk1
 exact ⟨k2, hk2, e1.trans e2⟩
theorem Kq.set {l : List KR} {i : Nat} {k k' : KR} (hi : l[i]? = some k) (h : K2 k k') : Kq l (l.set i k') := fun x hx => by
 obtain ⟨j, hj⟩ := List.getElem?_of_mem hx
 by_cases e : i = j
 · subst e
   rw [hi] at hj
   obtain rfl := Option.some.inj hj
   exact ⟨k', List.mem_of_getElem? (List.getElem?_set_self (List.getElem?_eq_some_iff.1 hi).1), h⟩
 · exact ⟨x, List.mem_of_getElem? (by rw [List.getElem?_set_ne e]; exact hj), .refl x⟩
theorem VN.waitVB {c : NL} (h : VN c) {f : bd} {i : Nat} {k : KR} (hi : c.ks[i]? = some k) (hk : f.kind = 2 ∨ f.kind = 3 ∨ f.kind = 4) (hw : (bE (dh k.ob k.st).st f).err = 0) : VB { c with ks := c.ks.set i { k with ob := k.ob ++ [f] } } ∧ k.st.done = false := by
 have hp := h.pk k (List.mem_of_getElem? hi)
 have hah := ly hp.ahd hw
 have hnd : k.st.done = false := eq_false_of_ne_true fun e => by
  rw [hp.dn e, dh] at hw
  exact absurd hw (ka (s := f9 k.st) e)
 refine ⟨h.toVB.upd (k' := { k with ob := k.ob ++ [f] }) (sw' := c.sw) (rw' := c.rw) (ou' := c.ou) hi ?_ rfl (fun e => e) h.sw h.ss h.sh h.rw h.rs h.ou (fun e => (h.cl e).1) ?_, hnd⟩
 · refine ⟨hp.vs, hp.sd, hp.z1, hp.z2, hp.h0, hp.he, hp.ib, hp.la, (fun e => by rw [show ({ k with ob := k.ob ++ [f] } : KR).st.done = false from hnd] at e; cases e), hp.un, fun _ => hah, fun x hx => ?_⟩
   rcases List.mem_append.1 hx with hx | hx
   · exact hp.kd x hx
   · obtain rfl := List.mem_singleton.1 hx
     exact hk
 · rw [dk hi]
   have := h.tt
   show bh c.ks - aZ k.ib + aZ k.ib ≤ c.rw.held
   omega
theorem xQ {c : NL} (h : VN c) (f : bd) (chk : Int) : (bJ c f chk).1 = c ∧ (bJ c f chk).2 ≠ 0 ∨ ∃ i k, cX f.strm c.ks 0 = some i ∧ c.ks[i]? = some k ∧ k.st.id = f.strm ∧ chk = 0 ∧ (bE (dh k.ob k.st).st f).err = 0 ∧ bJ c f chk = (eM { c with ks := c.ks.set i { k with ob := k.ob ++ [f] } } i, 0) := by
 unfold bJ
 by_cases hw : fK c f chk = 0
 · rw [if_neg (by simpa using hw)]
   unfold fK at hw
   cases hfi : cX f.strm c.ks 0 with
   | none => rw [hfi] at hw; cases hw
   | some i =>
    obtain ⟨k, hi, hid⟩ := d7 hfi
    rw [hfi] at hw
    dsimp only at hw
    rw [dQ hi] at hw
    have hp := h.pk k (List.mem_of_getElem? hi)
    have e1 : chk = 0 := by
     refine Decidable.not_not.1 fun e => ?_
     rw [if_pos e] at hw; exact e hw
    rw [if_neg (by simpa using e1), if_neg (by simpa using hp.ahd)] at hw
    refine .inr ⟨i, k, rfl, hi, hid, e1, hw, ?_⟩
    show (eM (eb c i _) i, (0 : Int)) = _
    rw [bQ hi]
 · rw [if_pos hw]
   exact .inl ⟨rfl, hw⟩
theorem AU {c : NL} {i : Nat} {k : KR} (hi : c.ks[i]? = some k) (k' : KR) : ({ c with ks := c.ks.set i k' } : NL).ks[i]? = some k' := List.getElem?_set_self (List.getElem?_eq_some_iff.1 hi).1
def cQ (c : NL) : Int := aX c.ou + c.sw.left
theorem lD {f : bd} (h : f.kind ≠ 2) : bz f = 0 := by unfold bz; rw [if_neg h]
theorem qp {k s n : Int} {d : ByteArray} (h : k ≠ 2) : bz ⟨k, s, n, d⟩ = 0 := lD h
theorem eo (l : List bd) (f : bd) : aX (l ++ [f]) = aX l + bz f := by rw [gL, ie, cq]; omega
theorem iS {c : NL} {f : bd} (h : f.kind ≠ 2) : cQ { c with ou := c.ou ++ [f] } = cQ c := by
 unfold cQ
 dsimp only
 rw [eo, lD h]
 omega
theorem nV {c : NL} (h : VB c) {i : Nat} {k : KR} (hi : c.ks[i]? = some k) : cQ (eM c i) = cQ c := by
 obtain ⟨q, hf⟩ := qn h.sw (h.pk k (List.mem_of_getElem? hi))
 rw [gr hi]
 unfold cQ
 dsimp only
 rw [hf.ou, gL, hf.fac.wl]
 omega
theorem nW (c : NL) : cQ (gbC c) = cQ c := by
 unfold gbC
 split
 · rfl
 · unfold cQ
   dsimp only
   rw [eo, qp (by decide)]
   omega
theorem vw (c : NL) (i : Nat) (g : KR → KR) : cQ (eb c i g) = cQ c := rfl
theorem xR (c : NL) (i : Nat) (id : Int) : cQ (gbK c i id) = cQ c := by
 unfold gbK
 split
 · rfl
 · unfold cQ eb
   dsimp only
   rw [eo, qp (by decide)]
   omega
theorem nX (c : NL) (i : Nat) (f : bd) : cQ (eu c i f) = cQ c := by
 unfold eu
 split
 · unfold cQ eb
   dsimp only
   rw [eo, show bz (jD (ld c i)) = 0 from qp (by decide)]
   omega
 · rfl
theorem nY : ∀ (n i : Nat) (c : NL), VB c → i + n = c.ks.length → cQ (iH c n i) = cQ c
 | 0, _, _, _, _ => rfl
 | n + 1, i, c, h, hl => by
  have hil : i < c.ks.length := by omega
  have hi : c.ks[i]? = some c.ks[i] := List.getElem?_eq_getElem hil
  rw [iH, nY n (i + 1) (eM c i) (h.son hi).1 (by rw [nP]; omega), nV h hi]
theorem nZ (c : NL) : cQ (gU c) ≤ cQ c := by
 unfold cQ gU pO
 dsimp only
 have := cU c.ou
 rw [cq]
 omega
theorem vx {c : NL} (h : VN c) (f : bd) (chk : Int) (hk : f.kind = 2 ∨ f.kind = 3 ∨ f.kind = 4) : cQ (bJ c f chk).1 = cQ c := by
 rcases xQ h f chk with ⟨e, _⟩ | ⟨i, k, hfi, hi, hid, hc, hw, e⟩
 · rw [e]
 · rw [e]
   obtain ⟨vb, hnd⟩ := h.waitVB hi hk hw
   exact nV vb (AU hi _)
def fq (e : Int) (f : bd) : Int := if e = 0 ∧ f.kind = 6 ∧ f.strm = 0 then f.num else 0
theorem vy {c : NL} (h : VN c) (f : bd) : cQ (dF c f).1 ≤ cQ c + fq (dF c f).2 f ∧ 0 ≤ fq (dF c f).2 f ∧ fq (dF c f).2 f ≤ 1048576 := by
 unfold dF
 split
 · unfold fq
   rw [if_neg (by simp)]
   refine ⟨by dsimp only; omega, by omega, by omega⟩
 rename_i hc0
 have hc : c.cl = false := eq_false_of_ne_true hc0
 split
 · rename_i hr
   unfold fq
   rw [if_neg (fun e => hr e.1)]
   have := nZ c
   refine ⟨by dsimp only; omega, by omega, by omega⟩
 rename_i hr
 have hr : kg c f = 0 := Decidable.not_not.1 hr
 unfold kg at hr
 split at hr
 · cases hr
 rename_i g1
 split at hr
 · cases hr
 rename_i g2
 split at hr
 · cases hr
 rename_i g3
 split at hr
 · cases hr
 rename_i g4
 have hf : aQ f = 0 := Decidable.not_not.1 fun e => g1 (.inl e)
 have hkk := mO hf
 dsimp only
 have z : ∀ {x : Int}, ¬ (f.kind = 6 ∧ f.strm = 0) → x ≤ cQ c → x ≤ cQ c + fq 0 f ∧ 0 ≤ fq 0 f ∧ fq 0 f ≤ 1048576 := fun {x} hn hx => by
  unfold fq
  rw [if_neg (fun e => hn e.2)]
  omega
 unfold pP
 split
 · rename_i hk1
   refine z (by omega) ?_
   unfold gV
   split
   · have := iS (c := c) (f := ⟨5, f.strm, 12, emptyB⟩) (show (5 : Int) ≠ 2 by decide)
     unfold cQ at this ⊢
     dsimp only at this ⊢
     omega
   · exact Int.le_refl _
 rename_i hk1
 split
 · rename_i hk
   refine z (by omega) ?_
   have hl : aT f.data ≤ c.rw.left := by have := fun e => g3 ⟨hk, e⟩; omega
   obtain ⟨e1, h1⟩ := mf h hl
   have hpd : cQ (dN c f) = cQ c := by rw [e1]; rfl
   unfold lh
   rw [nW]
   split
   · omega
   · split
     · rw [vw, nX]; omega
     · rw [nX]; omega
 rename_i hk2
 split
 · refine z (by omega) ?_
   rw [iS (show (8 : Int) ≠ 2 by decide)]; exact Int.le_refl _
 rename_i hk7
 split
 · exact z (by omega) (Int.le_refl _)
 rename_i hk8
 split
 · exact z (by omega) (Int.le_refl _)
 rename_i hk9
 unfold f3
 split
 · rename_i h0
   have h6 : f.kind = 6 := by
    have := mN hf
    unfold eY at this
    rw [if_neg (by omega)] at this
    by_cases e : f.kind = 6
    · exact e
    · rw [if_neg e, h0] at this; cases this
   have hge : (cW c.sw f.num).err = 0 := Decidable.not_not.1 fun e => g4 ⟨h6, h0, e⟩
   obtain ⟨a, b, d, e⟩ := lw hge
   rw [if_pos hge, e]
   rw [nY _ 0 { c with sw := ⟨c.sw.size, c.sw.left + f.num, c.sw.held⟩ } ⟨h.sd, h.sz, lx h.sw b d, h.rw, h.ss, h.rs, h.sh, h.la, h.aw, h.n1, h.n2, h.pg, h.pn, h.cn, h.pk, h.asc, h.ou, h.cl, h.tt⟩ (by show 0 + c.ks.length = c.ks.length; omega)]
   unfold fq cQ
   rw [if_pos ⟨rfl, h6, h0⟩]
   have hl := bi.1 h.sw
   dsimp only
   omega
 · rename_i h0
   refine z (by omega) ?_
   cases hfi : cX f.strm c.ks 0 with
   | none => exact Int.le_refl _
   | some i =>
    obtain ⟨k, hi, hid⟩ := d7 hfi
    obtain ⟨k', e, hrr⟩ := ji h hi hf hid.symm ⟨by omega, by omega⟩
    obtain ⟨v1, v2, v3, v4⟩ := kQ h hc hi hrr
    dsimp only
    rw [nV v1 v3, nX]
    exact Int.le_refl _
def iq (o : sj) (e : Int) : Int := if o.kind = 6 then fq e o.f else 0
theorem BW {c : NL} {o : sj} (h : o.kind = 6) : cG c o = (dF c o.f).1 ∧ cc c o = qv (dF c o.f).2 := by
 unfold cG cc
 simp [h]
theorem zZ {c : NL} {o : sj} (h : o.kind = 7) : cG c o = (iF c).1 ∧ cc c o = ⟨0, 0, ⟨#[]⟩, false, (iF c).2⟩ := by
 unfold cG cc
 simp [h]
theorem n5 {c : NL} {o : sj} (h : o.kind ≠ 7) : (cc c o).outs = [] := by
 unfold cc
 repeat' split
 all_goals first | rfl | exact absurd (by assumption) h
theorem vz {c : NL} (h : VN c) (o : sj) : aX (cc c o).outs + cQ (cG c o) ≤ cQ c + iq o (cc c o).e ∧ 0 ≤ iq o (cc c o).e ∧ iq o (cc c o).e ≤ 1048576 := by
 by_cases h6 : o.kind = 6
 · obtain ⟨e1, e2⟩ := BW (c := c) h6
   rw [e1, e2]
   unfold iq
   rw [if_pos h6]
   have := vy h o.f
   show aX [] + cQ (dF c o.f).1 ≤ cQ c + fq (dF c o.f).2 o.f ∧ _
   rw [cq]
   refine ⟨by omega, this.2⟩
 by_cases h7 : o.kind = 7
 · obtain ⟨e1, e2⟩ := zZ (c := c) h7
   rw [e1, e2]
   unfold iq
   rw [if_neg h6]
   refine ⟨?_, Int.le_refl _, by decide⟩
   unfold iF cQ
   dsimp only
   rw [cq]
   omega
 · rw [n5 h7, cq]
   unfold iq
   rw [if_neg h6]
   refine ⟨?_, Int.le_refl _, by decide⟩
   have : cQ (cG c o) ≤ cQ c := by
    refine nU o (fun d => cQ d ≤ cQ c) (Int.le_refl _) ?_ (fun f chk hk => by rw [vx h f chk hk]; exact Int.le_refl _) ?_ ?_ (fun e => absurd e h6) (fun e => absurd e h7) ?_ ?_ (nZ c) ?_
    · unfold bx
      split
      · exact Int.le_refl _
      · have := iS (c := c) (f := eA c o.h o.n) (show (1 : Int) ≠ 2 by decide)
        unfold cQ at this ⊢
        dsimp only at this ⊢
        omega
    · unfold eT
      split
      · exact Int.le_refl _
      · have := iS (c := c) (f := ⟨5, o.id, o.n, emptyB⟩) (show (5 : Int) ≠ 2 by decide)
        exact Int.le_of_eq this
    · unfold dK
      split
      · exact Int.le_refl _
      · split
        · exact Int.le_refl _
        · dsimp only
          rw [nW]
          split
          · exact Int.le_refl _
          · rw [xR]; exact Int.le_refl _
    · unfold e9
      split
      · exact Int.le_refl _
      · split
        · exact Int.le_refl _
        · dsimp only; rw [iS (show (7 : Int) ≠ 2 by decide)]; exact Int.le_refl _
    · unfold iG
      split
      · have := iS (c := c) (f := ⟨9, 0, c.la, emptyB⟩) (show (9 : Int) ≠ 2 by decide)
        unfold cQ at this ⊢
        dsimp only at this ⊢
        omega
      · exact Int.le_refl _
    · unfold fZ
      split
      · exact Int.le_refl _
      · split
        · exact Int.le_refl _
        · rw [nW]; exact Int.le_refl _
   omega
theorem xS {sd sz : Int} (h : (eZ sd sz).2 = 0) : cQ (eZ sd sz).1 = sz ∧ 1 ≤ sz ∧ sz ≤ 1048576 := by
 have v := VN.new h
 have hsz := v.sz
 unfold eZ at h ⊢
 split at h
 · cases h
 · rename_i g
   have g2 : (iE sz).err = 0 := Decidable.not_not.1 fun e => g (.inr e)
   rw [if_neg g]
   unfold iE at g2 ⊢
   split at g2
   · cases g2
   · rename_i g'
     rw [if_neg g']
     unfold cQ
     dsimp only
     rw [cq]
     omega
end Go.Proofs.YthiocbcokfondaaGreatDoor.Y
