/- Texts of this claim merged into one: QVFed, QVSz, QVStp. -/
import Derived.Test.YthiocbcokfondaaGreatDoorQBunP
namespace Go.Proofs.YthiocbcokfondaaGreatDoor.Y
structure C1 (c : NL) (i : Nat) (k : KR) (f : aY) (k' : KR) (e : List aY) : Prop where
  eq : ep c i f = { c with ks := c.ks.set i k', ou := c.ou ++ e }
  pk : PK c.sd c.sz c.la k'
  id : k'.st.id = k.st.id
  dn : k.st.done = true → k' = k
  ib : k'.ib = k.ib
  nf : f.kind ≠ 6 → NF c.sw k'
  fr : ∀ x ∈ e, aR x = 0 ∧ x.kind = 5
  da : pV c i f = true → f.kind = 2 → k'.st.done = false → aW k.ib + aI f.data ≤ k'.st.rcv.held
  ok : (bQ k.st f).err = 0 → e = [] ∧ k' = eL { k with st := (bQ k.st f).st }
  no : (bQ k.st f).err ≠ 0 → e = [kM k] ∧ k' = { k with st := eA k.st 11 ⟨#[]⟩, ob := [] }
theorem jA {c : NL} (h : VN c) {i : Nat} {k : KR} (hi : c.ks[i]? = some k) {f : aY} (hf : aR f = 0) (hid : f.strm = k.st.id) (hkk : 2 ≤ f.kind ∧ f.kind ≤ 6) : ∃ k' e, C1 c i k f k' e := by
  have hp := h.pk k (List.mem_of_getElem? hi)
  have hn := h.nf k (List.mem_of_getElem? hi)
  by_cases he : (bQ k.st f).err = 0
  · have ho := zO he
    have hkp := ho.kept
    have hvs := tZ ho
    refine ⟨eL { k with st := (bQ k.st f).st }, [], ?_⟩
    have heq : ep c i f = { c with ks := c.ks.set i (eL { k with st := (bQ k.st f).st }), ou := c.ou ++ [] } := by
      unfold ep
      rw [df hi, if_neg (by rw [he]; simp), bM hi, List.append_nil]
    cases hd : (bQ k.st f).st.done with
    | true =>
      have hs : eL { k with st := (bQ k.st f).st } = { k with st := (bQ k.st f).st, ob := [] } := by unfold eL; exact if_pos hd
      rw [hs] at heq ⊢
      refine ⟨heq, ⟨hvs, hkp.sd.trans hp.sd, hkp.sz.trans hp.z1, hkp.rz.trans hp.z2, hkp.hd.trans hp.h0, hp.he, hp.ib, by show (bQ k.st f).st.id ≤ _; rw [hkp.id]; exact hp.la, fun _ => rfl, (fun e => by rw [show ({ k with st := (bQ k.st f).st, ob := [] } : KR).st.done = true from hd] at e; cases e), (fun e => by rw [show ({ k with st := (bQ k.st f).st, ob := [] } : KR).st.done = true from hd] at e; cases e), fun _ h => by cases h⟩, hkp.id, fun e => ?_, rfl, (fun _ f r e => by cases e), (fun _ h => by cases h), (fun _ _ e => by rw [show ({ k with st := (bQ k.st f).st, ob := [] } : KR).st.done = true from hd] at e; cases e), fun _ => ⟨rfl, hs.symm⟩, fun e => absurd he e⟩
      rw [ho.keepDone e, ← hp.dn e]
    | false =>
      have hs : eL { k with st := (bQ k.st f).st } = { k with st := (bQ k.st f).st } := by unfold eL; exact if_neg (by show ¬ (bQ k.st f).st.done = true; rw [hd]; simp)
      have hd0 : k.st.done = false := by rw [← (ho.more hd).done]; exact hd
      have hrc : k.st.rcv.held ≤ (bQ k.st f).st.rcv.held ∧ (f.kind = 2 → (bQ k.st f).st.rcv.held = k.st.rcv.held + aI f.data) ∧ (f.kind ≠ 6 → (bQ k.st f).st.snd = k.st.snd) := by
        have h9 := ho.h
        generalize (bQ k.st f).st = t at *
        have hc := cZ f.data
        cases h9 with
        | old hx => exact absurd hx (by rw [hd0]; simp)
        | data => exact ⟨by show k.st.rcv.held ≤ k.st.rcv.held + aI f.data; omega, fun _ => rfl, fun _ => rfl⟩
        | fin hd hk => exact ⟨Int.le_refl _, fun e => by omega, fun _ => rfl⟩
        | stat hd hk => exact ⟨Int.le_refl _, fun e => by omega, fun _ => rfl⟩
        | reset hd hk => exact ⟨Int.le_refl _, fun e => by omega, fun _ => rfl⟩
        | win hd hk => exact ⟨Int.le_refl _, fun e => by omega, fun e => absurd hk e⟩
      rw [hs] at heq ⊢
      have hun := hp.un hd0
      refine ⟨heq, ⟨hvs, hkp.sd.trans hp.sd, hkp.sz.trans hp.z1, hkp.rz.trans hp.z2, hkp.hd.trans hp.h0, hp.he, hp.ib, by show (bQ k.st f).st.id ≤ _; rw [hkp.id]; exact hp.la, (fun e => by rw [show ({ k with st := (bQ k.st f).st } : KR).st.done = false from hd] at e; cases e), fun _ => (by show aW k.ib ≤ (bQ k.st f).st.rcv.held; omega), fun _ => ?_, hp.kd⟩, hkp.id, (fun e => by rw [hd0] at e; cases e), rfl, fun h6 g r e => ?_, (fun _ h => by cases h), fun _ h2 _ => ?_, fun _ => ⟨rfl, hs.symm⟩, fun e => absurd he e⟩
      · exact mb (s := k.st) (me hp.ahd) (ho.more hd) (hkp.hd.trans hp.h0) hp.ahd
      · show (bQ k.st f).st.snd.left < _ ∨ _
        rw [hrc.2.2 h6]
        exact hn g r e
      · show aW k.ib + aI f.data ≤ (bQ k.st f).st.rcv.held
        rw [hrc.2.1 h2]
        omega
  · have hd0 : k.st.done = false := eq_false_of_ne_true fun e => he (by rw [mf ⟨fD.2 hp.vs, hf, hid, hkk, .old e⟩])
    have hid' := hp.vs.id
    have hfr : aR (kM k) = 0 := EV hid'.1 hid'.2 (by decide) (by decide)
    have hso : SndOk k.st (kM k) (eA k.st 11 ⟨#[]⟩) := ⟨fD.2 hp.vs, hfr, rfl, hd0, .reset rfl⟩
    have hse := jf hso
    refine ⟨{ k with st := eA k.st 11 ⟨#[]⟩, ob := [] }, [kM k], ?_, ⟨ia hso, hp.sd, hp.z1, hp.z2, hp.h0, hp.he, hp.ib, hp.la, fun _ => rfl, (fun e => by cases e), (fun e => by cases e), fun _ h => by cases h⟩, rfl, (fun e => by rw [hd0] at e; cases e), rfl, (fun _ f r e => by cases e), fun x hx => ?_, fun hb => ?_, fun e => absurd e he, fun _ => ⟨rfl, rfl⟩⟩
    · unfold ep
      rw [df hi, if_pos he, bM hi, hse]
      dsimp only
      rw [if_pos (show (0 : Int) = 0 from rfl)]
      rfl
    · obtain rfl := List.mem_singleton.1 hx
      exact ⟨hfr, rfl⟩
    · unfold pV at hb
      rw [df hi] at hb
      simp only [Bool.and_eq_true, decide_eq_true_eq] at hb
      exact absurd hb.1 he
theorem lB {c : NL} (h : VN c) (hc : c.cl = false) {i : Nat} {k k' : KR} (hi : c.ks[i]? = some k) {f : aY} {e : List aY} (hr : C1 c i k f k' e) : VB (ep c i f) ∧ (∀ j x, j ≠ i → (ep c i f).ks[j]? = some x → NF (ep c i f).sw x) ∧ (ep c i f).ks[i]? = some k' ∧ (f.kind ≠ 6 → VN (ep c i f)) := by
  have hil := (List.getElem?_eq_some_iff.1 hi).1
  have hb : VB (ep c i f) := by
    rw [hr.eq]
    refine h.toVB.upd (k' := k') (sw' := c.sw) (rw' := c.rw) hi hr.pk hr.id (fun hd => by rw [hr.dn hd]; exact hd) h.sw h.ss h.sh h.rw h.rs (fun x hx => ?_) (fun e => ?_) ?_
    · rcases List.mem_append.1 hx with hx | hx
      · exact h.ou x hx
      · exact (hr.fr x hx).1
    · rw [hc] at e; cases e
    · rw [dw hi, hr.ib]
      have := h.tt
      show be c.ks - aW k.ib + aW k.ib ≤ c.rw.held
      omega
  have hj : ∀ j x, j ≠ i → (ep c i f).ks[j]? = some x → NF (ep c i f).sw x := fun j x hj hx => by
    rw [hr.eq] at hx ⊢
    have hx' : (c.ks.set i k')[j]? = some x := hx
    rw [List.getElem?_set_ne (fun e => hj e.symm)] at hx'
    exact h.nf x (List.mem_of_getElem? hx')
  have hki : (ep c i f).ks[i]? = some k' := by
    rw [hr.eq]
    exact List.getElem?_set_self hil
  refine ⟨hb, hj, hki, fun h6 => ⟨hb, fun x hx => ?_⟩⟩
  obtain ⟨j, hjx⟩ := List.getElem?_of_mem hx
  by_cases e : j = i
  · subst e
    rw [hki] at hjx
    obtain rfl := Option.some.inj hjx
    rw [hr.eq]
    exact hr.nf h6
  · exact hj j x e hjx
theorem mS {c : NL} (h : VN c) {f : aY} (hl : aI f.data ≤ c.rw.left) : dq c f = { c with rw := ⟨c.rw.size, c.rw.left - aI f.data, c.rw.held + aI f.data⟩ } ∧ VN (dq c f) := by
  have hp := cZ f.data
  have ha := rT h.rw (show 0 ≤ aI f.data by omega) hl
  have e : dq c f = { c with rw := ⟨c.rw.size, c.rw.left - aI f.data, c.rw.held + aI f.data⟩ } := by
    unfold dq
    rw [ha, if_pos rfl]
  refine ⟨e, ?_⟩
  rw [e]
  exact ⟨⟨h.sd, h.sz, h.sw, nH h.rw (by omega) hl, h.ss, h.rs, h.sh, h.la, h.aw, h.n1, h.n2, h.pg, h.pn, h.cn, h.pk, h.asc, h.ou, h.cl, by have := h.tt; show be c.ks ≤ c.rw.held + aI f.data; omega⟩, h.nf⟩
theorem VN.data {c : NL} (h : VN c) (hc : c.cl = false) {f : aY} (hf : aR f = 0) (hk : f.kind = 2) (hl : aI f.data ≤ c.rw.left) : VN (jU c f) := by
  obtain ⟨e1, h1⟩ := mS h hl
  have hks : (dq c f).ks = c.ks := by rw [e1]
  have hcl : (dq c f).cl = false := by rw [e1]; exact hc
  unfold jU
  refine VN.gbC ?_
  cases hfi : dO f.strm c.ks 0 with
  | none => exact h1
  | some i =>
    obtain ⟨k, hi, hid⟩ := gJ hfi
    dsimp only
    have hi1 : (dq c f).ks[i]? = some k := by rw [hks]; exact hi
    obtain ⟨k', e, hr⟩ := jA h1 hi1 hf hid.symm ⟨by omega, by omega⟩
    obtain ⟨v1, v2, v3, v4⟩ := lB h1 hcl hi1 hr
    cases hb : pV (dq c f) i f with
    | false => rw [if_neg (by simp)]; exact v4 (by omega)
    | true =>
      rw [if_pos rfl, bM v3]
      have v := v4 (by omega)
      have hpk := v.pk k' (List.mem_of_getElem? v3)
      have hil := (List.getElem?_eq_some_iff.1 v3).1
      refine v.upd (k' := { k' with ib := k'.ib ++ [f.data] }) (sw' := (ep (dq c f) i f).sw) (rw' := (ep (dq c f) i f).rw) (ou' := (ep (dq c f) i f).ou) v3 ?_ rfl (fun e => e) v.sw v.ss v.sh (Int.le_refl _) (v.nf k' (List.mem_of_getElem? v3)) v.rw v.rs v.ou (fun e => (v.cl e).1) ?_
      · refine hpk.rcv (w := k'.st.rcv) (ib := k'.ib ++ [f.data]) hpk.vs.rv rfl (fun m hm => ?_) (fun hd => ?_)
        · rcases List.mem_append.1 hm with hm | hm
          · exact hpk.ib m hm
          · obtain rfl := List.mem_singleton.1 hm
            exact (gI hf).1
        · rw [jg, hr.ib]
          exact hr.da hb hk hd
      · rw [dw v3]
        show be (ep (dq c f) i f).ks - aW k'.ib + aW (k'.ib ++ [f.data]) ≤ (ep (dq c f) i f).rw.held
        rw [jg, hr.eq]
        show be ((dq c f).ks.set i k') - aW k'.ib + (aW k'.ib + aI f.data) ≤ (dq c f).rw.held
        rw [dw hi1, hks, hr.ib, e1]
        have := h.tt
        show be c.ks - aW k.ib + aW k.ib - aW k.ib + (aW k.ib + aI f.data) ≤ c.rw.held + aI f.data
        omega
theorem uf {c : NL} {i : Nat} : (fw c i).ks.length = c.ks.length := by
  unfold fw gb
  simp
theorem ug : ∀ (n i : Nat) (c : NL), VB c → i + n = c.ks.length → (∀ j k, j < i → c.ks[j]? = some k → NF c.sw k) → VN (jG c n i)
  | 0, i, c, h, hl, hn => ⟨h, fun k hk => by
    obtain ⟨j, hj⟩ := List.getElem?_of_mem hk
    exact hn j k (by have : j < c.ks.length := (List.getElem?_eq_some_iff.1 hj).1; omega) hj⟩
  | n + 1, i, c, h, hl, hn => by
    have hil : i < c.ks.length := by omega
    have hi : c.ks[i]? = some c.ks[i] := List.getElem?_eq_getElem hil
    obtain ⟨h1, h2, h3⟩ := h.son hi
    rw [jG]
    refine ug n (i + 1) (fw c i) h1 (by rw [uf]; omega) (fun j k hj hk => ?_)
    by_cases e : j = i
    · subst e; exact h3 k hk
    · refine (hn j k (by omega) ?_).less h2
      rw [gQ hi] at hk
      have hk' : (c.ks.set i _)[j]? = some k := hk
      rw [List.getElem?_set_ne (fun e' => e e'.symm)] at hk'
      exact hk'
theorem VN.cred {c : NL} (h : VN c) (hc : c.cl = false) {f : aY} (hf : aR f = 0) (hk : 3 ≤ f.kind ∧ f.kind ≤ 6) (hg : f.kind = 6 → f.strm = 0 → (cS c.sw f.num).err = 0) : VN (gf c f) := by
  unfold gf
  split
  · rename_i h0
    have h6 : f.kind = 6 := by
      have := nI hf
      unfold ft at this
      rw [if_neg (by omega)] at this
      by_cases e : f.kind = 6
      · exact e
      · rw [if_neg e, h0] at this; cases this
    have hge := hg h6 h0
    obtain ⟨a, b, d, e⟩ := nG hge
    rw [if_pos hge, e]
    refine ug _ 0 _ ⟨h.sd, h.sz, ma h.sw b d, h.rw, h.ss, h.rs, h.sh, h.la, h.aw, h.n1, h.n2, h.pg, h.pn, h.cn, h.pk, h.asc, h.ou, h.cl, h.tt⟩ (by show 0 + c.ks.length = c.ks.length; omega) (fun j k hj => by omega)
  · cases hfi : dO f.strm c.ks 0 with
    | none => exact h
    | some i =>
      obtain ⟨k, hi, hid⟩ := gJ hfi
      obtain ⟨k', e, hr⟩ := jA h hi hf hid.symm ⟨by omega, by omega⟩
      obtain ⟨v1, v2, v3, v4⟩ := lB h hc hi hr
      exact VN.son v1 v3 v2
theorem VN.acpt {c : NL} (h : VN c) (hc : c.cl = false) {f : aY} (hf : aR f = 0) (hs : c.sd = 2) (hl : c.la < f.strm) : VN (iw c f) := by
  have hla := h.la
  have hz := (gI hf).2
  unfold iw
  split
  · have h1 := h.out (f := ⟨5, f.strm, 12, emptyB⟩) (EV (by omega) hz (by decide) (by decide)) hc
    exact ⟨⟨h1.sd, h1.sz, h1.sw, h1.rw, h1.ss, h1.rs, h1.sh, ⟨by show 0 ≤ f.strm; omega, hz⟩, h1.aw, fun e => (by rw [show ({ c with la := f.strm, ou := c.ou ++ [⟨5, f.strm, 12, emptyB⟩] } : NL).sd = 2 from hs] at e; cases e), fun e => ⟨(h.n2 hs).1, by have := (h.n2 hs).2; show c.aw ≤ f.strm + 1; omega⟩, h1.pg, h1.pn, h1.cn, fun k hk => (h.pk k hk).la' (by show c.la ≤ f.strm; omega), h1.asc, h1.ou, h1.cl, h1.tt⟩, h1.nf⟩
  · rename_i g
    have g2 : ¬ 64 ≤ eo c.ks := fun e => g (.inr (.inl e))
    have g3 : (dH f.strm 2 f.num c.sz).err = 0 := Decidable.not_not.1 fun e => g (.inr (.inr (.inl e)))
    have g4 : (cP f.data).err = 0 := Decidable.not_not.1 fun e => g (.inr (.inr (.inr e)))
    have e1 : dH f.strm 2 f.num c.sz = dH f.strm c.sd f.num c.sz := by rw [hs]
    rw [e1] at g3 ⊢
    have := h.more (id := f.strm) (sh := f.num) (nx' := c.nx) (la' := f.strm) (ou' := c.ou) g3 hl rfl (fun e => by omega) (fun _ => (h.n2 hs).1) (by omega) hc (CZ g4) h.ou
    exact this
theorem VN.act {c : NL} (h : VN c) (hc : c.cl = false) {f : aY} (hr : jL c f = 0) : VN (lR c f) := by
  unfold jL at hr
  split at hr
  · cases hr
  rename_i g1
  split at hr
  · cases hr
  rename_i g2
  split at hr
  · cases hr
  rename_i g3
  split at hr
  · cases hr
  rename_i g4
  have hf : aR f = 0 := Decidable.not_not.1 fun e => g1 (.inl e)
  have hfo : oI c.sd f.kind = false := eq_false_of_ne_true fun e => g1 (.inr e)
  have hkk := rU hf
  unfold lR
  split
  · rename_i hk
    have hs : c.sd = 2 := by
      rcases h.sd with e | e
      · rw [e, hk] at hfo; exact absurd hfo (by decide)
      · exact e
    refine h.acpt hc hf hs ?_
    by_cases e : f.strm ≤ c.la
    · exact absurd (propext ⟨fun _ => e, fun _ => hk⟩) g2
    · omega
  rename_i hk1
  split
  · rename_i hk
    exact h.data hc hf hk (by have := fun e => g3 ⟨hk, e⟩; omega)
  rename_i hk2
  split
  · rename_i hk
    have hn : 0 ≤ f.num ∧ f.num ≤ 4294967295 := by
      have := lA hf
      unfold gG at this
      rw [hk] at this
      simpa using this
    exact h.out (FJ hn.1 hn.2) hc
  rename_i hk7
  split
  · rename_i hk
    have hn : 0 ≤ f.num ∧ f.num ≤ 4294967295 := by
      have := lA hf
      unfold gG at this
      rw [hk] at this
      simpa using this
    refine ⟨⟨h.sd, h.sz, h.sw, h.rw, h.ss, h.rs, h.sh, h.la, h.aw, h.n1, h.n2, ?_, fun n hn' => ?_, h.cn, h.pk, h.asc, h.ou, h.cl, h.tt⟩, h.nf⟩
    · show ((c.pg ++ [f.num]).drop _).length ≤ 16
      rw [List.length_drop, List.length_append, List.length_singleton]
      omega
    · have := List.mem_of_mem_drop hn'
      rcases List.mem_append.1 this with hx | hx
      · exact h.pn n hx
      · obtain rfl := List.mem_singleton.1 hx
        exact hn
  rename_i hk8
  split
  · rename_i hk
    have hn : 0 ≤ f.num ∧ f.num ≤ 2147483647 := by
      have := lA hf
      unfold gG at this
      rw [hk] at this
      simpa using this
    have hs : c.sd = 1 := by
      rcases h.sd with e | e
      · exact e
      · rw [e, hk] at hfo; exact absurd hfo (by decide)
    have haw := h.aw
    refine wC (c := { c with aw := if c.aw = 0 ∨ f.num + 1 < c.aw then f.num + 1 else c.aw }) ⟨⟨h.sd, h.sz, h.sw, h.rw, h.ss, h.rs, h.sh, h.la, ?_, h.n1, fun e => (by have e' : c.sd = 2 := e; omega), h.pg, h.pn, h.cn, h.pk, h.asc, h.ou, h.cl, h.tt⟩, h.nf⟩ _
    show 0 ≤ (if c.aw = 0 ∨ f.num + 1 < c.aw then f.num + 1 else c.aw) ∧ (if c.aw = 0 ∨ f.num + 1 < c.aw then f.num + 1 else c.aw) ≤ 2147483648
    split <;> omega
  rename_i hk9
  exact h.cred hc hf ⟨by omega, by omega⟩ (fun a b => Decidable.not_not.1 fun e => g4 ⟨a, b, e⟩)
theorem VN.feed {c : NL} (h : VN c) (f : aY) : VN (aH c f).1 := by
  unfold aH
  split
  · exact h
  · rename_i hc
    split
    · exact h.close
    · rename_i hr
      exact h.act (eq_false_of_ne_true hc) (Decidable.not_not.1 hr)
end Go.Proofs.YthiocbcokfondaaGreatDoor.Y
namespace Go.Proofs.YthiocbcokfondaaGreatDoor.Y
def ut (l : List KR) : Nat := (l.map (·.ob.length)).sum
def cu (c : NL) : Nat := c.ks.length + c.ou.length + ut c.ks
theorem gj (k : KR) (l : List KR) : ut (k :: l) = k.ob.length + ut l := by unfold ut; simp
theorem BK (a b : List KR) : ut (a ++ b) = ut a + ut b := by unfold ut; simp
theorem nJ {k : KR} : ∀ {l : List KR}, k ∈ l → k.ob.length ≤ ut l
  | a :: l, h => by
    rw [gj]
    rcases List.mem_cons.1 h with rfl | h
    · omega
    · have := nJ h; omega
theorem nK {k k' : KR} : ∀ {l : List KR} {i : Nat}, l[i]? = some k → ut (l.set i k') + k.ob.length = ut l + k'.ob.length
  | a :: l, 0, h => by
    obtain rfl := (by simpa using h : a = k)
    rw [List.set_cons_zero, gj, gj]; omega
  | a :: l, i + 1, h => by
    have h1 : l[i]? = some k := by simpa using h
    have := nK (k' := k') h1
    rw [List.set_cons_succ, gj, gj]; omega
theorem ke : ∀ l : List ByteArray, (l.length : Int) ≤ aW l
  | [] => Int.le_refl _
  | s :: r => by rw [aW, List.length_cons]; have := ke r; have := cZ s; omega
theorem uh {k : KR} : ∀ {l : List KR}, k ∈ l → aW k.ib ≤ be l
  | a :: l, h => by
    rw [be]
    rcases List.mem_cons.1 h with rfl | h
    · have := eY l; omega
    · have := uh h; have := eF a.ib; omega
theorem VB.szl {c : NL} (h : VB c) (hm : cu c ≤ 500000000) : SzL c := by
  unfold cu at hm
  have hrw := aX.1 h.rw
  have htt := h.tt
  refine ⟨by omega, ⟨by omega, fun f hf => by have := (gI (h.ou f hf)).1; omega⟩, by have := h.pg; omega, by omega, fun k hk => ?_⟩
  have hp := h.pk k hk
  obtain ⟨z1, z2⟩ := Ec hp.he
  have hu := uh hk
  have hi := ke k.ib
  have ho := nJ hk
  refine ⟨by have : k.ms.length ≤ 16 := z2; omega, by omega, by omega, ?_, fun f hf => by have := (gI (zN hp.ahd f hf).1).1; omega, by omega, z1⟩
  cases hd : k.st.done with
  | true => have := zK (hp.vs.dn hd).2.2; omega
  | false => have := (hp.vs.nd hd).2.2.2; omega
theorem pA {c : NL} (h : VB c) {i : Nat} {k : KR} (hi : c.ks[i]? = some k) : cu (fw c i) ≤ cu c := by
  obtain ⟨q, hf⟩ := rV h.sw (h.pk k (List.mem_of_getElem? hi))
  rw [gQ hi]
  generalize kL k.ob k.st c.sw c.ou = r at *
  unfold cu
  have h1 := nK (k' := { k with st := r.st, ob := r.ob }) hi
  have h2 : k.ob.length = q.length + r.ob.length := by rw [hf.fac.sp]; simp
  have h3 : r.ou.length = c.ou.length + q.length := by rw [hf.ou]; simp
  dsimp only at h1 ⊢
  rw [List.length_set]
  omega
theorem zT {c : NL} (f : aY) : cu { c with ou := c.ou ++ [f] } = cu c + 1 := by unfold cu; simp; omega
theorem zU (c : NL) : cu (gbC c) ≤ cu c + 1 := by
  unfold gbC
  split
  · omega
  · unfold cu; simp; omega
theorem xI {c : NL} {i : Nat} {k : KR} (hi : c.ks[i]? = some k) (g : KR → KR) (hg : (g k).ob.length ≤ k.ob.length) : cu (gb c i g) ≤ cu c := by
  rw [bM hi]
  have h1 := nK (k' := g k) hi
  unfold cu
  dsimp only
  rw [List.length_set]
  omega
theorem ui (c : NL) (above : Int) : cu (tp c above) ≤ cu c := by
  have h : ∀ l : List KR, ut (l.map (gz above)) ≤ ut l := by
    intro l
    induction l with
    | nil => exact Nat.le_refl _
    | cons k r ih =>
      rw [List.map_cons, gj, gj]
      have : (gz above k).ob.length ≤ k.ob.length := by
        unfold gz eL
        repeat' split
        all_goals first | exact Nat.zero_le _ | exact Nat.le_refl _
      omega
  unfold cu tp
  have := h c.ks
  dsimp only
  rw [List.length_map]
  omega
theorem vt (c : NL) : cu (kR c) ≤ cu c := by
  have h1 : cu { c with cl := true, ou := [] } ≤ cu c := by unfold cu; simp
  exact Nat.le_trans (ui _ 0) h1
theorem pB : ∀ (n i : Nat) (c : NL), VB c → i + n = c.ks.length → cu (jG c n i) ≤ cu c
  | 0, i, c, h, hl => Nat.le_refl _
  | n + 1, i, c, h, hl => by
    have hil : i < c.ks.length := by omega
    have hi : c.ks[i]? = some c.ks[i] := List.getElem?_eq_getElem hil
    obtain ⟨h1, h2, h3⟩ := h.son hi
    rw [jG]
    have := pB n (i + 1) (fw c i) h1 (by rw [uf]; omega)
    have := pA h hi
    omega
theorem pC {c : NL} {i : Nat} {k k' : KR} (hi : c.ks[i]? = some k) {f : aY} {e : List aY} (hr : C1 c i k f k' e) : cu (ep c i f) ≤ cu c + 1 := by
  rw [hr.eq]
  have h1 := nK (k' := k') hi
  have h2 : k'.ob.length ≤ k.ob.length ∧ e.length ≤ 1 := by
    by_cases he : (bQ k.st f).err = 0
    · obtain ⟨e1, e2⟩ := hr.ok he
      rw [e1, e2]
      refine ⟨?_, Nat.zero_le _⟩
      unfold eL
      split
      · exact Nat.zero_le _
      · exact Nat.le_refl _
    · obtain ⟨e1, e2⟩ := hr.no he
      rw [e1, e2]
      exact ⟨Nat.zero_le _, Nat.le_refl _⟩
  unfold cu
  dsimp only
  rw [List.length_set, List.length_append]
  omega
theorem qR {c : NL} (h : VN c) (f : aY) : cu (aH c f).1 ≤ cu c + 2 := by
  unfold aH
  split
  · exact Nat.le_add_right _ _
  rename_i hc0
  have hc : c.cl = false := eq_false_of_ne_true hc0
  split
  · have := vt c
    dsimp only; omega
  rename_i hr
  have hr : jL c f = 0 := Decidable.not_not.1 hr
  unfold jL at hr
  split at hr
  · cases hr
  rename_i g1
  split at hr
  · cases hr
  rename_i g2
  split at hr
  · cases hr
  rename_i g3
  split at hr
  · cases hr
  rename_i g4
  have hf : aR f = 0 := Decidable.not_not.1 fun e => g1 (.inl e)
  have hkk := rU hf
  dsimp only
  unfold lR
  split
  · unfold iw
    split
    · unfold cu; dsimp only; rw [List.length_append, List.length_singleton]; omega
    · unfold cu
      dsimp only
      rw [BK, gj]
      simp only [List.length_append, List.length_singleton]
      show _ + (0 + ut []) ≤ _
      unfold ut
      simp
      omega
  rename_i hk1
  split
  · rename_i hk
    have hl : aI f.data ≤ c.rw.left := by have := fun e => g3 ⟨hk, e⟩; omega
    obtain ⟨e1, h1⟩ := mS h hl
    have hm : cu (dq c f) = cu c := by rw [e1]; rfl
    have hks : (dq c f).ks = c.ks := by rw [e1]
    unfold jU
    refine Nat.le_trans (zU _) ?_
    cases hfi : dO f.strm c.ks 0 with
    | none => dsimp only; omega
    | some i =>
      obtain ⟨k, hi, hid⟩ := gJ hfi
      dsimp only
      have hi1 : (dq c f).ks[i]? = some k := by rw [hks]; exact hi
      obtain ⟨k', e, hrr⟩ := jA h1 hi1 hf hid.symm ⟨by omega, by omega⟩
      have h3 := pC hi1 hrr
      obtain ⟨v1, v2, v3, v4⟩ := lB h1 (by rw [e1]; exact hc) hi1 hrr
      split
      · have := xI v3 (fun k => { k with ib := k.ib ++ [f.data] }) (Nat.le_refl _)
        omega
      · omega
  rename_i hk2
  split
  · rw [zT]; omega
  rename_i hk7
  split
  · unfold cu; dsimp only; omega
  rename_i hk8
  split
  · refine Nat.le_trans (ui _ _) ?_
    unfold cu; dsimp only; omega
  rename_i hk9
  unfold gf
  split
  · rename_i h0
    have h6 : f.kind = 6 := by
      have := nI hf
      unfold ft at this
      rw [if_neg (by omega)] at this
      by_cases e : f.kind = 6
      · exact e
      · rw [if_neg e, h0] at this; cases this
    have hge : (cS c.sw f.num).err = 0 := Decidable.not_not.1 fun e => g4 ⟨h6, h0, e⟩
    obtain ⟨a, b, d, e⟩ := nG hge
    rw [if_pos hge, e]
    refine Nat.le_trans (pB _ 0 _ ⟨h.sd, h.sz, ma h.sw b d, h.rw, h.ss, h.rs, h.sh, h.la, h.aw, h.n1, h.n2, h.pg, h.pn, h.cn, h.pk, h.asc, h.ou, h.cl, h.tt⟩ (by show 0 + c.ks.length = c.ks.length; omega)) ?_
    unfold cu; dsimp only; omega
  · cases hfi : dO f.strm c.ks 0 with
    | none => dsimp only; omega
    | some i =>
      obtain ⟨k, hi, hid⟩ := gJ hfi
      obtain ⟨k', e, hrr⟩ := jA h hi hf hid.symm ⟨by omega, by omega⟩
      obtain ⟨v1, v2, v3, v4⟩ := lB h hc hi hrr
      have h3 := pC hi hrr
      have h4 := pA v1 v3
      dsimp only
      omega
theorem uj (c : NL) (s : cx) : ∀ l : List aY, (∀ f ∈ l, f.kind = 2 ∨ f.kind = 3 ∨ f.kind = 4) → fg c l false s = true
  | [], _ => by rw [fg]
  | f :: r, h => by
    rw [fg, uj c s r (fun x hx => h x (List.mem_cons_of_mem _ hx))]
    rcases h f (List.mem_cons_self ..) with e | e | e <;> rw [e] <;> rfl
theorem PK.callOk {c : NL} {k : KR} (h : PK c.sd c.sz c.la k) (hn : NF c.sw k) (hw : bl c.sw = true) : callOk c k = true := by
  unfold Y.callOk
  rw [fD.2 h.vs, h.sd, h.z1, h.z2, h.h0, h.he, show (k.ib.all fun m => decide (m.size ≤ 16384)) = true from List.all_eq_true.2 fun m hm => decide_eq_true (h.ib m hm)]
  simp only [decide_true, Bool.and_true, Bool.true_and]
  cases hd : k.st.done with
  | true => rw [if_pos rfl, h.dn hd]; rfl
  | false =>
    rw [if_neg (by simp), decide_eq_true (h.un hd), decide_eq_true (h.ah hd), Bool.true_and, Bool.true_and]
    cases ho : k.ob with
    | nil => rw [fg]
    | cons f r =>
      have hk := h.kd
      rw [ho] at hk
      rw [fg, uj c k.st r (fun x hx => hk x (List.mem_cons_of_mem _ hx))]
      have h1 := hn f r ho
      have h2 : f.kind = 2 := by
        refine Decidable.not_not.1 fun e => ?_
        rw [bR, if_neg e] at h1
        have a := aX.1 h.vs.sn
        have b := aX.1 hw
        omega
      rw [fm h2] at h1
      rw [h2]
      rcases h1 with h1 | h1
      · rw [decide_eq_false (show ¬ aI f.data ≤ k.st.snd.left by omega)]; rfl
      · rw [decide_eq_false (show ¬ aI f.data ≤ c.sw.left by omega), Bool.and_false]; rfl
theorem zV : ∀ (l : List KR) (p : Option Int), (∀ x, p = some x → ∀ k ∈ l, x < k.st.id) → (l.map (·.st.id)).Pairwise (· < ·) → ascB p l = true
  | [], _, _, _ => by rw [ascB.eq_def]
  | k :: r, p, h, hp => by
    rw [List.map_cons, List.pairwise_cons] at hp
    rw [ascB.eq_def]
    dsimp only
    rw [zV r (some k.st.id) (fun x e y hy => by obtain rfl := Option.some.inj e; exact hp.1 _ (List.mem_map_of_mem hy)) hp.2, Bool.and_true]
    cases p with
    | none => rfl
    | some x => exact decide_eq_true (h x rfl k (List.mem_cons_self ..))
theorem VB.acts {c : NL} (h : VB c) : pj c.ks = eo c.ks := zA (zV c.ks none (fun _ e => by cases e) h.asc)
end Go.Proofs.YthiocbcokfondaaGreatDoor.Y
namespace Go.Proofs.YthiocbcokfondaaGreatDoor.Y
structure Ef where
  kind : Int
  id : Int
  n : Int
  msg : ByteArray
  h : ir
  f : aY
  tc : Int
  tt : ByteArray
structure Fm where
  e : Int
  id : Int
  msg : ByteArray
  ok : Bool
  outs : List aY
def zW (c : NL) (o : Ef) : NL :=
  if o.kind = 0 then (cQ c o.h o.n).1 else if o.kind = 1 then (dL c o.id o.msg).1 else if o.kind = 2 then (B5 c o.id).1
  else if o.kind = 3 then (B6 c o.id o.tc o.tt).1 else if o.kind = 4 then (tm c o.id o.n).1 else if o.kind = 5 then (bY c o.id).1
  else if o.kind = 6 then (aH c o.f).1 else if o.kind = 7 then (jF c).1 else if o.kind = 8 then (tn c o.n).1
  else if o.kind = 9 then vP c else if o.kind = 10 then kR c else if o.kind = 11 then vQ c o.id else c
set_option maxHeartbeats 2000000 in
theorem zX {c : NL} (o : Ef) (p : NL → Prop) (h0 : p c) (h1 : p (cQ c o.h o.n).1) (h2 : ∀ f chk, (f.kind = 2 ∨ f.kind = 3 ∨ f.kind = 4) → p (eM c f chk).1) (h3 : p (tm c o.id o.n).1) (h4 : p (bY c o.id).1) (h5 : o.kind = 6 → p (aH c o.f).1) (h6 : o.kind = 7 → p (jF c).1) (h7 : p (tn c o.n).1) (h8 : p (vP c)) (h9 : p (kR c)) (h10 : p (vQ c o.id)) : p (zW c o) := by
  unfold zW
  split
  · exact h1
  split
  · exact h2 _ _ (.inl rfl)
  split
  · exact h2 _ _ (.inr (.inl rfl))
  split
  · exact h2 _ _ (.inr (.inr rfl))
  split
  · exact h3
  split
  · exact h4
  split
  · rename_i h; exact h5 h
  split
  · rename_i h; exact h6 h
  split
  · exact h7
  split
  · exact h8
  split
  · exact h9
  split
  · exact h10
  · exact h0
theorem VN.step {c : NL} (h : VN c) (o : Ef) : VN (zW c o) :=
  zX o VN h (h.open _ _) (fun f chk hk => h.wait f chk hk) (h.cancel _ _) (h.read _) (fun _ => h.feed _) (fun _ => h.flush) (h.ping _) h.away h.close (h.drop _)
structure K2 (k k' : KR) : Prop where
  id : k'.st.id = k.st.id
  st : k.st.done = true → k'.st.done = true ∧ k'.st.code = k.st.code ∧ k'.st.text = k.st.text
theorem K2.refl (k : KR) : K2 k k := ⟨rfl, fun h => ⟨h, rfl, rfl⟩⟩
theorem K2.trans {a b d : KR} (h1 : K2 a b) (h2 : K2 b d) : K2 a d := ⟨h2.id.trans h1.id, fun h => by
  obtain ⟨x, y, z⟩ := h1.st h
  obtain ⟨x', y', z'⟩ := h2.st x
  exact ⟨x', y'.trans y, z'.trans z⟩⟩
def Kq (l l' : List KR) : Prop := ∀ k ∈ l, ∃ k' ∈ l', K2 k k'
def Kp (l l' : List KR) : Prop := ∀ k ∈ l, (∃ k' ∈ l', K2 k k') ∨ (k.st.done = true ∧ ∀ y ∈ l', y.st.id ≠ k.st.id)
theorem Kq.kp {l l' : List KR} (h : Kq l l') : Kp l l' := fun k hk => .inl (h k hk)
theorem Kq.refl (l : List KR) : Kq l l := fun k hk => ⟨k, hk, .refl k⟩
theorem Kq.trans {a b d : List KR} (h1 : Kq a b) (h2 : Kq b d) : Kq a d := fun k hk => by
  obtain ⟨k1, hk1, e1⟩ := h1 k hk
  obtain ⟨k2, hk2, e2⟩ := h2 k1 hk1
  exact ⟨k2, hk2, e1.trans e2⟩
theorem Kq.set {l : List KR} {i : Nat} {k k' : KR} (hi : l[i]? = some k) (h : K2 k k') : Kq l (l.set i k') := fun x hx => by
  obtain ⟨j, hj⟩ := List.getElem?_of_mem hx
  by_cases e : i = j
  · subst e
    rw [hi] at hj
    obtain rfl := Option.some.inj hj
    exact ⟨k', List.mem_of_getElem? (List.getElem?_set_self (List.getElem?_eq_some_iff.1 hi).1), h⟩
  · exact ⟨x, List.mem_of_getElem? (by rw [List.getElem?_set_ne e]; exact hj), .refl x⟩
theorem VN.waitVB {c : NL} (h : VN c) {f : aY} {i : Nat} {k : KR} (hi : c.ks[i]? = some k) (hk : f.kind = 2 ∨ f.kind = 3 ∨ f.kind = 4) (hw : (bD (cy k.ob k.st).st f).err = 0) : VB { c with ks := c.ks.set i { k with ob := k.ob ++ [f] } } ∧ k.st.done = false := by
  have hp := h.pk k (List.mem_of_getElem? hi)
  have hah := pw hp.ahd hw
  have hnd : k.st.done = false := eq_false_of_ne_true fun e => by
    rw [hp.dn e, cy] at hw
    exact absurd hw (mR (s := gy k.st) e)
  refine ⟨h.toVB.upd (k' := { k with ob := k.ob ++ [f] }) (sw' := c.sw) (rw' := c.rw) (ou' := c.ou) hi ?_ rfl (fun e => e) h.sw h.ss h.sh h.rw h.rs h.ou (fun e => (h.cl e).1) ?_, hnd⟩
  · refine ⟨hp.vs, hp.sd, hp.z1, hp.z2, hp.h0, hp.he, hp.ib, hp.la, (fun e => by rw [show ({ k with ob := k.ob ++ [f] } : KR).st.done = false from hnd] at e; cases e), hp.un, fun _ => hah, fun x hx => ?_⟩
    rcases List.mem_append.1 hx with hx | hx
    · exact hp.kd x hx
    · obtain rfl := List.mem_singleton.1 hx
      exact hk
  · rw [dw hi]
    have := h.tt
    show be c.ks - aW k.ib + aW k.ib ≤ c.rw.held
    omega
theorem nL {f : aY} (h : f.kind ≠ 2) : bR f = 0 := by unfold bR; rw [if_neg h]
theorem BL {k s n : Int} {d : ByteArray} (h : k ≠ 2) : bR ⟨k, s, n, d⟩ = 0 := nL h
end Go.Proofs.YthiocbcokfondaaGreatDoor.Y
