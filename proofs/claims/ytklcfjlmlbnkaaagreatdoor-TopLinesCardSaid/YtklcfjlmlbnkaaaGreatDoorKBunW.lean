/- Texts of this claim merged into one: KVFed, KVSz, KLyC. -/
import Derived.Test.YtklcfjlmlbnkaaaGreatDoorKBunV
import Derived.Test.YtklcfjlmlbnkaaaGreatDoorKBunF
namespace Go.Proofs.YtklcfjlmlbnkaaaGreatDoor.Y
structure FW (c : NL) (i : Nat) (k : KR) (f : FrV) (k' : KR) (e : List FrV) : Prop where
  eq : dX c i f = { c with ks := c.ks.set i k', ou := c.ou ++ e }
  pk : PK c.sd c.sz c.la k'
  id : k'.st.id = k.st.id
  dn : k.st.done = true → k' = k
  ib : k'.ib = k.ib
  nf : f.kind ≠ 6 → NF c.sw k'
  fr : ∀ x ∈ e, ay x = 0 ∧ x.kind = 5
  da : si c i f = true → f.kind = 2 → k'.st.done = false → aN k.ib + au f.data ≤ k'.st.rcv.held
  ok : (bp k.st f).err = 0 → e = [] ∧ k' = eV { k with st := (bp k.st f).st }
  no : (bp k.st f).err ≠ 0 → e = [ll k] ∧ k' = { k with st := dN k.st 11 ⟨#[]⟩, ob := [] }
theorem lf {c : NL} (h : VN c) {i : Nat} {k : KR} (hi : c.ks[i]? = some k) {f : FrV} (hf : ay f = 0) (hid : f.strm = k.st.id) (hkk : 2 ≤ f.kind ∧ f.kind ≤ 6) : ∃ k' e, FW c i k f k' e := by
  have hp := h.pk k (List.mem_of_getElem? hi)
  have hn := h.nf k (List.mem_of_getElem? hi)
  by_cases he : (bp k.st f).err = 0
  · have ho := B4 he
    have hkp := ho.kept
    have hvs := uY ho
    refine ⟨eV { k with st := (bp k.st f).st }, [], ?_⟩
    have heq : dX c i f = { c with ks := c.ks.set i (eV { k with st := (bp k.st f).st }), ou := c.ou ++ [] } := by
      unfold dX
      rw [eX hi, if_neg (by rw [he]; simp), cg hi, List.append_nil]
    cases hd : (bp k.st f).st.done with
    | true =>
      have hs : eV { k with st := (bp k.st f).st } = { k with st := (bp k.st f).st, ob := [] } := by unfold eV; exact if_pos hd
      rw [hs] at heq ⊢
      refine ⟨heq, ⟨hvs, hkp.sd.trans hp.sd, hkp.sz.trans hp.z1, hkp.rz.trans hp.z2, hkp.hd.trans hp.h0, hp.he, hp.ib, by show (bp k.st f).st.id ≤ _; rw [hkp.id]; exact hp.la, fun _ => rfl, (fun e => by rw [show ({ k with st := (bp k.st f).st, ob := [] } : KR).st.done = true from hd] at e; cases e), (fun e => by rw [show ({ k with st := (bp k.st f).st, ob := [] } : KR).st.done = true from hd] at e; cases e), fun _ h => by cases h⟩, hkp.id, fun e => ?_, rfl, (fun _ f r e => by cases e), (fun _ h => by cases h), (fun _ _ e => by rw [show ({ k with st := (bp k.st f).st, ob := [] } : KR).st.done = true from hd] at e; cases e), fun _ => ⟨rfl, hs.symm⟩, fun e => absurd he e⟩
      rw [ho.keepDone e, ← hp.dn e]
    | false =>
      have hs : eV { k with st := (bp k.st f).st } = { k with st := (bp k.st f).st } := by unfold eV; exact if_neg (by show ¬ (bp k.st f).st.done = true; rw [hd]; simp)
      have hd0 : k.st.done = false := by rw [← (ho.more hd).done]; exact hd
      have hrc : k.st.rcv.held ≤ (bp k.st f).st.rcv.held ∧ (f.kind = 2 → (bp k.st f).st.rcv.held = k.st.rcv.held + au f.data) ∧ (f.kind ≠ 6 → (bp k.st f).st.snd = k.st.snd) := by
        have h9 := ho.h
        generalize (bp k.st f).st = t at *
        have hc := dz f.data
        cases h9 with
        | old hx => exact absurd hx (by rw [hd0]; simp)
        | data => exact ⟨by show k.st.rcv.held ≤ k.st.rcv.held + au f.data; omega, fun _ => rfl, fun _ => rfl⟩
        | fin hd hk => exact ⟨Int.le_refl _, fun e => by omega, fun _ => rfl⟩
        | stat hd hk => exact ⟨Int.le_refl _, fun e => by omega, fun _ => rfl⟩
        | reset hd hk => exact ⟨Int.le_refl _, fun e => by omega, fun _ => rfl⟩
        | win hd hk => exact ⟨Int.le_refl _, fun e => by omega, fun e => absurd hk e⟩
      rw [hs] at heq ⊢
      have hun := hp.un hd0
      refine ⟨heq, ⟨hvs, hkp.sd.trans hp.sd, hkp.sz.trans hp.z1, hkp.rz.trans hp.z2, hkp.hd.trans hp.h0, hp.he, hp.ib, by show (bp k.st f).st.id ≤ _; rw [hkp.id]; exact hp.la, (fun e => by rw [show ({ k with st := (bp k.st f).st } : KR).st.done = false from hd] at e; cases e), fun _ => (by show aN k.ib ≤ (bp k.st f).st.rcv.held; omega), fun _ => ?_, hp.kd⟩, hkp.id, (fun e => by rw [hd0] at e; cases e), rfl, fun h6 g r e => ?_, (fun _ h => by cases h), fun _ h2 _ => ?_, fun _ => ⟨rfl, hs.symm⟩, fun e => absurd he e⟩
      · exact mB (s := k.st) (mD hp.ahd) (ho.more hd) (hkp.hd.trans hp.h0) hp.ahd
      · show (bp k.st f).st.snd.left < _ ∨ _
        rw [hrc.2.2 h6]
        exact hn g r e
      · show aN k.ib + au f.data ≤ (bp k.st f).st.rcv.held
        rw [hrc.2.1 h2]
        omega
  · have hd0 : k.st.done = false := eq_false_of_ne_true fun e => he (by rw [uX ⟨fU.2 hp.vs, hf, hid, hkk, .old e⟩])
    have hid' := hp.vs.id
    have hfr : ay (ll k) = 0 := Iu hid'.1 hid'.2 (by decide) (by decide)
    have hso : SndOk k.st (ll k) (dN k.st 11 ⟨#[]⟩) := ⟨fU.2 hp.vs, hfr, rfl, hd0, .reset rfl⟩
    have hse := ij hso
    refine ⟨{ k with st := dN k.st 11 ⟨#[]⟩, ob := [] }, [ll k], ?_, ⟨jk hso, hp.sd, hp.z1, hp.z2, hp.h0, hp.he, hp.ib, hp.la, fun _ => rfl, (fun e => by cases e), (fun e => by cases e), fun _ h => by cases h⟩, rfl, (fun e => by rw [hd0] at e; cases e), rfl, (fun _ f r e => by cases e), fun x hx => ?_, fun hb => ?_, fun e => absurd e he, fun _ => ⟨rfl, rfl⟩⟩
    · unfold dX
      rw [eX hi, if_pos he, cg hi, hse]
      dsimp only
      rw [if_pos (show (0 : Int) = 0 from rfl)]
      rfl
    · obtain rfl := List.mem_singleton.1 hx
      exact ⟨hfr, rfl⟩
    · unfold si at hb
      rw [eX hi] at hb
      simp only [Bool.and_eq_true, decide_eq_true_eq] at hb
      exact absurd hb.1 he
theorem nt {c : NL} (h : VN c) (hc : c.cl = false) {i : Nat} {k k' : KR} (hi : c.ks[i]? = some k) {f : FrV} {e : List FrV} (hr : FW c i k f k' e) : VB (dX c i f) ∧ (∀ j x, j ≠ i → (dX c i f).ks[j]? = some x → NF (dX c i f).sw x) ∧ (dX c i f).ks[i]? = some k' ∧ (f.kind ≠ 6 → VN (dX c i f)) := by
  have hil := (List.getElem?_eq_some_iff.1 hi).1
  have hb : VB (dX c i f) := by
    rw [hr.eq]
    refine h.toVB.upd (k' := k') (sw' := c.sw) (rw' := c.rw) hi hr.pk hr.id (fun hd => by rw [hr.dn hd]; exact hd) h.sw h.ss h.sh h.rw h.rs (fun x hx => ?_) (fun e => ?_) ?_
    · rcases List.mem_append.1 hx with hx | hx
      · exact h.ou x hx
      · exact (hr.fr x hx).1
    · rw [hc] at e; cases e
    · rw [dh hi, hr.ib]
      have := h.tt
      show aP c.ks - aN k.ib + aN k.ib ≤ c.rw.held
      omega
  have hj : ∀ j x, j ≠ i → (dX c i f).ks[j]? = some x → NF (dX c i f).sw x := fun j x hj hx => by
    rw [hr.eq] at hx ⊢
    have hx' : (c.ks.set i k')[j]? = some x := hx
    rw [List.getElem?_set_ne (fun e => hj e.symm)] at hx'
    exact h.nf x (List.mem_of_getElem? hx')
  have hki : (dX c i f).ks[i]? = some k' := by
    rw [hr.eq]
    exact List.getElem?_set_self hil
  refine ⟨hb, hj, hki, fun h6 => ⟨hb, fun x hx => ?_⟩⟩
  obtain ⟨j, hjx⟩ := List.getElem?_of_mem hx
  by_cases e : j = i
  · subst e
    rw [hki] at hjx
    obtain rfl := Option.some.inj hjx
    rw [hr.eq]
    exact hr.nf h6
  · exact hj j x e hjx
theorem pH {c : NL} (h : VN c) {f : FrV} (hl : au f.data ≤ c.rw.left) : dk c f = { c with rw := ⟨c.rw.size, c.rw.left - au f.data, c.rw.held + au f.data⟩ } ∧ VN (dk c f) := by
  have hp := dz f.data
  have ha := pA h.rw (show 0 ≤ au f.data by omega) hl
  have e : dk c f = { c with rw := ⟨c.rw.size, c.rw.left - au f.data, c.rw.held + au f.data⟩ } := by
    unfold dk
    rw [ha, if_pos rfl]
  refine ⟨e, ?_⟩
  rw [e]
  exact ⟨⟨h.sd, h.sz, h.sw, sG h.rw (by omega) hl, h.ss, h.rs, h.sh, h.la, h.aw, h.n1, h.n2, h.pg, h.pn, h.cn, h.pk, h.asc, h.ou, h.cl, by have := h.tt; show aP c.ks ≤ c.rw.held + au f.data; omega⟩, h.nf⟩
theorem VN.data {c : NL} (h : VN c) (hc : c.cl = false) {f : FrV} (hf : ay f = 0) (hk : f.kind = 2) (hl : au f.data ≤ c.rw.left) : VN (lv c f) := by
  obtain ⟨e1, h1⟩ := pH h hl
  have hks : (dk c f).ks = c.ks := by rw [e1]
  have hcl : (dk c f).cl = false := by rw [e1]; exact hc
  unfold lv
  refine VN.gbC ?_
  cases hfi : dj f.strm c.ks 0 with
  | none => exact h1
  | some i =>
    obtain ⟨k, hi, hid⟩ := gz hfi
    dsimp only
    have hi1 : (dk c f).ks[i]? = some k := by rw [hks]; exact hi
    obtain ⟨k', e, hr⟩ := lf h1 hi1 hf hid.symm ⟨by omega, by omega⟩
    obtain ⟨v1, v2, v3, v4⟩ := nt h1 hcl hi1 hr
    cases hb : si (dk c f) i f with
    | false => rw [if_neg (by simp)]; exact v4 (by omega)
    | true =>
      rw [if_pos rfl, cg v3]
      have v := v4 (by omega)
      have hpk := v.pk k' (List.mem_of_getElem? v3)
      have hil := (List.getElem?_eq_some_iff.1 v3).1
      refine v.upd (k' := { k' with ib := k'.ib ++ [f.data] }) (sw' := (dX (dk c f) i f).sw) (rw' := (dX (dk c f) i f).rw) (ou' := (dX (dk c f) i f).ou) v3 ?_ rfl (fun e => e) v.sw v.ss v.sh (Int.le_refl _) (v.nf k' (List.mem_of_getElem? v3)) v.rw v.rs v.ou (fun e => (v.cl e).1) ?_
      · refine hpk.rcv (w := k'.st.rcv) (ib := k'.ib ++ [f.data]) hpk.vs.rv rfl (fun m hm => ?_) (fun hd => ?_)
        · rcases List.mem_append.1 hm with hm | hm
          · exact hpk.ib m hm
          · obtain rfl := List.mem_singleton.1 hm
            exact (fw hf).1
        · rw [kB, hr.ib]
          exact hr.da hb hk hd
      · rw [dh v3]
        show aP (dX (dk c f) i f).ks - aN k'.ib + aN (k'.ib ++ [f.data]) ≤ (dX (dk c f) i f).rw.held
        rw [kB, hr.eq]
        show aP ((dk c f).ks.set i k') - aN k'.ib + (aN k'.ib + au f.data) ≤ (dk c f).rw.held
        rw [dh hi1, hks, hr.ib, e1]
        have := h.tt
        show aP c.ks - aN k.ib + aN k.ib - aN k.ib + (aN k.ib + au f.data) ≤ c.rw.held + au f.data
        omega
theorem ve {c : NL} {i : Nat} : (gu c i).ks.length = c.ks.length := by
  unfold gu eZ
  simp
theorem vf : ∀ (n i : Nat) (c : NL), VB c → i + n = c.ks.length → (∀ j k, j < i → c.ks[j]? = some k → NF c.sw k) → VN (kx c n i)
  | 0, i, c, h, hl, hn => ⟨h, fun k hk => by
    obtain ⟨j, hj⟩ := List.getElem?_of_mem hk
    exact hn j k (by have : j < c.ks.length := (List.getElem?_eq_some_iff.1 hj).1; omega) hj⟩
  | n + 1, i, c, h, hl, hn => by
    have hil : i < c.ks.length := by omega
    have hi : c.ks[i]? = some c.ks[i] := List.getElem?_eq_getElem hil
    obtain ⟨h1, h2, h3⟩ := h.son hi
    rw [kx]
    refine vf n (i + 1) (gu c i) h1 (by rw [ve]; omega) (fun j k hj hk => ?_)
    by_cases e : j = i
    · subst e; exact h3 k hk
    · refine (hn j k (by omega) ?_).less h2
      rw [jl hi] at hk
      have hk' : (c.ks.set i _)[j]? = some k := hk
      rw [List.getElem?_set_ne (fun e' => e e'.symm)] at hk'
      exact hk'
theorem VN.cred {c : NL} (h : VN c) (hc : c.cl = false) {f : FrV} (hf : ay f = 0) (hk : 3 ≤ f.kind ∧ f.kind ≤ 6) (hg : f.kind = 6 → f.strm = 0 → (cC c.sw f.num).err = 0) : VN (gY c f) := by
  unfold gY
  split
  · rename_i h0
    have h6 : f.kind = 6 := by
      have := sH hf
      unfold eA at this
      rw [if_neg (by omega)] at this
      by_cases e : f.kind = 6
      · exact e
      · rw [if_neg e, h0] at this; cases this
    have hge := hg h6 h0
    obtain ⟨a, b, d, e⟩ := og hge
    rw [if_pos hge, e]
    refine vf _ 0 _ ⟨h.sd, h.sz, oh h.sw b d, h.rw, h.ss, h.rs, h.sh, h.la, h.aw, h.n1, h.n2, h.pg, h.pn, h.cn, h.pk, h.asc, h.ou, h.cl, h.tt⟩ (by show 0 + c.ks.length = c.ks.length; omega) (fun j k hj => by omega)
  · cases hfi : dj f.strm c.ks 0 with
    | none => exact h
    | some i =>
      obtain ⟨k, hi, hid⟩ := gz hfi
      obtain ⟨k', e, hr⟩ := lf h hi hf hid.symm ⟨by omega, by omega⟩
      obtain ⟨v1, v2, v3, v4⟩ := nt h hc hi hr
      exact VN.son v1 v3 v2
theorem VN.acpt {c : NL} (h : VN c) (hc : c.cl = false) {f : FrV} (hf : ay f = 0) (hs : c.sd = 2) (hl : c.la < f.strm) : VN (jd c f) := by
  have hla := h.la
  have hz := (fw hf).2
  unfold jd
  split
  · have h1 := h.out (f := ⟨5, f.strm, 12, emptyB⟩) (Iu (by omega) hz (by decide) (by decide)) hc
    exact ⟨⟨h1.sd, h1.sz, h1.sw, h1.rw, h1.ss, h1.rs, h1.sh, ⟨by show 0 ≤ f.strm; omega, hz⟩, h1.aw, fun e => (by rw [show ({ c with la := f.strm, ou := c.ou ++ [⟨5, f.strm, 12, emptyB⟩] } : NL).sd = 2 from hs] at e; cases e), fun e => ⟨(h.n2 hs).1, by have := (h.n2 hs).2; show c.aw ≤ f.strm + 1; omega⟩, h1.pg, h1.pn, h1.cn, fun k hk => (h.pk k hk).la' (by show c.la ≤ f.strm; omega), h1.asc, h1.ou, h1.cl, h1.tt⟩, h1.nf⟩
  · rename_i g
    have g2 : ¬ 64 ≤ dO c.ks := fun e => g (.inr (.inl e))
    have g3 : (dq f.strm 2 f.num c.sz).err = 0 := Decidable.not_not.1 fun e => g (.inr (.inr (.inl e)))
    have g4 : (cM f.data).err = 0 := Decidable.not_not.1 fun e => g (.inr (.inr (.inr e)))
    have e1 : dq f.strm 2 f.num c.sz = dq f.strm c.sd f.num c.sz := by rw [hs]
    rw [e1] at g3 ⊢
    have := h.more (id := f.strm) (sh := f.num) (nx' := c.nx) (la' := f.strm) (ou' := c.ou) g3 hl rfl (fun e => by omega) (fun _ => (h.n2 hs).1) (by omega) hc (FP g4) h.ou
    exact this
theorem VN.act {c : NL} (h : VN c) (hc : c.cl = false) {f : FrV} (hr : lj c f = 0) : VN (sj c f) := by
  unfold lj at hr
  split at hr
  · cases hr
  rename_i g1
  split at hr
  · cases hr
  rename_i g2
  split at hr
  · cases hr
  rename_i g3
  split at hr
  · cases hr
  rename_i g4
  have hf : ay f = 0 := Decidable.not_not.1 fun e => g1 (.inl e)
  have hfo : ut c.sd f.kind = false := eq_false_of_ne_true fun e => g1 (.inr e)
  have hkk := sI hf
  unfold sj
  split
  · rename_i hk
    have hs : c.sd = 2 := by
      rcases h.sd with e | e
      · rw [e, hk] at hfo; exact absurd hfo (by decide)
      · exact e
    refine h.acpt hc hf hs ?_
    by_cases e : f.strm ≤ c.la
    · exact absurd (propext ⟨fun _ => e, fun _ => hk⟩) g2
    · omega
  rename_i hk1
  split
  · rename_i hk
    exact h.data hc hf hk (by have := fun e => g3 ⟨hk, e⟩; omega)
  rename_i hk2
  split
  · rename_i hk
    have hn : 0 ≤ f.num ∧ f.num ≤ 4294967295 := by
      have := pD hf
      unfold fQ at this
      rw [hk] at this
      simpa using this
    exact h.out (Jv hn.1 hn.2) hc
  rename_i hk7
  split
  · rename_i hk
    have hn : 0 ≤ f.num ∧ f.num ≤ 4294967295 := by
      have := pD hf
      unfold fQ at this
      rw [hk] at this
      simpa using this
    refine ⟨⟨h.sd, h.sz, h.sw, h.rw, h.ss, h.rs, h.sh, h.la, h.aw, h.n1, h.n2, ?_, fun n hn' => ?_, h.cn, h.pk, h.asc, h.ou, h.cl, h.tt⟩, h.nf⟩
    · show ((c.pg ++ [f.num]).drop _).length ≤ 16
      rw [List.length_drop, List.length_append, List.length_singleton]
      omega
    · have := List.mem_of_mem_drop hn'
      rcases List.mem_append.1 this with hx | hx
      · exact h.pn n hx
      · obtain rfl := List.mem_singleton.1 hx
        exact hn
  rename_i hk8
  split
  · rename_i hk
    have hn : 0 ≤ f.num ∧ f.num ≤ 2147483647 := by
      have := pD hf
      unfold fQ at this
      rw [hk] at this
      simpa using this
    have hs : c.sd = 1 := by
      rcases h.sd with e | e
      · exact e
      · rw [e, hk] at hfo; exact absurd hfo (by decide)
    have haw := h.aw
    refine yh (c := { c with aw := if c.aw = 0 ∨ f.num + 1 < c.aw then f.num + 1 else c.aw }) ⟨⟨h.sd, h.sz, h.sw, h.rw, h.ss, h.rs, h.sh, h.la, ?_, h.n1, fun e => (by have e' : c.sd = 2 := e; omega), h.pg, h.pn, h.cn, h.pk, h.asc, h.ou, h.cl, h.tt⟩, h.nf⟩ _
    show 0 ≤ (if c.aw = 0 ∨ f.num + 1 < c.aw then f.num + 1 else c.aw) ∧ (if c.aw = 0 ∨ f.num + 1 < c.aw then f.num + 1 else c.aw) ≤ 2147483648
    split <;> omega
  rename_i hk9
  exact h.cred hc hf ⟨by omega, by omega⟩ (fun a b => Decidable.not_not.1 fun e => g4 ⟨a, b, e⟩)
theorem VN.feed {c : NL} (h : VN c) (f : FrV) : VN (dg c f).1 := by
  unfold dg
  split
  · exact h
  · rename_i hc
    split
    · exact h.close
    · rename_i hr
      exact h.act (eq_false_of_ne_true hc) (Decidable.not_not.1 hr)
end Go.Proofs.YtklcfjlmlbnkaaaGreatDoor.Y
namespace Go.Proofs.YtklcfjlmlbnkaaaGreatDoor.Y
def wU (l : List KR) : Nat := (l.map (·.ob.length)).sum
def cm (c : NL) : Nat := c.ks.length + c.ou.length + wU c.ks
theorem fJ (k : KR) (l : List KR) : wU (k :: l) = k.ob.length + wU l := by unfold wU; simp
theorem Ea (a b : List KR) : wU (a ++ b) = wU a + wU b := by unfold wU; simp
theorem om {k : KR} : ∀ {l : List KR}, k ∈ l → k.ob.length ≤ wU l
  | a :: l, h => by
    rw [fJ]
    rcases List.mem_cons.1 h with rfl | h
    · omega
    · have := om h; omega
theorem oo {k k' : KR} : ∀ {l : List KR} {i : Nat}, l[i]? = some k → wU (l.set i k') + k.ob.length = wU l + k'.ob.length
  | a :: l, 0, h => by
    obtain rfl := (by simpa using h : a = k)
    rw [List.set_cons_zero, fJ, fJ]; omega
  | a :: l, i + 1, h => by
    have h1 : l[i]? = some k := by simpa using h
    have := oo (k' := k') h1
    rw [List.set_cons_succ, fJ, fJ]; omega
theorem kC : ∀ l : List ByteArray, (l.length : Int) ≤ aN l
  | [] => Int.le_refl _
  | s :: r => by rw [aN, List.length_cons]; have := kC r; have := dz s; omega
theorem vg {k : KR} : ∀ {l : List KR}, k ∈ l → aN k.ib ≤ aP l
  | a :: l, h => by
    rw [aP]
    rcases List.mem_cons.1 h with rfl | h
    · have := eC l; omega
    · have := vg h; have := eW a.ib; omega
theorem VB.szl {c : NL} (h : VB c) (hm : cm c ≤ 500000000) : SzL c := by
  unfold cm at hm
  have hrw := aR.1 h.rw
  have htt := h.tt
  refine ⟨by omega, ⟨by omega, fun f hf => by have := (fw (h.ou f hf)).1; omega⟩, by have := h.pg; omega, by omega, fun k hk => ?_⟩
  have hp := h.pk k hk
  obtain ⟨z1, z2⟩ := G9 hp.he
  have hu := vg hk
  have hi := kC k.ib
  have ho := om hk
  refine ⟨by have : k.ms.length ≤ 16 := z2; omega, by omega, by omega, ?_, fun f hf => by have := (fw (B3 hp.ahd f hf).1).1; omega, by omega, z1⟩
  cases hd : k.st.done with
  | true => have := BZ (hp.vs.dn hd).2.2; omega
  | false => have := (hp.vs.nd hd).2.2.2; omega
theorem pI {c : NL} (h : VB c) {i : Nat} {k : KR} (hi : c.ks[i]? = some k) : cm (gu c i) ≤ cm c := by
  obtain ⟨q, hf⟩ := yf h.sw (h.pk k (List.mem_of_getElem? hi))
  rw [jl hi]
  generalize jO k.ob k.st c.sw c.ou = r at *
  unfold cm
  have h1 := oo (k' := { k with st := r.st, ob := r.ob }) hi
  have h2 : k.ob.length = q.length + r.ob.length := by rw [hf.fac.sp]; simp
  have h3 : r.ou.length = c.ou.length + q.length := by rw [hf.ou]; simp
  dsimp only at h1 ⊢
  rw [List.length_set]
  omega
theorem B9 {c : NL} (f : FrV) : cm { c with ou := c.ou ++ [f] } = cm c + 1 := by unfold cm; simp; omega
theorem Ca (c : NL) : cm (gbC c) ≤ cm c + 1 := by
  unfold gbC
  split
  · omega
  · unfold cm; simp; omega
theorem zF {c : NL} {i : Nat} {k : KR} (hi : c.ks[i]? = some k) (g : KR → KR) (hg : (g k).ob.length ≤ k.ob.length) : cm (eZ c i g) ≤ cm c := by
  rw [cg hi]
  have h1 := oo (k' := g k) hi
  unfold cm
  dsimp only
  rw [List.length_set]
  omega
theorem vi (c : NL) (above : Int) : cm (ur c above) ≤ cm c := by
  have h : ∀ l : List KR, wU (l.map (fS above)) ≤ wU l := by
    intro l
    induction l with
    | nil => exact Nat.le_refl _
    | cons k r ih =>
      rw [List.map_cons, fJ, fJ]
      have : (fS above k).ob.length ≤ k.ob.length := by
        unfold fS eV
        repeat' split
        all_goals first | exact Nat.zero_le _ | exact Nat.le_refl _
      omega
  unfold cm ur
  have := h c.ks
  dsimp only
  rw [List.length_map]
  omega
theorem wV (c : NL) : cm (lu c) ≤ cm c := by
  have h1 : cm { c with cl := true, ou := [] } ≤ cm c := by unfold cm; simp
  exact Nat.le_trans (vi _ 0) h1
theorem pJ : ∀ (n i : Nat) (c : NL), VB c → i + n = c.ks.length → cm (kx c n i) ≤ cm c
  | 0, i, c, h, hl => Nat.le_refl _
  | n + 1, i, c, h, hl => by
    have hil : i < c.ks.length := by omega
    have hi : c.ks[i]? = some c.ks[i] := List.getElem?_eq_getElem hil
    obtain ⟨h1, h2, h3⟩ := h.son hi
    rw [kx]
    have := pJ n (i + 1) (gu c i) h1 (by rw [ve]; omega)
    have := pI h hi
    omega
theorem pK {c : NL} {i : Nat} {k k' : KR} (hi : c.ks[i]? = some k) {f : FrV} {e : List FrV} (hr : FW c i k f k' e) : cm (dX c i f) ≤ cm c + 1 := by
  rw [hr.eq]
  have h1 := oo (k' := k') hi
  have h2 : k'.ob.length ≤ k.ob.length ∧ e.length ≤ 1 := by
    by_cases he : (bp k.st f).err = 0
    · obtain ⟨e1, e2⟩ := hr.ok he
      rw [e1, e2]
      refine ⟨?_, Nat.zero_le _⟩
      unfold eV
      split
      · exact Nat.zero_le _
      · exact Nat.le_refl _
    · obtain ⟨e1, e2⟩ := hr.no he
      rw [e1, e2]
      exact ⟨Nat.zero_le _, Nat.le_refl _⟩
  unfold cm
  dsimp only
  rw [List.length_set, List.length_append]
  omega
theorem zG {c : NL} (h : VN c) (f : FrV) : cm (dg c f).1 ≤ cm c + 2 := by
  unfold dg
  split
  · exact Nat.le_add_right _ _
  rename_i hc0
  have hc : c.cl = false := eq_false_of_ne_true hc0
  split
  · have := wV c
    dsimp only; omega
  rename_i hr
  have hr : lj c f = 0 := Decidable.not_not.1 hr
  unfold lj at hr
  split at hr
  · cases hr
  rename_i g1
  split at hr
  · cases hr
  rename_i g2
  split at hr
  · cases hr
  rename_i g3
  split at hr
  · cases hr
  rename_i g4
  have hf : ay f = 0 := Decidable.not_not.1 fun e => g1 (.inl e)
  have hkk := sI hf
  dsimp only
  unfold sj
  split
  · unfold jd
    split
    · unfold cm; dsimp only; rw [List.length_append, List.length_singleton]; omega
    · unfold cm
      dsimp only
      rw [Ea, fJ]
      simp only [List.length_append, List.length_singleton]
      show _ + (0 + wU []) ≤ _
      unfold wU
      simp
      omega
  rename_i hk1
  split
  · rename_i hk
    have hl : au f.data ≤ c.rw.left := by have := fun e => g3 ⟨hk, e⟩; omega
    obtain ⟨e1, h1⟩ := pH h hl
    have hm : cm (dk c f) = cm c := by rw [e1]; rfl
    have hks : (dk c f).ks = c.ks := by rw [e1]
    unfold lv
    refine Nat.le_trans (Ca _) ?_
    cases hfi : dj f.strm c.ks 0 with
    | none => dsimp only; omega
    | some i =>
      obtain ⟨k, hi, hid⟩ := gz hfi
      dsimp only
      have hi1 : (dk c f).ks[i]? = some k := by rw [hks]; exact hi
      obtain ⟨k', e, hrr⟩ := lf h1 hi1 hf hid.symm ⟨by omega, by omega⟩
      have h3 := pK hi1 hrr
      obtain ⟨v1, v2, v3, v4⟩ := nt h1 (by rw [e1]; exact hc) hi1 hrr
      split
      · have := zF v3 (fun k => { k with ib := k.ib ++ [f.data] }) (Nat.le_refl _)
        omega
      · omega
  rename_i hk2
  split
  · rw [B9]; omega
  rename_i hk7
  split
  · unfold cm; dsimp only; omega
  rename_i hk8
  split
  · refine Nat.le_trans (vi _ _) ?_
    unfold cm; dsimp only; omega
  rename_i hk9
  unfold gY
  split
  · rename_i h0
    have h6 : f.kind = 6 := by
      have := sH hf
      unfold eA at this
      rw [if_neg (by omega)] at this
      by_cases e : f.kind = 6
      · exact e
      · rw [if_neg e, h0] at this; cases this
    have hge : (cC c.sw f.num).err = 0 := Decidable.not_not.1 fun e => g4 ⟨h6, h0, e⟩
    obtain ⟨a, b, d, e⟩ := og hge
    rw [if_pos hge, e]
    refine Nat.le_trans (pJ _ 0 _ ⟨h.sd, h.sz, oh h.sw b d, h.rw, h.ss, h.rs, h.sh, h.la, h.aw, h.n1, h.n2, h.pg, h.pn, h.cn, h.pk, h.asc, h.ou, h.cl, h.tt⟩ (by show 0 + c.ks.length = c.ks.length; omega)) ?_
    unfold cm; dsimp only; omega
  · cases hfi : dj f.strm c.ks 0 with
    | none => dsimp only; omega
    | some i =>
      obtain ⟨k, hi, hid⟩ := gz hfi
      obtain ⟨k', e, hrr⟩ := lf h hi hf hid.symm ⟨by omega, by omega⟩
      obtain ⟨v1, v2, v3, v4⟩ := nt h hc hi hrr
      have h3 := pK hi hrr
      have h4 := pI v1 v3
      dsimp only
      omega
theorem vj (c : NL) (s : StV) : ∀ l : List FrV, (∀ f ∈ l, f.kind = 2 ∨ f.kind = 3 ∨ f.kind = 4) → lI c l false s = true
  | [], _ => by rw [lI]
  | f :: r, h => by
    rw [lI, vj c s r (fun x hx => h x (List.mem_cons_of_mem _ hx))]
    rcases h f (List.mem_cons_self ..) with e | e | e <;> rw [e] <;> rfl
theorem PK.callOk {c : NL} {k : KR} (h : PK c.sd c.sz c.la k) (hn : NF c.sw k) (hw : aS c.sw = true) : callOk c k = true := by
  unfold Y.callOk
  rw [fU.2 h.vs, h.sd, h.z1, h.z2, h.h0, h.he, show (k.ib.all fun m => decide (m.size ≤ 16384)) = true from List.all_eq_true.2 fun m hm => decide_eq_true (h.ib m hm)]
  simp only [decide_true, Bool.and_true, Bool.true_and]
  cases hd : k.st.done with
  | true => rw [if_pos rfl, h.dn hd]; rfl
  | false =>
    rw [if_neg (by simp), decide_eq_true (h.un hd), decide_eq_true (h.ah hd), Bool.true_and, Bool.true_and]
    cases ho : k.ob with
    | nil => rw [lI]
    | cons f r =>
      have hk := h.kd
      rw [ho] at hk
      rw [lI, vj c k.st r (fun x hx => hk x (List.mem_cons_of_mem _ hx))]
      have h1 := hn f r ho
      have h2 : f.kind = 2 := by
        refine Decidable.not_not.1 fun e => ?_
        rw [bE, if_neg e] at h1
        have a := aR.1 h.vs.sn
        have b := aR.1 hw
        omega
      rw [jC h2] at h1
      rw [h2]
      rcases h1 with h1 | h1
      · rw [decide_eq_false (show ¬ au f.data ≤ k.st.snd.left by omega)]; rfl
      · rw [decide_eq_false (show ¬ au f.data ≤ c.sw.left by omega), Bool.and_false]; rfl
theorem Cb : ∀ (l : List KR) (p : Option Int), (∀ x, p = some x → ∀ k ∈ l, x < k.st.id) → (l.map (·.st.id)).Pairwise (· < ·) → ascB p l = true
  | [], _, _, _ => by rw [ascB.eq_def]
  | k :: r, p, h, hp => by
    rw [List.map_cons, List.pairwise_cons] at hp
    rw [ascB.eq_def]
    dsimp only
    rw [Cb r (some k.st.id) (fun x e y hy => by obtain rfl := Option.some.inj e; exact hp.1 _ (List.mem_map_of_mem hy)) hp.2, Bool.and_true]
    cases p with
    | none => rfl
    | some x => exact decide_eq_true (h x rfl k (List.mem_cons_self ..))
theorem VB.acts {c : NL} (h : VB c) : sE c.ks = dO c.ks := BK (Cb c.ks none (fun _ e => by cases e) h.asc)
end Go.Proofs.YtklcfjlmlbnkaaaGreatDoor.Y
namespace Go.Proofs.YtklcfjlmlbnkaaaGreatDoor.Y
open Go Go.RowKit
def hd0 : jU := ⟨⟨#[97, 46, 83]⟩, ⟨#[68, 111]⟩, 0, []⟩
def pL : WinV := ⟨16384, 16384, 0⟩
def qs : FrV := ⟨1, 1, 3, um hd0⟩
def fq (m : ByteArray) : FrV := ⟨2, 1, 0, m⟩
def lR (n t : Int) : StV := ⟨1, 1, 3, n, 0, false, false, false, 0, ⟨#[]⟩, ⟨16384, 16384 - t, 0⟩, pL⟩
def Am (n h : Int) : StV := ⟨1, 2, 3, 0, n, false, false, false, 0, ⟨#[]⟩, pL, ⟨16384, 16384 - h, h⟩⟩
def FY (s : StV) (ib : List ByteArray) (ob : List FrV) : KR := ⟨s, hd0.svc, hd0.mth, 0, [], ib, ob⟩
def CS (n : Nat) (t : Int) (ou : List FrV) : NL := ⟨1, 2, 1, 0, 16384, ⟨16384, 16384 - t, 0⟩, pL, [FY (lR n t) [] []], ou, [], false⟩
def An (n : Int) (h : Int) (ib : List ByteArray) (ou : List FrV) : NL := ⟨2, 1, 1, 0, 16384, pL, ⟨16384, 16384 - h, h⟩, [FY (Am n h) ib []], ou, [], false⟩
def SV (j : Nat) (ou : List FrV) : NL := An j 0 [] ou
def S0 : NL := ⟨2, 1, 0, 0, 16384, pL, pL, [], [], [], false⟩
def C0 : NL := ⟨1, 1, 0, 0, 16384, pL, pL, [], [], [], false⟩
theorem pM : jN 1 16384 = (C0, 0) := by kernel_rfl
theorem wW : jN 2 16384 = (S0, 0) := by kernel_rfl
theorem sJ : cu C0 hd0 3 = (CS 0 0 [qs], 1, 0) := by kernel_rfl
theorem Hc : VN S0 := by
  have h := VN.new (sd := 2) (sz := 16384) (by rw [wW])
  rw [wW] at h
  exact h
theorem Hd : VN (CS 0 0 [qs]) := by
  have h := (VN.new (sd := 1) (sz := 16384) (by rw [pM])).open hd0 3
  rw [pM, sJ] at h
  exact h
theorem Eb (n : Nat) (t : Int) (ou : List FrV) : cm (CS n t ou) = 1 + ou.length + 0 := rfl
theorem Ec (j : Nat) (ou : List FrV) : cm (SV j ou) = 1 + ou.length + 0 := rfl
theorem Ed : cm S0 = 0 := rfl
theorem He : ay qs = 0 := by kernel_rfl
theorem Cc {m : ByteArray} (h : m.size ≤ 100) : ay (fq m) = 0 := by
  unfold ay
  rw [if_neg, if_neg, if_neg, if_neg]
  · show ¬ ((2 : Int) = 4); decide
  · show ¬ ((2 : Int) = 1); decide
  · show ¬ (16384 < m.size ∨ (2147483647 : Int) < 1); omega
  · show ¬ ((2 : Int) < 1 ∨ (9 : Int) < 2 ∨ eA 2 1 = false ∨ fQ 2 0 = false ∨ (true || decide (m.size = 0)) = false)
    rintro (h | h | h | h | h) <;> revert h <;> first | decide | simp
theorem Ce {f : FrV} (h : f.data.size ≤ 200) : (gF f).size ≤ 300 := by
  rw [uT]
  unfold nN
  have := cP f.strm.toNat
  have := cP f.num.toNat
  have := cP f.data.size
  omega
theorem Ee : (gF qs).size ≤ 300 := Ce (by decide)
theorem Ef {m : ByteArray} (h : m.size ≤ 100) : (gF (fq m)).size ≤ 300 := Ce (show m.size ≤ 200 by omega)
theorem sK {m : ByteArray} (h : m.size ≤ 100) : 1 ≤ au m ∧ au m ≤ 100 := by
  unfold au
  split <;> omega
theorem Cf (sd : Int) (hsd : sd = 1 ∨ sd = 2) (a b : Int) (w1 w2 : WinV) (h1 : aS w1 = true) (h2 : aS w2 = true) (ha : 0 ≤ a ∧ a ≤ 1000) (hb : 0 ≤ b ∧ b ≤ 1000) (hs : if sd = 1 then b = 0 else a = 0) : df ⟨1, sd, 3, a, b, false, false, false, 0, ⟨#[]⟩, w1, w2⟩ = true := by
  refine fU.2 ⟨⟨show (1 : Int) ≤ 1 by decide, show (1 : Int) ≤ 2147483647 by decide⟩, hsd, rfl, h1, h2, ?_, ?_, fun h => (by cases h), fun _ => ⟨?_, fun _ => ?_, rfl, rfl⟩⟩
  · show 0 ≤ (if sd = 1 then a else b) ∧ (if sd = 1 then a else b) ≤ 4611686018427387904
    split <;> omega
  · show 0 ≤ (if sd = 1 then b else a) ∧ (if sd = 1 then b else a) ≤ 1
    split at hs <;> split <;> omega
  · unfold uj
    split <;> rfl
  · show (0 : Int) ≤ (if sd = 1 then a else b)
    split <;> omega
theorem FZ {n : Nat} {t : Int} (hn : n < 100) (ht : 0 ≤ t ∧ t ≤ 1000) : df (lR n t) = true :=
  Cf 1 (.inl rfl) n 0 _ _ (by rw [aR]; dsimp only; omega) (by decide) (by omega) (by decide) rfl
theorem Eg (n : Nat) (t : Int) : ei (lR n t) = ⟨1, 1, 3, n, 0, false, false, false, 0, ⟨#[]⟩, ⟨16384, 1048576, 0⟩, pL⟩ := rfl
theorem F5 {n : Nat} {t : Int} (hn : n < 100) (_ : 0 ≤ t ∧ t ≤ 1000) : df (ei (lR n t)) = true := by
  rw [Eg]
  exact Cf 1 (.inl rfl) n 0 _ _ (by decide) (by decide) (by omega) (by decide) rfl
theorem Cg (s : StV) (h : s.shape = 3) : jb s true = 4611686018427387904 := by
  unfold jb
  rw [h]
  rfl
theorem Ch {n : Nat} {t : Int} {ou : List FrV} {m : ByteArray} (hm : m.size ≤ 100) (hn : n < 5) (ht : 0 ≤ t ∧ t ≤ 100 * n) : fD (CS n t ou) 1 m = (CS (n + 1) (t + au m) (ou ++ [fq m]), 0) := by
  have hc := sK hm
  have hf := Cc hm
  have hcast : ((n + 1 : Nat) : Int) = (n : Int) + 1 := by push_cast; rfl
  have h1 : bh (lR n t) (fq m) = ⟨lR (n + 1 : Nat) (t + au m), 0⟩ := by
    refine ij ⟨FZ (by omega) (by omega), hf, rfl, rfl, ?_⟩
    have e : lR ((n + 1 : Nat) : Int) (t + au m) = { lR n t with sent := (lR n t).sent + 1, snd := ⟨(lR n t).snd.size, (lR n t).snd.left - au (fq m).data, (lR n t).snd.held⟩ } := by
      unfold lR fq
      simp only [StV.mk.injEq, WinV.mk.injEq, true_and, and_true]
      omega
    rw [e]
    exact .data J J (by rw [show ((lR n t).side == 1) = true from rfl, Cg _ rfl]; show (n : Int) < _; omega) (by show au m ≤ 16384; omega) (by show au m ≤ 16384 - t; omega)
  have h2 : (bh (ei (lR n t)) (fq m)).err = 0 := by
    have : bh (ei (lR n t)) (fq m) = ⟨{ ei (lR n t) with sent := (ei (lR n t)).sent + 1, snd := ⟨(ei (lR n t)).snd.size, (ei (lR n t)).snd.left - au (fq m).data, (ei (lR n t)).snd.held⟩ }, 0⟩ :=
      ij ⟨F5 (by omega) (by omega), hf, rfl, rfl, .data J J (by rw [show ((ei (lR n t)).side == 1) = true from rfl, Cg _ rfl]; show (n : Int) < _; omega) (by show au m ≤ 16384; omega) (by show au m ≤ 1048576; omega)⟩
    rw [this]
  have h3 : qS (CS n t ou) m = 0 := by
    unfold qS
    rw [if_neg]
    rintro (h | h)
    · omega
    · have : (16384 : Int) < au m := h
      omega
  have h4 : dj (fq m).strm (CS n t ou).ks 0 = some 0 := rfl
  have h5 : mw (CS n t ou) (fq m) 0 = 0 := by
    unfold mw
    rw [h4]
    show (if (0 : Int) ≠ 0 then _ else if (0 : Int) ≠ 0 then _ else (bh (ei (lR n t)) (fq m)).err) = 0
    rw [if_neg (by decide), if_neg (by decide), h2]
  have hk : cS (⟨16384, 16384 - t, 0⟩ : WinV) (au m) = ⟨⟨16384, 16384 - t - au m, 0⟩, 0⟩ := jy (by rw [aR]; dsimp only; omega) (by omega) (by dsimp only; omega)
  have h6 : jO [fq m] (lR n t) ⟨16384, 16384 - t, 0⟩ ou = ⟨lR (n + 1 : Nat) (t + au m), ⟨16384, 16384 - t - au m, 0⟩, [], ou ++ [fq m]⟩ := by
    have hfc : bE (fq m) = au m := rfl
    unfold jO
    rw [hfc, h1, hk]
    rw [if_neg (by show ¬ ((16384 - t < au m) ∨ (16384 - t < au m)); omega), if_neg (fun h => h rfl), if_neg (fun h => h rfl), if_neg (by exact Bool.false_ne_true)]
    rfl
  unfold fD
  rw [h3]
  show eP (CS n t ou) (fq m) 0 = _
  unfold eP
  rw [h5, if_neg (by decide), h4]
  show (gu (eZ (CS n t ou) 0 fun k => { k with ob := k.ob ++ [fq m] }) 0, (0 : Int)) = _
  have h7 : eZ (CS n t ou) 0 (fun k => { k with ob := k.ob ++ [fq m] }) = { CS n t ou with ks := [FY (lR n t) [] [fq m]] } := rfl
  rw [h7]
  unfold gu wq
  show ({ CS n t ou with ks := [{ FY (lR n t) [] [fq m] with st := (jO [fq m] (lR n t) ⟨16384, 16384 - t, 0⟩ ou).st, ob := (jO [fq m] (lR n t) ⟨16384, 16384 - t, 0⟩ ou).ob }], sw := (jO [fq m] (lR n t) ⟨16384, 16384 - t, 0⟩ ou).w, ou := (jO [fq m] (lR n t) ⟨16384, 16384 - t, 0⟩ ou).ou }, (0 : Int)) = _
  rw [h6]
  have e : 16384 - t - au m = 16384 - (t + au m) := by omega
  rw [e]
  rfl
theorem vk {n : Nat} {t : Int} {ou : List FrV} : gX (CS n t ou) = (CS n t [], ou) := rfl
theorem Eh : (dg S0 qs).2 = 0 ∧ aG (dg S0 qs).1 1 = (SV 0 [], emptyB, false) := by
  have e : dg S0 qs = (SV 0 [], 0) := by kernel_rfl
  rw [e]
  exact ⟨rfl, rfl⟩
theorem F6 {n : Nat} (hn : n < 100) : df (Am n 0) = true := Cf 2 (.inr rfl) 0 n _ _ (by decide) (by decide) (by decide) (by omega) rfl
theorem Ei {j : Nat} {ou : List FrV} {m : ByteArray} (hm : m.size ≤ 100) (hj : j < 5) (_ : ou.length ≤ 2 * j) : (dg (SV j ou) (fq m)).2 = 0 ∧ ∃ ou', aG (dg (SV j ou) (fq m)).1 1 = (SV (j + 1) ou', m, true) ∧ ou'.length = ou.length + 2 := by
  have hc := sK hm
  have hf := Cc hm
  have hr : lj (SV j ou) (fq m) = 0 := by
    unfold lj
    rw [if_neg (by rw [hf]; rintro (h | h); exact h rfl; cases h), if_neg (by show ¬ (((2 : Int) = 1) = ((1 : Int) ≤ 1)); simp), if_neg (by rintro ⟨_, h⟩; have : (16384 - 0 : Int) < au m := h; omega), if_neg (by rintro ⟨h, _⟩; cases h)]
  have ha : ∀ k : Nat, bo (⟨16384, 16384 - 0, 0⟩ : WinV) (au m) = ⟨⟨16384, 16384 - au m, au m⟩, 0⟩ := fun _ => by
    rw [pA (by rw [aR]; dsimp only; omega) (by omega) (by dsimp only; omega)]
    simp
  have hrc : bp (Am j 0) (fq m) = ⟨Am (j + 1 : Nat) (au m), 0⟩ := by
    unfold bp
    rw [if_neg (by rw [F6 (by omega), hf]; rintro (h | h | h | h); cases h; exact h rfl; exact h rfl; have h' : (2 : Int) < 2 ∨ (6 : Int) < 2 := h; omega), if_neg (by exact Bool.false_ne_true), if_pos (by exact rfl), if_neg (by exact Bool.false_ne_true),
      if_neg (by rw [show ((Am j 0).side != 1) = true from rfl, Cg _ rfl]; show ¬ ((4611686018427387904 : Int) ≤ (j : Int)); omega), if_neg (by show ¬ ((16384 : Int) < au m); omega)]
    show (if (bo (⟨16384, 16384 - 0, 0⟩ : WinV) (au m)).err ≠ 0 then _ else _) = _
    rw [ha 0, if_neg (fun h => h rfl)]
    show (⟨{ Am j 0 with got := (j : Int) + 1, rcv := (bo (⟨16384, 16384 - 0, 0⟩ : WinV) (au m)).win }, 0⟩ : C9) = _
    rw [ha 0]
    rfl
  have ht : dk (SV j ou) (fq m) = { SV j ou with rw := ⟨16384, 16384 - au m, au m⟩ } := by
    unfold dk
    show (if (bo (⟨16384, 16384 - 0, 0⟩ : WinV) (au m)).err = 0 then { SV j ou with rw := (bo (⟨16384, 16384 - 0, 0⟩ : WinV) (au m)).win } else _) = _
    rw [ha 0, if_pos rfl]
  have hfd : dg (SV j ou) (fq m) = (An (j + 1 : Nat) (au m) [m] ou, 0) := by
    unfold dg
    rw [if_neg (by exact Bool.false_ne_true), hr, if_neg (fun h => h rfl)]
    have e1 : sj (SV j ou) (fq m) = lv (SV j ou) (fq m) := rfl
    rw [e1]
    unfold lv
    rw [show dj (fq m).strm (SV j ou).ks 0 = some 0 from rfl]
    dsimp only
    rw [ht]
    have e2 : si { SV j ou with rw := ⟨16384, 16384 - au m, au m⟩ } 0 (fq m) = true := by
      show (decide ((bp (Am j 0) (fq m)).err = 0) && !false) = true
      rw [hrc]
      rfl
    have e3 : dX { SV j ou with rw := ⟨16384, 16384 - au m, au m⟩ } 0 (fq m) = An (j + 1 : Nat) (au m) [] ou := by
      unfold dX
      show (if (bp (Am j 0) (fq m)).err ≠ 0 then _ else _) = _
      rw [if_neg (by rw [hrc]; exact fun h => h rfl)]
      show ({ SV j ou with rw := ⟨16384, 16384 - au m, au m⟩, ks := [eV { FY (Am j 0) [] [] with st := (bp (Am j 0) (fq m)).st }] } : NL) = _
      rw [hrc]
      rfl
    rw [if_pos e2, e3]
    have e4 : eZ (An (j + 1 : Nat) (au m) [] ou) 0 (fun k => { k with ib := k.ib ++ [(fq m).data] }) = An (j + 1 : Nat) (au m) [m] ou := rfl
    rw [e4]
    unfold gbC
    rw [if_pos]
    right
    have e5 : aP (An (j + 1 : Nat) (au m) [m] ou).ks = au m := by
      show au m + 0 + 0 = _
      omega
    rw [e5]
    unfold db
    rw [if_neg (by omega)]
    show zf ⟨16384, 16384 - au m, au m - au m⟩ ≤ 0
    unfold zf
    rw [if_pos (.inr (.inl (by show au m - au m = 0; omega)))]
    exact Int.le_refl _
  rw [hfd]
  refine ⟨rfl, ou ++ [⟨6, 1, au m, emptyB⟩] ++ [⟨6, 0, au m, emptyB⟩], ?_, by simp⟩
  unfold aG
  rw [show dj 1 (An (j + 1 : Nat) (au m) [m] ou).ks 0 = some 0 from rfl]
  dsimp only
  rw [show (mK (An (j + 1 : Nat) (au m) [m] ou) 0).ib = [m] from rfl]
  dsimp only
  rw [if_neg (by exact Bool.false_ne_true)]
  have e1 : eZ (An (j + 1 : Nat) (au m) [m] ou) 0 (fun k => { k with ib := [] }) = An (j + 1 : Nat) (au m) [] ou := rfl
  rw [e1]
  have e2 : ul (An (j + 1 : Nat) (au m) [] ou) 0 = au m := rfl
  have e3 : gbK (An (j + 1 : Nat) (au m) [] ou) 0 1 = ⟨2, 1, 1, 0, 16384, pL, ⟨16384, 16384 - au m, au m⟩, [FY (Am (j + 1 : Nat) 0) [] []], ou ++ [⟨6, 1, au m, emptyB⟩], [], false⟩ := by
    unfold gbK
    rw [e2, if_neg (by rintro (h | h); cases h; omega)]
    show (⟨2, 1, 1, 0, 16384, pL, ⟨16384, 16384 - au m, au m⟩, [FY { Am (j + 1 : Nat) (au m) with rcv := wo ⟨16384, 16384 - au m, au m⟩ (au m) } [] []], ou ++ [⟨6, 1, au m, emptyB⟩], [], false⟩ : NL) = _
    have : wo ⟨16384, 16384 - au m, au m⟩ (au m) = ⟨16384, 16384 - 0, 0⟩ := by
      unfold wo
      simp only [WinV.mk.injEq, true_and]
      omega
    rw [this]
    rfl
  rw [e3]
  unfold gbC
  have e4 : db (⟨16384, 16384 - au m, au m⟩ : WinV) 0 = au m := rfl
  show ((if false = true ∨ db (⟨16384, 16384 - au m, au m⟩ : WinV) 0 ≤ 0 then _ else ({ (_ : NL) with rw := wo ⟨16384, 16384 - au m, au m⟩ (db (⟨16384, 16384 - au m, au m⟩ : WinV) 0), ou := _ ++ [⟨6, 0, db (⟨16384, 16384 - au m, au m⟩ : WinV) 0, emptyB⟩] } : NL)), m, true) = _
  rw [e4, if_neg (by rintro (h | h); cases h; omega)]
  have : wo ⟨16384, 16384 - au m, au m⟩ (au m) = ⟨16384, 16384 - 0, 0⟩ := by
    unfold wo
    simp only [WinV.mk.injEq, true_and]
    omega
  rw [this]
  rfl
theorem wX (l : List UInt8) : (aF l).rest.length ≤ l.length := by
  by_cases h : (aF l).err = 0
  · have := ii l.length l [] (Nat.le_refl _) (by rw [List.append_nil]; exact h)
    exact this.2.1
  · rw [(lQ l.length l (Nat.le_refl _) h).2]
    exact Nat.zero_le _
end Go.Proofs.YtklcfjlmlbnkaaaGreatDoor.Y
