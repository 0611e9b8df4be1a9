/- Texts of this claim merged into one: QVDel, QVPair. -/
import Derived.Test.YthiocbcokfondaaGreatDoorQBunQ
namespace Go.Proofs.YthiocbcokfondaaGreatDoor.Y
structure EB (c : NL) (k : KR) (sd n : Int) : Prop where
  v : VB c
  ks : c.ks = [k]
  sd : c.sd = sd
  sz : c.sz = n
  cl : c.cl = false
  la : c.la = 1
  id : k.st.id = 1
  sh : k.st.shape = 4
  dn : k.st.done = false
  se : k.st.se = false
  ge : k.st.ge = false
  ob : ∀ f ∈ k.ob, f.kind = 2
structure EP (c : NL) (k : KR) (sd n : Int) : Prop extends EB c k sd n where
  nf : NF c.sw k
theorem EP.vn {c : NL} {k : KR} {sd n : Int} (h : EP c k sd n) : VN c := ⟨h.v, fun x hx => by rw [h.ks] at hx; obtain rfl := List.mem_singleton.1 hx; exact h.nf⟩
theorem EB.at_ {c : NL} {k : KR} {sd n : Int} (h : EB c k sd n) : c.ks[0]? = some k := by rw [h.ks]; rfl
theorem EB.pk {c : NL} {k : KR} {sd n : Int} (h : EB c k sd n) : PK c.sd c.sz c.la k := h.v.pk k (by rw [h.ks]; exact List.mem_singleton.2 rfl)
theorem EB.find {c : NL} {k : KR} {sd n : Int} (h : EB c k sd n) : dO 1 c.ks 0 = some 0 := by rw [h.ks, dO, if_pos h.id]
theorem EB.tot {c : NL} {k : KR} {sd n : Int} (h : EB c k sd n) : be c.ks = aW k.ib := by rw [h.ks]; simp [be]
def cE (l : List aY) : List ByteArray := (l.filter fun f => decide (f.kind = 2)).map (·.data)
def eQ (i : Int) (f : aY) : Int := if f.kind = 6 ∧ f.strm = i then f.num else 0
def kN (i : Int) (l : List aY) : Int := (l.map (eQ i)).sum
theorem kh : cE [] = [] := rfl
theorem fR {f : aY} {l : List aY} (h : f.kind = 2) : cE (f :: l) = f.data :: cE l := by unfold cE; rw [List.filter_cons, if_pos (decide_eq_true h)]; rfl
theorem iF {f : aY} {l : List aY} (h : f.kind ≠ 2) : cE (f :: l) = cE l := by unfold cE; rw [List.filter_cons, if_neg (by simpa using h)]
theorem dx (a b : List aY) : cE (a ++ b) = cE a ++ cE b := by unfold cE; simp
theorem pG : ∀ {l : List aY}, (∀ f ∈ l, f.kind = 2) → (cE l).length = l.length
  | [], _ => rfl
  | f :: l, h => by rw [fR (h f (List.mem_cons_self ..)), List.length_cons, List.length_cons, pG fun x hx => h x (List.mem_cons_of_mem _ hx)]
theorem gp (i : Int) : kN i [] = 0 := rfl
theorem cU (i : Int) (f : aY) (l : List aY) : kN i (f :: l) = eQ i f + kN i l := by unfold kN; simp
theorem gr (i : Int) (a b : List aY) : kN i (a ++ b) = kN i a + kN i b := by unfold kN; simp
theorem mU (i : Int) : ∀ {l : List aY}, (∀ f ∈ l, f.kind = 2) → kN i l = 0
  | [], _ => rfl
  | f :: l, h => by
    rw [cU, mU i fun x hx => h x (List.mem_cons_of_mem _ hx)]
    have := h f (List.mem_cons_self ..)
    unfold eQ
    rw [if_neg (by omega)]
    rfl
def FO (f : aY) : Prop := aR f = 0 ∧ (f.kind = 2 ∨ f.kind = 6) ∧ (f.strm = 0 ∨ f.strm = 1)
theorem ki (i : Int) : ∀ {l : List aY}, (∀ f ∈ l, FO f) → 0 ≤ kN i l
  | [], _ => Int.le_refl _
  | f :: l, h => by
    rw [cU]
    have h1 := ki i fun x hx => h x (List.mem_cons_of_mem f hx)
    have h2 : 0 ≤ eQ i f := by
      unfold eQ
      split
      · rename_i h6
        have := lA (h f (List.mem_cons_self ..)).1
        unfold gG at this
        rw [h6.1] at this
        simp at this
        omega
      · omega
    omega
theorem FO.win {f : aY} (h : FO f) (h6 : f.kind = 6) : 1 ≤ f.num ∧ f.num ≤ 1048576 := by
  have := lA h.1
  unfold gG at this
  rw [h6] at this
  simp at this
  omega
theorem FO.data1 {f : aY} (h : FO f) (h2 : f.kind = 2) : f.strm = 1 := by
  have := nI h.1
  unfold ft at this
  rw [h2] at this
  simp at this
  have := h.2.2
  omega
structure Dir (x : NL) (kx : KR) (y : NL) (ky : KR) (F G : List aY) (n : Int) (wr gt : List ByteArray) : Prop where
  s1 : ky.st.rcv.left = kx.st.snd.left + dN F + kN 1 G
  s2 : y.rw.left = x.sw.left + dN F + kN 0 G
  h1 : ky.st.rcv.left + ky.st.rcv.held = n
  h2 : y.rw.left + y.rw.held = n
  e1 : ky.ib = [] → ky.st.rcv.held = 0
  e2 : ky.ib = [] → y.rw.held = 0
  ct : kx.st.sent = ky.st.got + ((cE F).length : Int)
  cs : kx.st.sent + (kx.ob.length : Int) = (wr.length : Int)
  ms : wr = gt ++ (ky.ib ++ (cE F ++ cE kx.ob))
theorem Am : ∀ {l : List aY} {s : cx} {w : bj} {q : List aY} {s' : cx} {w' : bj} {rest : List aY}, Ch l s w q s' w' rest → (∀ f ∈ l, f.kind = 2) → s'.sent = s.sent + (q.length : Int) ∧ s'.done = s.done ∧ s'.se = s.se ∧ s'.ge = s.ge := by
  intro l s w q s' w' rest h
  induction h with
  | nil => intro _; exact ⟨by simp, rfl, rfl, rfl⟩
  | stop => intro _; exact ⟨by simp, rfl, rfl, rfl⟩
  | @step f r q rest s t s' w w' h1 h2 h3 h4 ih =>
    intro hk
    obtain ⟨a, b, c, d⟩ := ih (fun x hx => hk x (List.mem_cons_of_mem _ hx))
    have hkf := hk f (List.mem_cons_self ..)
    have e : t.sent = s.sent + 1 ∧ t.done = s.done ∧ t.se = s.se ∧ t.ge = s.ge := by
      cases h3.h with
      | data => exact ⟨rfl, rfl, rfl, rfl⟩
      | fin hk => omega
      | stat hk => omega
      | reset hk => omega
    refine ⟨?_, b.trans e.2.1, c.trans e.2.2.1, d.trans e.2.2.2⟩
    rw [a, e.1, List.length_cons]
    omega
structure C8 (x : NL) (kx : KR) (x' : NL) (kx' : KR) (q : List aY) : Prop where
  ou : x'.ou = x.ou ++ q
  ob : kx.ob = q ++ kx'.ob
  kd : ∀ f ∈ q, f.kind = 2
  fr : ∀ f ∈ q, FO f
  sl : kx'.st.snd.left = kx.st.snd.left - dN q
  wl : x'.sw.left = x.sw.left - dN q
  st : kx'.st.sent = kx.st.sent + (q.length : Int)
  ib : kx'.ib = kx.ib
  rc : kx'.st.rcv = kx.st.rcv
  gt : kx'.st.got = kx.st.got
  rw : x'.rw = x.rw
theorem EB.son {x : NL} {kx : KR} {sd n : Int} (h : EB x kx sd n) : ∃ kx' q, EP (fw x 0) kx' sd n ∧ C8 x kx (fw x 0) kx' q := by
  obtain ⟨q, hf⟩ := rV h.v.sw h.pk
  obtain ⟨v, _, _⟩ := h.v.son h.at_
  have e := gQ h.at_
  generalize hr : kL kx.ob kx.st x.sw x.ou = r at *
  obtain ⟨d1, d2, d3, d4⟩ := Am hf.run h.ob
  have hks : x.ks.set 0 { kx with st := r.st, ob := r.ob } = [{ kx with st := r.st, ob := r.ob }] := by rw [h.ks]; rfl
  rw [hks] at e
  refine ⟨{ kx with st := r.st, ob := r.ob }, q, ?_, ?_⟩
  · refine ⟨⟨v, by rw [e], by rw [e]; exact h.sd, by rw [e]; exact h.sz, by rw [e]; exact h.cl, by rw [e]; exact h.la, hf.fac.kp.id.trans h.id, hf.fac.kp.sh.trans h.sh, d2.trans h.dn, d3.trans h.se, d4.trans h.ge, fun f hx => h.ob f (by rw [hf.fac.sp]; exact List.mem_append_right _ hx)⟩, ?_⟩
    rw [e]
    exact hf.nf
  · have hq : ∀ f ∈ q, f.kind = 2 := fun f hx => h.ob f (by rw [hf.fac.sp]; exact List.mem_append_left _ hx)
    exact ⟨by rw [e]; exact hf.ou, hf.fac.sp, hq, fun f hx => ⟨(hf.fac.fr f hx).1, .inl (hq f hx), .inr ((hf.fac.fr f hx).2.trans h.id)⟩, hf.fac.sl, by rw [e]; exact hf.fac.wl, d1, rfl, hf.fac.kp.rcv, hf.fac.kp.got, by rw [e]⟩
theorem Dir.son {x x' y : NL} {kx kx' ky : KR} {F G q : List aY} {n : Int} {wr gt : List ByteArray} (h : Dir x kx y ky F G n wr gt) (s : C8 x kx x' kx' q) : Dir x' kx' y ky (F ++ q) G n wr gt := by
  have hl := pG s.kd
  refine ⟨?_, ?_, h.h1, h.h2, h.e1, h.e2, ?_, ?_, ?_⟩
  · rw [h.s1, s.sl, eE]; omega
  · rw [h.s2, s.wl, eE]; omega
  · rw [s.st, h.ct, dx, List.length_append, hl]; omega
  · rw [s.st, ← h.cs, s.ob, List.length_append]; omega
  · rw [h.ms, s.ob, dx, dx, List.append_assoc]
theorem Dir.sonR {x x' y : NL} {kx kx' ky : KR} {F G q : List aY} {n : Int} {wr gt : List ByteArray} (h : Dir y ky x kx G F n wr gt) (s : C8 x kx x' kx' q) : Dir y ky x' kx' G (F ++ q) n wr gt := by
  refine ⟨?_, ?_, ?_, ?_, ?_, ?_, ?_, h.cs, ?_⟩
  · rw [s.rc, h.s1, gr, mU 1 s.kd]; omega
  · rw [s.rw, h.s2, gr, mU 0 s.kd]; omega
  · rw [s.rc]; exact h.h1
  · rw [s.rw]; exact h.h2
  · rw [s.ib, s.rc]; exact h.e1
  · rw [s.ib, s.rw]; exact h.e2
  · rw [s.gt]; exact h.ct
  · rw [s.ib]; exact h.ms
theorem um : ∀ {l : List aY} {s : cx}, VS s → s.snd.held = 0 → (cy l s).err = 0 → (∀ f ∈ l, f.kind = 2) → ((cy l s).st.id = s.id ∧ (cy l s).st.side = s.side ∧ (cy l s).st.shape = s.shape ∧ (cy l s).st.done = s.done ∧ (cy l s).st.se = s.se ∧ (cy l s).st.sent = s.sent + (l.length : Int) ∧ (cy l s).st.snd.size = s.snd.size ∧ (cy l s).st.snd.left = 1048576) ∧ VS (cy l s).st
  | [], s, v, h0, _, _ => by
    rw [cy]
    exact ⟨⟨rfl, rfl, rfl, rfl, rfl, by show s.sent = s.sent + 0; omega, rfl, rfl⟩, zM v h0⟩
  | f :: l, s, v, h0, h, hk => by
    have hc := eX.1 h
    have ho := eW hc.1
    rw [cy, if_neg (by rw [hc.1]; simp)]
    have hkf := hk f (List.mem_cons_self ..)
    have hh := ho.h
    have hkp := ho.kept
    have hv := ia ho
    generalize (bD (gy s) f).st = t at *
    obtain ⟨⟨a, b, c, d, e, g, i, j⟩, k⟩ := um hv (hkp.hd.trans h0) hc.2 (fun x hx => hk x (List.mem_cons_of_mem _ hx))
    have ht : t.sent = s.sent + 1 ∧ t.done = s.done ∧ t.se = s.se := by
      cases hh with
      | data => exact ⟨rfl, rfl, rfl⟩
      | fin hk => omega
      | stat hk => omega
      | reset hk => omega
    refine ⟨⟨a.trans hkp.id, b.trans hkp.sd, c.trans hkp.sh, d.trans ht.2.1, e.trans ht.2.2, ?_, i.trans hkp.sz, j⟩, k⟩
    rw [g, ht.1, List.length_cons]
    omega
def dF (msg : ByteArray) : aY := ⟨2, 1, 0, msg⟩
theorem Ek {msg : ByteArray} (h : msg.size ≤ 16384) : aR (dF msg) = 0 := by
  unfold aR ft gG gX dF
  simp; omega
theorem mV {c : NL} {k : KR} {sd n : Int} (h : EP c k sd n) {msg : ByteArray} (hb : n < aI msg ∨ 16384 < msg.size) : dL c 1 msg = (c, 3) := by
  have e : ni c msg = 3 := by
    unfold ni
    rw [if_pos]
    rcases hb with hb | hb
    · exact .inr (by rw [h.sz]; exact hb)
    · exact .inl hb
  unfold dL eM jT
  rw [h.find, e]
  rfl
theorem xS {c : NL} {k : KR} {sd n : Int} (h : EP c k sd n) {msg : ByteArray} (hb : aI msg ≤ n) (hs : msg.size ≤ 16384) (hc : k.st.sent + (k.ob.length : Int) ≤ 1000000) :
    EB { c with ks := [{ k with ob := k.ob ++ [dF msg] }] } { k with ob := k.ob ++ [dF msg] } sd n ∧ dL c 1 msg = (fw { c with ks := [{ k with ob := k.ob ++ [dF msg] }] } 0, 0) := by
  have hp := h.pk
  obtain ⟨⟨a, b, d, e, f, g, i, j⟩, v⟩ := um hp.vs hp.h0 hp.ahd h.ob
  have hok : SndOk (cy k.ob k.st).st (dF msg) _ := ⟨fD.2 v, Ek hs, by rw [a, h.id]; rfl, by rw [e, h.dn], .data rfl (by rw [f, h.se]) (by
    rw [g]
    unfold iV
    rw [d, h.sh]
    have : jK (if (((cy k.ob k.st).st.side == 1) = true) then c2 4 else c4 4) = 4611686018427387904 := by split <;> rfl
    rw [this]
    omega) (by rw [i, hp.z1, h.sz]; exact hb) (by
      rw [j]
      have := hp.z1
      have := h.v.sz
      have := h.sz
      show aI msg ≤ 1048576
      omega)⟩
  have hse := jf hok
  have hwe : (bD (cy k.ob k.st).st (dF msg)).err = 0 := by rw [hse]
  obtain ⟨vb, _⟩ := h.vn.waitVB h.at_ (f := dF msg) (.inl rfl) hwe
  have hks : c.ks.set 0 { k with ob := k.ob ++ [dF msg] } = [{ k with ob := k.ob ++ [dF msg] }] := by rw [h.ks]; rfl
  rw [hks] at vb
  refine ⟨⟨vb, rfl, h.sd, h.sz, h.cl, h.la, h.id, h.sh, h.dn, h.se, h.ge, fun x hx => ?_⟩, ?_⟩
  · rcases List.mem_append.1 hx with hx | hx
    · exact h.ob x hx
    · obtain rfl := List.mem_singleton.1 hx
      rfl
  · have e0 : ni c msg = 0 := by
      unfold ni
      rw [if_neg (by rw [h.sz]; omega)]
    have e1 : jT c (dF msg) 0 = 0 := by
      unfold jT
      rw [show (dF msg).strm = 1 from rfl, h.find]
      dsimp only
      rw [df h.at_, if_neg (by simp), if_neg (by rw [hp.ahd]; simp), hwe]
    unfold dL
    rw [e0]
    show eM c (dF msg) 0 = _
    unfold eM
    rw [e1, if_neg (by simp), show (dF msg).strm = 1 from rfl, h.find]
    show (fw (gb c 0 _) 0, (0 : Int)) = _
    rw [bM h.at_, hks]
theorem Dir.write {x y : NL} {kx ky : KR} {F G : List aY} {n : Int} {wr gt : List ByteArray} {msg : ByteArray} (h : Dir x kx y ky F G n wr gt) : Dir { x with ks := [{ kx with ob := kx.ob ++ [dF msg] }] } { kx with ob := kx.ob ++ [dF msg] } y ky F G n (wr ++ [msg]) gt := by
  refine ⟨h.s1, h.s2, h.h1, h.h2, h.e1, h.e2, h.ct, ?_, ?_⟩
  · have := h.cs
    show kx.st.sent + ((kx.ob ++ [dF msg]).length : Int) = _
    rw [List.length_append, List.length_append, List.length_singleton, List.length_singleton]
    omega
  · show wr ++ [msg] = gt ++ (ky.ib ++ (cE F ++ cE (kx.ob ++ [dF msg])))
    rw [dx, h.ms, show cE [dF msg] = [msg] from rfl]
    simp only [List.append_assoc]
theorem Dir.writeR {x y : NL} {kx ky : KR} {F G : List aY} {n : Int} {wr gt : List ByteArray} {msg : ByteArray} (h : Dir y ky x kx G F n wr gt) : Dir y ky { x with ks := [{ kx with ob := kx.ob ++ [dF msg] }] } { kx with ob := kx.ob ++ [dF msg] } G F n wr gt :=
  ⟨h.s1, h.s2, h.h1, h.h2, h.e1, h.e2, h.ct, h.cs, h.ms⟩
theorem pH {c : NL} {k : KR} {sd n : Int} (h : EB c k sd n) {f : aY} (hf : FO f) (hd : f.kind = 2 → aI f.data ≤ c.rw.left) (hw : f.kind = 6 → f.strm = 0 → (cS c.sw f.num).err = 0) : aH c f = (lR c f, 0) := by
  have hfo : oI c.sd f.kind = false := by
    unfold oI
    have := hf.2.1
    split
    · rcases this with e | e <;> rw [e] <;> rfl
    · rcases this with e | e <;> rw [e] <;> rfl
  have hr : jL c f = 0 := by
    unfold jL
    have hk := hf.2.1
    have hs := hf.2.2
    rw [if_neg (by rw [hf.1, hfo]; simp), if_neg (by
      rw [h.la]
      intro e
      have : f.kind = 1 := e.mpr (by omega)
      omega), if_neg (by intro e; have := hd e.1; omega), if_neg (by intro e; exact e.2.2 (hw e.1 e.2.1))]
  unfold aH
  rw [h.cl, if_neg (by simp), hr, if_neg (by simp)]
theorem BR {c : NL} {k : KR} {sd n : Int} (h : EP c k sd n) {f : aY} (hf : FO f) (hk : f.kind = 6) (hs : f.strm = 1) (hm : f.num ≤ 1048576 - k.st.snd.left) :
    EB { c with ks := [{ k with st := { k.st with snd := ⟨k.st.snd.size, k.st.snd.left + f.num, k.st.snd.held⟩ } }] } { k with st := { k.st with snd := ⟨k.st.snd.size, k.st.snd.left + f.num, k.st.snd.held⟩ } } sd n ∧
    aH c f = (fw { c with ks := [{ k with st := { k.st with snd := ⟨k.st.snd.size, k.st.snd.left + f.num, k.st.snd.held⟩ } }] } 0, 0) := by
  have hp := h.pk
  have hr : RcvOk k.st f { k.st with snd := ⟨k.st.snd.size, k.st.snd.left + f.num, k.st.snd.held⟩ } := ⟨fD.2 hp.vs, hf.1, by rw [hs, h.id], ⟨by omega, by omega⟩, .win h.dn hk (by rw [hp.h0]; omega) (hf.win hk).1⟩
  have hre := mf hr
  obtain ⟨k', e, hrr⟩ := jA h.vn h.at_ hf.1 (by rw [hs, h.id]) ⟨by omega, by omega⟩
  obtain ⟨v1, v2, v3, v4⟩ := lB h.vn h.cl h.at_ hrr
  have hs2 : eL { k with st := { k.st with snd := ⟨k.st.snd.size, k.st.snd.left + f.num, k.st.snd.held⟩ } } = { k with st := { k.st with snd := ⟨k.st.snd.size, k.st.snd.left + f.num, k.st.snd.held⟩ } } := by
    unfold eL
    exact if_neg (by show ¬ k.st.done = true; rw [h.dn]; simp)
  have heq : ep c 0 f = { c with ks := [{ k with st := { k.st with snd := ⟨k.st.snd.size, k.st.snd.left + f.num, k.st.snd.held⟩ } }] } := by
    unfold ep
    rw [df h.at_, hre, if_neg (by simp), bM h.at_, hre, hs2, h.ks]
    rfl
  rw [heq] at v1
  refine ⟨⟨v1, rfl, h.sd, h.sz, h.cl, h.la, h.id, h.sh, h.dn, h.se, h.ge, h.ob⟩, ?_⟩
  rw [pH h.toEB hf (fun e => by omega) (fun _ e => by omega)]
  unfold lR gf
  rw [if_neg (by omega), if_neg (by omega), if_neg (by omega), if_neg (by omega), if_neg (by omega), if_neg (by omega), hs, h.find]
  dsimp only
  rw [heq]
theorem BS {c : NL} {k : KR} {sd n : Int} (h : EP c k sd n) {f : aY} (hf : FO f) (hk : f.kind = 6) (hs : f.strm = 0) (hm : f.num ≤ 1048576 - c.sw.left) :
    EB { c with sw := ⟨c.sw.size, c.sw.left + f.num, c.sw.held⟩ } k sd n ∧ aH c f = (fw { c with sw := ⟨c.sw.size, c.sw.left + f.num, c.sw.held⟩ } 0, 0) := by
  have hg := vo h.v.sw (hf.win hk).1 (show f.num ≤ 1048576 - c.sw.left - c.sw.held by rw [h.v.sh]; omega)
  have hv := h.v
  refine ⟨⟨⟨hv.sd, hv.sz, ma hv.sw (hf.win hk).1 (by rw [h.v.sh]; omega), hv.rw, hv.ss, hv.rs, hv.sh, hv.la, hv.aw, hv.n1, hv.n2, hv.pg, hv.pn, hv.cn, hv.pk, hv.asc, hv.ou, hv.cl, hv.tt⟩, h.ks, h.sd, h.sz, h.cl, h.la, h.id, h.sh, h.dn, h.se, h.ge, h.ob⟩, ?_⟩
  rw [pH h.toEB hf (fun e => by omega) (fun _ _ => by rw [hg])]
  unfold lR gf
  rw [if_neg (by omega), if_neg (by omega), if_neg (by omega), if_neg (by omega), if_neg (by omega), if_pos hs, hg, if_pos rfl]
  show (jG _ c.ks.length 0, (0 : Int)) = _
  rw [h.ks]
  rfl
def mh (id : Int) (m : Int) : List aY := if m ≤ 0 then [] else [⟨6, id, m, emptyB⟩]
theorem wG {c : NL} (h : c.cl = false) : gbC c = { c with rw := if bI c.rw (be c.ks) ≤ 0 then c.rw else tl c.rw (bI c.rw (be c.ks)), ou := c.ou ++ mh 0 (bI c.rw (be c.ks)) } := by
  unfold gbC mh
  by_cases hn : bI c.rw (be c.ks) ≤ 0
  · rw [if_pos (.inr hn), if_pos hn, if_pos hn, List.append_nil]
  · rw [if_neg (by rw [h]; simpa using hn), if_neg hn, if_neg hn]
theorem vy {id m : Int} (hi : id = 0 ∨ id = 1) (hm : m ≤ 1048576) : ∀ f ∈ mh id m, FO f := fun f hf => by
  unfold mh at hf
  split at hf
  · cases hf
  · obtain rfl := List.mem_singleton.1 hf
    exact ⟨EU (by omega) (by omega) (by omega) hm, .inr rfl, hi⟩
theorem gu (id m : Int) : cE (mh id m) = [] := by
  unfold mh
  split
  · rfl
  · rw [iF (show (6 : Int) ≠ 2 by decide)]; rfl
theorem jj (id m : Int) : dN (mh id m) = 0 := by
  unfold mh
  split
  · rfl
  · rw [dv, fo, BL (by decide)]; rfl
theorem pI {id m : Int} (hm : 0 ≤ m) : kN id (mh id m) = m := by
  unfold mh
  split
  · rw [gp]; omega
  · rw [cU, gp]; unfold eQ; rw [if_pos ⟨rfl, rfl⟩]; simp
theorem mW {id i m : Int} (hm : id ≠ i) : kN i (mh id m) = 0 := by
  unfold mh
  split
  · rw [gp]
  · rw [cU, gp]; unfold eQ; rw [if_neg (fun e => hm e.2)]; rfl
structure Gb (w w' : bj) (u m : Int) : Prop where
  m0 : 0 ≤ m
  m1 : m ≤ w.held
  lf : w'.left = w.left + m
  hl : w'.held = w.held - m
  z : u = 0 → w'.held = 0
  sz : w'.size = w.size
theorem vz {w : bj} (h : bl w = true) {u : Int} (h0 : 0 ≤ u) (h1 : u ≤ w.held) : Gb w (if bI w u ≤ 0 then w else tl w (bI w u)) u (bI w u) := by
  obtain ⟨a, b⟩ := kK h h0 h1
  by_cases hn : bI w u ≤ 0
  · rw [if_pos hn]
    refine ⟨a, by omega, by omega, by omega, fun e => ?_, rfl⟩
    have : bI w u = w.held := by unfold bI; rw [if_pos e]
    omega
  · rw [if_neg hn]
    unfold tl
    refine ⟨a, by omega, rfl, rfl, fun e => ?_, rfl⟩
    have : bI w u = w.held := by unfold bI; rw [if_pos e]
    show w.held - bI w u = 0
    omega
structure C9 (c : NL) (k : KR) (d : ByteArray) (c' : NL) (k' : KR) (m : Int) : Prop where
  ou : c'.ou = c.ou ++ mh 0 m
  ob : k'.ob = k.ob
  ib : k'.ib = k.ib ++ [d]
  sn : k'.st.snd = k.st.snd
  st : k'.st.sent = k.st.sent
  sw : c'.sw = c.sw
  gt : k'.st.got = k.st.got + 1
  rl : k'.st.rcv.left = k.st.rcv.left - aI d
  rh : k'.st.rcv.held = k.st.rcv.held + aI d
  wl : c'.rw.left = c.rw.left - aI d + m
  wh : c'.rw.held = c.rw.held + aI d - m
  m0 : 0 ≤ m
  m1 : m ≤ 1048576
theorem xT {c : NL} {k : KR} {sd n : Int} (h : EP c k sd n) {f : aY} (hf : FO f) (hk : f.kind = 2) (h1 : aI f.data ≤ c.rw.left) (h2 : aI f.data ≤ k.st.rcv.left) (h3 : aI f.data ≤ n) (hg : k.st.got < 1000000) :
    ∃ c' k' m, aH c f = (c', 0) ∧ EP c' k' sd n ∧ C9 c k f.data c' k' m := by
  have hp := h.pk
  have hs := hf.data1 hk
  have hr : RcvOk k.st f { k.st with got := k.st.got + 1, rcv := ⟨k.st.rcv.size, k.st.rcv.left - aI f.data, k.st.rcv.held + aI f.data⟩ } := ⟨fD.2 hp.vs, hf.1, by rw [hs, h.id], ⟨by omega, by omega⟩, .data h.dn hk h.ge (by
    unfold iV
    rw [h.sh]
    have : jK (if ((k.st.side != 1) = true) then c2 4 else c4 4) = 4611686018427387904 := by split <;> rfl
    rw [this]
    omega) (by rw [hp.z2, h.sz]; exact h3) h2⟩
  have hre := mf hr
  have hfe := pH h.toEB hf (fun _ => h1) (fun e => by omega)
  have hvn : VN (aH c f).1 := h.vn.feed f
  obtain ⟨e1, v1⟩ := mS h.vn h1
  have hs2 : eL { k with st := { k.st with got := k.st.got + 1, rcv := ⟨k.st.rcv.size, k.st.rcv.left - aI f.data, k.st.rcv.held + aI f.data⟩ } } = { k with st := { k.st with got := k.st.got + 1, rcv := ⟨k.st.rcv.size, k.st.rcv.left - aI f.data, k.st.rcv.held + aI f.data⟩ } } := by
    unfold eL
    exact if_neg (by show ¬ k.st.done = true; rw [h.dn]; simp)
  have hat : (dq c f).ks[0]? = some k := by rw [e1]; exact h.at_
  have heq : ep (dq c f) 0 f = { dq c f with ks := [{ k with st := { k.st with got := k.st.got + 1, rcv := ⟨k.st.rcv.size, k.st.rcv.left - aI f.data, k.st.rcv.held + aI f.data⟩ } }] } := by
    unfold ep
    rw [df hat, hre, if_neg (by simp), bM hat, hre, hs2, show (dq c f).ks = [k] by rw [e1]; exact h.ks]
    rfl
  have hb : pV (dq c f) 0 f = true := by
    unfold pV
    rw [df hat, hre, h.dn]; rfl
  have hd : jU c f = gbC { dq c f with ks := [{ k with st := { k.st with got := k.st.got + 1, rcv := ⟨k.st.rcv.size, k.st.rcv.left - aI f.data, k.st.rcv.held + aI f.data⟩ }, ib := k.ib ++ [f.data] }] } := by
    unfold jU
    rw [hs, h.find]
    dsimp only
    rw [hb, if_pos rfl, heq]
    rfl
  rw [e1] at hd
  rw [wG (show ({ ({ c with rw := ⟨c.rw.size, c.rw.left - aI f.data, c.rw.held + aI f.data⟩ } : NL) with ks := [{ k with st := { k.st with got := k.st.got + 1, rcv := ⟨k.st.rcv.size, k.st.rcv.left - aI f.data, k.st.rcv.held + aI f.data⟩ }, ib := k.ib ++ [f.data] }] } : NL).cl = false from h.cl)] at hd
  have hcp := cZ f.data
  have htt := h.v.tt
  rw [h.tot] at htt
  have hup := eF k.ib
  have hwa : bl ⟨c.rw.size, c.rw.left - aI f.data, c.rw.held + aI f.data⟩ = true := nH h.v.rw (by omega) h1
  have hto : be [{ k with st := { k.st with got := k.st.got + 1, rcv := ⟨k.st.rcv.size, k.st.rcv.left - aI f.data, k.st.rcv.held + aI f.data⟩ }, ib := k.ib ++ [f.data] }] = aW k.ib + aI f.data := by
    rw [be, be, jg]; omega
  dsimp only at hd
  rw [hto] at hd
  have hgb := vz hwa (u := aW k.ib + aI f.data) (by omega) (by dsimp only; omega)
  have hwo := aX.1 hwa
  have hact : lR c f = jU c f := by
    unfold lR
    rw [if_neg (by omega), if_pos hk]
  rw [hfe, hact] at hvn ⊢
  generalize bI ⟨c.rw.size, c.rw.left - aI f.data, c.rw.held + aI f.data⟩ (aW k.ib + aI f.data) = m at *
  dsimp only at hwo
  have m0 := hgb.m0
  have m1 := hgb.m1
  dsimp only at m1
  refine ⟨_, { k with st := { k.st with got := k.st.got + 1, rcv := ⟨k.st.rcv.size, k.st.rcv.left - aI f.data, k.st.rcv.held + aI f.data⟩ }, ib := k.ib ++ [f.data] }, m, rfl, ?_, ?_⟩
  · rw [hd] at hvn ⊢
    exact ⟨⟨hvn.toVB, rfl, h.sd, h.sz, h.cl, h.la, h.id, h.sh, h.dn, h.se, h.ge, h.ob⟩, hvn.nf _ (List.mem_singleton.2 rfl)⟩
  · rw [hd]
    exact ⟨rfl, rfl, rfl, rfl, rfl, rfl, rfl, rfl, rfl, hgb.lf, hgb.hl, m0, by omega⟩
structure Da (c : NL) (k : KR) (r : List ByteArray) (c' : NL) (k' : KR) (m1 m0 : Int) : Prop where
  ou : c'.ou = c.ou ++ (mh 1 m1 ++ mh 0 m0)
  ob : k'.ob = k.ob
  ib : k'.ib = r
  sn : k'.st.snd = k.st.snd
  st : k'.st.sent = k.st.sent
  sw : c'.sw = c.sw
  gt : k'.st.got = k.st.got
  rl : k'.st.rcv.left = k.st.rcv.left + m1
  rh : k'.st.rcv.held = k.st.rcv.held - m1
  wl : c'.rw.left = c.rw.left + m0
  wh : c'.rw.held = c.rw.held - m0
  z1 : r = [] → k'.st.rcv.held = 0
  z0 : r = [] → c'.rw.held = 0
  p1 : 0 ≤ m1 ∧ m1 ≤ 1048576
  p0 : 0 ≤ m0 ∧ m0 ≤ 1048576
theorem sb {c : NL} {k : KR} {sd n : Int} (h : EP c k sd n) (hib : k.ib = []) : bY c 1 = (c, emptyB, false) := by
  unfold bY
  rw [h.find]
  dsimp only
  rw [df h.at_, hib]
theorem An {c : NL} {k : KR} {sd n : Int} (h : EP c k sd n) {s : ByteArray} {r : List ByteArray} (hib : k.ib = s :: r) : ∃ c' k' m1 m0, bY c 1 = (c', s, true) ∧ EP c' k' sd n ∧ Da c k r c' k' m1 m0 := by
  have hp := h.pk
  have hvn : VN (bY c 1).1 := h.vn.read 1
  have hcp := cZ s
  have hup := eF r
  have htt := h.v.tt
  rw [h.tot, hib, aW] at htt
  have hun := hp.un h.dn
  rw [hib, aW] at hun
  have g1 := vz hp.vs.rv hup (show aW r ≤ k.st.rcv.held by omega)
  have g0 := vz h.v.rw hup (show aW r ≤ c.rw.held by omega)
  have hwr := aX.1 hp.vs.rv
  have hwc := aX.1 h.v.rw
  have hs0 : gb c 0 (fun k => { k with ib := r }) = { c with ks := [{ k with ib := r }] } := by rw [bM h.at_, h.ks]; rfl
  have hat : ({ c with ks := [{ k with ib := r }] } : NL).ks[0]? = some { k with ib := r } := rfl
  have hk1 : gbK { c with ks := [{ k with ib := r }] } 0 1 = { c with ks := [{ k with st := { k.st with rcv := if bI k.st.rcv (aW r) ≤ 0 then k.st.rcv else tl k.st.rcv (bI k.st.rcv (aW r)) }, ib := r }], ou := c.ou ++ mh 1 (bI k.st.rcv (aW r)) } := by
    unfold gbK mh
    rw [show rD { c with ks := [{ k with ib := r }] } 0 = bI k.st.rcv (aW r) by unfold rD; rw [df hat]]
    by_cases hn : bI k.st.rcv (aW r) ≤ 0
    · rw [if_pos (.inr hn), if_pos hn, if_pos hn, List.append_nil]
    · rw [if_neg (by rw [show ({ c with ks := [{ k with ib := r }] } : NL).cl = false from h.cl]; simpa using hn), if_neg hn, if_neg hn, bM hat]
      rfl
  have hr : bY c 1 = (gbC { c with ks := [{ k with st := { k.st with rcv := if bI k.st.rcv (aW r) ≤ 0 then k.st.rcv else tl k.st.rcv (bI k.st.rcv (aW r)) }, ib := r }], ou := c.ou ++ mh 1 (bI k.st.rcv (aW r)) }, s, true) := by
    unfold bY
    rw [h.find]
    dsimp only
    rw [df h.at_, hib]
    dsimp only
    rw [if_neg (by rw [h.dn]; simp), hs0, hk1]
  rw [wG (show ({ c with ks := [{ k with st := { k.st with rcv := if bI k.st.rcv (aW r) ≤ 0 then k.st.rcv else tl k.st.rcv (bI k.st.rcv (aW r)) }, ib := r }], ou := c.ou ++ mh 1 (bI k.st.rcv (aW r)) } : NL).cl = false from h.cl)] at hr
  dsimp only at hr
  rw [show be [({ k with st := { k.st with rcv := if bI k.st.rcv (aW r) ≤ 0 then k.st.rcv else tl k.st.rcv (bI k.st.rcv (aW r)) }, ib := r } : KR)] = aW r by simp [be]] at hr
  rw [hr] at hvn ⊢
  generalize bI k.st.rcv (aW r) = m1 at *
  generalize bI c.rw (aW r) = m0 at *
  have a1 := g1.m0
  have a2 := g1.m1
  have a3 := g0.m0
  have a4 := g0.m1
  refine ⟨_, { k with st := { k.st with rcv := if m1 ≤ 0 then k.st.rcv else tl k.st.rcv m1 }, ib := r }, m1, m0, rfl, ⟨⟨hvn.toVB, rfl, h.sd, h.sz, h.cl, h.la, h.id, h.sh, h.dn, h.se, h.ge, h.ob⟩, hvn.nf _ (List.mem_singleton.2 rfl)⟩, ?_⟩
  exact ⟨by rw [List.append_assoc], rfl, rfl, rfl, rfl, rfl, rfl, g1.lf, g1.hl, g0.lf, g0.hl, fun e => g1.z (by rw [e]; rfl), fun e => g0.z (by rw [e]; rfl), ⟨a1, by omega⟩, ⟨a3, by omega⟩⟩
theorem Dir.data {x y y' : NL} {kx ky ky' : KR} {f : aY} {F G : List aY} {n m : Int} {wr gt : List ByteArray} (h : Dir x kx y ky (f :: F) G n wr gt) (hk : f.kind = 2) (e : C9 y ky f.data y' ky' m) : Dir x kx y' ky' F (G ++ mh 0 m) n wr gt := by
  have c := fm hk
  have s1 := h.s1
  have s2 := h.s2
  have h1 := h.h1
  have h2 := h.h2
  have cp := cZ f.data
  rw [dv, c] at s1 s2
  refine ⟨?_, ?_, ?_, ?_, fun e' => ?_, fun e' => ?_, ?_, h.cs, ?_⟩
  · rw [e.rl, gr, mW (by decide)]; omega
  · rw [e.wl, gr, pI e.m0]; omega
  · rw [e.rl, e.rh]; omega
  · rw [e.wl, e.wh]; omega
  · rw [e.ib] at e'; simp at e'
  · rw [e.ib] at e'; simp at e'
  · rw [e.gt, h.ct, fR hk, List.length_cons]; omega
  · rw [h.ms, e.ib, fR hk]; simp
theorem Dir.dataR {x y y' : NL} {kx ky ky' : KR} {f : aY} {F G : List aY} {n m : Int} {wr gt : List ByteArray} (h : Dir y ky x kx G (f :: F) n wr gt) (hk : f.kind = 2) (e : C9 y ky f.data y' ky' m) : Dir y' ky' x kx (G ++ mh 0 m) F n wr gt := by
  have w : ∀ i, eQ i f = 0 := fun i => by unfold eQ; rw [if_neg (by omega)]
  have s1 := h.s1
  have s2 := h.s2
  rw [cU, w] at s1 s2
  refine ⟨?_, ?_, h.h1, h.h2, h.e1, h.e2, ?_, ?_, ?_⟩
  · rw [s1, e.sn, eE, jj]; omega
  · rw [s2, e.sw, eE, jj]; omega
  · rw [e.st, h.ct, dx, gu, List.append_nil]
  · rw [e.st, e.ob]; exact h.cs
  · rw [e.ob, dx, gu, List.append_nil]; exact h.ms
theorem Dir.red {x y y' : NL} {kx ky ky' : KR} {F G : List aY} {n m1 m0 : Int} {wr gt : List ByteArray} {s : ByteArray} {r : List ByteArray} (h : Dir x kx y ky F G n wr gt) (hib : ky.ib = s :: r) (e : Da y ky r y' ky' m1 m0) : Dir x kx y' ky' F (G ++ (mh 1 m1 ++ mh 0 m0)) n wr (gt ++ [s]) := by
  have s1 := h.s1
  have s2 := h.s2
  have h1 := h.h1
  have h2 := h.h2
  refine ⟨?_, ?_, ?_, ?_, fun e' => ?_, fun e' => ?_, ?_, h.cs, ?_⟩
  · rw [e.rl, gr, gr, pI e.p1.1, mW (by decide)]; omega
  · rw [e.wl, gr, gr, pI e.p0.1, mW (by decide)]; omega
  · rw [e.rl, e.rh]; omega
  · rw [e.wl, e.wh]; omega
  · rw [e.ib] at e'; exact e.z1 e'
  · rw [e.ib] at e'; exact e.z0 e'
  · rw [e.gt]; exact h.ct
  · rw [h.ms, e.ib, hib]; simp
theorem Dir.redR {x y y' : NL} {kx ky ky' : KR} {F G : List aY} {n m1 m0 : Int} {wr gt : List ByteArray} {r : List ByteArray} (h : Dir y ky x kx G F n wr gt) (e : Da y ky r y' ky' m1 m0) : Dir y' ky' x kx (G ++ (mh 1 m1 ++ mh 0 m0)) F n wr gt := by
  have s1 := h.s1
  have s2 := h.s2
  refine ⟨?_, ?_, h.h1, h.h2, h.e1, h.e2, ?_, ?_, ?_⟩
  · rw [s1, e.sn, eE, eE, jj, jj]; omega
  · rw [s2, e.sw, eE, eE, jj, jj]; omega
  · rw [e.st, h.ct, dx, dx, gu, gu, List.append_nil, List.append_nil]
  · rw [e.st, e.ob]; exact h.cs
  · rw [e.ob, dx, dx, gu, gu, List.append_nil, List.append_nil]; exact h.ms
theorem Dir.w1 {x y : NL} {kx ky : KR} {f : aY} {F G : List aY} {n : Int} {wr gt : List ByteArray} (h : Dir x kx y ky F (f :: G) n wr gt) (hk : f.kind = 6) (hs : f.strm = 1) : Dir { x with ks := [{ kx with st := { kx.st with snd := ⟨kx.st.snd.size, kx.st.snd.left + f.num, kx.st.snd.held⟩ } }] } { kx with st := { kx.st with snd := ⟨kx.st.snd.size, kx.st.snd.left + f.num, kx.st.snd.held⟩ } } y ky F G n wr gt := by
  have s1 := h.s1
  have s2 := h.s2
  rw [cU, show eQ 1 f = f.num by unfold eQ; rw [if_pos ⟨hk, hs⟩]] at s1
  rw [cU, show eQ 0 f = 0 by unfold eQ; rw [if_neg (by omega)]] at s2
  exact ⟨by show _ = kx.st.snd.left + f.num + _ + _; omega, by show _ = x.sw.left + _ + _; omega, h.h1, h.h2, h.e1, h.e2, h.ct, h.cs, h.ms⟩
theorem Dir.w1R {x y : NL} {kx ky : KR} {f : aY} {F G : List aY} {n : Int} {wr gt : List ByteArray} (h : Dir y ky x kx (f :: G) F n wr gt) (hk : f.kind = 6) : Dir y ky { x with ks := [{ kx with st := { kx.st with snd := ⟨kx.st.snd.size, kx.st.snd.left + f.num, kx.st.snd.held⟩ } }] } { kx with st := { kx.st with snd := ⟨kx.st.snd.size, kx.st.snd.left + f.num, kx.st.snd.held⟩ } } G F n wr gt := by
  have s1 := h.s1
  have s2 := h.s2
  rw [dv, nL (by omega)] at s1 s2
  have ct := h.ct
  have ms := h.ms
  rw [iF (by omega)] at ct ms
  exact ⟨by show kx.st.rcv.left = _; omega, by show x.rw.left = _; omega, h.h1, h.h2, h.e1, h.e2, ct, h.cs, ms⟩
theorem Dir.w0 {x y : NL} {kx ky : KR} {f : aY} {F G : List aY} {n : Int} {wr gt : List ByteArray} (h : Dir x kx y ky F (f :: G) n wr gt) (hk : f.kind = 6) (hs : f.strm = 0) : Dir { x with sw := ⟨x.sw.size, x.sw.left + f.num, x.sw.held⟩ } kx y ky F G n wr gt := by
  have s1 := h.s1
  have s2 := h.s2
  rw [cU, show eQ 1 f = 0 by unfold eQ; rw [if_neg (by omega)]] at s1
  rw [cU, show eQ 0 f = f.num by unfold eQ; rw [if_pos ⟨hk, hs⟩]] at s2
  exact ⟨by omega, by show _ = x.sw.left + f.num + _ + _; omega, h.h1, h.h2, h.e1, h.e2, h.ct, h.cs, h.ms⟩
theorem Dir.w0R {x y : NL} {kx ky : KR} {f : aY} {F G : List aY} {n : Int} {wr gt : List ByteArray} (h : Dir y ky x kx (f :: G) F n wr gt) (hk : f.kind = 6) : Dir y ky { x with sw := ⟨x.sw.size, x.sw.left + f.num, x.sw.held⟩ } kx G F n wr gt := by
  have s1 := h.s1
  have s2 := h.s2
  rw [dv, nL (by omega)] at s1 s2
  have ct := h.ct
  have ms := h.ms
  rw [iF (by omega)] at ct ms
  exact ⟨by omega, by show x.rw.left = _; omega, h.h1, h.h2, h.e1, h.e2, ct, h.cs, ms⟩
end Go.Proofs.YthiocbcokfondaaGreatDoor.Y
namespace Go.Proofs.YthiocbcokfondaaGreatDoor.Y
structure PI (n : Int) (x : NL) (kx : KR) (sx : Int) (y : NL) (ky : KR) (sy : Int) (F G : List aY) (up gS dn gC : List ByteArray) : Prop where
  ex : EP x kx sx n
  ey : EP y ky sy n
  d1 : Dir x kx y ky F G n up gS
  d2 : Dir y ky x kx G F n dn gC
  fF : ∀ f ∈ F, FO f
  fG : ∀ f ∈ G, FO f
section
variable {n sx sy : Int} {x y : NL} {kx ky : KR} {F G : List aY} {up gS dn gC : List ByteArray}
theorem PI.symm (h : PI n x kx sx y ky sy F G up gS dn gC) : PI n y ky sy x kx sx G F dn gC up gS := ⟨h.ey, h.ex, h.d2, h.d1, h.fG, h.fF⟩
theorem sf {a b : List aY} (ha : ∀ f ∈ a, FO f) (hb : ∀ f ∈ b, FO f) : ∀ f ∈ a ++ b, FO f := fun f hf => (List.mem_append.1 hf).elim (ha f) (hb f)
theorem PI.sonx {x1 : NL} {k1 : KR} (he : EB x1 k1 sx n) (hy : EP y ky sy n) (h1 : Dir x1 k1 y ky F G n up gS) (h2 : Dir y ky x1 k1 G F n dn gC) (fF : ∀ f ∈ F, FO f) (fG : ∀ f ∈ G, FO f) : ∃ kx' q, (fw x1 0).ou = x1.ou ++ q ∧ kx'.ib = k1.ib ∧ PI n (fw x1 0) kx' sx y ky sy (F ++ q) G up gS dn gC := by
  obtain ⟨k', q, e, s⟩ := he.son
  exact ⟨k', q, s.ou, s.ib, e, hy, h1.son s, h2.sonR s, sf fF s.fr, fG⟩
theorem PI.write (h : PI n x kx sx y ky sy F G up gS dn gC) {msg : ByteArray} (hb : aI msg ≤ n) (hs : msg.size ≤ 16384) (hl : up.length ≤ 900000) : ∃ x' kx' q, dL x 1 msg = (x', 0) ∧ x'.ou = x.ou ++ q ∧ kx'.ib = kx.ib ∧ PI n x' kx' sx y ky sy (F ++ q) G (up ++ [msg]) gS dn gC := by
  have cs := h.d1.cs
  obtain ⟨e, w⟩ := xS h.ex hb hs (by omega)
  obtain ⟨k', q, o, i, p⟩ := PI.sonx e h.ey (h.d1.write (msg := msg)) h.d2.writeR h.fF h.fG
  exact ⟨_, k', q, w, o, i, p⟩
theorem PI.recv {f : aY} (h : PI n x kx sx y ky sy (f :: F) G up gS dn gC) (hl : up.length ≤ 900000) : ∃ y' ky' e, aH y f = (y', 0) ∧ y'.ou = y.ou ++ e ∧ ky'.ib = ky.ib ++ cE [f] ∧ PI n x kx sx y' ky' sy F (G ++ e) up gS dn gC := by
  have hf := h.fF f (List.mem_cons_self ..)
  have hF := fun z hz => h.fF z (List.mem_cons_of_mem f hz)
  have s1 := h.d1.s1
  have s2 := h.d1.s2
  have h1 := h.d1.h1
  have wx := aX.1 h.ex.v.sw
  have wy := aX.1 h.ey.v.rw
  have wkx := aX.1 h.ex.pk.vs.sn
  have wky := aX.1 h.ey.pk.vs.rv
  have w1 := ki 1 h.fG
  have w0 := ki 0 h.fG
  have cF := ie F
  rcases hf.2.1 with hk | hk
  · rw [dv, fm hk] at s1 s2
    have ct := h.d1.ct
    have cs := h.d1.cs
    rw [fR hk, List.length_cons] at ct
    obtain ⟨y', k', m, a, b, c⟩ := xT h.ey hf hk (by omega) (by omega) (by omega) (by omega)
    exact ⟨y', k', mh 0 m, a, c.ou, by rw [c.ib, fR hk]; rfl, h.ex, b, h.d1.data hk c, h.d2.dataR hk c, hF, sf h.fG (vy (.inl rfl) c.m1)⟩
  · have t1 := h.d2.s1
    have t2 := h.d2.s2
    have t3 := h.d2.h1
    have t4 := h.d2.h2
    have wkr := aX.1 h.ex.pk.vs.rv
    have wr := aX.1 h.ex.v.rw
    have cG := ie G
    have sz := h.ex.v.sz
    have szn := h.ex.sz
    have wF1 := ki 1 hF
    have wF0 := ki 0 hF
    rcases hf.2.2 with hs | hs
    · rw [cU, show eQ 0 f = f.num by unfold eQ; rw [if_pos ⟨hk, hs⟩]] at t2
      obtain ⟨e, w⟩ := BS h.ey hf hk hs (by omega)
      obtain ⟨k', q, o, i, p⟩ := PI.sonx e h.ex (h.d2.w0 hk hs) (h.d1.w0R hk) h.fG hF
      exact ⟨_, k', q, w, o, by rw [i, iF (by omega), kh, List.append_nil], p.symm⟩
    · rw [cU, show eQ 1 f = f.num by unfold eQ; rw [if_pos ⟨hk, hs⟩]] at t1
      obtain ⟨e, w⟩ := BR h.ey hf hk hs (by omega)
      obtain ⟨k', q, o, i, p⟩ := PI.sonx e h.ex (h.d2.w1 hk hs) (h.d1.w1R hk) h.fG hF
      exact ⟨_, k', q, w, o, by rw [i, iF (by omega), kh, List.append_nil], p.symm⟩
theorem PI.read (h : PI n x kx sx y ky sy F G up gS dn gC) {s : ByteArray} {r : List ByteArray} (hib : ky.ib = s :: r) : ∃ y' ky' e, bY y 1 = (y', s, true) ∧ y'.ou = y.ou ++ e ∧ ky'.ib = r ∧ cE e = [] ∧ PI n x kx sx y' ky' sy F (G ++ e) up (gS ++ [s]) dn gC := by
  obtain ⟨y', k', m1, m0, a, b, c⟩ := An h.ey hib
  exact ⟨y', k', mh 1 m1 ++ mh 0 m0, a, c.ou, c.ib, by rw [dx, gu, gu]; rfl, h.ex, b, h.d1.red hib c, h.d2.redR c, h.fF, sf h.fG (sf (vy (.inr rfl) c.p1.2) (vy (.inl rfl) c.p0.2))⟩
theorem PI.flush (h : PI n x kx sx y ky sy F G up gS dn gC) : PI n (jF x).1 kx sx y ky sy F G up gS dn gC :=
  ⟨⟨⟨h.ex.vn.flush.toVB, h.ex.ks, h.ex.sd, h.ex.sz, h.ex.cl, h.ex.la, h.ex.id, h.ex.sh, h.ex.dn, h.ex.se, h.ex.ge, h.ex.ob⟩, h.ex.nf⟩, h.ey, ⟨h.d1.s1, h.d1.s2, h.d1.h1, h.d1.h2, h.d1.e1, h.d1.e2, h.d1.ct, h.d1.cs, h.d1.ms⟩, ⟨h.d2.s1, h.d2.s2, h.d2.h1, h.d2.h2, h.d2.e1, h.d2.e2, h.d2.ct, h.d2.cs, h.d2.ms⟩, h.fF, h.fG⟩
theorem PI.full (h : PI n x kx sx y ky sy F [] up gS dn gC) (hib : ky.ib = []) : cE F ≠ [] ∨ up = gS := by
  by_cases hd : cE F = []
  · refine .inr ?_
    have s1 := h.d1.s1
    have s2 := h.d1.s2
    have h1 := h.d1.h1
    have h2 := h.d1.h2
    have e1 := h.d1.e1 hib
    have e2 := h.d1.e2 hib
    have cF : dN F = 0 := by
      have : ∀ l : List aY, (∀ f ∈ l, FO f) → cE l = [] → dN l = 0 := by
        intro l
        induction l with
        | nil => intro _ _; rfl
        | cons f r ih =>
          intro hl hd
          by_cases hk : f.kind = 2
          · rw [fR hk] at hd; cases hd
          · rw [iF hk] at hd
            rw [dv, nL hk, ih (fun z hz => hl z (List.mem_cons_of_mem f hz)) hd]; rfl
      exact this F h.fF hd
    rw [cF, gp] at s1 s2
    have hob : kx.ob = [] := by
      cases ho : kx.ob with
      | nil => rfl
      | cons f r =>
        exfalso
        have hk := h.ex.ob f (by rw [ho]; exact List.mem_cons_self ..)
        have hnf := h.ex.nf f r ho
        have hp := h.ex.pk
        have hah := hp.ahd
        rw [ho, eX] at hah
        have ho2 := eW hah.1
        have hsz : aI f.data ≤ kx.st.snd.size := by
          have hh := ho2.h
          generalize (bD (gy kx.st) f).st = t at hh
          cases hh with
          | data _ _ _ hz => exact hz
          | fin hk' => omega
          | stat hk' => omega
          | reset hk' => omega
        rw [fm hk] at hnf
        have z1 := hp.z1
        have z2 := h.ex.sz
        omega
    rw [h.d1.ms, hib, hd, hob]
    simp [kh]
  · exact .inl hd
end
structure MP where
  c : NL
  s : NL
  up : List ByteArray
  dn : List ByteArray
  gS : List ByteArray
  gC : List ByteArray
  fine : Bool
def lC : List aY → NL → Bool → NL × Bool
  | [], y, b => (y, b)
  | f :: r, y, b => lC r (aH y f).1 (b && decide ((aH y f).2 = 0))
def uu (p : MP) (msg : ByteArray) : MP := { p with c := (dL p.c 1 msg).1, up := if (dL p.c 1 msg).2 = 0 then p.up ++ [msg] else p.up }
def Ao (p : MP) (msg : ByteArray) : MP := { p with s := (dL p.s 1 msg).1, dn := if (dL p.s 1 msg).2 = 0 then p.dn ++ [msg] else p.dn }
def lD (p : MP) : MP := { p with c := (jF p.c).1, s := (lC p.c.ou p.s p.fine).1, fine := (lC p.c.ou p.s p.fine).2 }
def nO (p : MP) : MP := { p with s := (jF p.s).1, c := (lC p.s.ou p.c p.fine).1, fine := (lC p.s.ou p.c p.fine).2 }
def pQ (p : MP) : MP := { p with s := (bY p.s 1).1, gS := if (bY p.s 1).2.2 = true then p.gS ++ [(bY p.s 1).2.1] else p.gS }
def sg (p : MP) : MP := { p with c := (bY p.c 1).1, gC := if (bY p.c 1).2.2 = true then p.gC ++ [(bY p.c 1).2.1] else p.gC }
def dX (p : MP) (k : Int) (msg : ByteArray) : MP := if k = 0 then uu p msg else if k = 1 then Ao p msg else if k = 2 then lD p else if k = 3 then nO p else if k = 4 then pQ p else if k = 5 then sg p else p
structure P1 (n : Int) (p : MP) (kc ks : KR) : Prop where
  pi : PI n p.c kc 1 p.s ks 2 p.c.ou p.s.ou p.up p.gS p.dn p.gC
  fine : p.fine = true
theorem nP {n sx sy : Int} {x : NL} {kx : KR} {up gS dn gC : List ByteArray} (hl : up.length ≤ 900000) : ∀ (F : List aY) {y : NL} {ky : KR} {G : List aY}, PI n x kx sx y ky sy F G up gS dn gC → ∃ y' ky' e, lC F y true = (y', true) ∧ y'.ou = y.ou ++ e ∧ ky'.ib = ky.ib ++ cE F ∧ PI n x kx sx y' ky' sy [] (G ++ e) up gS dn gC
  | [], y, ky, G, h => ⟨y, ky, [], rfl, by simp, by rw [kh, List.append_nil], by rw [List.append_nil]; exact h⟩
  | f :: F, y, ky, G, h => by
    obtain ⟨y1, k1, e1, a, b, c, d⟩ := h.recv hl
    obtain ⟨y2, k2, e2, a2, b2, c2, d2⟩ := nP hl F d
    refine ⟨y2, k2, e1 ++ e2, ?_, by rw [b2, b, List.append_assoc], ?_, by rw [← List.append_assoc]; exact d2⟩
    · rw [lC, a]
      exact a2
    · rw [c2, c, List.append_assoc, ← dx]; rfl
section
variable {n : Int} {p : MP} {kc ks : KR}
theorem P1.m2 (h : P1 n p kc ks) (hl : p.up.length ≤ 900000) : ∃ ks', P1 n (lD p) kc ks' ∧ ks'.ib = ks.ib ++ cE p.c.ou ∧ (lD p).c.ou = [] := by
  obtain ⟨y', k', e, a, b, c, d⟩ := nP hl p.c.ou h.pi.flush
  refine ⟨k', ⟨?_, ?_⟩, c, rfl⟩
  · unfold lD
    rw [h.fine, a]
    dsimp only
    rw [b]
    exact d
  · unfold lD
    rw [h.fine, a]
theorem P1.m3 (h : P1 n p kc ks) (hl : p.dn.length ≤ 900000) : ∃ kc', P1 n (nO p) kc' ks ∧ kc'.ib = kc.ib ++ cE p.s.ou ∧ (nO p).s.ou = [] := by
  obtain ⟨y', k', e, a, b, c, d⟩ := nP hl p.s.ou h.pi.symm.flush
  refine ⟨k', ⟨?_, ?_⟩, c, rfl⟩
  · unfold nO
    rw [h.fine, a]
    dsimp only
    rw [b]
    exact d.symm
  · unfold nO
    rw [h.fine, a]
theorem P1.m4 (h : P1 n p kc ks) : ∃ ks', P1 n (pQ p) kc ks' ∧ ks'.ib = ks.ib.drop 1 ∧ (pQ p).gS = p.gS ++ ks.ib.take 1 ∧ cE (pQ p).s.ou = cE p.s.ou := by
  cases hib : ks.ib with
  | nil =>
    have hr := sb h.pi.ey hib
    have e : pQ p = p := by unfold pQ; rw [hr]; cases p; rfl
    rw [e]
    exact ⟨ks, h, hib, by simp, rfl⟩
  | cons s r =>
    obtain ⟨y', k', e, a, b, c, d, f⟩ := h.pi.read hib
    refine ⟨k', ⟨?_, ?_⟩, c, ?_, ?_⟩
    · unfold pQ
      rw [a]
      dsimp only
      rw [b, if_pos rfl]
      exact f
    · exact h.fine
    · unfold pQ
      rw [a]
      dsimp only
      rw [if_pos rfl]
      rfl
    · unfold pQ
      rw [a]
      dsimp only
      rw [b, dx, d, List.append_nil]
theorem P1.m5 (h : P1 n p kc ks) : ∃ kc', P1 n (sg p) kc' ks ∧ kc'.ib = kc.ib.drop 1 ∧ (sg p).gC = p.gC ++ kc.ib.take 1 ∧ cE (sg p).c.ou = cE p.c.ou := by
  cases hib : kc.ib with
  | nil =>
    have hr := sb h.pi.ex hib
    have e : sg p = p := by unfold sg; rw [hr]; cases p; rfl
    rw [e]
    exact ⟨kc, h, hib, by simp, rfl⟩
  | cons s r =>
    obtain ⟨y', k', e, a, b, c, d, f⟩ := h.pi.symm.read hib
    refine ⟨k', ⟨?_, ?_⟩, c, ?_, ?_⟩
    · unfold sg
      rw [a]
      dsimp only
      rw [b, if_pos rfl]
      exact f.symm
    · exact h.fine
    · unfold sg
      rw [a]
      dsimp only
      rw [if_pos rfl]
      rfl
    · unfold sg
      rw [a]
      dsimp only
      rw [b, dx, d, List.append_nil]
theorem P1.m0 (h : P1 n p kc ks) (msg : ByteArray) (hl : p.up.length ≤ 900000) (hn : n ≤ 16384) : (aI msg ≤ n → ∃ kc', P1 n (uu p msg) kc' ks ∧ (uu p msg).up = p.up ++ [msg]) ∧ (n < aI msg → uu p msg = p) := by
  refine ⟨fun hb => ?_, fun hb => ?_⟩
  · have hs : msg.size ≤ 16384 := by unfold aI at hb; split at hb <;> omega
    obtain ⟨x', k', q, a, b, c, d⟩ := h.pi.write hb hs hl
    refine ⟨k', ⟨?_, h.fine⟩, ?_⟩
    · unfold uu
      rw [a]
      dsimp only
      rw [b, if_pos rfl]
      exact d
    · unfold uu
      rw [a]
      dsimp only
      rw [if_pos rfl]
  · have e := mV h.pi.ex (msg := msg) (.inl hb)
    unfold uu
    rw [e]
    cases p; rfl
theorem P1.m1 (h : P1 n p kc ks) (msg : ByteArray) (hl : p.dn.length ≤ 900000) (hn : n ≤ 16384) : ∃ ks', P1 n (Ao p msg) kc ks' ∧ (Ao p msg).dn.length ≤ p.dn.length + 1 := by
  by_cases hb : aI msg ≤ n
  · have hs : msg.size ≤ 16384 := by unfold aI at hb; split at hb <;> omega
    obtain ⟨x', k', q, a, b, c, d⟩ := h.pi.symm.write hb hs hl
    refine ⟨k', ⟨?_, h.fine⟩, ?_⟩
    · unfold Ao
      rw [a]
      dsimp only
      rw [b, if_pos rfl]
      exact d.symm
    · unfold Ao
      rw [a]
      dsimp only
      rw [if_pos rfl, List.length_append]
      exact Nat.le_refl _
  · have e := mV h.pi.ey (msg := msg) (.inl (by omega))
    have e2 : Ao p msg = p := by
      unfold Ao
      rw [e]
      cases p; rfl
    rw [e2]
    exact ⟨ks, h, Nat.le_add_right _ _⟩
end
def Ap (h : ir) : aY := ⟨1, 1, 4, oH h⟩
structure P0 (n : Int) (h : ir) (p : MP) (kc ks : KR) (F : List aY) : Prop where
  s : p.s = (dP 2 n).1
  ou : p.c.ou = Ap h :: F
  pi : PI n p.c kc 1 (aH (dP 2 n).1 (Ap h)).1 ks 2 F (aH (dP 2 n).1 (Ap h)).1.ou p.up p.gS p.dn p.gC
  ok : (aH (dP 2 n).1 (Ap h)).2 = 0
  so : (aH (dP 2 n).1 (Ap h)).1.ou = []
  d0 : p.dn = []
  si : ks.ib = []
  gS : p.gS = []
  fine : p.fine = true
section
variable {n : Int} {h : ir} {p : MP} {kc ks : KR} {F : List aY}
theorem pJ (n : Int) : (dP 2 n).1.ks = [] ∧ (dP 2 n).1.ou = [] := by unfold dP; split <;> exact ⟨rfl, rfl⟩
theorem P0.m0 (h0 : P0 n h p kc ks F) (msg : ByteArray) (hl : p.up.length ≤ 900000) (hn : n ≤ 16384) : (aI msg ≤ n → ∃ kc' F', P0 n h (uu p msg) kc' ks F' ∧ (uu p msg).up = p.up ++ [msg]) ∧ (n < aI msg → uu p msg = p) := by
  refine ⟨fun hb => ?_, fun hb => ?_⟩
  · have hs : msg.size ≤ 16384 := by unfold aI at hb; split at hb <;> omega
    obtain ⟨x', k', q, a, b, c, d⟩ := h0.pi.write hb hs hl
    refine ⟨k', F ++ q, ⟨h0.s, ?_, ?_, h0.ok, h0.so, h0.d0, h0.si, h0.gS, h0.fine⟩, ?_⟩
    · unfold uu
      rw [a]
      dsimp only
      rw [b, h0.ou]; rfl
    · unfold uu
      rw [a]
      dsimp only
      rw [if_pos rfl]
      exact d
    · unfold uu
      rw [a]
      dsimp only
      rw [if_pos rfl]
  · have e := mV h0.pi.ex (msg := msg) (.inl hb)
    unfold uu
    rw [e]
    cases p; rfl
theorem P0.m1 (h0 : P0 n h p kc ks F) (msg : ByteArray) : Ao p msg = p := by
  have e : (dL p.s 1 msg) = (p.s, 10) := by
    rw [h0.s]
    unfold dL eM jT
    rw [(pJ n).1]
    rfl
  unfold Ao
  rw [e]
  cases p; rfl
theorem P0.m3 (h0 : P0 n h p kc ks F) : nO p = p := by
  have e : p.s.ou = [] := by rw [h0.s]; exact (pJ n).2
  have e2 : (jF p.s).1 = p.s := by
    unfold jF
    dsimp only
    rw [← e]
  unfold nO
  rw [e2, e]
  cases p; rfl
theorem P0.m4 (h0 : P0 n h p kc ks F) : pQ p = p := by
  have e : bY p.s 1 = (p.s, emptyB, false) := by
    unfold bY
    rw [show p.s.ks = [] by rw [h0.s]; exact (pJ n).1]
    rfl
  unfold pQ
  rw [e]
  cases p; rfl
theorem P0.ci (h0 : P0 n h p kc ks F) : kc.ib = [] := by
  have := h0.pi.d2.ms
  rw [h0.d0] at this
  have := congrArg List.length this
  simp only [List.length_nil, List.length_append] at this
  exact List.eq_nil_of_length_eq_zero (by omega)
theorem P0.m5 (h0 : P0 n h p kc ks F) : sg p = p := by
  have hr := sb h0.pi.ex h0.ci
  unfold sg
  rw [hr]
  cases p; rfl
theorem P0.m2 (h0 : P0 n h p kc ks F) (hl : p.up.length ≤ 900000) : ∃ ks', P1 n (lD p) kc ks' ∧ ks'.ib = cE p.c.ou ∧ (lD p).c.ou = [] := by
  obtain ⟨y', k', e, a, b, c, d⟩ := nP hl F h0.pi.flush
  have e1 : lC p.c.ou p.s p.fine = (y', true) := by
    rw [h0.ou, lC, h0.s, h0.ok, h0.fine]
    exact a
  refine ⟨k', ⟨?_, ?_⟩, ?_, rfl⟩
  · unfold lD
    rw [e1]
    dsimp only
    rw [b, h0.so, List.nil_append]
    rw [h0.so, List.nil_append] at d
    exact d
  · unfold lD
    rw [e1]
  · rw [c, h0.si, h0.ou, iF (show (1 : Int) ≠ 2 by decide)]; rfl
end
def PS (n : Int) (h : ir) (p : MP) (N : Nat) : Prop := ((∃ kc ks F, P0 n h p kc ks F) ∨ ∃ kc ks, P1 n p kc ks) ∧ p.up.length ≤ N ∧ p.dn.length ≤ N
theorem PS.fine {n : Int} {h : ir} {p : MP} {N : Nat} (hp : PS n h p N) : p.fine = true := by
  rcases hp.1 with ⟨_, _, _, h0⟩ | ⟨_, _, h1⟩
  · exact h0.fine
  · exact h1.fine
theorem PS.pre {n : Int} {h : ir} {p : MP} {N : Nat} (hp : PS n h p N) : (∃ r, p.up = p.gS ++ r) ∧ ∃ r, p.dn = p.gC ++ r := by
  rcases hp.1 with ⟨_, _, _, h0⟩ | ⟨_, _, h1⟩
  · exact ⟨⟨_, h0.pi.d1.ms⟩, ⟨_, h0.pi.d2.ms⟩⟩
  · exact ⟨⟨_, h1.pi.d1.ms⟩, ⟨_, h1.pi.d2.ms⟩⟩
theorem nQ {msg : ByteArray} {n : Int} (h1 : 1 ≤ n) : aI msg ≤ n ↔ ¬ n < (msg.size : Int) := by
  unfold aI
  split <;> omega
theorem PS.move {n : Int} {h : ir} {p : MP} {N : Nat} (hp : PS n h p N) (hN : N ≤ 900000) (hn1 : 1 ≤ n) (hn : n ≤ 16384) (k : Int) (msg : ByteArray) : PS n h (dX p k msg) (N + 1) ∧ (k = 0 → ((dX p k msg).up.length = p.up.length ↔ n < (msg.size : Int))) := by
  obtain ⟨hq, hu, hd⟩ := hp
  unfold dX
  split
  · rename_i hk
    rcases hq with ⟨kc, ks, F, h0⟩ | ⟨kc, ks, h1⟩
    · obtain ⟨a, b⟩ := h0.m0 msg (by omega) hn
      by_cases hc : aI msg ≤ n
      · obtain ⟨kc', F', a, e⟩ := a hc
        refine ⟨⟨.inl ⟨kc', ks, F', a⟩, by rw [e, List.length_append, List.length_singleton]; omega, Nat.le_succ_of_le hd⟩, fun _ => ?_⟩
        rw [e, List.length_append, List.length_singleton]
        have := (nQ hn1).1 hc
        omega
      · rw [b (by omega)]
        refine ⟨⟨.inl ⟨kc, ks, F, h0⟩, Nat.le_succ_of_le hu, Nat.le_succ_of_le hd⟩, fun _ => ?_⟩
        have := mt (nQ (msg := msg) hn1).2 hc
        omega
    · obtain ⟨a, b⟩ := h1.m0 msg (by omega) hn
      by_cases hc : aI msg ≤ n
      · obtain ⟨kc', a, e⟩ := a hc
        refine ⟨⟨.inr ⟨kc', ks, a⟩, by rw [e, List.length_append, List.length_singleton]; omega, Nat.le_succ_of_le hd⟩, fun _ => ?_⟩
        rw [e, List.length_append, List.length_singleton]
        have := (nQ hn1).1 hc
        omega
      · rw [b (by omega)]
        refine ⟨⟨.inr ⟨kc, ks, h1⟩, Nat.le_succ_of_le hu, Nat.le_succ_of_le hd⟩, fun _ => ?_⟩
        have := mt (nQ (msg := msg) hn1).2 hc
        omega
  rename_i hk0
  refine ⟨?_, fun e => absurd e hk0⟩
  split
  · rcases hq with ⟨kc, ks, F, h0⟩ | ⟨kc, ks, h1⟩
    · rw [h0.m1 msg]
      exact ⟨.inl ⟨kc, ks, F, h0⟩, Nat.le_succ_of_le hu, Nat.le_succ_of_le hd⟩
    · obtain ⟨ks', a, e⟩ := h1.m1 msg (by omega) hn
      exact ⟨.inr ⟨kc, ks', a⟩, Nat.le_succ_of_le hu, by omega⟩
  split
  · rcases hq with ⟨kc, ks, F, h0⟩ | ⟨kc, ks, h1⟩
    · obtain ⟨ks', a, _⟩ := h0.m2 (by omega)
      exact ⟨.inr ⟨kc, ks', a⟩, Nat.le_succ_of_le hu, Nat.le_succ_of_le hd⟩
    · obtain ⟨ks', a, _⟩ := h1.m2 (by omega)
      exact ⟨.inr ⟨kc, ks', a⟩, Nat.le_succ_of_le hu, Nat.le_succ_of_le hd⟩
  split
  · rcases hq with ⟨kc, ks, F, h0⟩ | ⟨kc, ks, h1⟩
    · rw [h0.m3]
      exact ⟨.inl ⟨kc, ks, F, h0⟩, Nat.le_succ_of_le hu, Nat.le_succ_of_le hd⟩
    · obtain ⟨kc', a, _⟩ := h1.m3 (by omega)
      exact ⟨.inr ⟨kc', ks, a⟩, Nat.le_succ_of_le hu, Nat.le_succ_of_le hd⟩
  split
  · rcases hq with ⟨kc, ks, F, h0⟩ | ⟨kc, ks, h1⟩
    · rw [h0.m4]
      exact ⟨.inl ⟨kc, ks, F, h0⟩, Nat.le_succ_of_le hu, Nat.le_succ_of_le hd⟩
    · obtain ⟨ks', a, _⟩ := h1.m4
      exact ⟨.inr ⟨kc, ks', a⟩, Nat.le_succ_of_le hu, Nat.le_succ_of_le hd⟩
  split
  · rcases hq with ⟨kc, ks, F, h0⟩ | ⟨kc, ks, h1⟩
    · rw [h0.m5]
      exact ⟨.inl ⟨kc, ks, F, h0⟩, Nat.le_succ_of_le hu, Nat.le_succ_of_le hd⟩
    · obtain ⟨kc', a, _⟩ := h1.m5
      exact ⟨.inr ⟨kc', ks, a⟩, Nat.le_succ_of_le hu, Nat.le_succ_of_le hd⟩
  · exact ⟨hq, Nat.le_succ_of_le hu, Nat.le_succ_of_le hd⟩
def fH : Nat → MP → MP
  | 0, p => p
  | m + 1, p => sg (pQ (fH m p))
def gK (m : Nat) (p : MP) : MP := fH m (nO (lD p))
def eG (m : Nat) : Nat → MP → MP
  | 0, p => p
  | r + 1, p => gK m (eG m r p)
theorem pK {α : Type} (l : List α) (m : Nat) : l.take m ++ (l.drop m).take 1 = l.take (m + 1) := by
  rw [List.take_add]
theorem pL (m : Nat) (p : MP) : (fH m p).up = p.up ∧ (fH m p).dn = p.dn := by
  induction m with
  | zero => exact ⟨rfl, rfl⟩
  | succ m ih => exact ih
theorem P1.rds {n : Int} {p : MP} {kc ks : KR} (h : P1 n p kc ks) : ∀ m, ∃ kc' ks', P1 n (fH m p) kc' ks' ∧ ks'.ib = ks.ib.drop m ∧ (fH m p).gS = p.gS ++ ks.ib.take m ∧ kc'.ib = kc.ib.drop m ∧ (fH m p).gC = p.gC ++ kc.ib.take m ∧ cE (fH m p).c.ou = cE p.c.ou
  | 0 => ⟨kc, ks, h, by simp, by simp [fH], by simp, by simp [fH], rfl⟩
  | m + 1 => by
    obtain ⟨k1, k2, a, b, c, d, e, f⟩ := h.rds m
    obtain ⟨k3, a1, b1, c1, d1⟩ := a.m4
    obtain ⟨k4, a2, b2, c2, d2⟩ := a1.m5
    refine ⟨k4, k3, a2, ?_, ?_, ?_, ?_, ?_⟩
    · rw [b1, b, List.drop_drop]
    · show (pQ (fH m p)).gS = _
      rw [c1, c, b, List.append_assoc, pK]
    · rw [b2, d, List.drop_drop]
    · show (sg (pQ (fH m p))).gC = _
      rw [c2, show (pQ (fH m p)).gC = (fH m p).gC from rfl, e, d, List.append_assoc, pK]
    · show cE (sg (pQ (fH m p))).c.ou = _
      rw [d2, show (pQ (fH m p)).c = (fH m p).c from rfl, f]
structure Ba (n : Int) (p : MP) (kc ks : KR) : Prop extends P1 n p kc ks where
  ic : kc.ib = []
  is_ : ks.ib = []
theorem El {n : Int} {p : MP} {kc ks : KR} (h : P1 n p kc ks) : ks.ib.length ≤ p.up.length ∧ kc.ib.length ≤ p.dn.length := by
  have a := congrArg List.length h.pi.d1.ms
  have b := congrArg List.length h.pi.d2.ms
  simp only [List.length_append] at a b
  omega
theorem wH {n : Int} {p : MP} {kc ks : KR} (h : P1 n p kc ks) {m : Nat} (hm1 : p.up.length ≤ m) (hm2 : p.dn.length ≤ m) : ∃ kc' ks', Ba n (fH m p) kc' ks' ∧ (fH m p).gS = p.gS ++ ks.ib ∧ (fH m p).gC = p.gC ++ kc.ib ∧ cE (fH m p).c.ou = cE p.c.ou := by
  obtain ⟨a1, a2⟩ := El h
  obtain ⟨k1, k2, a, b, c, d, e, f⟩ := h.rds m
  refine ⟨k1, k2, ⟨a, ?_, ?_⟩, ?_, ?_, f⟩
  · rw [d, List.drop_eq_nil_of_le (by omega)]
  · rw [b, List.drop_eq_nil_of_le (by omega)]
  · rw [c, List.take_of_length_le (by omega)]
  · rw [e, List.take_of_length_le (by omega)]
theorem uo {n : Int} {h : ir} {p : MP} {N m : Nat} (hp : PS n h p N) (hN : N ≤ 900000) (hm : N ≤ m) : ∃ kc ks, Ba n (gK m p) kc ks := by
  obtain ⟨hq, hu, hd⟩ := hp
  have h2 : ∃ kc ks, P1 n (lD p) kc ks := by
    rcases hq with ⟨kc, ks, F, h0⟩ | ⟨kc, ks, h1⟩
    · obtain ⟨ks', a, _⟩ := h0.m2 (by omega)
      exact ⟨kc, ks', a⟩
    · obtain ⟨ks', a, _⟩ := h1.m2 (by omega)
      exact ⟨kc, ks', a⟩
  obtain ⟨kc, ks, h2⟩ := h2
  obtain ⟨kc3, h3, _⟩ := h2.m3 (by show p.dn.length ≤ 900000; omega)
  obtain ⟨k1, k2, a, _⟩ := wH h3 (m := m) (by show p.up.length ≤ m; omega) (by show p.dn.length ≤ m; omega)
  exact ⟨k1, k2, a⟩
def AC (p : MP) : Nat := if p.up.length - p.gS.length = 0 then 0 else 2 * (p.up.length - p.gS.length) - (if (cE p.c.ou).length = 0 then 0 else 1)
theorem Ba.round {n : Int} {p : MP} {kc ks : KR} (h : Ba n p kc ks) {m : Nat} (hm1 : p.up.length ≤ m) (hm2 : p.dn.length ≤ m) (hN : m ≤ 900000) : (∃ kc' ks', Ba n (gK m p) kc' ks') ∧ AC (gK m p) ≤ AC p - 1 ∧ (gK m p).dn.length - (gK m p).gC.length ≤ p.dn.length - p.gC.length - 1 ∧ (gK m p).up = p.up ∧ (gK m p).dn = p.dn := by
  obtain ⟨ks2, h2, i2, o2⟩ := h.toP1.m2 (by omega)
  rw [h.is_, List.nil_append] at i2
  have hD : cE (lD p).s.ou ≠ [] ∨ p.dn = p.gC := by
    have hpi := h2.pi.symm
    rw [o2] at hpi
    exact hpi.full h.ic
  obtain ⟨kc3, h3, i3, o3⟩ := h2.m3 (by show p.dn.length ≤ 900000; omega)
  rw [h.ic, List.nil_append] at i3
  have hU : cE p.c.ou = [] → cE (nO (lD p)).c.ou ≠ [] ∨ p.up = p.gS := fun he => by
    have hpi := h3.pi
    rw [o3] at hpi
    exact hpi.full (by rw [i2, he])
  obtain ⟨k1, k2, b, gs, gc, oo⟩ := wH h3 (m := m) (by show p.up.length ≤ m; omega) (by show p.dn.length ≤ m; omega)
  have gs' : (gK m p).gS = p.gS ++ cE p.c.ou := by
    show (fH m (nO (lD p))).gS = _
    rw [gs, i2]; rfl
  have gc' : (gK m p).gC = p.gC ++ cE (lD p).s.ou := by
    show (fH m (nO (lD p))).gC = _
    rw [gc, i3]; rfl
  have hup : (gK m p).up = p.up := (pL m (nO (lD p))).1
  have hdn : (gK m p).dn = p.dn := (pL m (nO (lD p))).2
  have lu := congrArg List.length b.pi.d1.ms
  have ld := congrArg List.length b.pi.d2.ms
  rw [show (fH m (nO (lD p))).up = p.up from hup, show (fH m (nO (lD p))).gS = p.gS ++ cE p.c.ou from gs'] at lu
  rw [show (fH m (nO (lD p))).dn = p.dn from hdn, show (fH m (nO (lD p))).gC = p.gC ++ cE (lD p).s.ou from gc'] at ld
  simp only [List.length_append] at lu ld
  refine ⟨⟨k1, k2, b⟩, ?_, ?_, hup, hdn⟩
  · unfold AC
    rw [hup, gs', List.length_append]
    rw [show cE (gK m p).c.ou = cE (nO (lD p)).c.ou from oo]
    by_cases hc : (cE p.c.ou).length = 0
    · have hc' : cE p.c.ou = [] := List.eq_nil_of_length_eq_zero hc
      rcases hU hc' with hn | hn
      · have : (cE (nO (lD p)).c.ou).length ≠ 0 := fun e => hn (List.eq_nil_of_length_eq_zero e)
        rw [if_pos hc, if_neg this]
        repeat' split
        all_goals omega
      · rw [hn]
        simp
    · rw [if_neg hc]
      repeat' split
      all_goals omega
  · rw [hdn, gc', List.length_append]
    rcases hD with hn | hn
    · have : (cE (lD p).s.ou).length ≠ 0 := fun e => hn (List.eq_nil_of_length_eq_zero e)
      omega
    · rw [hn]
      omega
theorem pM {n : Int} {p : MP} {kc ks : KR} (h : Ba n p kc ks) {m : Nat} (hm1 : p.up.length ≤ m) (hm2 : p.dn.length ≤ m) (hN : m ≤ 900000) : ∀ r, (∃ kc' ks', Ba n (eG m r p) kc' ks') ∧ AC (eG m r p) ≤ AC p - r ∧ (eG m r p).dn.length - (eG m r p).gC.length ≤ p.dn.length - p.gC.length - r ∧ (eG m r p).up = p.up ∧ (eG m r p).dn = p.dn
  | 0 => ⟨⟨kc, ks, h⟩, Nat.le_refl _, Nat.le_refl _, rfl, rfl⟩
  | r + 1 => by
    obtain ⟨⟨k1, k2, a⟩, b, c, d, e⟩ := pM h hm1 hm2 hN r
    obtain ⟨f, g, i, j, k⟩ := a.round (m := m) (by rw [d]; exact hm1) (by rw [e]; exact hm2) hN
    refine ⟨f, ?_, ?_, j.trans d, k.trans e⟩
    · show AC (gK m (eG m r p)) ≤ _
      omega
    · show (gK m (eG m r p)).dn.length - (gK m (eG m r p)).gC.length ≤ _
      omega
theorem vA (m r : Nat) (p : MP) : eG m (r + 1) p = eG m r (gK m p) := by
  induction r with
  | zero => rfl
  | succ r ih => show gK m (eG m (r + 1) p) = gK m (eG m r (gK m p)); rw [ih]
theorem Aq (m : Nat) (p : MP) : (gK m p).up = p.up ∧ (gK m p).dn = p.dn := pL m (nO (lD p))
theorem Ar {n : Int} {h : ir} {p : MP} {N : Nat} (hp : PS n h p N) (hN : N ≤ 400000) : ∀ r, 2 * (p.up.length + p.dn.length) + 2 ≤ r → (eG (p.up.length + p.dn.length + 1) r p).fine = true ∧ (eG (p.up.length + p.dn.length + 1) r p).gS = (eG (p.up.length + p.dn.length + 1) r p).up ∧ (eG (p.up.length + p.dn.length + 1) r p).gC = (eG (p.up.length + p.dn.length + 1) r p).dn ∧ (eG (p.up.length + p.dn.length + 1) r p).up = p.up ∧ (eG (p.up.length + p.dn.length + 1) r p).dn = p.dn := by
  intro r hr
  obtain ⟨hq, hu, hd⟩ := hp
  obtain ⟨kc, ks, b⟩ := uo (m := p.up.length + p.dn.length + 1) (N := p.up.length + p.dn.length) (⟨hq, by omega, by omega⟩ : PS n h p (p.up.length + p.dn.length)) (by omega) (by omega)
  obtain ⟨s1, s2⟩ := Aq (p.up.length + p.dn.length + 1) p
  obtain ⟨r', rfl⟩ : ∃ r', r = r' + 1 := ⟨r - 1, by omega⟩
  rw [vA]
  obtain ⟨⟨k1, k2, a⟩, c, d, e, f⟩ := pM b (m := p.up.length + p.dn.length + 1) (by rw [s1]; omega) (by rw [s2]; omega) (by omega) r'
  have hphi : AC (gK (p.up.length + p.dn.length + 1) p) ≤ 2 * p.up.length := by
    unfold AC
    rw [s1]
    split <;> omega
  rw [s2] at d
  generalize gK (p.up.length + p.dn.length + 1) p = p1 at *
  generalize eG (p.up.length + p.dn.length + 1) r' p1 = p2 at *
  have lu := congrArg List.length a.pi.d1.ms
  have ld := congrArg List.length a.pi.d2.ms
  have hp0 : AC p2 = 0 := by omega
  have hu0 : p2.up.length - p2.gS.length = 0 := by
    unfold AC at hp0
    split at hp0
    · assumption
    · split at hp0 <;> omega
  simp only [List.length_append] at lu ld
  have mu := a.pi.d1.ms
  have md := a.pi.d2.ms
  refine ⟨a.fine, ?_, ?_, e.trans s1, f.trans s2⟩
  · have z1 : ks.ib = ks.ib := rfl
    have hz : k2.ib ++ (cE p2.c.ou ++ cE k1.ob) = [] := List.eq_nil_of_length_eq_zero (by simp only [List.length_append]; omega)
    rw [hz, List.append_nil] at mu
    exact mu.symm
  · have hz : k1.ib ++ (cE p2.s.ou ++ cE k2.ob) = [] := List.eq_nil_of_length_eq_zero (by simp only [List.length_append]; omega)
    rw [hz, List.append_nil] at md
    exact md.symm
end Go.Proofs.YthiocbcokfondaaGreatDoor.Y
