/- Texts of this claim merged into one: KLyD, KLyE, KTpR. -/
import Derived.Test.YtklcfjlmlbnkaaaGreatDoorKBunF
import Derived.Test.YtklcfjlmlbnkaaaGreatDoorKBunW
import Derived.Test.YtklcfjlmlbnkaaaGreatDoorKBunL
namespace Go.Proofs.YtklcfjlmlbnkaaaGreatDoor.Y
open Go.RowKit
structure iN where
  e0 : jQ
  e1 : jQ
  fly : List PkV
  qu : ByteArray
  re : ByteArray
  cl : NL
  sv : NL
  nx : Nat
  got : List ByteArray
def dR : List FrV → ByteArray → ByteArray
  | [], q => q
  | f :: r, q => dR r (q ++ gF f)
def kE (x : iN) : jQ × ByteArray × List PkV := cI (dR (gX x.cl).2 x.qu).size x.e0 (dR (gX x.cl).2 x.qu) x.fly
def fg (x : iN) : iN := { x with cl := (gX x.cl).1, e0 := (kE x).1, qu := (kE x).2.1, fly := (kE x).2.2 }
def kF (s : NL) (f : FrV) : NL × ByteArray × Bool := aG (dg s f).1 1
def eL : List FrV → NL → List ByteArray → NL × List ByteArray
  | [], s, o => (s, o)
  | f :: r, s, o => eL r (kF s f).1 (if (kF s f).2.2 = true then o ++ [(kF s f).2.1] else o)
def xe : List FrV → NL → Prop
  | [], _ => True
  | f :: r, s => (dg s f).2 = 0 ∧ xe r (kF s f).1
def mi : List ByteArray → ByteArray → ByteArray
  | [], q => q
  | d :: r, q => mi r (q ++ d)
def lT (x : iN) (p : PkV) : ByteArray := mi (cK x.e1 p).2 x.re
def nT (x : iN) (p : PkV) : iN := { x with e1 := (cK x.e1 p).1, re := ⟨(aF (lT x p).data.toList).rest.toArray⟩, sv := (eL (aF (lT x p).data.toList).frames x.sv x.got).1, got := (eL (aF (lT x p).data.toList).frames x.sv x.got).2 }
def Hk (x : iN) (p : PkV) : Prop := (aF (lT x p).data.toList).err = 0 ∧ xe (aF (lT x p).data.toList).frames x.sv
structure ID (x : iN) : Prop where
  fly : x.fly.length ≤ 1000000
  qu : x.qu.size ≤ 2000
  re : x.re.size ≤ 2000
  w0 : x.e0.wait.length ≤ 64
  ea : x.e1.early.length ≤ 64
  got : x.got.length ≤ 5
def vz (ms : List ByteArray) (n : Nat) : List FrV := qs :: (ms.take n).map fq
structure fM (ms : List ByteArray) : Prop where
  n : ms.length ≤ 5
  z : ∀ m ∈ ms, m.size ≤ 100
theorem CG {ms : List ByteArray} (h : fM ms) (n : Nat) : ∀ f ∈ vz ms n, ay f = 0 := fun f hf => by
  rcases List.mem_cons.1 hf with rfl | hf
  · exact He
  · obtain ⟨m, hm, rfl⟩ := List.mem_map.1 hf
    exact Cc (h.z m (List.mem_of_mem_take hm))
theorem CH {ms : List ByteArray} {n : Nat} {m : ByteArray} (h : ms[n]? = some m) : vz ms (n + 1) = vz ms n ++ [fq m] := by
  unfold vz
  rw [List.take_add_one, h, List.map_append]
  rfl
theorem ov {ms : List ByteArray} {n : Nat} (h : n ≤ ms.length) : (vz ms n).length = n + 1 := by
  unfold vz
  rw [List.length_cons, List.length_map, List.length_take]
  omega
def Er (gf : List FrV) (s : NL) (got : List ByteArray) : Prop := VN s ∧ ((gf = [] ∧ s = S0 ∧ got = []) ∨ ∃ ou, gf = qs :: got.map fq ∧ s = SV got.length ou ∧ ou.length ≤ 2 * got.length)
theorem Gf {gf : List FrV} {s : NL} {got : List ByteArray} (h : Er gf s got) : got.length ≤ gf.length ∧ (gf ≠ [] → gf.length = got.length + 1) := by
  rcases h.2 with ⟨h1, _, h3⟩ | ⟨ou, h1, _, _⟩
  · subst h1 h3; exact ⟨Nat.le_refl _, fun h => absurd rfl h⟩
  · subst h1; simp
theorem ym {ms : List ByteArray} (hm : fM ms) {n : Nat} : ∀ (l : List FrV) (gf : List FrV) (s : NL) (got : List ByteArray), Er gf s got → (∃ t, gf ++ l ++ t = vz ms n) → xe l s ∧ Er (gf ++ l) (eL l s got).1 (eL l s got).2
  | [], gf, s, got, h, _ => ⟨trivial, by rw [List.append_nil]; exact h⟩
  | f :: r, gf, s, got, h, ⟨t, ht⟩ => by
    obtain ⟨hv, h⟩ := h
    have hvn : VN (kF s f).1 := (hv.feed f).read 1
    rcases h with ⟨h1, h2, h3⟩ | ⟨ou, h1, h2, h3⟩
    · subst h1 h2 h3
      have hf : f = qs := by
        have h5 := ht
        unfold vz at h5
        rw [List.nil_append, List.cons_append] at h5
        exact (List.cons.inj h5).1
      subst hf
      obtain ⟨g1, g2⟩ := Eh
      have hr : kF S0 qs = (SV 0 [], emptyB, false) := g2
      rw [hr] at hvn
      obtain ⟨e1, e2⟩ := ym hm r [qs] (SV 0 []) [] ⟨hvn, .inr ⟨[], rfl, rfl, Nat.le_refl _⟩⟩ ⟨t, ht⟩
      have e3 : eL (qs :: r) S0 [] = eL r (SV 0 []) [] := by
        rw [eL, hr, if_neg (by decide)]
      rw [e3]
      exact ⟨⟨g1, by rw [hr]; exact e1⟩, e2⟩
    · subst h1 h2
      have h5 : (got.map fq ++ f :: r) ++ t = (ms.take n).map fq := by
        have h5 := ht
        unfold vz at h5
        rw [List.cons_append, List.cons_append] at h5
        exact (List.cons.inj h5).2
      have hl : got.length < (ms.take n).length := by
        have := congrArg List.length h5
        simp only [List.length_append, List.length_map, List.length_cons] at this
        omega
      have h6 := congrArg (fun l => l[got.length]?) h5
      simp only [List.append_assoc] at h6
      rw [List.getElem?_append_right (by rw [List.length_map]; exact Nat.le_refl _), List.length_map, Nat.sub_self, List.getElem?_map, List.getElem?_eq_getElem hl] at h6
      have hf : f = fq (ms.take n)[got.length] := Option.some.inj h6
      have hmem : (ms.take n)[got.length] ∈ ms := List.mem_of_mem_take (List.getElem_mem hl)
      have hl2 := hl
      rw [List.length_take] at hl2
      have hn := hm.n
      generalize (ms.take n)[got.length] = m at hf hmem
      subst hf
      obtain ⟨g1, ou', g2, g3⟩ := Ei (j := got.length) (ou := ou) (hm.z m hmem) (by omega) (by omega)
      have hr : kF (SV got.length ou) (fq m) = (SV (got.length + 1) ou', m, true) := g2
      rw [hr] at hvn
      obtain ⟨e1, e2⟩ := ym hm r (qs :: (got ++ [m]).map fq) (SV (got.length + 1) ou') (got ++ [m]) ⟨hvn, .inr ⟨ou', rfl, by rw [List.length_append]; rfl, by rw [List.length_append, List.length_singleton]; omega⟩⟩ ⟨t, by
        rw [← ht, List.map_append]
        simp⟩
      have e3 : eL (fq m :: r) (SV got.length ou) got = eL r (SV (got.length + 1) ou') (got ++ [m]) := by
        rw [eL, hr, if_pos rfl]
      have e4 : (qs :: got.map fq) ++ fq m :: r = (qs :: (got ++ [m]).map fq) ++ r := by rw [List.map_append]; simp
      rw [e3, e4]
      exact ⟨⟨g1, by rw [hr]; exact e1⟩, e2⟩
theorem pQ : ∀ (l : List FrV) (q : ByteArray), (dR l q).data.toList = q.data.toList ++ bO l
  | [], q => by simp [dR, bO]
  | f :: r, q => by
    rw [dR, pQ r]
    have h2 : bO (f :: r) = (gF f).data.toList ++ bO r := rfl
    rw [h2, ByteArray.data_append, Array.toList_append, List.append_assoc]
theorem pR : ∀ (l : List ByteArray) (q : ByteArray), (mi l q).data.toList = q.data.toList ++ cH l
  | [], q => by simp [mi, cH]
  | f :: r, q => by
    rw [mi, pR r]
    have h2 : cH (f :: r) = f.data.toList ++ cH r := rfl
    rw [h2, ByteArray.data_append, Array.toList_append, List.append_assoc]
structure HopI (ms : List ByteArray) (cs : List ByteArray) (a k : Nat) (sf gf : List FrV) (t : Int) (ou : List FrV) (x : iN) : Prop where
  s : qg cs a x.e0
  r : RcvI cs k x.e1
  ak : a ≤ k
  pr : BV cs
  fl : ∀ p ∈ x.fly, ∃ i, i < cs.length ∧ p = gJ cs i
  by1 : cH cs ++ x.qu.data.toList = bO sf
  by2 : BytI sf (cH (cs.take k)) gf x.re
  c : x.cl = CS x.nx t ou
  t : 0 ≤ t ∧ t ≤ 100 * x.nx
  fr : sf ++ ou = vz ms x.nx
  nx : x.nx ≤ ms.length
  sv : Er gf x.sv x.got
  vc : VN x.cl
theorem rD : ∀ (n : Nat) (l : List PkV) (b : Nat), (l.Pairwise fun p q => p.seq < q.seq) → (∀ p ∈ l, ∃ i : Nat, b < i ∧ i ≤ b + n ∧ p.seq = (i : Int) + 1) → l.length ≤ n
  | _, [], _, _, _ => Nat.zero_le _
  | 0, p :: r, b, _, h2 => by
    obtain ⟨i, h3, h4, _⟩ := h2 p (List.mem_cons_self ..)
    omega
  | n + 1, p :: r, b, h1, h2 => by
    obtain ⟨g1, g2⟩ := List.pairwise_cons.1 h1
    obtain ⟨i, h3, h4, h5⟩ := h2 p (List.mem_cons_self ..)
    have := rD n r (b + 1) g2 fun q hq => by
      obtain ⟨j, j1, j2, j3⟩ := h2 q (List.mem_cons_of_mem _ hq)
      have := g1 q hq
      exact ⟨j, by omega, by omega, j3⟩
    rw [List.length_cons]
    omega
theorem vA : ∀ {l : List FrV}, (∀ f ∈ l, (gF f).size ≤ 300) → (bO l).length ≤ 300 * l.length
  | [], _ => Nat.zero_le _
  | f :: r, h => by
    have h1 := vA (l := r) fun g hg => h g (List.mem_cons_of_mem _ hg)
    have h2 : bO (f :: r) = (gF f).data.toList ++ bO r := rfl
    have h3 := h f (List.mem_cons_self ..)
    have hz : (gF f).data.toList.length = (gF f).size := by rw [Array.length_toList]; rfl
    rw [h2, List.length_append, hz, List.length_cons]
    omega
theorem CI {ms : List ByteArray} (h : fM ms) (n : Nat) : ∀ f ∈ vz ms n, (gF f).size ≤ 300 := fun f hf => by
  rcases List.mem_cons.1 hf with rfl | hf
  · exact Ee
  · obtain ⟨m, hm, rfl⟩ := List.mem_map.1 hf
    exact Ef (h.z m (List.mem_of_mem_take hm))
section
variable {ms cs : List ByteArray} {a k : Nat} {sf gf ou : List FrV} {t : Int} {x : iN}
theorem HopI.size (hm : fM ms) (h : HopI ms cs a k sf gf t ou x) : cs.length + x.qu.size ≤ 1800 ∧ (bO (sf ++ ou)).length ≤ 1800 := by
  have h1 : (bO (sf ++ ou)).length ≤ 300 * (sf ++ ou).length := vA (by rw [h.fr]; exact CI hm _)
  have h2 : (sf ++ ou).length ≤ 6 := by rw [h.fr, ov h.nx]; have := hm.n; have := h.nx; omega
  have h3 := ns h.pr
  have h4 := congrArg List.length h.by1
  have hz : x.qu.data.toList.length = x.qu.size := by rw [Array.length_toList]; rfl
  have h5 : (bO (sf ++ ou)).length = (bO sf).length + (bO ou).length := by rw [fp, List.length_append]
  rw [List.length_append, hz] at h4
  omega
theorem mH (hm : fM ms) (h : HopI ms cs a k sf gf t ou x) : ∃ c2, HopI ms (cs ++ c2) a k (sf ++ ou) gf t [] (fg x) ∧ ((fg x).qu.size = 0 ∨ (fg x).e0.wait.length = 64) ∧ (fg x).fly = x.fly ++ eR (cs ++ c2) cs.length c2.length ∧
    cH c2 ++ (fg x).qu.data.toList = x.qu.data.toList ++ bO ou ∧ BV c2 := by
  have hf : gX x.cl = (CS x.nx t [], ou) := by rw [h.c]; exact vk
  have hq := pQ ou x.qu
  have hzz : ∀ q : ByteArray, q.data.toList.length = q.size := fun q => by rw [Array.length_toList]; rfl
  have hz : (dR ou x.qu).size = x.qu.size + (bO ou).length := by rw [← hzz, ← hzz, hq, List.length_append]
  have hsz := h.size hm
  have h5 : (bO (sf ++ ou)).length = (bO sf).length + (bO ou).length := by rw [fp, List.length_append]
  have e : kE x = cI (dR ou x.qu).size x.e0 (dR ou x.qu) x.fly := by unfold kE; rw [hf]
  obtain ⟨c2, g1, g2, g3, g4, g5⟩ := xY (dR ou x.qu).size x.e0 (dR ou x.qu) x.fly cs a h.s h.pr (Nat.le_refl _) (by omega)
  rw [← e] at g1 g3 g4 g5
  have hk := h.r.kl
  refine ⟨c2, ⟨g1, h.r.more, h.ak, g2, fun p hp => ?_, ?_, ?_, ?_, h.t, ?_, h.nx, h.sv, h.vc.flush⟩, g5, g3, by rw [← hq]; exact g4, fun d hd => g2 d (List.mem_append_right _ hd)⟩
  · have hp' : p ∈ (kE x).2.2 := hp
    rw [g3] at hp'
    rcases List.mem_append.1 hp' with hp' | hp'
    · obtain ⟨i, h1, h2⟩ := h.fl p hp'
      exact ⟨i, by rw [List.length_append]; omega, by rw [h2, nU c2 h1]⟩
    · unfold eR at hp'
      obtain ⟨i, h1, h2⟩ := List.mem_map.1 hp'
      have := List.mem_range'.1 h1
      exact ⟨i, by rw [List.length_append]; omega, h2.symm⟩
  · show cH (cs ++ c2) ++ (kE x).2.1.data.toList = _
    rw [ji, List.append_assoc, g4, hq, ← List.append_assoc, h.by1, fp]
  · show BytI (sf ++ ou) (cH ((cs ++ c2).take k)) gf x.re
    rw [List.take_append_of_le_length hk]
    refine h.by2.more ou fun f hf => CG hm x.nx f ?_
    rw [← h.fr]
    exact List.mem_append_right _ hf
  · show (gX x.cl).1 = _
    rw [hf]
    rfl
  · show sf ++ ou ++ [] = _
    rw [List.append_nil]
    exact h.fr
theorem nv (hm : fM ms) (h : HopI ms cs a k sf gf t ou x) {m : ByteArray} (hx : ms[x.nx]? = some m) : (fD x.cl 1 m).2 = 0 ∧ HopI ms cs a k sf gf (t + au m) (ou ++ [fq m]) { x with cl := (fD x.cl 1 m).1, nx := x.nx + 1 } := by
  have hmm := hm.z m (List.mem_of_getElem? hx)
  have hn : x.nx < ms.length := (List.getElem?_eq_some_iff.1 hx).1
  have h5 := hm.n
  have hw : fD x.cl 1 m = (CS (x.nx + 1) (t + au m) (ou ++ [fq m]), 0) := by rw [h.c]; exact Ch hmm (by omega) h.t
  have hc := sK hmm
  have ht := h.t
  have hvw : VN (fD x.cl 1 m).1 := h.vc.wait _ _ (.inl rfl)
  rw [hw] at hvw
  rw [hw]
  refine ⟨rfl, ⟨h.s, h.r, h.ak, h.pr, h.fl, h.by1, h.by2, rfl, ?_, ?_, hn, h.sv, hvw⟩⟩
  · show 0 ≤ t + au m ∧ t + au m ≤ 100 * ((x.nx + 1 : Nat) : Int)
    push_cast
    omega
  · rw [← List.append_assoc, h.fr]
    exact (CH hx).symm
theorem pS (hm : fM ms) (h : HopI ms cs a k sf gf t ou x) {i : Nat} (hi : i < cs.length) : Hk x (gJ cs i) ∧ ∃ k' gf', k ≤ k' ∧ HopI ms cs a k' sf gf' t ou (nT x (gJ cs i)) ∧
    (∀ j, Ae k x.e1 j → Ae k' (nT x (gJ cs i)).e1 j) ∧ (i ≤ k + 64 → Ae k' (nT x (gJ cs i)).e1 i) := by
  have hsz := h.size hm
  have hmem : (gJ cs i).data ∈ cs := by
    have : cs[i]? = some cs[i] := List.getElem?_eq_getElem hi
    unfold gJ
    rw [this]
    exact List.getElem_mem hi
  obtain ⟨k', g1, g2, g3, g4, g5⟩ := tf h.r hi (by omega) (h.pr _ hmem)
  have hkl := g2.kl
  have ha : (lT x (gJ cs i)).data.toList = x.re.data.toList ++ cH ((cs.drop k).take (k' - k)) := by unfold lT; rw [pR, g3]
  have hR : cH (cs.take k) ++ cH ((cs.drop k).take (k' - k)) = cH (cs.take k') := by
    rw [← ji]
    congr 1
    have e : k' = k + (k' - k) := by omega
    conv => rhs; rw [e, List.take_add]
  obtain ⟨e1, e2⟩ := h.by2.come ha ⟨cH (cs.drop k') ++ x.qu.data.toList, by rw [hR, ← List.append_assoc, ← ji, List.take_append_drop, h.by1]⟩
  rw [hR] at e2
  obtain ⟨r, hr⟩ := e2.sub
  obtain ⟨f1, f2⟩ := ym hm (n := x.nx) (aF (lT x (gJ cs i)).data.toList).frames gf x.sv x.got h.sv ⟨r ++ ou, by rw [← List.append_assoc, hr, h.fr]⟩
  exact ⟨⟨e1, f1⟩, k', _, g1, ⟨h.s, g2, Nat.le_trans h.ak g1, h.pr, h.fl, h.by1, e2, h.c, h.t, h.fr, h.nx, f2, h.vc⟩, g4, g5⟩
theorem sP (h : HopI ms cs a k sf gf t ou x) (l : List PkV) (hl : ∀ p ∈ l, ∃ i, i < cs.length ∧ p = gJ cs i) : HopI ms cs a k sf gf t ou { x with fly := l } := ⟨h.s, h.r, h.ak, h.pr, hl, h.by1, h.by2, h.c, h.t, h.fr, h.nx, h.sv, h.vc⟩
theorem pT (h : HopI ms cs a k sf gf t ou x) : HopI ms cs a k sf gf t ou { x with e0 := (dy x.e0).1, fly := x.fly ++ (dy x.e0).2 } ∧ (dy x.e0).2 = eR cs a (cs.length - a) := by
  obtain ⟨g1, g2⟩ := Df h.s
  refine ⟨⟨g1, h.r, h.ak, h.pr, fun p hp => ?_, h.by1, h.by2, h.c, h.t, h.fr, h.nx, h.sv, h.vc⟩, g2⟩
  have hp' : p ∈ x.fly ++ (dy x.e0).2 := hp
  rw [g2] at hp'
  rcases List.mem_append.1 hp' with hp' | hp'
  · exact h.fl p hp'
  · unfold eR at hp'
    obtain ⟨i, h1, h2⟩ := List.mem_map.1 hp'
    have := List.mem_range'.1 h1
    have := h.s.al
    exact ⟨i, by omega, h2.symm⟩
theorem yn (h : HopI ms cs a k sf gf t ou x) : HopI ms cs k k sf gf t ou { x with e1 := (fV x.e1).1, e0 := (cK x.e0 (fV x.e1).2).1 } :=
  ⟨De h.s h.r h.ak, Dg h.r, Nat.le_refl _, h.pr, h.fl, h.by1, h.by2, h.c, h.t, h.fr, h.nx, h.sv, h.vc⟩
theorem HopI.begins (h : HopI ms cs a k sf gf t ou x) : ∃ r, x.got ++ r = ms.take x.nx := by
  rcases h.sv.2 with ⟨_, _, h3⟩ | ⟨o, h1, _, _⟩
  · exact ⟨ms.take x.nx, by rw [h3]; rfl⟩
  · obtain ⟨r, hr⟩ := h.by2.sub
    have h2 := h.fr
    rw [← hr, h1] at h2
    unfold vz at h2
    rw [List.cons_append, List.cons_append] at h2
    have h4 := (List.cons.inj h2).2
    have h5 := congrArg (List.map FrV.data) h4
    rw [List.map_map] at h5
    have e : (FrV.data ∘ fq) = id := rfl
    rw [e, List.map_id, List.append_assoc, List.map_append, List.map_map, e, List.map_id] at h5
    exact ⟨_, h5⟩
theorem HopI.full (h : HopI ms cs a k sf gf t [] x) (hk : k = cs.length) (hq : x.qu.size = 0) (hn : x.nx = ms.length) : x.got = ms := by
  have hz : x.qu.data.toList = [] := List.eq_nil_of_length_eq_zero (by rw [Array.length_toList]; exact hq)
  have h1 := h.by1
  rw [hz, List.append_nil] at h1
  obtain ⟨e1, _⟩ := h.by2.full (by rw [hk, List.take_length, h1])
  have h2 := h.fr
  rw [List.append_nil, ← e1] at h2
  rcases h.sv.2 with ⟨h3, _, _⟩ | ⟨o, h3, _, _⟩
  · rw [h3] at h2; cases h2
  · rw [h3] at h2
    unfold vz at h2
    have h4 := (List.cons.inj h2).2
    rw [hn, List.take_length] at h4
    have h5 := congrArg (List.map FrV.data) h4
    rw [List.map_map, List.map_map] at h5
    have e : (FrV.data ∘ fq) = id := rfl
    rw [e, List.map_id, List.map_id] at h5
    exact h5
theorem HopI.near (hm : fM ms) (h : HopI ms cs a k sf gf t ou x) (hf : x.fly.length ≤ 1000000) : ID x := by
  have h1 := h.size hm
  have hzz : ∀ q : ByteArray, q.data.toList.length = q.size := fun q => by rw [Array.length_toList]; rfl
  refine ⟨hf, by omega, ?_, ?_, ?_, ?_⟩
  · have h2 := wX (cH (cs.take k))
    rw [h.by2.sp] at h2
    dsimp only at h2
    rw [hzz] at h2
    obtain ⟨r, hr⟩ := h.by2.pre
    have h3 := congrArg List.length hr
    have h5 : (bO (sf ++ ou)).length = (bO sf).length + (bO ou).length := by rw [fp, List.length_append]
    rw [List.length_append] at h3
    omega
  · have h2 := h.s.most
    rw [h.s.wait]
    unfold eR
    rw [List.length_map, List.length_range']
    omega
  · exact rD 64 x.e1.early k h.r.asc fun p hp => by
      obtain ⟨i, i1, i2, i3, i4⟩ := h.r.early p hp
      exact ⟨i, i1, i3, by rw [i4]; rfl⟩
  · obtain ⟨r, hr⟩ := h.begins
    have := congrArg List.length hr
    rw [List.length_append, List.length_take] at this
    have := hm.n
    omega
end
end Go.Proofs.YtklcfjlmlbnkaaaGreatDoor.Y
namespace Go.Proofs.YtklcfjlmlbnkaaaGreatDoor.Y
open Go.RowKit
def fN (ms : List ByteArray) (k n : Int) (x : iN) : iN :=
  if k = 0 ∧ x.nx < ms.length then { x with cl := (fD x.cl 1 ((ms[x.nx]?).getD ⟨#[]⟩)).1, nx := x.nx + 1 }
  else if (k = 1 ∨ k = 2) ∧ 0 ≤ n ∧ n < x.fly.length then
    (if k = 1 then nT { x with fly := x.fly.eraseIdx n.toNat } ((x.fly[n.toNat]?).getD ⟨0, 0, ⟨#[]⟩⟩) else { x with fly := x.fly.eraseIdx n.toNat })
  else if k = 3 ∧ 0 ≤ n ∧ n < x.fly.length then { x with fly := x.fly ++ [(x.fly[n.toNat]?).getD ⟨0, 0, ⟨#[]⟩⟩] }
  else if k = 4 then { x with e0 := (dy x.e0).1, fly := x.fly ++ (dy x.e0).2 }
  else if 5 ≤ k then { x with e1 := (fV x.e1).1, e0 := (cK x.e0 (fV x.e1).2).1 }
  else x
def cq (ms : List ByteArray) (k n : Int) (x : iN) : iN := fg (fN ms k n x)
def jo (ms : List ByteArray) : Nat → iN → iN
  | 0, x => x
  | n + 1, x => jo ms n (cq ms 1 0 x)
def nw (ms : List ByteArray) (x : iN) : iN := cq ms 5 0 (jo ms (cq ms 4 0 (cq ms 0 0 x)).fly.length (cq ms 4 0 (cq ms 0 0 x)))
def Hop (ms : List ByteArray) (x : iN) : Prop := ∃ cs a k sf gf t ou, HopI ms cs a k sf gf t ou x
def vC (x : iN) : Prop := x.qu.size = 0 ∨ x.e0.wait.length = 64
section
variable {ms cs : List ByteArray} {a k : Nat} {sf gf ou : List FrV} {t : Int} {x : iN}
theorem xf (h : HopI ms cs a k sf gf t ou x) {n : Nat} (hn : n < x.fly.length) : ∃ i, i < cs.length ∧ x.fly[n]? = some (gJ cs i) := by
  obtain ⟨i, h1, h2⟩ := h.fl _ (List.getElem_mem hn)
  exact ⟨i, h1, by rw [List.getElem?_eq_getElem hn, h2]⟩
theorem rE (h : HopI ms cs a k sf gf t ou x) (n : Nat) : HopI ms cs a k sf gf t ou { x with fly := x.fly.eraseIdx n } := sP h _ fun p hp => h.fl p (List.mem_of_mem_eraseIdx hp)
theorem E2 (hm : fM ms) (h : HopI ms cs a k sf gf t ou x) (kk n : Int) : ∃ a' k' gf' t' ou', HopI ms cs a' k' sf gf' t' ou' (fN ms kk n x) ∧ (fN ms kk n x).fly.length ≤ x.fly.length + 64 := by
  unfold fN
  split
  · rename_i h1
    rw [List.getElem?_eq_getElem h1.2, Option.getD_some]
    exact ⟨a, k, gf, _, _, (nv hm h (List.getElem?_eq_getElem h1.2)).2, Nat.le_add_right _ _⟩
  split
  · rename_i h1
    have hn : n.toNat < x.fly.length := by omega
    obtain ⟨i, h2, h3⟩ := xf h hn
    have he := rE h n.toNat
    have hl : (x.fly.eraseIdx n.toNat).length ≤ x.fly.length := by rw [List.length_eraseIdx]; split <;> omega
    split
    · rw [h3, Option.getD_some]
      obtain ⟨_, k', gf', _, h4, _⟩ := pS hm he h2
      exact ⟨a, k', gf', t, ou, h4, Nat.le_trans hl (Nat.le_add_right _ _)⟩
    · exact ⟨a, k, gf, t, ou, he, Nat.le_trans hl (Nat.le_add_right _ _)⟩
  split
  · rename_i h1
    have hn : n.toNat < x.fly.length := by omega
    obtain ⟨i, h2, h3⟩ := xf h hn
    rw [h3, Option.getD_some]
    refine ⟨a, k, gf, t, ou, sP h _ fun p hp => ?_, by rw [List.length_append, List.length_singleton]; omega⟩
    rcases List.mem_append.1 hp with hp | hp
    · exact h.fl p hp
    · exact ⟨i, h2, List.mem_singleton.1 hp⟩
  split
  · obtain ⟨h1, h2⟩ := pT h
    refine ⟨a, k, gf, t, ou, h1, ?_⟩
    show (x.fly ++ (dy x.e0).2).length ≤ _
    have := h.s.most
    rw [h2, List.length_append]
    unfold eR
    rw [List.length_map, List.length_range']
    omega
  split
  · exact ⟨k, k, gf, t, ou, yn h, Nat.le_add_right _ _⟩
  · exact ⟨a, k, gf, t, ou, h, Nat.le_add_right _ _⟩
theorem Hl (hm : fM ms) (h : HopI ms cs a k sf gf t ou x) (kk n : Int) : ∃ cs' a' k' sf' gf' t', HopI ms cs' a' k' sf' gf' t' [] (cq ms kk n x) ∧ vC (cq ms kk n x) ∧ (cq ms kk n x).fly.length ≤ x.fly.length + 2000 := by
  obtain ⟨a1, k1, gf1, t1, ou1, h1, h2⟩ := E2 hm h kk n
  obtain ⟨c2, h3, h4, h5, _, _⟩ := mH hm h1
  refine ⟨_, _, _, _, _, _, h3, h4, ?_⟩
  show (fg (fN ms kk n x)).fly.length ≤ _
  have h6 := (h3.size hm).1
  rw [h5, List.length_append]
  unfold eR
  rw [List.length_map, List.length_range']
  rw [List.length_append] at h6
  omega
theorem nA (h : HopI ms cs a k sf gf t [] x) (hs : vC x) : fg x = x := by
  have hf : gX x.cl = (x.cl, []) := by rw [h.c]; exact vk
  have e : kE x = (x.e0, x.qu, x.fly) := by
    unfold kE
    rw [hf]
    show cI x.qu.size x.e0 x.qu x.fly = _
    refine lc ?_
    rcases hs with hs | hs
    · exact .inl hs
    · right
      unfold qr gH
      split
      · decide
      · rw [if_pos (.inl (by omega))]; decide
  unfold fg
  rw [e, hf]
theorem Es {l : List PkV} (h : l.length = 0) : l = [] := List.eq_nil_of_length_eq_zero h
theorem yo (hm : fM ms) (h : HopI ms cs a k sf gf t [] x) (hs : vC x) {p : PkV} {r : List PkV} (hf : x.fly = p :: r) (hd : ∀ i, a ≤ i → i < cs.length → Ae k x.e1 i ∨ gJ cs i ∈ x.fly) :
    ∃ k' gf', HopI ms cs a k' sf gf' t [] (cq ms 1 0 x) ∧ vC (cq ms 1 0 x) ∧ (cq ms 1 0 x).fly = r ∧ (cq ms 1 0 x).nx = x.nx ∧ (cq ms 1 0 x).qu = x.qu ∧ (∀ i, a ≤ i → i < cs.length → Ae k' (cq ms 1 0 x).e1 i ∨ gJ cs i ∈ (cq ms 1 0 x).fly) := by
  obtain ⟨j, h1, h2⟩ := h.fl p (by rw [hf]; exact List.mem_cons_self ..)
  have he : x.fly.eraseIdx 0 = r := by rw [hf]; rfl
  have hx : fN ms 1 0 x = nT { x with fly := r } (gJ cs j) := by
    unfold fN
    rw [if_neg (by omega), if_pos ⟨.inl rfl, Int.le_refl _, by rw [hf, List.length_cons]; omega⟩, if_pos rfl]
    show nT { x with fly := x.fly.eraseIdx 0 } ((x.fly[0]?).getD _) = _
    rw [he, hf, ← h2]
    rfl
  have h3 : HopI ms cs a k sf gf t [] { x with fly := r } := sP h r fun q hq => h.fl q (by rw [hf]; exact List.mem_cons_of_mem _ hq)
  obtain ⟨_, k', gf', g1, g2, g3, g4⟩ := pS hm h3 h1
  have hs2 : vC (nT { x with fly := r } (gJ cs j)) := hs
  have hp := nA g2 hs2
  have e : cq ms 1 0 x = nT { x with fly := r } (gJ cs j) := by unfold cq; rw [hx, hp]
  rw [e]
  refine ⟨k', gf', g2, hs2, rfl, rfl, rfl, fun i i1 i2 => ?_⟩
  rcases hd i i1 i2 with hh | hh
  · exact .inl (g3 i hh)
  · rw [hf] at hh
    rcases List.mem_cons.1 hh with hh | hh
    · left
      have : i = j := by
        rw [h2] at hh
        have := congrArg PkV.seq hh
        rw [im, im] at this
        omega
      rw [this]
      have := h.s.most
      have := h.ak
      exact g4 (by omega)
    · exact .inr hh
theorem CJ (hm : fM ms) {a : Nat} {sf : List FrV} {t : Int} : ∀ (n : Nat) (x : iN) (k : Nat) (gf : List FrV), HopI ms cs a k sf gf t [] x → vC x → x.fly.length = n → (∀ i, a ≤ i → i < cs.length → Ae k x.e1 i ∨ gJ cs i ∈ x.fly) →
    ∃ gf', HopI ms cs a cs.length sf gf' t [] (jo ms n x) ∧ (jo ms n x).fly = [] ∧ (jo ms n x).nx = x.nx ∧ (jo ms n x).qu = x.qu
  | 0, x, k, gf, h, _, hl, hd => by
    have hf := Es hl
    have hk := Dh h.r h.ak fun i i1 i2 => (hd i i1 i2).resolve_right (by rw [hf]; exact fun h => nomatch h)
    subst hk
    exact ⟨gf, h, hf, rfl, rfl⟩
  | n + 1, x, k, gf, h, hs, hl, hd => by
    cases hf : x.fly with
    | nil => rw [hf] at hl; cases hl
    | cons p r =>
      obtain ⟨k', gf', g1, g2, g3, g4, g5, g6⟩ := yo hm h hs hf hd
      obtain ⟨gf2, e1, e2, e3, e4⟩ := CJ hm n (cq ms 1 0 x) k' gf' g1 g2 (by rw [g3]; rw [hf, List.length_cons] at hl; omega) g6
      exact ⟨gf2, e1, e2, e3.trans g4, e4.trans g5⟩
theorem sQ (h : HopI ms cs a k sf gf t [] x) (hs : vC x) : HopI ms cs a k sf gf t [] (cq ms 4 0 x) ∧ vC (cq ms 4 0 x) ∧ (cq ms 4 0 x).fly = x.fly ++ eR cs a (cs.length - a) ∧ (cq ms 4 0 x).nx = x.nx ∧ (cq ms 4 0 x).qu = x.qu := by
  obtain ⟨h1, h2⟩ := pT h
  have hx : fN ms 4 0 x = { x with e0 := (dy x.e0).1, fly := x.fly ++ (dy x.e0).2 } := by
    unfold fN
    rw [if_neg (by omega), if_neg (by omega), if_neg (by omega), if_pos rfl]
  have hs2 : vC { x with e0 := (dy x.e0).1, fly := x.fly ++ (dy x.e0).2 } := hs
  have e : cq ms 4 0 x = { x with e0 := (dy x.e0).1, fly := x.fly ++ (dy x.e0).2 } := by unfold cq; rw [hx, nA h1 hs2]
  rw [e]
  exact ⟨h1, hs2, by rw [← h2], rfl, rfl⟩
theorem yp (h : HopI ms cs a k sf gf t [] x) (hs : vC x) : ∀ i, a ≤ i → i < cs.length → Ae k (cq ms 4 0 x).e1 i ∨ gJ cs i ∈ (cq ms 4 0 x).fly := fun i i1 i2 => by
  right
  rw [(sQ h hs).2.2.1]
  refine List.mem_append_right _ (List.mem_map.2 ⟨i, List.mem_range'.2 ⟨i - a, by omega, by omega⟩, rfl⟩)
theorem yq (hm : fM ms) (h : HopI ms cs a k sf gf t ou x) : ∃ cs' sf' t', HopI ms cs' a k sf' gf t' [] (cq ms 0 0 x) ∧ vC (cq ms 0 0 x) ∧ (cq ms 0 0 x).nx = min (x.nx + 1) ms.length ∧ (x.nx = ms.length → ou = [] → vC x → cq ms 0 0 x = x ∧ cs' = cs) := by
  have hn := h.nx
  by_cases h1 : x.nx < ms.length
  · have hx : fN ms 0 0 x = { x with cl := (fD x.cl 1 ms[x.nx]).1, nx := x.nx + 1 } := by
      unfold fN
      rw [if_pos ⟨rfl, h1⟩, List.getElem?_eq_getElem h1, Option.getD_some]
    obtain ⟨c2, h3, h4, _⟩ := mH hm (nv hm h (List.getElem?_eq_getElem h1)).2
    rw [← hx] at h3 h4
    refine ⟨_, _, _, h3, h4, ?_, fun h => by omega⟩
    show (fN ms 0 0 x).nx = _
    rw [hx]
    show x.nx + 1 = _
    omega
  · have hx : fN ms 0 0 x = x := by
      unfold fN
      rw [if_neg (by omega), if_neg (by omega), if_neg (by omega), if_neg (by omega), if_neg (by omega)]
    have e : cq ms 0 0 x = fg x := by unfold cq; rw [hx]
    rw [e]
    by_cases hc : ou = [] ∧ vC x
    · obtain ⟨h2, h3⟩ := hc
      subst h2
      rw [nA h h3]
      exact ⟨cs, sf, t, h, h3, by omega, fun _ _ _ => ⟨rfl, rfl⟩⟩
    · obtain ⟨c2, h3, h4, _⟩ := mH hm h
      exact ⟨_, _, _, h3, h4, show x.nx = _ by omega, fun _ h5 h6 => absurd ⟨h5, h6⟩ hc⟩
theorem Hm (x : iN) : fN ms 5 0 x = { x with e1 := (fV x.e1).1, e0 := (cK x.e0 (fV x.e1).2).1 } := by
  unfold fN
  rw [if_neg (by omega), if_neg (by omega), if_neg (by omega), if_neg (by omega), if_pos (by omega)]
theorem Et (hm : fM ms) (h : HopI ms cs a k sf gf t ou x) : ∃ cs' a' k' sf' gf' t', HopI ms cs' a' k' sf' gf' t' [] (nw ms x) ∧ vC (nw ms x) ∧ (nw ms x).fly.length ≤ 2000 ∧ (nw ms x).nx = min (x.nx + 1) ms.length ∧
    (x.nx = ms.length → ou = [] → vC x → ((nw ms x).qu.size = 0 ∨ (nw ms x).qu.size + 64 ≤ x.qu.size) ∧ (x.qu.size = 0 → (nw ms x).qu.size = 0 ∧ (nw ms x).got = ms ∧ sW (nw ms x).e0 = true)) := by
  obtain ⟨cs1, sf1, t1, h1, s1, n1, e1⟩ := yq hm h
  have hr : nw ms x = fg (fN ms 5 0 (jo ms (cq ms 4 0 (cq ms 0 0 x)).fly.length (cq ms 4 0 (cq ms 0 0 x)))) := rfl
  generalize nw ms x = X at *
  generalize cq ms 0 0 x = x1 at *
  obtain ⟨h2, s2, f2, n2, q2⟩ := sQ h1 s1
  have hh := yp h1 s1
  generalize cq ms 4 0 x1 = x2 at *
  obtain ⟨gf3, h3, f3, n3, q3⟩ := CJ hm (cs := cs1) x2.fly.length x2 k gf h2 s2 rfl hh
  generalize jo ms x2.fly.length x2 = y at *
  have h4 := yn h3
  obtain ⟨z, hz⟩ : ∃ z, ({ y with e1 := (fV y.e1).1, e0 := (cK y.e0 (fV y.e1).2).1 } : iN) = z := ⟨_, rfl⟩
  have z1 : z.nx = y.nx := by rw [← hz]
  have z2 : z.fly = y.fly := by rw [← hz]
  have z3 : z.qu = y.qu := by rw [← hz]
  rw [Hm, hz] at hr
  rw [hz] at h4
  obtain ⟨c2, h5, s5, f5, b5, p5⟩ := mH hm h4
  have z4 : (fg z).nx = z.nx := rfl
  rw [← hr] at h5 s5 f5 b5 z4
  have hn : X.nx = min (x.nx + 1) ms.length := by rw [z4, z1, n3, n2, n1]
  have hfl : X.fly = eR (cs1 ++ c2) cs1.length c2.length := by rw [f5, z2, f3]; rfl
  have hsz := (h5.size hm).1
  rw [List.length_append] at hsz
  have hw : X.e0.wait.length = c2.length := by
    rw [h5.s.wait, List.length_append]
    unfold eR
    rw [List.length_map, List.length_range']
    omega
  refine ⟨_, _, _, _, _, _, h5, s5, ?_, hn, fun hx ho hs => ?_⟩
  · rw [hfl]
    unfold eR
    rw [List.length_map, List.length_range']
    omega
  · obtain ⟨e2, e3⟩ := e1 hx ho hs
    have hzz : ∀ q : ByteArray, q.data.toList.length = q.size := fun q => by rw [Array.length_toList]; rfl
    have hq : z.qu = x.qu := by rw [z3, q3, q2, e2]
    have hb := congrArg List.length b5
    have hf0 : (bO ([] : List FrV)).length = 0 := rfl
    rw [hq, List.length_append, List.length_append, hzz, hzz, hf0] at hb
    have hc2 := ns p5
    refine ⟨?_, fun h0 => ?_⟩
    · rcases s5 with s5 | s5
      · exact .inl s5
      · right
        omega
    · have hc0 : c2 = [] := List.eq_nil_of_length_eq_zero (by omega)
      have hqz : X.qu.size = 0 := by omega
      subst hc0
      refine ⟨hqz, h5.full (by rw [List.append_nil]) hqz (by rw [hn]; omega), ?_⟩
      have hdu : X.e0.due = false := h5.s.due
      unfold sW
      rw [hw, hdu]
      rfl
end
structure RndI (ms : List ByteArray) (r : Nat) (x : iN) : Prop where
  i : ∃ cs a k sf gf t ou, HopI ms cs a k sf gf t ou x ∧ (1 ≤ r → ou = [] ∧ vC x)
  f : x.fly.length ≤ 200000
  n : min r ms.length ≤ x.nx
  q : 5 ≤ r → x.qu.size = 0 ∨ x.qu.size + 64 * (r - 5) ≤ 1800
  e : 40 ≤ r → x.got = ms ∧ sW x.e0 = true
theorem RndI.next {ms : List ByteArray} (hm : fM ms) {r : Nat} {x : iN} (h : RndI ms r x) : RndI ms (r + 1) (nw ms x) := by
  obtain ⟨cs, a, k, sf, gf, t, ou, hi, ho⟩ := h.i
  obtain ⟨cs', a', k', sf', gf', t', g1, g2, g3, g4, g5⟩ := Et hm hi
  have h5 := hm.n
  have hn := h.n
  have hx := hi.nx
  refine ⟨⟨_, _, _, _, _, _, _, g1, fun _ => ⟨rfl, g2⟩⟩, by omega, by rw [g4]; omega, fun hr => ?_, fun hr => ?_⟩
  · have hz := (g1.size hm).1
    by_cases h6 : 5 ≤ r
    · obtain ⟨h8, h9⟩ := ho (by omega)
      obtain ⟨e1, e2⟩ := g5 (by omega) h8 h9
      rcases h.q h6 with h7 | h7
      · exact .inl (e2 h7).1
      · rcases e1 with e1 | e1
        · exact .inl e1
        · right; omega
    · right; omega
  · obtain ⟨h8, h9⟩ := ho (by omega)
    obtain ⟨e1, e2⟩ := g5 (by omega) h8 h9
    have h7 := (h.q (by omega))
    exact (e2 (by omega)).2
def I3 : iN := ⟨yA, yA, [], ⟨#[]⟩, ⟨#[]⟩, CS 0 0 [qs], S0, 0, []⟩
theorem zV (ms : List ByteArray) : HopI ms [] 0 0 [] [] 0 [qs] I3 :=
  ⟨Dc, Dd, Nat.le_refl _, (fun _ h => nomatch h), (fun _ h => nomatch h), rfl, BytI.new _ rfl, rfl, ⟨Int.le_refl _, Int.le_refl _⟩, rfl, Nat.zero_le _, ⟨Hc, .inl ⟨rfl, rfl, rfl⟩⟩, Hd⟩
theorem RndI.of {ms : List ByteArray} {x : iN} (h : Hop ms x) (hf : x.fly.length ≤ 200000) : RndI ms 0 x := by
  obtain ⟨cs, a, k, sf, gf, t, ou, hi⟩ := h
  exact ⟨⟨cs, a, k, sf, gf, t, ou, hi, fun h => by omega⟩, hf, by omega, fun h => by omega, fun h => by omega⟩
end Go.Proofs.YtklcfjlmlbnkaaaGreatDoor.Y
namespace Go.Proofs.YtklcfjlmlbnkaaaGreatDoor.Y
open Go.RowKit
structure CX where
  e0 : LV
  e1 : LV
  fly : List PkV
  fa : Option Addr
  fc : Nat
  qu : ByteArray
  re : ByteArray
  cl : NV
  sv : NV
  nx : Nat
  got : List ByteArray
  ga : Option Addr
  gc : Nat
def cZ (x : CX) : iN := ⟨x.e0.l, x.e1.l, x.fly, x.qu, x.re, x.cl.c, x.sv.c, x.nx, x.got⟩
structure FX where
  f0 : Nat → Prop
  f1 : Nat → Prop
  fc : Nat → Prop
  fs : Nat → Prop
def Ao (e0 e1 : LV) (fly : List PkV) (fa : Option Addr) (fc : Nat) (qu re : ByteArray) (kl sv : NV) (nn : Nat) (got : List ByteArray) (ga : Option Addr) (gc : Nat) : List Value := [.int .i64 e0.l.next, .slice e0.x e0.l.wait.length e0.xc, .int .i64 e0.l.exp, .slice e0.y e0.l.early.length e0.yc, .int .i64 e0.l.again, .bool e0.l.due,
  .int .i64 e1.l.next, .slice e1.x e1.l.wait.length e1.xc, .int .i64 e1.l.exp, .slice e1.y e1.l.early.length e1.yc, .int .i64 e1.l.again, .bool e1.l.due,
  .slice fa fly.length fc, .string qu, .string re,
  .int .i64 kl.c.sd, .int .i64 kl.c.nx, .int .i64 kl.c.la, .int .i64 kl.c.aw, .int .i64 kl.c.sz, .int .i64 kl.c.sw.size, .int .i64 kl.c.sw.left, .int .i64 kl.c.sw.held, .int .i64 kl.c.rw.size, .int .i64 kl.c.rw.left, .int .i64 kl.c.rw.held, .slice kl.x kl.kv.length kl.xc, .slice kl.o kl.c.ou.length kl.oc, .slice kl.p kl.c.pg.length kl.pc, .bool kl.c.cl,
  .int .i64 sv.c.sd, .int .i64 sv.c.nx, .int .i64 sv.c.la, .int .i64 sv.c.aw, .int .i64 sv.c.sz, .int .i64 sv.c.sw.size, .int .i64 sv.c.sw.left, .int .i64 sv.c.sw.held, .int .i64 sv.c.rw.size, .int .i64 sv.c.rw.left, .int .i64 sv.c.rw.held, .slice sv.x sv.kv.length sv.xc, .slice sv.o sv.c.ou.length sv.oc, .slice sv.p sv.c.pg.length sv.pc, .bool sv.c.cl,
  .int .i64 1, .int .i64 ((nn : Nat) : Int), .slice ga got.length gc]
def XC (x : CX) : List Value := Ao x.e0 x.e1 x.fly x.fa x.fc x.qu x.re x.cl x.sv x.nx x.got x.ga x.gc
abbrev XM (g : Nat) (x : CX) (f : FX) (M : List Ent) : List Ent := .cl g 36 (XC x) :: .own x.fa x.fc 58 3 x.fly.length (x.fly.flatMap pC) :: .own x.ga x.gc 9 1 x.got.length (x.got.flatMap sC) :: .rep f.f0 (fun w => LOk f.f0 w x.e0) :: .rep f.f1 (fun w => LOk f.f1 w x.e1) :: .rep f.fc (fun w => NOk f.fc w x.cl) :: .rep f.fs (fun w => NOk f.fs w x.sv) :: M
end Go.Proofs.YtklcfjlmlbnkaaaGreatDoor.Y
