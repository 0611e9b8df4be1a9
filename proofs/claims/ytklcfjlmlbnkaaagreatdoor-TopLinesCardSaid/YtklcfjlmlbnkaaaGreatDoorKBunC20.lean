/- Texts of this claim merged into one: KCn20, KCn21. -/
import Derived.Test.YtklcfjlmlbnkaaaGreatDoorKBunT
import Derived.Test.YtklcfjlmlbnkaaaGreatDoorKBunC18
namespace Go.Proofs.YtklcfjlmlbnkaaaGreatDoor.Y
open Go.RowKit
theorem Cn {w0 w : World} {a b c : Ent} {l : List KV} {M : List Ent} (h : Mem w0 w (a :: b :: c :: (l.flatMap EK ++ M))) : ∀ u ∈ l, u.k.ib.length ≤ u.ic ∧ u.k.ob.length ≤ u.oc := fun u hu => by
  have h1 : MemL w0.heap.size w (l.flatMap EK) := (MemL.split (M1 := l.flatMap EK) h.2.2.2.2.2.2.2).1
  have h2 := qU h1 hu
  exact ⟨gl h2.2.2.2.2.1, gl h2.2.2.1⟩
theorem jF {w1 : World} {B : Nat} {v' : NV} (hks : w1.ownsRow B 87 22 (.slice v'.x v'.kv.length v'.xc) v'.kv.length (v'.kv.flatMap KC)) (hou : w1.ownsRow B 74 4 (.slice v'.o v'.c.ou.length v'.oc) v'.c.ou.length (v'.c.ou.flatMap fC)) (hpg : w1.ownsRow B 3 1 (.slice v'.p v'.c.pg.length v'.pc) v'.c.pg.length (v'.c.pg.flatMap iC)) (heq : v'.c.ks = v'.kv.map (·.k)) {F : Nat → Prop} (hkk : ∀ u ∈ v'.kv, KOk F w1 u) : NOk (fun _ => True) w1 v' :=
  ⟨(Rws.own aK hks).mono fun _ _ => trivial, (Rws.own ej hou).mono fun _ _ => trivial, (Rws.own fR hpg).mono fun _ _ => trivial, heq, fun u hu => (hkk u hu).mono fun _ _ => trivial⟩
theorem Co {α : Type} {l : List α} {i : Nat} {x : α} (h : l[i]? = some x) : l.set i x = l := by
  obtain ⟨h1, h2⟩ := List.getElem?_eq_some_iff.1 h
  rw [← h2]; exact List.set_getElem_self h1
theorem zI {c : NL} {i : Nat} {k : KR} (hi : c.ks[i]? = some k) (id : Int) : gbK c i id = { c with ks := c.ks.set i { k with st := { k.st with rcv := fL c.cl k.st.rcv (aN k.ib) } }, ou := eQ c.cl k.st.rcv (aN k.ib) id c.ou } := by
  unfold gbK fL eQ
  rw [show ul c i = db k.st.rcv (aN k.ib) by unfold ul; rw [eX hi]]
  split
  · rw [Co hi]
  · rw [cg hi]
def Ek (a : Option Addr) (cap sz : Nat) : Option Addr := if cap = 1 then a else a.map (·.add (1 * sz))
theorem Cp {α : Type} {A : Nat → Prop} {w : World} {sz : Nat} {f : α → List Value} {a : Option Addr} {s : α} {r : List α} {cap : Nat} (h : Rws A w sz f a (s :: r)) (hc : (s :: r).length ≤ cap) : Rws A w sz f (Ek a cap sz) r := fun h0 => by
  obtain ⟨b, off, h1, h2, h3, h4⟩ := h (by simp)
  have hc' : ¬ cap = 1 := by rw [List.length_cons] at hc; omega
  refine ⟨b, off + 1 * sz, ?_, h2, h3, fun j v hj => ?_⟩
  · unfold Ek
    rw [if_neg hc', h1]
    simp [Addr.add_mid]
  · have := h4 (j + 1) v (by simpa using hj)
    rw [show off + 1 * sz + j * sz = off + (j + 1) * sz by rw [Nat.add_mul]; omega]
    exact this
theorem H1 (a b c d : Ent) (R : List Ent) : (a :: b :: c :: d :: R).Perm (c :: d :: a :: b :: R) := List.Perm.append_right R (List.perm_append_comm (l₁ := [a, b]) (l₂ := [c, d]))
theorem Ix (v : KV) (n : Int) (h : aN v.k.ib = n) (w : World) {A : Nat → Prop} (hI : Rws A w 1 sC v.i v.k.ib) (hub : aN v.k.ib ≤ 4611686018427387904) (hzi : v.k.ib.length ≤ 8796093022208) : Calls Tryz.prog 61 #[.agg ⟨KC v⟩] w fun e w' => e = .returned (.int .i64 n) ∧ Below w.heap.size w w' := by
  subst h
  exact uD v w hI hub hzi
attribute [local irreducible] Calls
set_option maxRecDepth 100000 in
set_option maxHeartbeats 32000000 in
theorem zJ {A : Nat → Prop} (v : NV) (id : Int) (w : World) (hN : NOk A w v) (hv : VN v.c) (hms : cm v.c ≤ 500000000) : Calls Tryz.prog 29 #[.agg ⟨NC v⟩, .int .i64 id] w fun e w' => ∃ v' : NV, v'.c = (aG v.c id).1 ∧ e = .returned (.tuple #[.agg ⟨NC v'⟩, .string (aG v.c id).2.1, .bool (aG v.c id).2.2]) ∧ OutN A w w' v' := by
  refine aA Tryz.func29 rfl Tryz.ntmps29 J J ?_
  have hz := (hv.toVB.szl hms).n hN
  have hzk := hz.ks
  obtain ⟨o, ho⟩ : ∃ o, dj id v.c.ks 0 = o := ⟨_, rfl⟩
  repeat' (first | (refine bx ?_; intro g2) | (refine al ?_; intro g4) | refine cl (fun w hm => BG v id o w (hN.below hm.below) (by omega) ho) ?_ | refine nx ?_)
  cases o with
  | none =>
    have hrl : aG v.c id = (v.c, emptyB, false) := by unfold aG; rw [ho]
    rw [hrl]
    repeat' (first | refine vx rfl (mu J J) ?_ | refine vx rfl (mr (.slice none 0 0) J J) ?_ | refine cV ?_)
    refine aq J J ?_
    repeat' refine nx ?_
    (refine rt ?_; refine fun w1 hm => ⟨v, rfl, rfl, OutN.same hN hm.below⟩)
  | some i =>
    obtain ⟨q, hq, _⟩ := od ho
    obtain ⟨u, hu, huk⟩ : ∃ u, v.kv[i]? = some u ∧ u.k = q := by rw [hN.eq, List.getElem?_map] at hq; simpa using hq
    subst huk
    have hat := BE hN.eq hu
    have hum := List.mem_of_getElem? hu
    have hi : i < v.kv.length := (List.getElem?_eq_some_iff.1 hu).1
    obtain ⟨bb, boff, hx, _, _, hrows⟩ := hN.ks (by omega)
    have hcell : w.cell? ⟨bb, boff + i * 22 + 20, none⟩ = some (.slice u.i u.k.ib.length u.ic) := hrows i u hu 20 _ rfl
    have hng : decide (((i : Nat) : Int) < 0) = false := decide_eq_false (by omega)
    rw [hx]
    repeat' (first | refine vx rfl (ia (m := 22) i hi) ?_ | refine vx rfl (dG af (v := .slice u.i u.k.ib.length u.ic) J J J J J (fun _ => hcell)) ?_ | refine cV ?_)
    by_cases hib : u.k.ib = []
    · skip
      have hrl : aG v.c id = (v.c, emptyB, false) := by unfold aG; rw [ho]; dsimp only; rw [hat, hib]
      rw [hrl, ← hx]
      refine aq rfl (by rw [hib]; simp) ?_
      repeat' refine nx ?_
      (refine rt ?_; refine fun w1 hm => ⟨v, rfl, rfl, OutN.same hN hm.below⟩)
    · obtain ⟨s, r, hib⟩ : ∃ s r, u.k.ib = s :: r := by cases h : u.k.ib with | nil => exact absurd h hib | cons s r => exact ⟨s, r, rfl⟩
      refine ai rfl (by show (decide (((i : Nat) : Int) < 0) || (((u.k.ib.length : Nat) : Int) == 0)) = false; rw [hng, hib, List.length_cons]; simp; omega) ?_
      rw [← hx]
      repeat' refine nx ?_
      refine cQ (σ := NV) (fun s => s.c = v.c ∧ s.kv.map (·.k) = v.kv.map (·.k)) (fun s => .agg ⟨NC s⟩) (fun s => EN s) rfl (ap J J J J ⟨J, trivial⟩ rfl (by kernel_rfl)) (fun w1 hm => jg v w1 (hN.below hm.below) hz) J J ?_
      rintro ⟨c1, x1, xc1, kv1, o1, oc1, p1, pc1⟩ ⟨hc1, hkm⟩
      dsimp only at hc1 hkm
      subst hc1
      dsimp only [EN, NC, List.cons_append, List.nil_append]
      refine iy (fun w1 hm => Ck hm) (fun hFK => ?_)
      refine iy (fun w1 hm => Cn hm) (fun hcap => ?_)
      refine cR (fun w1 hm => sL hm) ?_
      have hlk : kv1.length = v.kv.length := pu hkm
      obtain ⟨u1, hu1, hu1k⟩ := BF hkm hu
      have hum1 := List.mem_of_getElem? hu1
      have hi1 : i < kv1.length := (List.getElem?_eq_some_iff.1 hu1).1
      have hib1 : u1.k.ib = s :: r := by rw [hu1k]; exact hib
      have hcp0 := (hcap u1 hum1).1
      have hcp1 : r.length + 1 ≤ u1.ic := by rw [hib1] at hcp0; exact hcp0
      have hl0 : 0 < u1.k.ib.length := by rw [hib1]; exact Nat.succ_pos _
      refine oV 2 rfl (by omega) ?_
      rintro gx rfl
      refine iy (p := ∃ b off, u1.i = some ⟨b, off, none⟩ ∧ ∀ w, (∀ u ∈ kv1, KOk (FK kv1) w u) → w.cell? ⟨b, off + 0 * 1, none⟩ = some (.string s)) (fun w hM => ?_) (fun hpp => ?_)
      · obtain ⟨b, off, e1, e2⟩ := iz ((hM.2.get (i := 3) rfl).2.1 u1 hum1).2.1 hl0
        exact ⟨b, off, e1, fun w' h' => e2 w' (h' u1 hum1).2.1 0 s (by rw [hib1]; rfl) 0 _ rfl⟩
      obtain ⟨b, off, hui, hmsg⟩ := hpp
      have hcp0' := hcp0
      repeat' (first | refine vx rfl (ia (m := 22) i hi1) ?_ | (refine al ?_; intro g8) | refine nx ?_)
      refine vx rfl (bM af 3 (v := .slice (some ⟨b, off, none⟩) u1.k.ib.length u1.ic) J J J J J J (fun _ => by rw [Nat.zero_add, ← hui]; exact aJ aK hu1 (k := 20) rfl)) ?_
      repeat' (first | refine vx rfl (ia (m := 1) 0 hl0) ?_ | refine vx rfl (tB af 4 (v := .string s) J J J J J J (fun _ w h => hmsg w h)) ?_ | refine nx ?_)
      refine vx rfl (bM af 3 (v := .slice (some ⟨b, off, none⟩) u1.k.ib.length u1.ic) J J J J J J (fun _ => by rw [Nat.zero_add, ← hui]; exact aJ aK hu1 (k := 20) rfl)) ?_
      refine vx rfl (cA af 1 u1.k.ib.length J J J J J J J J J J J hl0 hcp0) ?_
      repeat' refine cV ?_
      refine cF af 3 J J J J J J J J J (show jv _ (0 + i * 22 + 20) _ = _ from by rw [Nat.zero_add]; exact cy aK (kv1) i 20 (u1) ({ u1 with k := { u1.k with ib := r }, i := Ek (some ⟨b, off, none⟩) u1.ic 1, ic := u1.ic - 1 }) _ hu1 (by rw [show u1.k.ib.length - 1 = r.length by rw [hib1]; rfl]; rfl)) J J ?_
      obtain ⟨u2, hu2⟩ : ∃ u2 : KV, { u1 with k := { u1.k with ib := r }, i := Ek (some ⟨b, off, none⟩) u1.ic 1, ic := u1.ic - 1 } = u2 := ⟨_, rfl⟩
      rw [hu2]
      have hk2 : u2.k = { u.k with ib := r } := by rw [← hu2, ← hu1k]
      have hok2 : ∀ w, (∀ x ∈ kv1, KOk (FK kv1) w x) → KOk (FK kv1) w u2 := fun w h => by
        obtain ⟨h1, h2, h3⟩ := h u1 hum1
        rw [← hu2]
        rw [hib1, hui] at h2
        exact ⟨h1, Cp h2 hcp1, h3⟩
      obtain ⟨kv2, hkv2⟩ : ∃ l, kv1.set i u2 = l := ⟨_, rfl⟩
      have hat2 : kv2[i]? = some u2 := by rw [← hkv2]; exact dH hu1 _
      have hl2 : kv1.length = kv2.length := by rw [← hkv2, List.length_set]
      have hokv2 : ∀ w, (∀ x ∈ kv1, KOk (FK kv1) w x) → ∀ x ∈ kv2, KOk (FK kv1) w x := fun w h x hx => by
        rw [← hkv2] at hx
        rcases kZ hi1 hx with rfl | hx
        · exact hok2 w h
        · exact h x (List.mem_of_mem_eraseIdx hx)
      have hks2 : kv2.map (·.k) = v.c.ks.set i { u.k with ib := r } := by rw [← hkv2, List.map_set, hk2, hkm, hN.eq]
      have hci : v.c.ks[i]? = some u.k := by rw [hN.eq, List.getElem?_map, hu]; rfl
      have hp := hv.pk u.k (List.mem_of_getElem? hci)
      have hcs := dz s
      have htot2 : aP (v.c.ks.set i { u.k with ib := r }) ≤ v.c.rw.held := by
        rw [dh hci, hib, aN]
        have := hv.tt
        show aP v.c.ks - (au s + aN r) + aN r ≤ v.c.rw.held
        omega
      have hrs : eZ v.c i (fun k => { k with ib := r }) = { v.c with ks := v.c.ks.set i { u.k with ib := r } } := cg hci _
      have hoz := ((hv.toVB.szl hms)).ou.1
      rw [hkv2, hl2]
      repeat' refine nx ?_
      refine vx rfl (bM af 3 (v := .bool u2.k.st.done) J J J J J J (fun _ => by rw [Nat.zero_add]; exact aJ aK hat2 (k := 7) rfl)) ?_
      repeat' refine cV ?_
      by_cases hd : u.k.st.done = true
      · have hd2 : u2.k.st.done = true := by rw [hk2]; exact hd
        have hrl : aG v.c id = (gbC { v.c with ks := kv2.map (·.k) }, s, true) := by
          unfold aG; rw [ho]; dsimp only; rw [hat, hib]; dsimp only; rw [if_pos hd, hrs, hks2]
        rw [hrl]
        have httkv2 := htot2
        refine ai rfl (by rw [hd2]; rfl) ?_
        have htot : aP (kv2.map (·.k)) ≤ v.c.rw.held := by rw [hks2]; exact httkv2
        have hzx : ∀ x ∈ kv2, x.k.ib.length ≤ 8796093022208 := fun x hx => by
          have h1 := kC x.k.ib
          have h2 : aN x.k.ib ≤ aP (kv2.map (·.k)) := jh (List.mem_map_of_mem hx)
          have h3 := (aR.1 hv.rw)
          omega
        obtain ⟨T, hT⟩ : ∃ T, aP (kv2.map (·.k)) = T := ⟨_, rfl⟩
        have hT0 : 0 ≤ T := by rw [← hT]; exact eC _
        have hT1 : T ≤ v.c.rw.held := by rw [← hT]; exact htot
        have hT2 : aP (kv2.map (·.k)) ≤ 4611686018427387904 := by have h3 := (aR.1 hv.rw); omega
        repeat' refine nx ?_
        refine bg rfl (ap J J J J ⟨J, trivial⟩ rfl (by kernel_rfl)) (fun w1 hm => uM (⟨{ v.c with ks := kv2.map (·.k), ou := v.c.ou }, some ⟨gx, 0, none⟩, xc1, kv2, o1, oc1, p1, pc1⟩ : NV) T hT w1 (jF (hm.2.get (i := 3) rfl) (hm.2.get (i := 2) rfl) (hm.2.get (i := 1) rfl) rfl (hokv2 w1 (hm.2.get (i := 4) rfl).2.1)) (show kv2.length ≤ 606626243774 by omega) hT2 hzx) J J ?_
        refine bj (σ := Value × Option Addr × Nat) (fun _ => True) (fun s => s.1) (fun s => _) rfl (ap J J J J ⟨J, J, J, J, trivial⟩ rfl (by kernel_rfl)) (fun w1 hM => (kD g8 _ _ _ _ _ _ _ _ _ _ v.c.cl v.c.rw o1 oc1 (v.c.ou) 0 T w1 hv.rw hT0 hT1 (by omega) (hM.perm (List.perm_middle (l₁ := [_, _])))).mono fun e w' ⟨s, h1, h2, h3⟩ => ⟨s, h1, h2, h3⟩) J J ?_
        rintro ⟨rv, ta, tc⟩ -
        have hcx : gbC { v.c with ks := kv2.map (·.k) } = { v.c with rw := fL v.c.cl v.c.rw T, ks := kv2.map (·.k), ou := eQ v.c.cl v.c.rw T 0 (v.c.ou) } := by rw [jm]; dsimp only; rw [hT]
        repeat' refine nx ?_
        (refine rt ?_; refine fun w1 hm => ⟨⟨gbC { v.c with ks := kv2.map (·.k) }, some ⟨gx, 0, none⟩, xc1, kv2, ta, tc, p1, pc1⟩, rfl, ?_, ?_⟩)
        · rw [hcx]
        · refine sM hm.below (hm.2.get (i := 3) rfl) ?_ ?_ ?_ (fun x hx => (hokv2 w1 (hm.2.get (i := 4) rfl).2.1 x hx).mono hFK)
          · rw [hcx]; exact hm.2.get (i := 0) rfl
          · rw [hcx]; exact hm.2.get (i := 2) rfl
          · rw [hcx]
      · have hd2 : u2.k.st.done = false := by rw [hk2]; exact eq_false_of_ne_true hd
        have hun := hp.un (eq_false_of_ne_true hd)
        rw [hib, aN] at hun
        have hr0 := eW r
        have hst : u2.k.st = u.k.st := by rw [hk2]
        have hib2 : u2.k.ib = r := by rw [hk2]
        have hrv : aS u2.k.st.rcv = true := by rw [hst]; exact hp.vs.rv
        have hr1 : aN u2.k.ib ≤ u2.k.st.rcv.held := by rw [hib2, hst]; omega
        have hr2 : aN u2.k.ib ≤ 4611686018427387904 := by have := aR.1 hrv; omega
        have hr3 : u2.k.ib.length ≤ 8796093022208 := by have := kC u2.k.ib; have := aR.1 hrv; omega
        refine aq rfl (by rw [hd2]; rfl) ?_
        repeat' (first | refine vx rfl (aj af J J ⟨J, J, J, J, J, J, J, J, trivial⟩ J J J) ?_ | refine bW ?_ | (refine bC ?_; intro g) | ((refine' di rfl ?_ J J J ?_); rotate_left; first | exact aI af J J J J | exact bw af J J J J J J | exact ew J J J J J | exact eF J J J J J | exact ab af 0 J J J J J | exact ab af 1 J J J J J | exact ab af 2 J J J J J | exact ab af 3 J J J J J | exact ab af 4 J J J J J | exact ab af 5 J J J J J | exact ab af 6 J J J J J | exact ab af 7 J J J J J | exact gQ af iI J J J J J J (by kernel_rfl) | exact iG af iI J J J J J J (by kernel_rfl) | exact fi af J J J J J J J | exact fO J J J J J | exact iF J J J J J | exact lp J J J J J J J | exact aj af J J trivial J J J | exact aj af J J ⟨J, trivial⟩ J J J | exact aj af J J ⟨J, J, trivial⟩ J J J | exact aj af J J ⟨J, J, J, trivial⟩ J J J | exact aj af J J ⟨J, J, J, J, trivial⟩ J J J | exact aj af J J ⟨J, J, J, J, J, trivial⟩ J J J | exact aj af J J ⟨J, J, J, J, J, J, trivial⟩ J J J | exact aj af J J ⟨J, J, J, J, J, J, J, trivial⟩ J J J | exact aj af J J ⟨J, J, J, J, J, J, J, J, trivial⟩ J J J) | (refine bx ?_; intro g) | (refine al ?_; intro g) | refine bY af J J J J J J ?_ | refine iH J J J J J J ?_ | refine nx ?_)
        refine bR [true, true, true, true, true, true, true] (fun _ => True) am (by kernel_rfl) J J (fun _ _ => trivial) ?_
        iterate 7 (((refine' gp J J ?_ J J ?_); rotate_left; exact aI af J J J J))
        ((refine' gp J J ?_ J J ?_); rotate_left; exact fv af 3 (cs := KC u2) J J J J J J (fun _ j x hx => by rw [Nat.zero_add]; exact aJ aK hat2 hx))
        refine oq rfl (ap J J J J ⟨J, trivial⟩ rfl (by kernel_rfl)) J J (fun w1 hm => Ix u2 _ rfl w1 (hok2 w1 (hm.2.get (i := 4) rfl).2.1).2.1 hr2 hr3) (fun w1 hm => ⟨hm.mask [true, true, true, true, true, true, true] rfl, trivial⟩) J J ?_
        refine fK (σ := Value × Option Addr × Nat) (fun _ => True) (fun s => s.1) (fun s => _) rfl (ap J J J J ⟨J, J, J, J, trivial⟩ rfl (by kernel_rfl)) (fun w1 hM => (Cm g8 gx xc1 kv2.length i _ _ _ _ _ _ _ _ _ _ _ _ _ v.c.cl kv2 u2 hat2 o1 oc1 v.c.ou id (aN u2.k.ib) w1 hrv (eW _) hr1 (by omega) (hM.perm (H1 _ _ _ _ _))).mono fun e w' ⟨s, h1, h2, h3⟩ => ⟨s, h1, h2, h3⟩) J J ?_
        rintro ⟨rv, qa, qc⟩ -
        obtain ⟨u3, hu3⟩ : ∃ u3 : KV, { u2 with k := { u2.k with st := { u2.k.st with rcv := fL v.c.cl u2.k.st.rcv (aN u2.k.ib) } } } = u3 := ⟨_, rfl⟩
        rw [hu3]
        have hok3 : ∀ w, (∀ x ∈ kv1, KOk (FK kv1) w x) → KOk (FK kv1) w u3 := fun w h => by
          rw [← hu3]; exact hok2 w h
        obtain ⟨kv3, hkv3⟩ : ∃ l, kv2.set i u3 = l := ⟨_, rfl⟩
        have hi2 : i < kv2.length := (List.getElem?_eq_some_iff.1 hat2).1
        have hl3 : kv2.length = kv3.length := by rw [← hkv3, List.length_set]
        have hokv3 : ∀ w, (∀ x ∈ kv1, KOk (FK kv1) w x) → ∀ x ∈ kv3, KOk (FK kv1) w x := fun w h x hx => by
          rw [← hkv3] at hx
          rcases kZ hi2 hx with rfl | hx
          · exact hok3 w h
          · exact hokv2 w h x (List.mem_of_mem_eraseIdx hx)
        have hci2 : (kv2.map (·.k))[i]? = some u2.k := by rw [List.getElem?_map, hat2]; rfl
        have hk3 : u3.k = { u2.k with st := { u2.k.st with rcv := fL v.c.cl u2.k.st.rcv (aN u2.k.ib) } } := by rw [← hu3]
        have hks3 : kv3.map (·.k) = (kv2.map (·.k)).set i u3.k := by rw [← hkv3, List.map_set]
        obtain ⟨ou1, hou1⟩ : ∃ l, eQ v.c.cl u2.k.st.rcv (aN u2.k.ib) id v.c.ou = l := ⟨_, rfl⟩
        have hol : ou1.length ≤ v.c.ou.length + 1 := by rw [← hou1]; exact zH
        have hgk : gbK (eZ v.c i (fun k => { k with ib := r })) i id = { v.c with ks := kv3.map (·.k), ou := ou1 } := by
          rw [hrs, ← hks2, zI (k := u2.k) hci2, hks3, hk3, ← hou1]
        have hrl : aG v.c id = (gbC { v.c with ks := kv3.map (·.k), ou := ou1 }, s, true) := by
          unfold aG; rw [ho]; dsimp only; rw [hat, hib]; dsimp only; rw [if_neg hd, hgk]
        rw [hrl, hkv3, hl3, hou1]
        have httkv3 : aP ((kv2.map (·.k)).set i u3.k) ≤ v.c.rw.held := by
          rw [dh hci2, hk3, hks2]
          show aP (v.c.ks.set i { u.k with ib := r }) - aN u2.k.ib + aN u2.k.ib ≤ v.c.rw.held
          omega
        repeat' refine nx ?_
        have htot : aP (kv3.map (·.k)) ≤ v.c.rw.held := by rw [hks3]; exact httkv3
        have hzx : ∀ x ∈ kv3, x.k.ib.length ≤ 8796093022208 := fun x hx => by
          have h1 := kC x.k.ib
          have h2 : aN x.k.ib ≤ aP (kv3.map (·.k)) := jh (List.mem_map_of_mem hx)
          have h3 := (aR.1 hv.rw)
          omega
        obtain ⟨T, hT⟩ : ∃ T, aP (kv3.map (·.k)) = T := ⟨_, rfl⟩
        have hT0 : 0 ≤ T := by rw [← hT]; exact eC _
        have hT1 : T ≤ v.c.rw.held := by rw [← hT]; exact htot
        have hT2 : aP (kv3.map (·.k)) ≤ 4611686018427387904 := by have h3 := (aR.1 hv.rw); omega
        repeat' (first | refine vx rfl (aj af J J ⟨J, J, J, J, J, J, J, J, trivial⟩ J J J) ?_ | refine bW ?_ | (refine bC ?_; intro g) | ((refine' di rfl ?_ J J J ?_); rotate_left; first | exact aI af J J J J | exact bw af J J J J J J | exact ew J J J J J | exact eF J J J J J | exact ab af 0 J J J J J | exact ab af 1 J J J J J | exact ab af 2 J J J J J | exact ab af 3 J J J J J | exact ab af 4 J J J J J | exact ab af 5 J J J J J | exact ab af 6 J J J J J | exact ab af 7 J J J J J | exact gQ af iI J J J J J J (by kernel_rfl) | exact iG af iI J J J J J J (by kernel_rfl) | exact fi af J J J J J J J | exact fO J J J J J | exact iF J J J J J | exact lp J J J J J J J | exact aj af J J trivial J J J | exact aj af J J ⟨J, trivial⟩ J J J | exact aj af J J ⟨J, J, trivial⟩ J J J | exact aj af J J ⟨J, J, J, trivial⟩ J J J | exact aj af J J ⟨J, J, J, J, trivial⟩ J J J | exact aj af J J ⟨J, J, J, J, J, trivial⟩ J J J | exact aj af J J ⟨J, J, J, J, J, J, trivial⟩ J J J | exact aj af J J ⟨J, J, J, J, J, J, J, trivial⟩ J J J | exact aj af J J ⟨J, J, J, J, J, J, J, J, trivial⟩ J J J) | (refine bx ?_; intro g) | (refine al ?_; intro g) | refine bY af J J J J J J ?_ | refine iH J J J J J J ?_ | refine nx ?_)
        refine bg rfl (ap J J J J ⟨J, trivial⟩ rfl (by kernel_rfl)) (fun w1 hm => uM (⟨{ v.c with ks := kv3.map (·.k), ou := ou1 }, some ⟨gx, 0, none⟩, xc1, kv3, qa, qc, p1, pc1⟩ : NV) T hT w1 (jF (hm.2.get (i := 1) rfl) (hm.2.get (i := 0) rfl) (hm.2.get (i := 3) rfl) rfl (hokv3 w1 (hm.2.get (i := 4) rfl).2.1)) (show kv3.length ≤ 606626243774 by omega) hT2 hzx) J J ?_
        refine bj (σ := Value × Option Addr × Nat) (fun _ => True) (fun s => s.1) (fun s => _) rfl (ap J J J J ⟨J, J, J, J, trivial⟩ rfl (by kernel_rfl)) (fun w1 hM => (kD g8 _ _ _ _ _ _ _ _ _ _ v.c.cl v.c.rw qa qc (ou1) 0 T w1 hv.rw hT0 hT1 (by omega) (hM.perm ((List.Perm.swap _ _ _).cons _))).mono fun e w' ⟨s, h1, h2, h3⟩ => ⟨s, h1, h2, h3⟩) J J ?_
        rintro ⟨rv, ta, tc⟩ -
        have hcx : gbC { v.c with ks := kv3.map (·.k), ou := ou1 } = { v.c with rw := fL v.c.cl v.c.rw T, ks := kv3.map (·.k), ou := eQ v.c.cl v.c.rw T 0 (ou1) } := by rw [jm]; dsimp only; rw [hT]
        repeat' refine nx ?_
        (refine rt ?_; refine fun w1 hm => ⟨⟨gbC { v.c with ks := kv3.map (·.k), ou := ou1 }, some ⟨gx, 0, none⟩, xc1, kv3, ta, tc, p1, pc1⟩, rfl, ?_, ?_⟩)
        · rw [hcx]
        · refine sM hm.below (hm.2.get (i := 2) rfl) ?_ ?_ ?_ (fun x hx => (hokv3 w1 (hm.2.get (i := 4) rfl).2.1 x hx).mono hFK)
          · rw [hcx]; exact hm.2.get (i := 0) rfl
          · rw [hcx]; exact hm.2.get (i := 3) rfl
          · rw [hcx]
end Go.Proofs.YtklcfjlmlbnkaaaGreatDoor.Y
namespace Go.Proofs.YtklcfjlmlbnkaaaGreatDoor.Y
open Go.RowKit
def jn (u : KV) (f : FrV) : KV := if (bp u.k.st f).err ≠ 0 then fX { u with k := { u.k with st := (bh u.k.st (ll u.k)).st } } else fX { u with k := { u.k with st := (bp u.k.st f).st } }
def qt (u : KV) (f : FrV) (l : List FrV) : List FrV := if (bp u.k.st f).err ≠ 0 then l ++ [ll u.k] else l
def xb (u : KV) (f : FrV) : Bool := if (bp u.k.st f).err ≠ 0 then false else !u.k.st.done
theorem Cq {u : KV} {f : FrV} {l : List FrV} : (qt u f l).length ≤ l.length + 1 := by
  unfold qt
  split
  · rw [List.length_append, List.length_singleton]; exact Nat.le_refl _
  · exact Nat.le_succ _
theorem El {A : Nat → Prop} {w : World} {u : KV} {f : FrV} (h : KOk A w u) : KOk A w (jn u f) := by
  unfold jn
  split
  · exact pN ⟨h.1, h.2.1, h.2.2⟩
  · exact pN ⟨h.1, h.2.1, h.2.2⟩
theorem pP {c : NL} {i : Nat} {u : KV} {f : FrV} (hi : c.ks[i]? = some u.k) (hso : (bp u.k.st f).err ≠ 0 → (bh u.k.st (ll u.k)).err = 0) : dX c i f = { c with ks := c.ks.set i (jn u f).k, ou := qt u f c.ou } ∧ si c i f = xb u f := by
  unfold dX si jn qt xb
  rw [eX hi]
  by_cases he : (bp u.k.st f).err = 0
  · rw [if_neg (by rw [he]; simp), if_neg (by rw [he]; simp), if_neg (by rw [he]; simp), if_neg (by rw [he]; simp), cg hi, sB]
    exact ⟨rfl, by rw [decide_eq_true he, Bool.true_and]⟩
  · rw [if_pos he, if_pos he, if_pos he, if_pos he, cg hi, sB, if_pos (hso he)]
    exact ⟨rfl, by rw [decide_eq_false he, Bool.false_and]⟩
theorem Hg (s : StV) (f : FrV) (r : C9) (h : bp s f = r) (w : World) (htx : s.text.size ≤ 4611686018427387900) (hfd : f.data.size < 4294967281) (hl : MLen w) : Calls Tryz.prog 127 #[.agg ⟨tC s⟩, .agg #[.int .i64 f.kind, .int .i64 f.strm, .int .i64 f.num, .string f.data]] w fun e w' => e = .returned (.tuple #[.agg ⟨tC r.st⟩, .int .i64 r.err]) ∧ Below w.heap.size w w' := by
  subst h
  exact Bu s.id s.side s.shape s.sent s.got s.se s.ge s.done s.code s.text s.snd.size s.snd.left s.snd.held s.rcv.size s.rcv.left s.rcv.held f.kind f.strm f.num f.data w htx hfd hl
theorem Hh (x : WinV) (n : Int) (t : ui) (h : cC x n = t) (w : World) : Calls Tryz.prog 88 #[.agg #[.int .i64 x.size, .int .i64 x.left, .int .i64 x.held], .int .i64 n] w fun e w' => e = .returned (.tuple #[.agg #[.int .i64 t.win.size, .int .i64 t.win.left, .int .i64 t.win.held], .int .i64 t.err]) ∧ Below w.heap.size w w' := by
  subst h
  exact ph x n w
theorem Hi (x : WinV) (n : Int) (t : ui) (h : bo x n = t) (w : World) : Calls Tryz.prog 115 #[.agg #[.int .i64 x.size, .int .i64 x.left, .int .i64 x.held], .int .i64 n] w fun e w' => e = .returned (.tuple #[.agg #[.int .i64 t.win.size, .int .i64 t.win.left, .int .i64 t.win.held], .int .i64 t.err]) ∧ Below w.heap.size w w' := by
  subst h
  exact my x n w
theorem Cr (d : ByteArray) (n : Int) (h : au d = n) (w : World) : Calls Tryz.prog 5 #[.string d] w fun e w' => e = .returned (.int .i64 n) ∧ Below w.heap.size w w' := by
  subst h
  exact ie d w
attribute [local irreducible] Calls
set_option maxRecDepth 100000 in
set_option maxHeartbeats 8000000 in
theorem Cs (sd k : Int) (w : World) : Calls Tryz.prog 87 #[.int .i64 sd, .int .i64 k] w fun e w' => e = .returned (.bool (ut sd k)) ∧ Below w.heap.size w w' := by
  refine aA Tryz.func87 rfl Tryz.ntmps87 J J ?_
  repeat' refine nx ?_
  by_cases h : sd = 2
  · refine aq rfl (by simpa using h) ?_
    repeat' refine nx ?_
    (refine rt ?_; refine fun w hm => ⟨?_, hm.below⟩)
    unfold ut
    rw [if_pos h]
  · refine ai rfl (by simpa using h) ?_
    repeat' refine nx ?_
    (refine rt ?_; refine fun w hm => ⟨?_, hm.below⟩)
    unfold ut
    rw [if_neg h]
theorem Iy (sd k : Int) (b : Bool) (h : ut sd k = b) (w : World) : Calls Tryz.prog 87 #[.int .i64 sd, .int .i64 k] w fun e w' => e = .returned (.bool b) ∧ Below w.heap.size w w' := by
  subst h
  exact Cs sd k w
set_option maxRecDepth 100000 in
set_option maxHeartbeats 16000000 in
theorem vm {w0 : World} {M : List Ent} (gc gx xc nn k : Nat) (a0 a1 a2 a3 a4 a5 a6 a7 a8 a9 a10 b0 b1 b2 : Value) (kv : List KV) (u : KV) (hat : kv[k]? = some u) (o : Option Addr) (oc : Nat) (ou : List FrV) (f : FrV) (w : World) (htx : u.k.st.text.size ≤ 4611686018427387900) (hfd : f.data.size < 4294967281) (hou : ou.length ≤ 2000000000) (hso : (bp u.k.st f).err ≠ 0 → (bh u.k.st (ll u.k)).err = 0) (hg : MLen w0) (hM : Mem w0 w (.own o oc 74 4 ou.length ((ou).flatMap fC) :: .own (some ⟨gx, 0, none⟩) xc 87 22 nn ((kv).flatMap KC) :: .cl gc 34 [a0, a1, a2, a3, a4, a5, a6, a7, a8, a9, a10, b0, .slice o ou.length oc, b1, b2] :: M)) : Calls Tryz.prog 116 #[.pointer (some ⟨gc, 0, none⟩), .pointer (some ⟨gx, 0 + k * 22, none⟩), .agg #[.int .i64 f.kind, .int .i64 f.strm, .int .i64 f.num, .string f.data]] w fun e w' => ∃ s : Option Addr × Nat, True ∧ e = .returned (.bool (xb u f)) ∧ Mem w0 w' (.own s.1 s.2 74 4 (qt u f ou).length (((qt u f ou)).flatMap fC) :: .own (some ⟨gx, 0, none⟩) xc 87 22 nn ((kv.set k (jn u f)).flatMap KC) :: .cl gc 34 [a0, a1, a2, a3, a4, a5, a6, a7, a8, a9, a10, b0, .slice s.1 (qt u f ou).length s.2, b1, b2] :: M) := by
  obtain ⟨r, hr⟩ : ∃ r, bp u.k.st f = r := ⟨_, rfl⟩
  obtain ⟨r2, hr2⟩ : ∃ r2, bh u.k.st (ll u.k) = r2 := ⟨_, rfl⟩
  unfold jn qt xb
  rw [hr, hr2] at hso ⊢
  refine bv hM Tryz.func116 rfl Tryz.ntmps116 J J ?_
  repeat' (first | (refine bx ?_; intro g5) | refine nx ?_)
  refine vx rfl (bM af 2 (v := .bool u.k.st.done) J J J J J J (fun _ => by rw [Nat.zero_add]; exact aJ aK hat (k := 7) rfl)) ?_
  repeat' (first | refine vx rfl (fv af 2 (cs := tC u.k.st) J J J J J J (fun _ i x hx => by rw [Nat.zero_add, Nat.add_zero]; exact aJ aK hat (mF hx))) ?_ | refine aL am rfl (by kernel_rfl) ?_ | (refine bC ?_; intro g) | ((refine' di rfl ?_ J J J ?_); rotate_left; first | exact fv af 2 (cs := tC u.k.st) J J J J J J (fun _ i x hx => by rw [Nat.zero_add, Nat.add_zero]; exact aJ aK hat (mF hx)) | exact aI af J J J J | exact bw af J J J J J J | exact ab af 0 J J J J J) | refine bm rfl (ap J J J J ⟨J, J, trivial⟩ rfl (by kernel_rfl)) rfl (fun w hm => Hg u.k.st f r hr w htx hfd (hg.below hm.below)) J J ?_ | refine bY af J J J J J J ?_ | refine nx ?_)
  by_cases he : r.err = 0
  · rw [if_neg (by simpa using he), if_neg (by simpa using he), if_neg (by simpa using he)]
    refine ai rfl (by simpa using he) ?_
    repeat' refine nx ?_
    refine cF af 3 J J J J J J J J J (show jv _ (0 + k * 22 + 0) _ = _ from by rw [Nat.zero_add]; exact cy aK (kv) k 0 (u) ({ u with k := { u.k with st := r.st } }) _ hat rfl) J J ?_
    repeat' refine nx ?_
    have hat1 : (kv.set k { u with k := { u.k with st := r.st } })[k]? = some { u with k := { u.k with st := r.st } } := dH hat _
    refine cR (fun w1 hm => hm.perm (List.perm_middle (l₁ := [_, _, _]))) ?_
    dsimp only [List.cons_append, List.nil_append]
    refine bj (σ := Value) (fun _ => True) (fun r => r) (fun _ => _) rfl (ap J J J J ⟨J, trivial⟩ rfl (by kernel_rfl)) (fun w hM => (kY gx xc nn k (kv.set k { u with k := { u.k with st := r.st } }) { u with k := { u.k with st := r.st } } hat1 w hM).mono fun e w' ⟨r, h1, h2, h3⟩ => ⟨r, trivial, h2, h3⟩) J J ?_
    rintro rv -
    rw [List.set_set]
    repeat' refine nx ?_
    (refine rt ?_; refine fun w1 hm => ?_)
    refine ⟨(o, oc), trivial, rfl, ?_⟩
    exact (hm.mask [true, false, false, true, true] rfl).perm (List.Perm.swap _ _ _)
  · rw [if_pos he, if_pos he, if_pos he]
    have he2 : r2.err = 0 := hso he
    refine aq rfl (by simpa using he) ?_
    repeat' refine nx ?_
    refine vx rfl (bM af 3 (v := .int .i64 u.k.st.id) J J J J J J (fun _ => by rw [Nat.zero_add]; exact aJ aK hat (k := 0) rfl)) ?_
    repeat' (first | (refine al ?_; intro g10) | refine nx ?_)
    refine cY 7 am rfl (by kernel_rfl) ?_
    iterate 6 (((refine' di rfl ?_ J J J ?_); rotate_left; first | exact aI af J J J J | exact ab af 0 J J J J J | exact ab af 5 J J J J J))
    refine dV af J J J ⟨J, trivial⟩ J J J J J J J J ?_
    refine bC ?_
    intro s1
    refine bA af 4 0 J J J J J J J J J (fun _ _ => rfl) lw J J (by unfold maxLen; omega) (by omega) J J ?_
    intro sa sc
    repeat' refine nx ?_
    refine aL am rfl (by kernel_rfl) ?_
    repeat' (first | refine vx rfl (fv af 5 (cs := tC u.k.st) J J J J J J (fun _ i x hx => by rw [Nat.zero_add, Nat.add_zero]; exact aJ aK hat (mF hx))) ?_ | refine bW ?_ | ((refine' di rfl ?_ J J J ?_); rotate_left; first | exact fv af 5 (cs := tC u.k.st) J J J J J J (fun _ i x hx => by rw [Nat.zero_add, Nat.add_zero]; exact aJ aK hat (mF hx)) | exact aI af J J J J | exact bw af J J J J J J | exact ab af 1 J J J J J) | refine bm rfl (ap J J J J ⟨J, J, trivial⟩ rfl (by kernel_rfl)) rfl (fun w hm => xU u.k.st (ll u.k) r2 hr2 w htx (show (0 : Nat) < 4294967281 by decide) (hg.below hm.below)) J J ?_ | refine nx ?_)
    refine aq rfl (by simpa using he2) ?_
    repeat' refine cV ?_
    refine cF af 5 J J J J J J J J J (show jv _ (0 + k * 22 + 0) _ = _ from by rw [Nat.zero_add]; exact cy aK (kv) k 0 (u) ({ u with k := { u.k with st := r2.st } }) _ hat rfl) J J ?_
    repeat' refine nx ?_
    have hat1 : (kv.set k { u with k := { u.k with st := r2.st } })[k]? = some { u with k := { u.k with st := r2.st } } := dH hat _
    refine cR (fun w1 hm => hm.perm (List.perm_middle (l₁ := [_, _, _, _, _]))) ?_
    dsimp only [List.cons_append, List.nil_append]
    refine bj (σ := Value) (fun _ => True) (fun r => r) (fun _ => _) rfl (ap J J J J ⟨J, trivial⟩ rfl (by kernel_rfl)) (fun w hM => (kY gx xc nn k (kv.set k { u with k := { u.k with st := r2.st } }) { u with k := { u.k with st := r2.st } } hat1 w hM).mono fun e w' ⟨r, h1, h2, h3⟩ => ⟨r, trivial, h2, h3⟩) J J ?_
    rintro rv -
    rw [List.set_set]
    repeat' refine nx ?_
    (refine rt ?_; refine fun w1 hm => ?_)
    refine ⟨(sa, sc), trivial, rfl, ?_⟩
    rw [List.length_append, List.flatMap_append, List.flatMap_singleton]
    exact (hm.mask [true, false, false, false, false, true, true] rfl).perm (List.Perm.swap _ _ _)
set_option maxRecDepth 100000 in
set_option maxHeartbeats 16000000 in
theorem zK (v : NV) (f : FrV) (w : World) (hfd : f.data.size < 4294967281) (hg : MLen w) : Calls Tryz.prog 57 #[.agg ⟨NC v⟩, .agg #[.int .i64 f.kind, .int .i64 f.strm, .int .i64 f.num, .string f.data]] w fun e w' => e = .returned (.int .i64 (lj v.c f)) ∧ Below w.heap.size w w' := by
  refine aA Tryz.func57 rfl Tryz.ntmps57 J J ?_
  obtain ⟨ef, hef⟩ : ∃ x, ay f = x := ⟨_, rfl⟩
  obtain ⟨bf, hbf⟩ : ∃ x, ut v.c.sd f.kind = x := ⟨_, rfl⟩
  obtain ⟨n, hn⟩ : ∃ x, au f.data = x := ⟨_, rfl⟩
  obtain ⟨t, ht⟩ : ∃ x, cC v.c.sw f.num = x := ⟨_, rfl⟩
  have hre : lj v.c f = if ef ≠ 0 ∨ bf = true then 1 else if (f.kind = 1) = (f.strm ≤ v.c.la) then 11 else if f.kind = 2 ∧ v.c.rw.left < n then 22 else if f.kind = 6 ∧ f.strm = 0 ∧ t.err ≠ 0 then 6 else 0 := by unfold lj; rw [hef, hbf, hn, ht]
  rw [hre]
  repeat' (first | (refine bx ?_; intro g2) | refine cl (fun w hm => EU f ef hef w (hg.below hm.below) hfd) ?_ | refine cl (fun w hm => Iy v.c.sd f.kind bf hbf w) ?_ | refine nx ?_)
  by_cases h1 : ef ≠ 0 ∨ bf = true
  · rw [if_pos h1]
    refine aq rfl (by simpa using h1) ?_
    repeat' refine nx ?_
    (refine rt ?_; refine fun w hm => ⟨?_, hm.below⟩)
    rfl
  rw [if_neg h1]
  refine ai rfl (by
    cases h : ((ef != 0) || bf) with
    | false => rfl
    | true => exact absurd (by simpa using h) h1) ?_
  repeat' refine nx ?_
  by_cases h2 : (f.kind = 1) = (f.strm ≤ v.c.la)
  · rw [if_pos h2]
    refine aq rfl (by
      by_cases a : f.kind = 1
      · have b : f.strm ≤ v.c.la := h2 ▸ a
        simp [a, b]
      · have b : ¬ f.strm ≤ v.c.la := h2 ▸ a
        simp [a, b]) ?_
    repeat' refine nx ?_
    (refine rt ?_; refine fun w hm => ⟨?_, hm.below⟩)
    rfl
  rw [if_neg h2]
  refine ai rfl (by
    by_cases a : f.kind = 1
    · have b : ¬ f.strm ≤ v.c.la := fun b => h2 (propext ⟨fun _ => b, fun _ => a⟩)
      simp [a, b]
    · have b : f.strm ≤ v.c.la := by
        refine Decidable.byContradiction fun b => h2 (propext ⟨fun h => absurd h a, fun h => absurd h b⟩)
      simp [a, b]) ?_
  repeat' (first | refine aL am rfl (by kernel_rfl) ?_ | refine bW ?_ | ((refine' di rfl ?_ J J J ?_); rotate_left; first | exact aI af J J J J | exact bw af J J J J J J | exact eF J J J J J | exact ab af 0 J J J J J | exact ab af 1 J J J J J) | refine bm rfl (ap J J J J ⟨J, trivial⟩ rfl (by kernel_rfl)) rfl (fun w hm => Cr f.data n hn w) J J ?_ | refine nx ?_)
  by_cases h3 : f.kind = 2 ∧ v.c.rw.left < n
  · rw [if_pos h3]
    refine aq rfl (by simp only [Bool.and_eq_true, beq_iff_eq, decide_eq_true_eq]; omega) ?_
    repeat' refine nx ?_
    (refine rt ?_; refine fun w hm => ⟨?_, hm.below⟩)
    rfl
  rw [if_neg h3]
  refine ai rfl (by simp only [Bool.and_eq_false_iff, beq_eq_false_iff_ne, decide_eq_false_iff_not]; omega) ?_
  repeat' refine nx ?_
  by_cases h4 : f.kind = 6 ∧ f.strm = 0
  · refine aq rfl (by simp only [Bool.and_eq_true, beq_iff_eq]; exact h4) ?_
    repeat' (first | (refine al ?_; intro g5) | refine cl (fun w hm => Hh v.c.sw f.num t ht w) ?_ | refine nx ?_)
    by_cases h5 : t.err = 0
    · rw [if_neg (fun e => e.2.2 h5)]
      refine ai rfl (by simpa using h5) ?_
      repeat' refine nx ?_
      (refine rt ?_; refine fun w hm => ⟨?_, hm.below⟩)
      rfl
    · rw [if_pos ⟨h4.1, h4.2, h5⟩]
      refine aq rfl (by simpa using h5) ?_
      repeat' refine nx ?_
      (refine rt ?_; refine fun w hm => ⟨?_, hm.below⟩)
      rfl
  · rw [if_neg (fun e => h4 ⟨e.1, e.2.1⟩)]
    refine ai rfl (by simp only [Bool.and_eq_false_iff, beq_eq_false_iff_ne]; omega) ?_
    repeat' refine nx ?_
    (refine rt ?_; refine fun w hm => ⟨?_, hm.below⟩)
    rfl
end Go.Proofs.YtklcfjlmlbnkaaaGreatDoor.Y
