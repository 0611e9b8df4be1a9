/- Texts of this claim merged into one: BCn20, BCn21. -/
import Derived.Test.YthiocbcokfondaaGreatDoorBBunC17
namespace Go.Proofs.YthiocbcokfondaaGreatDoor.Y
open Go.RowKit
theorem xY {w0 w : World} {a b c : Ent} {l : List KV} {M : List Ent} (h : Mem w0 w (a :: b :: c :: (l.flatMap EK ++ M))) : ∀ u ∈ l, u.k.ib.length ≤ u.ic ∧ u.k.ob.length ≤ u.oc := fun u hu => by
 have h1 : MemL w0.heap.size w (l.flatMap EK) := (MemL.split (M1 := l.flatMap EK) h.2.2.2.2.2.2.2).1
 have h2 := ku h1 hu
 exact ⟨jf h2.2.2.2.2.1, jf h2.2.2.1⟩
theorem gM {w1 : World} {B : Nat} {v' : NV} (hks : w1.ownsRow B 39 22 (.slice v'.x v'.kv.length v'.xc) v'.kv.length (v'.kv.flatMap KC)) (hou : w1.ownsRow B 65 4 (.slice v'.o v'.c.ou.length v'.oc) v'.c.ou.length (v'.c.ou.flatMap fC)) (hpg : w1.ownsRow B 3 1 (.slice v'.p v'.c.pg.length v'.pc) v'.c.pg.length (v'.c.pg.flatMap iC)) (heq : v'.c.ks = v'.kv.map (·.k)) {F : Nat → Prop} (hkk : ∀ u ∈ v'.kv, KOk F w1 u) : NOk (fun _ => True) w1 v' :=
 ⟨(Rws.own aV hks).mono fun _ _ => trivial, (Rws.own dI hou).mono fun _ _ => trivial, (Rws.own eP hpg).mono fun _ _ => trivial, heq, fun u hu => (hkk u hu).mono fun _ _ => trivial⟩
theorem xZ {α : Type} {l : List α} {i : Nat} {x : α} (h : l[i]? = some x) : l.set i x = l := by
 obtain ⟨h1, h2⟩ := List.getElem?_eq_some_iff.1 h
 rw [← h2]; exact List.set_getElem_self h1
theorem vG {c : NL} {i : Nat} {k : KR} (hi : c.ks[i]? = some k) (id : Int) : gbK c i id = { c with ks := c.ks.set i { k with st := { k.st with rcv := ft c.cl k.st.rcv (aZ k.ib) } }, ou := eK c.cl k.st.rcv (aZ k.ib) id c.ou } := by
 unfold gbK ft eK
 rw [show qR c i = ec k.st.rcv (aZ k.ib) by unfold qR; rw [dQ hi]]
 split
 · rw [xZ hi]
 · rw [bQ hi]
def zy (a : Option Addr) (cap sz : Nat) : Option Addr := if cap = 1 then a else a.map (·.add (1 * sz))
theorem x6 {α : Type} {A : Nat → Prop} {w : World} {sz : Nat} {f : α → List Value} {a : Option Addr} {s : α} {r : List α} {cap : Nat} (h : Rws A w sz f a (s :: r)) (hc : (s :: r).length ≤ cap) : Rws A w sz f (zy a cap sz) r := fun h0 => by
 obtain ⟨b, off, h1, h2, h3, h4⟩ := h (by simp)
 have hc' : ¬ cap = 1 := by rw [List.length_cons] at hc; omega
 refine ⟨b, off + 1 * sz, ?_, h2, h3, fun j v hj => ?_⟩
 · unfold zy
   rw [if_neg hc', h1]
   simp [Addr.add_mid]
 · have := h4 (j + 1) v (by simpa using hj)
   rw [show off + 1 * sz + j * sz = off + (j + 1) * sz by rw [Nat.add_mul]; omega]
   exact this
theorem Ck (a b c d : Ent) (R : List Ent) : (a :: b :: c :: d :: R).Perm (c :: d :: a :: b :: R) := List.Perm.append_right R (List.perm_append_comm (l₁ := [a, b]) (l₂ := [c, d]))
theorem CH (v : KV) (n : Int) (h : aZ v.k.ib = n) (w : World) {A : Nat → Prop} (hI : Rws A w 1 sC v.i v.k.ib) (hub : aZ v.k.ib ≤ 4611686018427387904) (hzi : v.k.ib.length ≤ 8796093022208) : Calls Tryz.prog 78 #[.agg #[.int .i64 v.k.st.id, .int .i64 v.k.st.side, .int .i64 v.k.st.shape, .int .i64 v.k.st.sent, .int .i64 v.k.st.got, .bool v.k.st.se, .bool v.k.st.ge, .bool v.k.st.done, .int .i64 v.k.st.code, .string v.k.st.text, .int .i64 v.k.st.snd.size, .int .i64 v.k.st.snd.left, .int .i64 v.k.st.snd.held, .int .i64 v.k.st.rcv.size, .int .i64 v.k.st.rcv.left, .int .i64 v.k.st.rcv.held, .string v.k.sv, .string v.k.mt, .int .i64 v.k.lt, .slice v.m v.k.ms.length v.mc, .slice v.i v.k.ib.length v.ic, .slice v.o v.k.ob.length v.oc]] w fun e w' => e = .returned (.int .i64 n) ∧ Below w.heap.size w w' := by
 subst h
 exact nF v w hI hub hzi
attribute [local irreducible] Calls
set_option maxRecDepth 100000 in
set_option maxHeartbeats 32000000 in
theorem vH {A : Nat → Prop} (v : NV) (id : Int) (w : World) (hN : NOk A w v) (hv : VN v.c) (hms : bM v.c ≤ 500000000) : Calls Tryz.prog 47 #[.agg #[.int .i64 v.c.sd, .int .i64 v.c.nx, .int .i64 v.c.la, .int .i64 v.c.aw, .int .i64 v.c.sz, .int .i64 v.c.sw.size, .int .i64 v.c.sw.left, .int .i64 v.c.sw.held, .int .i64 v.c.rw.size, .int .i64 v.c.rw.left, .int .i64 v.c.rw.held, .slice v.x v.kv.length v.xc, .slice v.o v.c.ou.length v.oc, .slice v.p v.c.pg.length v.pc, .bool v.c.cl], .int .i64 id] w fun e w' => ∃ v' : NV, v'.c = (dK v.c id).1 ∧ e = .returned (.tuple #[.agg ⟨NC v'⟩, .string (dK v.c id).2.1, .bool (dK v.c id).2.2]) ∧ OutN A w w' v' := by
 refine aI Tryz.func47 rfl Tryz.ntmps47 J J ?_
 have hz := (hv.toVB.szl hms).n hN
 have hzk := hz.ks
 obtain ⟨o, ho⟩ : ∃ o, cX id v.c.ks 0 = o := ⟨_, rfl⟩
 repeat' (first | refine ai ?_ | refine aa ?_ | refine ab ?_ | refine ag ?_ | (refine aR J J J J J J ?_; intro g2) | (refine aD af J J J J J J ?_; intro g4) | ((refine' ap rfl ?_ J J ?_); rotate_left; first | exact ak af J J J J | exact aq af J J J J J J | exact ae af 1 J J J J J) | refine aH rfl (av J J J J ⟨J, J, trivial⟩ rfl (by kernel_rfl)) (fun w hm => nK v id o w (hN.below hm.below) (by omega) ho) J J ?_)
 cases o with
 | none =>
  have hrl : dK v.c id = (v.c, emptyB, false) := by unfold dK; rw [ho]
  rw [hrl]
  repeat' (first | refine ab ?_ | refine ag ?_ | ((refine' ap rfl ?_ J J ?_); rotate_left; first | exact tS J J | exact tR (.slice none 0 0) J J | exact ak af J J J J | exact aq af J J J J J J | exact bN J J J J J | exact bo af J J J J J J J))
  refine aB J J ?_
  repeat' (first | refine ai ?_ | refine aa ?_ | refine ab ?_ | refine az ?_ | refine ar ?_ | refine ag ?_ | ((refine' ap rfl ?_ J J ?_); rotate_left; first | exact ak af J J J J | exact ae af 1 J J J J J) | refine aj af 0 J J J J J J J J J J J J ?_)
  (refine aA af (fun _ => 0) J J ⟨J, trivial⟩ rfl fun w1 hm => ⟨v, rfl, rfl, OutN.same hN hm.below⟩)
 | some i =>
  obtain ⟨q, hq, _⟩ := ga ho
  obtain ⟨u, hu, huk⟩ : ∃ u, v.kv[i]? = some u ∧ u.k = q := by rw [hN.eq, List.getElem?_map] at hq; simpa using hq
  subst huk
  have hat := ma hN.eq hu
  have hum := List.mem_of_getElem? hu
  have hi : i < v.kv.length := (List.getElem?_eq_some_iff.1 hu).1
  obtain ⟨bb, boff, hx, _, _, hrows⟩ := hN.ks (by omega)
  have hcell : w.cell? ⟨bb, boff + i * 22 + 20, none⟩ = some (.slice u.i u.k.ib.length u.ic) := hrows i u hu 20 _ rfl
  have hng : decide (((i : Nat) : Int) < 0) = false := decide_eq_false (by omega)
  rw [hx]
  repeat' (first | refine ab ?_ | refine ag ?_ | ((refine' ap rfl ?_ J J ?_); rotate_left; first | exact bO af (m := 22) i J J J J J J J J (fun _ => rfl) (fun _ => hi) | exact fi af (v := .slice u.i u.k.ib.length u.ic) J J J J J (fun _ => hcell) | exact ak af J J J J | exact aq af J J J J J J | exact bN J J J J J | exact bo af J J J J J J J))
  by_cases hib : u.k.ib = []
  · skip
    have hrl : dK v.c id = (v.c, emptyB, false) := by unfold dK; rw [ho]; dsimp only; rw [hat, hib]
    rw [hrl, ← hx]
    refine aB rfl (by rw [hib]; simp) ?_
    repeat' (first | refine ai ?_ | refine aa ?_ | refine ab ?_ | refine az ?_ | refine ar ?_ | refine ag ?_ | ((refine' ap rfl ?_ J J ?_); rotate_left; first | exact ak af J J J J | exact ae af 1 J J J J J) | refine aj af 0 J J J J J J J J J J J J ?_)
    (refine aA af (fun _ => 0) J J ⟨J, trivial⟩ rfl fun w1 hm => ⟨v, rfl, rfl, OutN.same hN hm.below⟩)
  · obtain ⟨s, r, hib⟩ : ∃ s r, u.k.ib = s :: r := by cases h : u.k.ib with | nil => exact absurd h hib | cons s r => exact ⟨s, r, rfl⟩
    refine am rfl (by show (decide (((i : Nat) : Int) < 0) || (((u.k.ib.length : Nat) : Int) == 0)) = false; rw [hng, hib, List.length_cons]; simp; omega) ?_
    rw [← hx]
    repeat' (first | refine ai ?_ | refine aa ?_ | refine ab ?_ | refine ay ?_ | ((refine' ap rfl ?_ J J ?_); rotate_left; exact ae af 1 J J J J J))
    refine cy (σ := NV) (fun s => s.c = v.c ∧ s.kv.map (·.k) = v.kv.map (·.k)) (fun s => .agg ⟨NC s⟩) (fun s => EN s) rfl (av J J J J ⟨J, trivial⟩ rfl (by kernel_rfl)) (fun w1 hm => dz v w1 (hN.below hm.below) hz) J J ?_
    rintro ⟨c1, x1, xc1, kv1, o1, oc1, p1, pc1⟩ ⟨hc1, hkm⟩
    dsimp only at hc1 hkm
    subst hc1
    dsimp only [EN, NC, List.cons_append, List.nil_append]
    refine d6 (fun w1 hm => n6 hm) (fun hFK => ?_)
    refine d6 (fun w1 hm => xY hm) (fun hcap => ?_)
    refine bI (fun w1 hm => jk hm) ?_
    have hlk : kv1.length = v.kv.length := fP hkm
    obtain ⟨u1, hu1, hu1k⟩ := mb hkm hu
    have hum1 := List.mem_of_getElem? hu1
    have hi1 : i < kv1.length := (List.getElem?_eq_some_iff.1 hu1).1
    have hib1 : u1.k.ib = s :: r := by rw [hu1k]; exact hib
    have hcp0 := (hcap u1 hum1).1
    have hcp1 : r.length + 1 ≤ u1.ic := by rw [hib1] at hcp0; exact hcp0
    have hl0 : 0 < u1.k.ib.length := by rw [hib1]; exact Nat.succ_pos _
    refine ip 2 rfl (by omega) ?_
    rintro gx rfl
    refine d6 (p := ∃ b off, u1.i = some ⟨b, off, none⟩ ∧ ∀ w, (∀ u ∈ kv1, KOk (FK kv1) w u) → w.cell? ⟨b, off + 0 * 1, none⟩ = some (.string s)) (fun w hM => ?_) (fun hpp => ?_)
    · obtain ⟨b, off, e1, e2⟩ := lr ((hM.2.get (i := 3) rfl).2.1 u1 hum1).2.1 hl0
      exact ⟨b, off, e1, fun w' h' => e2 w' (h' u1 hum1).2.1 0 s (by rw [hib1]; rfl) 0 _ rfl⟩
    obtain ⟨b, off, hui, hmsg⟩ := hpp
    have hcp0' := hcp0
    repeat' (first | refine ai ?_ | refine aa ?_ | refine ab ?_ | refine ag ?_ | (refine aD af J J J J J J ?_; intro g8) | ((refine' ap rfl ?_ J J ?_); rotate_left; first | exact bO af (m := 22) i J J J J J J J J (fun _ => rfl) (fun _ => hi1) | exact ak af J J J J | exact ae af 0 J J J J J) | refine aj af 0 J J J J J J J J J J J J ?_)
    ((refine' ap rfl ?_ J J ?_); rotate_left; exact cg af 3 (v := .slice (some ⟨b, off, none⟩) u1.k.ib.length u1.ic) J J J J J J (fun _ => by rw [Nat.zero_add, ← hui]; exact be aV hu1 (k := 20) rfl))
    repeat' (first | refine ai ?_ | refine aa ?_ | refine ab ?_ | refine ag ?_ | ((refine' ap rfl ?_ J J ?_); rotate_left; first | exact bO af (m := 1) 0 J J J J J J J J (fun _ => rfl) (fun _ => hl0) | exact wO af 4 (v := .string s) J J J J J J (fun _ w h => hmsg w h) | exact ak af J J J J))
    ((refine' ap rfl ?_ J J ?_); rotate_left; exact cg af 3 (v := .slice (some ⟨b, off, none⟩) u1.k.ib.length u1.ic) J J J J J J (fun _ => by rw [Nat.zero_add, ← hui]; exact be aV hu1 (k := 20) rfl))
    ((refine' ap rfl ?_ J J ?_); rotate_left; exact j1 af 1 u1.k.ib.length J J J J J J J J J J J hl0 hcp0)
    repeat' (((refine' ap rfl ?_ J J ?_); rotate_left; exact ak af J J J J))
    refine cM af 3 J J J J J J J J J (show iu _ (0 + i * 22 + 20) _ = _ from by rw [Nat.zero_add]; exact cK aV (kv1) i 20 (u1) ({ u1 with k := { u1.k with ib := r }, i := zy (some ⟨b, off, none⟩) u1.ic 1, ic := u1.ic - 1 }) _ hu1 (by rw [show u1.k.ib.length - 1 = r.length by rw [hib1]; rfl]; rfl)) J J ?_
    obtain ⟨u2, hu2⟩ : ∃ u2 : KV, { u1 with k := { u1.k with ib := r }, i := zy (some ⟨b, off, none⟩) u1.ic 1, ic := u1.ic - 1 } = u2 := ⟨_, rfl⟩
    rw [hu2]
    have hk2 : u2.k = { u.k with ib := r } := by rw [← hu2, ← hu1k]
    have hok2 : ∀ w, (∀ x ∈ kv1, KOk (FK kv1) w x) → KOk (FK kv1) w u2 := fun w h => by
     obtain ⟨h1, h2, h3⟩ := h u1 hum1
     rw [← hu2]
     rw [hib1, hui] at h2
     exact ⟨h1, x6 h2 hcp1, h3⟩
    obtain ⟨kv2, hkv2⟩ : ∃ l, kv1.set i u2 = l := ⟨_, rfl⟩
    have hat2 : kv2[i]? = some u2 := by rw [← hkv2]; exact dy hu1 _
    have hl2 : kv1.length = kv2.length := by rw [← hkv2, List.length_set]
    have hokv2 : ∀ w, (∀ x ∈ kv1, KOk (FK kv1) w x) → ∀ x ∈ kv2, KOk (FK kv1) w x := fun w h x hx => by
     rw [← hkv2] at hx
     rcases gb hi1 hx with rfl | hx
     · exact hok2 w h
     · exact h x (List.mem_of_mem_eraseIdx hx)
    have hks2 : kv2.map (·.k) = v.c.ks.set i { u.k with ib := r } := by rw [← hkv2, List.map_set, hk2, hkm, hN.eq]
    have hci : v.c.ks[i]? = some u.k := by rw [hN.eq, List.getElem?_map, hu]; rfl
    have hp := hv.pk u.k (List.mem_of_getElem? hci)
    have hcs := dj s
    have htot2 : bh (v.c.ks.set i { u.k with ib := r }) ≤ v.c.rw.held := by
     rw [dk hci, hib, aZ]
     have := hv.tt
     show bh v.c.ks - (aT s + aZ r) + aZ r ≤ v.c.rw.held
     omega
    have hrs : eb v.c i (fun k => { k with ib := r }) = { v.c with ks := v.c.ks.set i { u.k with ib := r } } := bQ hci _
    have hoz := ((hv.toVB.szl hms)).ou.1
    rw [hkv2, hl2]
    repeat' (first | refine ai ?_ | refine aa ?_ | refine ab ?_ | refine ag ?_ | ((refine' ap rfl ?_ J J ?_); rotate_left; exact ak af J J J J))
    ((refine' ap rfl ?_ J J ?_); rotate_left; exact cg af 3 (v := .bool u2.k.st.done) J J J J J J (fun _ => by rw [Nat.zero_add]; exact be aV hat2 (k := 7) rfl))
    repeat' (first | refine ab ?_ | refine ag ?_ | ((refine' ap rfl ?_ J J ?_); rotate_left; exact ak af J J J J))
    by_cases hd : u.k.st.done = true
    · have hd2 : u2.k.st.done = true := by rw [hk2]; exact hd
      have hrl : dK v.c id = (gbC { v.c with ks := kv2.map (·.k) }, s, true) := by
       unfold dK; rw [ho]; dsimp only; rw [hat, hib]; dsimp only; rw [if_pos hd, hrs, hks2]
      rw [hrl]
      have httkv2 := htot2
      refine am rfl (by rw [hd2]; rfl) ?_
      have htot : bh (kv2.map (·.k)) ≤ v.c.rw.held := by rw [hks2]; exact httkv2
      have hzx : ∀ x ∈ kv2, x.k.ib.length ≤ 8796093022208 := fun x hx => by
       have h1 := jj x.k.ib
       have h2 : aZ x.k.ib ≤ bh (kv2.map (·.k)) := gp (List.mem_map_of_mem hx)
       have h3 := (bi.1 hv.rw)
       omega
      obtain ⟨T, hT⟩ : ∃ T, bh (kv2.map (·.k)) = T := ⟨_, rfl⟩
      have hT0 : 0 ≤ T := by rw [← hT]; exact en _
      have hT1 : T ≤ v.c.rw.held := by rw [← hT]; exact htot
      have hT2 : bh (kv2.map (·.k)) ≤ 4611686018427387904 := by have h3 := (bi.1 hv.rw); omega
      repeat' (first | refine ai ?_ | refine aa ?_ | refine ab ?_ | refine ay ?_ | ((refine' ap rfl ?_ J J ?_); rotate_left; first | exact ak af J J J J | exact ae af 0 J J J J J))
      refine aH rfl (av J J J J ⟨J, trivial⟩ rfl (by kernel_rfl)) (fun w1 hm => mz (⟨{ v.c with ks := kv2.map (·.k), ou := v.c.ou }, some ⟨gx, 0, none⟩, xc1, kv2, o1, oc1, p1, pc1⟩ : NV) T hT w1 (gM (hm.2.get (i := 3) rfl) (hm.2.get (i := 2) rfl) (hm.2.get (i := 1) rfl) rfl (hokv2 w1 (hm.2.get (i := 4) rfl).2.1)) (show kv2.length ≤ 606626243774 by omega) hT2 hzx) J J ?_
      refine bD (σ := Value × Option Addr × Nat) (fun _ => True) (fun s => s.1) (fun s => _) rfl (av J J J J ⟨J, J, J, J, trivial⟩ rfl (by kernel_rfl)) (fun w1 hM => (iT g8 _ _ _ _ _ _ _ _ _ _ v.c.cl v.c.rw o1 oc1 (v.c.ou) 0 T w1 hv.rw hT0 hT1 (by omega) (hM.perm (List.perm_middle (l₁ := [_, _])))).mono fun e w' ⟨s, h1, h2, h3⟩ => ⟨s, h1, h2, h3⟩) J J ?_
      rintro ⟨rv, ta, tc⟩ -
      have hcx : gbC { v.c with ks := kv2.map (·.k) } = { v.c with rw := ft v.c.cl v.c.rw T, ks := kv2.map (·.k), ou := eK v.c.cl v.c.rw T 0 (v.c.ou) } := by rw [gu]; dsimp only; rw [hT]
      repeat' (first | refine ai ?_ | refine aa ?_ | refine ab ?_ | refine az ?_ | refine ag ?_ | ((refine' ap rfl ?_ J J ?_); rotate_left; first | exact ak af J J J J | exact ae af 1 J J J J J) | refine aj af 5 J J J J J J J J J J J J ?_)
      (refine aA af (fun _ => 5) J J ⟨J, trivial⟩ rfl fun w1 hm => ⟨⟨gbC { v.c with ks := kv2.map (·.k) }, some ⟨gx, 0, none⟩, xc1, kv2, ta, tc, p1, pc1⟩, rfl, ?_, ?_⟩)
      · rw [hcx]
      · refine fE hm.below (hm.2.get (i := 3) rfl) ?_ ?_ ?_ (fun x hx => (hokv2 w1 (hm.2.get (i := 4) rfl).2.1 x hx).mono hFK)
        · rw [hcx]; exact hm.2.get (i := 0) rfl
        · rw [hcx]; exact hm.2.get (i := 2) rfl
        · rw [hcx]
    · have hd2 : u2.k.st.done = false := by rw [hk2]; exact eq_false_of_ne_true hd
      have hun := hp.un (eq_false_of_ne_true hd)
      rw [hib, aZ] at hun
      have hr0 := eJ r
      have hst : u2.k.st = u.k.st := by rw [hk2]
      have hib2 : u2.k.ib = r := by rw [hk2]
      have hrv : bq u2.k.st.rcv = true := by rw [hst]; exact hp.vs.rv
      have hr1 : aZ u2.k.ib ≤ u2.k.st.rcv.held := by rw [hib2, hst]; omega
      have hr2 : aZ u2.k.ib ≤ 4611686018427387904 := by have := bi.1 hrv; omega
      have hr3 : u2.k.ib.length ≤ 8796093022208 := by have := jj u2.k.ib; have := bi.1 hrv; omega
      refine aB rfl (by rw [hd2]; rfl) ?_
      repeat' (first | refine ai ?_ | refine aa ?_ | refine ab ?_ | refine az ?_ | refine ay ?_ | refine aM ?_ | refine bF ?_ | refine ar ?_ | refine aO ?_ | refine ax ?_ | refine aW ?_ | refine aS ?_ | refine cF rfl ?_ | refine ag ?_ | refine bP ?_ | (refine cO ?_; intro g) | ((first | refine' ap rfl ?_ J J ?_ | refine' dJ rfl ?_ J J J ?_); rotate_left; first | exact ak af J J J J | exact aq af J J J J J J | exact bN J J J J J | exact bV J J J J J | exact ae af 0 J J J J J | exact ae af 1 J J J J J | exact ae af 2 J J J J J | exact ae af 3 J J J J J | exact ae af 4 J J J J J | exact ae af 5 J J J J J | exact ae af 6 J J J J J | exact ae af 7 J J J J J | exact ff af fN J J J J J J (by kernel_rfl) | exact fW af fN J J J J J J (by kernel_rfl) | exact bo af J J J J J J J | exact fc J J J J J | exact fV J J J J J | exact jn J J J J J J J | exact au af J J trivial J J J | exact au af J J ⟨J, trivial⟩ J J J | exact au af J J ⟨J, J, trivial⟩ J J J | exact au af J J ⟨J, J, J, trivial⟩ J J J | exact au af J J ⟨J, J, J, J, trivial⟩ J J J | exact au af J J ⟨J, J, J, J, J, trivial⟩ J J J | exact au af J J ⟨J, J, J, J, J, J, trivial⟩ J J J | exact au af J J ⟨J, J, J, J, J, J, J, trivial⟩ J J J | exact au af J J ⟨J, J, J, J, J, J, J, J, trivial⟩ J J J) | (refine aR J J J J J J ?_; intro g) | (refine aD af J J J J J J ?_; intro g) | refine ci af J J J J J J ?_ | refine fX J J J J J J ?_ | refine aj af 0 J J J J J J J J J J J J ?_ | refine aj af 1 J J J J J J J J J J J J ?_ | refine aj af 2 J J J J J J J J J J J J ?_ | refine aj af 3 J J J J J J J J J J J J ?_ | refine aj af 4 J J J J J J J J J J J J ?_ | refine aj af 5 J J J J J J J J J J J J ?_ | refine aj af 6 J J J J J J J J J J J J ?_ | refine aj af 7 J J J J J J J J J J J J ?_)
      refine b9 [true, true, true, true, true, true, true] (fun _ => True) aC (by kernel_rfl) J J (fun _ _ => trivial) ?_
      iterate 7 (((refine' gJ J J ?_ J J ?_); rotate_left; exact ak af J J J J))
      ((refine' gJ J J ?_ J J ?_); rotate_left; exact jb af 3 (cs := KC u2) J J J J J J (fun _ j x hx => by rw [Nat.zero_add]; exact be aV hat2 hx))
      refine mR rfl (av J J J J ⟨J, trivial⟩ rfl (by kernel_rfl)) J J (fun w1 hm => CH u2 _ rfl w1 (hok2 w1 (hm.2.get (i := 4) rfl).2.1).2.1 hr2 hr3) (fun w1 hm => ⟨hm.mask [true, true, true, true, true, true, true] rfl, trivial⟩) J J ?_
      refine fS (σ := Value × Option Addr × Nat) (fun _ => True) (fun s => s.1) (fun s => _) rfl (av J J J J ⟨J, J, J, J, trivial⟩ rfl (by kernel_rfl)) (fun w1 hM => (xU g8 gx xc1 kv2.length i _ _ _ _ _ _ _ _ _ _ _ _ _ v.c.cl kv2 u2 hat2 o1 oc1 v.c.ou id (aZ u2.k.ib) w1 hrv (eJ _) hr1 (by omega) (hM.perm (Ck _ _ _ _ _))).mono fun e w' ⟨s, h1, h2, h3⟩ => ⟨s, h1, h2, h3⟩) J J ?_
      rintro ⟨rv, qa, qc⟩ -
      obtain ⟨u3, hu3⟩ : ∃ u3 : KV, { u2 with k := { u2.k with st := { u2.k.st with rcv := ft v.c.cl u2.k.st.rcv (aZ u2.k.ib) } } } = u3 := ⟨_, rfl⟩
      rw [hu3]
      have hok3 : ∀ w, (∀ x ∈ kv1, KOk (FK kv1) w x) → KOk (FK kv1) w u3 := fun w h => by
       rw [← hu3]; exact hok2 w h
      obtain ⟨kv3, hkv3⟩ : ∃ l, kv2.set i u3 = l := ⟨_, rfl⟩
      have hi2 : i < kv2.length := (List.getElem?_eq_some_iff.1 hat2).1
      have hl3 : kv2.length = kv3.length := by rw [← hkv3, List.length_set]
      have hokv3 : ∀ w, (∀ x ∈ kv1, KOk (FK kv1) w x) → ∀ x ∈ kv3, KOk (FK kv1) w x := fun w h x hx => by
       rw [← hkv3] at hx
       rcases gb hi2 hx with rfl | hx
       · exact hok3 w h
       · exact hokv2 w h x (List.mem_of_mem_eraseIdx hx)
      have hci2 : (kv2.map (·.k))[i]? = some u2.k := by rw [List.getElem?_map, hat2]; rfl
      have hk3 : u3.k = { u2.k with st := { u2.k.st with rcv := ft v.c.cl u2.k.st.rcv (aZ u2.k.ib) } } := by rw [← hu3]
      have hks3 : kv3.map (·.k) = (kv2.map (·.k)).set i u3.k := by rw [← hkv3, List.map_set]
      obtain ⟨ou1, hou1⟩ : ∃ l, eK v.c.cl u2.k.st.rcv (aZ u2.k.ib) id v.c.ou = l := ⟨_, rfl⟩
      have hol : ou1.length ≤ v.c.ou.length + 1 := by rw [← hou1]; exact vD
      have hgk : gbK (eb v.c i (fun k => { k with ib := r })) i id = { v.c with ks := kv3.map (·.k), ou := ou1 } := by
       rw [hrs, ← hks2, vG (k := u2.k) hci2, hks3, hk3, ← hou1]
      have hrl : dK v.c id = (gbC { v.c with ks := kv3.map (·.k), ou := ou1 }, s, true) := by
       unfold dK; rw [ho]; dsimp only; rw [hat, hib]; dsimp only; rw [if_neg hd, hgk]
      rw [hrl, hkv3, hl3, hou1]
      have httkv3 : bh ((kv2.map (·.k)).set i u3.k) ≤ v.c.rw.held := by
       rw [dk hci2, hk3, hks2]
       show bh (v.c.ks.set i { u.k with ib := r }) - aZ u2.k.ib + aZ u2.k.ib ≤ v.c.rw.held
       omega
      repeat' (first | refine ai ?_ | refine aa ?_ | refine ab ?_ | ((refine' ap rfl ?_ J J ?_); rotate_left; first | exact ak af J J J J | exact ae af 2 J J J J J))
      have htot : bh (kv3.map (·.k)) ≤ v.c.rw.held := by rw [hks3]; exact httkv3
      have hzx : ∀ x ∈ kv3, x.k.ib.length ≤ 8796093022208 := fun x hx => by
       have h1 := jj x.k.ib
       have h2 : aZ x.k.ib ≤ bh (kv3.map (·.k)) := gp (List.mem_map_of_mem hx)
       have h3 := (bi.1 hv.rw)
       omega
      obtain ⟨T, hT⟩ : ∃ T, bh (kv3.map (·.k)) = T := ⟨_, rfl⟩
      have hT0 : 0 ≤ T := by rw [← hT]; exact en _
      have hT1 : T ≤ v.c.rw.held := by rw [← hT]; exact htot
      have hT2 : bh (kv3.map (·.k)) ≤ 4611686018427387904 := by have h3 := (bi.1 hv.rw); omega
      repeat' (first | refine ai ?_ | refine aa ?_ | refine ab ?_ | refine az ?_ | refine ay ?_ | refine aM ?_ | refine bF ?_ | refine ar ?_ | refine aO ?_ | refine ax ?_ | refine aW ?_ | refine aS ?_ | refine cF rfl ?_ | refine ag ?_ | refine bP ?_ | (refine cO ?_; intro g) | ((first | refine' ap rfl ?_ J J ?_ | refine' dJ rfl ?_ J J J ?_); rotate_left; first | exact ak af J J J J | exact aq af J J J J J J | exact bN J J J J J | exact bV J J J J J | exact ae af 0 J J J J J | exact ae af 1 J J J J J | exact ae af 2 J J J J J | exact ae af 3 J J J J J | exact ae af 4 J J J J J | exact ae af 5 J J J J J | exact ae af 6 J J J J J | exact ae af 7 J J J J J | exact ff af fN J J J J J J (by kernel_rfl) | exact fW af fN J J J J J J (by kernel_rfl) | exact bo af J J J J J J J | exact fc J J J J J | exact fV J J J J J | exact jn J J J J J J J | exact au af J J trivial J J J | exact au af J J ⟨J, trivial⟩ J J J | exact au af J J ⟨J, J, trivial⟩ J J J | exact au af J J ⟨J, J, J, trivial⟩ J J J | exact au af J J ⟨J, J, J, J, trivial⟩ J J J | exact au af J J ⟨J, J, J, J, J, trivial⟩ J J J | exact au af J J ⟨J, J, J, J, J, J, trivial⟩ J J J | exact au af J J ⟨J, J, J, J, J, J, J, trivial⟩ J J J | exact au af J J ⟨J, J, J, J, J, J, J, J, trivial⟩ J J J) | (refine aR J J J J J J ?_; intro g) | (refine aD af J J J J J J ?_; intro g) | refine ci af J J J J J J ?_ | refine fX J J J J J J ?_ | refine aj af 0 J J J J J J J J J J J J ?_ | refine aj af 1 J J J J J J J J J J J J ?_ | refine aj af 2 J J J J J J J J J J J J ?_ | refine aj af 3 J J J J J J J J J J J J ?_ | refine aj af 4 J J J J J J J J J J J J ?_ | refine aj af 5 J J J J J J J J J J J J ?_ | refine aj af 6 J J J J J J J J J J J J ?_ | refine aj af 7 J J J J J J J J J J J J ?_)
      refine aH rfl (av J J J J ⟨J, trivial⟩ rfl (by kernel_rfl)) (fun w1 hm => mz (⟨{ v.c with ks := kv3.map (·.k), ou := ou1 }, some ⟨gx, 0, none⟩, xc1, kv3, qa, qc, p1, pc1⟩ : NV) T hT w1 (gM (hm.2.get (i := 1) rfl) (hm.2.get (i := 0) rfl) (hm.2.get (i := 3) rfl) rfl (hokv3 w1 (hm.2.get (i := 4) rfl).2.1)) (show kv3.length ≤ 606626243774 by omega) hT2 hzx) J J ?_
      refine bD (σ := Value × Option Addr × Nat) (fun _ => True) (fun s => s.1) (fun s => _) rfl (av J J J J ⟨J, J, J, J, trivial⟩ rfl (by kernel_rfl)) (fun w1 hM => (iT g8 _ _ _ _ _ _ _ _ _ _ v.c.cl v.c.rw qa qc (ou1) 0 T w1 hv.rw hT0 hT1 (by omega) (hM.perm ((List.Perm.swap _ _ _).cons _))).mono fun e w' ⟨s, h1, h2, h3⟩ => ⟨s, h1, h2, h3⟩) J J ?_
      rintro ⟨rv, ta, tc⟩ -
      have hcx : gbC { v.c with ks := kv3.map (·.k), ou := ou1 } = { v.c with rw := ft v.c.cl v.c.rw T, ks := kv3.map (·.k), ou := eK v.c.cl v.c.rw T 0 (ou1) } := by rw [gu]; dsimp only; rw [hT]
      repeat' (first | refine ai ?_ | refine aa ?_ | refine ab ?_ | refine az ?_ | refine ag ?_ | ((refine' ap rfl ?_ J J ?_); rotate_left; first | exact ak af J J J J | exact ae af 1 J J J J J) | refine aj af 5 J J J J J J J J J J J J ?_)
      (refine aA af (fun _ => 5) J J ⟨J, trivial⟩ rfl fun w1 hm => ⟨⟨gbC { v.c with ks := kv3.map (·.k), ou := ou1 }, some ⟨gx, 0, none⟩, xc1, kv3, ta, tc, p1, pc1⟩, rfl, ?_, ?_⟩)
      · rw [hcx]
      · refine fE hm.below (hm.2.get (i := 2) rfl) ?_ ?_ ?_ (fun x hx => (hokv3 w1 (hm.2.get (i := 4) rfl).2.1 x hx).mono hFK)
        · rw [hcx]; exact hm.2.get (i := 0) rfl
        · rw [hcx]; exact hm.2.get (i := 3) rfl
        · rw [hcx]
end Go.Proofs.YthiocbcokfondaaGreatDoor.Y
namespace Go.Proofs.YthiocbcokfondaaGreatDoor.Y
open Go.RowKit
def iU (u : KV) (f : bd) : KV := if (bY u.k.st f).err ≠ 0 then fO { u with k := { u.k with st := (bE u.k.st (jD u.k)).st } } else fO { u with k := { u.k with st := (bY u.k.st f).st } }
def oE (u : KV) (f : bd) (l : List bd) : List bd := if (bY u.k.st f).err ≠ 0 then l ++ [jD u.k] else l
def tw (u : KV) (f : bd) : Bool := if (bY u.k.st f).err ≠ 0 then false else !u.k.st.done
theorem x7 {u : KV} {f : bd} {l : List bd} : (oE u f l).length ≤ l.length + 1 := by
 unfold oE
 split
 · rw [List.length_append, List.length_singleton]; exact Nat.le_refl _
 · exact Nat.le_succ _
theorem zz {A : Nat → Prop} {w : World} {u : KV} {f : bd} (h : KOk A w u) : KOk A w (iU u f) := by
 unfold iU
 split
 · exact lE ⟨h.1, h.2.1, h.2.2⟩
 · exact lE ⟨h.1, h.2.1, h.2.2⟩
theorem n9 {c : NL} {i : Nat} {u : KV} {f : bd} (hi : c.ks[i]? = some u.k) (hso : (bY u.k.st f).err ≠ 0 → (bE u.k.st (jD u.k)).err = 0) : eu c i f = { c with ks := c.ks.set i (iU u f).k, ou := oE u f c.ou } ∧ qT c i f = tw u f := by
 unfold eu qT iU oE tw
 rw [dQ hi]
 by_cases he : (bY u.k.st f).err = 0
 · rw [if_neg (by rw [he]; simp), if_neg (by rw [he]; simp), if_neg (by rw [he]; simp), if_neg (by rw [he]; simp), bQ hi, mJ]
   exact ⟨rfl, by rw [decide_eq_true he, Bool.true_and]⟩
 · rw [if_pos he, if_pos he, if_pos he, if_pos he, bQ hi, mJ, if_pos (hso he)]
   exact ⟨rfl, by rw [decide_eq_false he, Bool.false_and]⟩
theorem B1 (s : cJ) (f : bd) (r : yV) (h : bY s f = r) (w : World) (htx : s.text.size ≤ 4611686018427387900) (hfd : f.data.size < 4294967281) (hl : MLen w) : Calls Tryz.prog 204 #[.agg #[.int .i64 s.id, .int .i64 s.side, .int .i64 s.shape, .int .i64 s.sent, .int .i64 s.got, .bool s.se, .bool s.ge, .bool s.done, .int .i64 s.code, .string s.text, .int .i64 s.snd.size, .int .i64 s.snd.left, .int .i64 s.snd.held, .int .i64 s.rcv.size, .int .i64 s.rcv.left, .int .i64 s.rcv.held], .agg #[.int .i64 f.kind, .int .i64 f.strm, .int .i64 f.num, .string f.data]] w fun e w' => e = .returned (.tuple #[.agg ⟨tC r.st⟩, .int .i64 r.err]) ∧ Below w.heap.size w w' := by
 subst h
 exact w8 s.id s.side s.shape s.sent s.got s.se s.ge s.done s.code s.text s.snd.size s.snd.left s.snd.held s.rcv.size s.rcv.left s.rcv.held f.kind f.strm f.num f.data w htx hfd hl
theorem B2 (x : bm) (n : Int) (t : qP) (h : cW x n = t) (w : World) : Calls Tryz.prog 129 #[.agg #[.int .i64 x.size, .int .i64 x.left, .int .i64 x.held], .int .i64 n] w fun e w' => e = .returned (.tuple #[.agg #[.int .i64 t.win.size, .int .i64 t.win.left, .int .i64 t.win.held], .int .i64 t.err]) ∧ Below w.heap.size w w' := by
 subst h
 exact nD x n w
theorem B3 (x : bm) (n : Int) (t : qP) (h : cb x n = t) (w : World) : Calls Tryz.prog 182 #[.agg #[.int .i64 x.size, .int .i64 x.left, .int .i64 x.held], .int .i64 n] w fun e w' => e = .returned (.tuple #[.agg #[.int .i64 t.win.size, .int .i64 t.win.left, .int .i64 t.win.held], .int .i64 t.err]) ∧ Below w.heap.size w w' := by
 subst h
 exact ls x n w
theorem pz (d : ByteArray) (n : Int) (h : aT d = n) (w : World) : Calls Tryz.prog 25 #[.string d] w fun e w' => e = .returned (.int .i64 n) ∧ Below w.heap.size w w' := by
 subst h
 exact gH d w
attribute [local irreducible] Calls
set_option maxRecDepth 100000 in
set_option maxHeartbeats 8000000 in
theorem x8 (sd k : Int) (w : World) : Calls Tryz.prog 128 #[.int .i64 sd, .int .i64 k] w fun e w' => e = .returned (.bool (qS sd k)) ∧ Below w.heap.size w w' := by
 refine aI Tryz.func128 rfl Tryz.ntmps128 J J ?_
 repeat' (first | refine ai ?_ | refine aa ?_ | refine ab ?_ | refine ag ?_ | ((refine' ap rfl ?_ J J ?_); rotate_left; first | exact ak af J J J J | exact aq af J J J J J J))
 by_cases h : sd = 2
 · refine aB rfl (by simpa using h) ?_
   repeat' (first | refine ai ?_ | refine aa ?_ | refine ab ?_ | refine az ?_ | refine ar ?_ | refine ag ?_ | ((refine' ap rfl ?_ J J ?_); rotate_left; first | exact ak af J J J J | exact aq af J J J J J J | exact bN J J J J J))
   refine aA af (fun _ => 0) J J trivial rfl fun w hm => ⟨?_, hm.below⟩
   unfold qS
   rw [if_pos h]
 · refine am rfl (by simpa using h) ?_
   repeat' (first | refine ai ?_ | refine aa ?_ | refine ab ?_ | refine az ?_ | refine ay ?_ | refine ag ?_ | ((refine' ap rfl ?_ J J ?_); rotate_left; first | exact ak af J J J J | exact aq af J J J J J J | exact bN J J J J J))
   refine aA af (fun _ => 0) J J trivial rfl fun w hm => ⟨?_, hm.below⟩
   unfold qS
   rw [if_neg h]
theorem CI (sd k : Int) (b : Bool) (h : qS sd k = b) (w : World) : Calls Tryz.prog 128 #[.int .i64 sd, .int .i64 k] w fun e w' => e = .returned (.bool b) ∧ Below w.heap.size w w' := by
 subst h
 exact x8 sd k w
set_option maxRecDepth 100000 in
set_option maxHeartbeats 16000000 in
theorem sm {w0 : World} {M : List Ent} (gc gx xc nn k : Nat) (a0 a1 a2 a3 a4 a5 a6 a7 a8 a9 a10 b0 b1 b2 : Value) (kv : List KV) (u : KV) (hat : kv[k]? = some u) (o : Option Addr) (oc : Nat) (ou : List bd) (f : bd) (w : World) (htx : u.k.st.text.size ≤ 4611686018427387900) (hfd : f.data.size < 4294967281) (hou : ou.length ≤ 2000000000) (hso : (bY u.k.st f).err ≠ 0 → (bE u.k.st (jD u.k)).err = 0) (hg : MLen w0) (hM : Mem w0 w (.own o oc 65 4 ou.length ((ou).flatMap fC) :: .own (some ⟨gx, 0, none⟩) xc 39 22 nn ((kv).flatMap KC) :: .cl gc 28 [a0, a1, a2, a3, a4, a5, a6, a7, a8, a9, a10, b0, .slice o ou.length oc, b1, b2] :: M)) : Calls Tryz.prog 183 #[.pointer (some ⟨gc, 0, none⟩), .pointer (some ⟨gx, 0 + k * 22, none⟩), .agg #[.int .i64 f.kind, .int .i64 f.strm, .int .i64 f.num, .string f.data]] w fun e w' => ∃ s : Option Addr × Nat, True ∧ e = .returned (.bool (tw u f)) ∧ Mem w0 w' (.own s.1 s.2 65 4 (oE u f ou).length (((oE u f ou)).flatMap fC) :: .own (some ⟨gx, 0, none⟩) xc 39 22 nn ((kv.set k (iU u f)).flatMap KC) :: .cl gc 28 [a0, a1, a2, a3, a4, a5, a6, a7, a8, a9, a10, b0, .slice s.1 (oE u f ou).length s.2, b1, b2] :: M) := by
 obtain ⟨r, hr⟩ : ∃ r, bY u.k.st f = r := ⟨_, rfl⟩
 obtain ⟨r2, hr2⟩ : ∃ r2, bE u.k.st (jD u.k) = r2 := ⟨_, rfl⟩
 unfold iU oE tw
 rw [hr, hr2] at hso ⊢
 refine cx hM Tryz.func183 rfl Tryz.ntmps183 J J ?_
 repeat' (first | refine ai ?_ | refine aa ?_ | refine ab ?_ | refine ag ?_ | (refine aR J J J J J J ?_; intro g5) | ((refine' ap rfl ?_ J J ?_); rotate_left; exact ak af J J J J))
 ((refine' ap rfl ?_ J J ?_); rotate_left; exact cg af 2 (v := .bool u.k.st.done) J J J J J J (fun _ => by rw [Nat.zero_add]; exact be aV hat (k := 7) rfl))
 repeat' (first | refine ai ?_ | refine aa ?_ | refine ab ?_ | refine aU aC rfl (by kernel_rfl) ?_ | refine ag ?_ | (refine cO ?_; intro g) | ((first | refine' ap rfl ?_ J J ?_ | refine' dJ rfl ?_ J J J ?_); rotate_left; first | exact jb af 2 (cs := tC u.k.st) J J J J J J (fun _ i x hx => by rw [Nat.zero_add, Nat.add_zero]; exact be aV hat (mQ hx)) | exact ak af J J J J | exact aq af J J J J J J | exact ae af 0 J J J J J) | refine bu rfl (av J J J J ⟨J, J, trivial⟩ rfl (by kernel_rfl)) rfl (fun w hm => B1 u.k.st f r hr w htx hfd (hg.below hm.below)) J J ?_ | refine ci af J J J J J J ?_ | refine aj af 0 J J J J J J J J J J J J ?_)
 by_cases he : r.err = 0
 · rw [if_neg (by simpa using he), if_neg (by simpa using he), if_neg (by simpa using he)]
   refine am rfl (by simpa using he) ?_
   repeat' (first | refine ai ?_ | refine aa ?_ | refine ab ?_ | refine ay ?_ | ((refine' ap rfl ?_ J J ?_); rotate_left; first | exact ak af J J J J | exact ae af 0 J J J J J))
   refine cM af 3 J J J J J J J J J (show iu _ (0 + k * 22 + 0) _ = _ from by rw [Nat.zero_add]; exact cK aV (kv) k 0 (u) ({ u with k := { u.k with st := r.st } }) _ hat rfl) J J ?_
   repeat' (first | refine ai ?_ | refine aa ?_ | refine ab ?_ | refine ag ?_ | ((refine' ap rfl ?_ J J ?_); rotate_left; exact ak af J J J J))
   have hat1 : (kv.set k { u with k := { u.k with st := r.st } })[k]? = some { u with k := { u.k with st := r.st } } := dy hat _
   refine bI (fun w1 hm => hm.perm (List.perm_middle (l₁ := [_, _, _]))) ?_
   dsimp only [List.cons_append, List.nil_append]
   refine bD (σ := Value) (fun _ => True) (fun r => r) (fun _ => _) rfl (av J J J J ⟨J, trivial⟩ rfl (by kernel_rfl)) (fun w hM => (iQ gx xc nn k (kv.set k { u with k := { u.k with st := r.st } }) { u with k := { u.k with st := r.st } } hat1 w hM).mono fun e w' ⟨r, h1, h2, h3⟩ => ⟨r, trivial, h2, h3⟩) J J ?_
   rintro rv -
   rw [List.set_set]
   repeat' (first | refine ai ?_ | refine aa ?_ | refine ab ?_ | refine az ?_ | refine ag ?_ | ((refine' ap rfl ?_ J J ?_); rotate_left; exact ak af J J J J))
   (refine aA af (fun _ => 0) J J trivial rfl fun w1 hm => ?_)
   refine ⟨(o, oc), trivial, rfl, ?_⟩
   exact (hm.mask [true, false, false, true, true] rfl).perm (List.Perm.swap _ _ _)
 · rw [if_pos he, if_pos he, if_pos he]
   have he2 : r2.err = 0 := hso he
   refine aB rfl (by simpa using he) ?_
   repeat' (first | refine ai ?_ | refine aa ?_ | ((refine' ap rfl ?_ J J ?_); rotate_left; exact ak af J J J J))
   ((refine' ap rfl ?_ J J ?_); rotate_left; exact cg af 3 (v := .int .i64 u.k.st.id) J J J J J J (fun _ => by rw [Nat.zero_add]; exact be aV hat (k := 0) rfl))
   repeat' (first | refine ai ?_ | refine ab ?_ | refine ag ?_ | (refine aD af J J J J J J ?_; intro g10) | ((refine' ap rfl ?_ J J ?_); rotate_left; exact au af J J ⟨J, J, J, trivial⟩ J J J) | refine aj af 0 J J J J J J J J J J J J ?_)
   refine cP 7 [40] [] aC rfl (by kernel_rfl) ?_
   iterate 6 (((refine' jK rfl ?_ J J J ?_); rotate_left; first | exact ak af J J J J | exact ae af 0 J J J J J | exact ae af 5 J J J J J))
   refine di af 39 J J (by simp [aF]) rfl (by simp [aF]) rfl ⟨J, trivial⟩ J J J J J J J J J J J ?_
   refine fp ?_
   rintro s1 -
   dsimp only [List.cons_append, List.nil_append]
   refine bW af 4 0 J J J J J J J J J (fun _ _ => rfl) f4 J J (by unfold maxLen; omega) (by omega) J J ?_
   intro sa sc
   repeat' (first | refine ai ?_ | refine ab ?_ | refine ag ?_ | ((refine' ap rfl ?_ J J ?_); rotate_left; exact ak af J J J J) | refine aj af 6 J J J J J J J J J J J J ?_)
   refine aU aC rfl (by kernel_rfl) ?_
   repeat' (first | refine ai ?_ | refine aa ?_ | refine ab ?_ | refine ag ?_ | refine bP ?_ | ((first | refine' ap rfl ?_ J J ?_ | refine' dJ rfl ?_ J J J ?_); rotate_left; first | exact jb af 5 (cs := tC u.k.st) J J J J J J (fun _ i x hx => by rw [Nat.zero_add, Nat.add_zero]; exact be aV hat (mQ hx)) | exact ak af J J J J | exact aq af J J J J J J | exact ae af 1 J J J J J) | refine bu rfl (av J J J J ⟨J, J, trivial⟩ rfl (by kernel_rfl)) rfl (fun w hm => nH u.k.st (jD u.k) r2 hr2 w htx (show (0 : Nat) < 4294967281 by decide) (hg.below hm.below)) J J ?_ | refine aj af 2 J J J J J J J J J J J J ?_)
   refine aB rfl (by simpa using he2) ?_
   repeat' (first | refine aa ?_ | ((refine' ap rfl ?_ J J ?_); rotate_left; first | exact ak af J J J J | exact ae af 2 J J J J J))
   refine cM af 5 J J J J J J J J J (show iu _ (0 + k * 22 + 0) _ = _ from by rw [Nat.zero_add]; exact cK aV (kv) k 0 (u) ({ u with k := { u.k with st := r2.st } }) _ hat rfl) J J ?_
   repeat' (first | refine ai ?_ | refine aa ?_ | refine ab ?_ | refine ag ?_ | ((refine' ap rfl ?_ J J ?_); rotate_left; exact ak af J J J J))
   have hat1 : (kv.set k { u with k := { u.k with st := r2.st } })[k]? = some { u with k := { u.k with st := r2.st } } := dy hat _
   refine bI (fun w1 hm => hm.perm (List.perm_middle (l₁ := [_, _, _, _, _]))) ?_
   dsimp only [List.cons_append, List.nil_append]
   refine bD (σ := Value) (fun _ => True) (fun r => r) (fun _ => _) rfl (av J J J J ⟨J, trivial⟩ rfl (by kernel_rfl)) (fun w hM => (iQ gx xc nn k (kv.set k { u with k := { u.k with st := r2.st } }) { u with k := { u.k with st := r2.st } } hat1 w hM).mono fun e w' ⟨r, h1, h2, h3⟩ => ⟨r, trivial, h2, h3⟩) J J ?_
   rintro rv -
   rw [List.set_set]
   repeat' (first | refine ai ?_ | refine aa ?_ | refine ab ?_ | refine az ?_ | refine ar ?_ | refine ag ?_ | ((refine' ap rfl ?_ J J ?_); rotate_left; exact ak af J J J J))
   (refine aA af (fun _ => 0) J J trivial rfl fun w1 hm => ?_)
   refine ⟨(sa, sc), trivial, rfl, ?_⟩
   rw [List.length_append, List.flatMap_append, List.flatMap_singleton]
   exact (hm.mask [true, false, false, false, false, true, true] rfl).perm (List.Perm.swap _ _ _)
set_option maxRecDepth 100000 in
set_option maxHeartbeats 16000000 in
theorem vI (v : NV) (f : bd) (w : World) (hfd : f.data.size < 4294967281) (hg : MLen w) : Calls Tryz.prog 68 #[.agg #[.int .i64 v.c.sd, .int .i64 v.c.nx, .int .i64 v.c.la, .int .i64 v.c.aw, .int .i64 v.c.sz, .int .i64 v.c.sw.size, .int .i64 v.c.sw.left, .int .i64 v.c.sw.held, .int .i64 v.c.rw.size, .int .i64 v.c.rw.left, .int .i64 v.c.rw.held, .slice v.x v.kv.length v.xc, .slice v.o v.c.ou.length v.oc, .slice v.p v.c.pg.length v.pc, .bool v.c.cl], .agg #[.int .i64 f.kind, .int .i64 f.strm, .int .i64 f.num, .string f.data]] w fun e w' => e = .returned (.int .i64 (kg v.c f)) ∧ Below w.heap.size w w' := by
 refine aI Tryz.func68 rfl Tryz.ntmps68 J J ?_
 obtain ⟨ef, hef⟩ : ∃ x, aQ f = x := ⟨_, rfl⟩
 obtain ⟨bf, hbf⟩ : ∃ x, qS v.c.sd f.kind = x := ⟨_, rfl⟩
 obtain ⟨n, hn⟩ : ∃ x, aT f.data = x := ⟨_, rfl⟩
 obtain ⟨t, ht⟩ : ∃ x, cW v.c.sw f.num = x := ⟨_, rfl⟩
 have hre : kg v.c f = if ef ≠ 0 ∨ bf = true then 1 else if (f.kind = 1) = (f.strm ≤ v.c.la) then 11 else if f.kind = 2 ∧ v.c.rw.left < n then 22 else if f.kind = 6 ∧ f.strm = 0 ∧ t.err ≠ 0 then 6 else 0 := by unfold kg; rw [hef, hbf, hn, ht]
 rw [hre]
 repeat' (first | refine ai ?_ | refine aa ?_ | refine ab ?_ | refine ag ?_ | (refine aR J J J J J J ?_; intro g2) | ((refine' ap rfl ?_ J J ?_); rotate_left; first | exact ak af J J J J | exact aq af J J J J J J | exact bN J J J J J | exact ae af 0 J J J J J | exact ae af 1 J J J J J) | refine aH rfl (av J J J J ⟨J, trivial⟩ rfl (by kernel_rfl)) (fun w hm => rO f ef hef w (hg.below hm.below) hfd) J J ?_ | refine aH rfl (av J J J J ⟨J, J, trivial⟩ rfl (by kernel_rfl)) (fun w hm => CI v.c.sd f.kind bf hbf w) J J ?_)
 by_cases h1 : ef ≠ 0 ∨ bf = true
 · rw [if_pos h1]
   refine aB rfl (by simpa using h1) ?_
   repeat' (first | refine ai ?_ | refine aa ?_ | refine ab ?_ | refine az ?_ | refine ar ?_ | refine ag ?_ | ((refine' ap rfl ?_ J J ?_); rotate_left; exact ak af J J J J))
   refine aA af (fun _ => 0) J J trivial rfl fun w hm => ⟨?_, hm.below⟩
   rfl
 rw [if_neg h1]
 refine am rfl (by
  cases h : ((ef != 0) || bf) with
  | false => rfl
  | true => exact absurd (by simpa using h) h1) ?_
 repeat' (first | refine ai ?_ | refine aa ?_ | refine ab ?_ | refine ay ?_ | refine ag ?_ | ((refine' ap rfl ?_ J J ?_); rotate_left; first | exact ak af J J J J | exact aq af J J J J J J | exact ae af 0 J J J J J | exact ae af 1 J J J J J))
 by_cases h2 : (f.kind = 1) = (f.strm ≤ v.c.la)
 · rw [if_pos h2]
   refine aB rfl (by
    by_cases a : f.kind = 1
    · have b : f.strm ≤ v.c.la := h2 ▸ a
      simp [a, b]
    · have b : ¬ f.strm ≤ v.c.la := h2 ▸ a
      simp [a, b]) ?_
   repeat' (first | refine ai ?_ | refine aa ?_ | refine ab ?_ | refine az ?_ | refine ar ?_ | refine ag ?_ | ((refine' ap rfl ?_ J J ?_); rotate_left; exact ak af J J J J))
   refine aA af (fun _ => 0) J J trivial rfl fun w hm => ⟨?_, hm.below⟩
   rfl
 rw [if_neg h2]
 refine am rfl (by
  by_cases a : f.kind = 1
  · have b : ¬ f.strm ≤ v.c.la := fun b => h2 (propext ⟨fun _ => b, fun _ => a⟩)
    simp [a, b]
  · have b : f.strm ≤ v.c.la := by
     refine Decidable.byContradiction fun b => h2 (propext ⟨fun h => absurd h a, fun h => absurd h b⟩)
    simp [a, b]) ?_
 repeat' (first | refine ai ?_ | refine ab ?_ | refine ay ?_ | refine aM ?_ | refine aU aC rfl (by kernel_rfl) ?_ | refine ag ?_ | refine bP ?_ | ((refine' dJ rfl ?_ J J J ?_); rotate_left; first | exact ak af J J J J | exact aq af J J J J J J | exact bV J J J J J | exact ae af 0 J J J J J | exact ae af 1 J J J J J) | refine bu rfl (av J J J J ⟨J, trivial⟩ rfl (by kernel_rfl)) rfl (fun w hm => pz f.data n hn w) J J ?_)
 by_cases h3 : f.kind = 2 ∧ v.c.rw.left < n
 · rw [if_pos h3]
   refine aB rfl (by simp only [Bool.and_eq_true, beq_iff_eq, decide_eq_true_eq]; omega) ?_
   repeat' (first | refine ai ?_ | refine aa ?_ | refine ab ?_ | refine az ?_ | refine ar ?_ | refine aW ?_ | refine ag ?_ | ((refine' ap rfl ?_ J J ?_); rotate_left; exact ak af J J J J))
   refine aA af (fun _ => 0) J J trivial rfl fun w hm => ⟨?_, hm.below⟩
   rfl
 rw [if_neg h3]
 refine am rfl (by simp only [Bool.and_eq_false_iff, beq_eq_false_iff_ne, decide_eq_false_iff_not]; omega) ?_
 repeat' (first | refine ai ?_ | refine aa ?_ | refine ab ?_ | refine ag ?_ | ((refine' ap rfl ?_ J J ?_); rotate_left; first | exact ak af J J J J | exact aq af J J J J J J | exact bV J J J J J | exact ae af 0 J J J J J))
 by_cases h4 : f.kind = 6 ∧ f.strm = 0
 · refine aB rfl (by simp only [Bool.and_eq_true, beq_iff_eq]; exact h4) ?_
   repeat' (first | refine ai ?_ | refine aa ?_ | refine ab ?_ | refine ag ?_ | (refine aD af J J J J J J ?_; intro g5) | ((refine' ap rfl ?_ J J ?_); rotate_left; first | exact ak af J J J J | exact aq af J J J J J J | exact ae af 0 J J J J J | exact ae af 1 J J J J J) | refine aH rfl (av J J J J ⟨J, J, trivial⟩ rfl (by kernel_rfl)) (fun w hm => B2 v.c.sw f.num t ht w) J J ?_ | refine aj af 0 J J J J J J J J J J J J ?_)
   by_cases h5 : t.err = 0
   · rw [if_neg (fun e => e.2.2 h5)]
     refine am rfl (by simpa using h5) ?_
     repeat' (first | refine ai ?_ | refine aa ?_ | refine ab ?_ | refine az ?_ | refine ay ?_ | refine ax ?_ | refine ag ?_ | ((refine' ap rfl ?_ J J ?_); rotate_left; exact ak af J J J J))
     refine aA af (fun _ => 0) J J trivial rfl fun w hm => ⟨?_, hm.below⟩
     rfl
   · rw [if_pos ⟨h4.1, h4.2, h5⟩]
     refine aB rfl (by simpa using h5) ?_
     repeat' (first | refine ai ?_ | refine aa ?_ | refine ab ?_ | refine az ?_ | refine ar ?_ | refine aW ?_ | refine ag ?_ | ((refine' ap rfl ?_ J J ?_); rotate_left; exact ak af J J J J))
     refine aA af (fun _ => 0) J J trivial rfl fun w hm => ⟨?_, hm.below⟩
     rfl
 · rw [if_neg (fun e => h4 ⟨e.1, e.2.1⟩)]
   refine am rfl (by simp only [Bool.and_eq_false_iff, beq_eq_false_iff_ne]; omega) ?_
   repeat' (first | refine ai ?_ | refine aa ?_ | refine ab ?_ | refine az ?_ | refine ay ?_ | refine ax ?_ | refine ag ?_ | ((refine' ap rfl ?_ J J ?_); rotate_left; exact ak af J J J J))
   refine aA af (fun _ => 0) J J trivial rfl fun w hm => ⟨?_, hm.below⟩
   rfl
end Go.Proofs.YthiocbcokfondaaGreatDoor.Y
