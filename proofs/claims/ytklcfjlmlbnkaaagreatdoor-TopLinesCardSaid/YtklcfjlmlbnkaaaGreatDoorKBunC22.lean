/- Texts of this claim merged into one: KVDat, KCn22. -/
import Derived.Test.YtklcfjlmlbnkaaaGreatDoorKBunC18
import Derived.Test.YtklcfjlmlbnkaaaGreatDoorKBunT
import Derived.Test.YtklcfjlmlbnkaaaGreatDoorKBunC20
namespace Go.Proofs.YtklcfjlmlbnkaaaGreatDoor.Y
def datP (c : NL) (f : FrV) : NL := match dj f.strm c.ks 0 with
  | none => dk c f
  | some i => if si (dk c f) i f = true then eZ (dX (dk c f) i f) i (fun k => { k with ib := k.ib ++ [f.data] }) else dX (dk c f) i f
theorem Ct (c : NL) (f : FrV) : lv c f = gbC (datP c f) := rfl
theorem VN.datP {c : NL} (h : VN c) (hc : c.cl = false) {f : FrV} (hf : ay f = 0) (hk : f.kind = 2) (hl : au f.data ≤ c.rw.left) : VN (datP c f) := by
  obtain ⟨e1, h1⟩ := pH h hl
  have hks : (dk c f).ks = c.ks := by rw [e1]
  have hcl : (dk c f).cl = false := by rw [e1]; exact hc
  unfold Y.datP
  cases hfi : dj f.strm c.ks 0 with
  | none => exact h1
  | some i =>
    obtain ⟨k, hi, hid⟩ := gz hfi
    dsimp only
    have hi1 : (dk c f).ks[i]? = some k := by rw [hks]; exact hi
    obtain ⟨k', e, hr⟩ := lf h1 hi1 hf hid.symm ⟨by omega, by omega⟩
    obtain ⟨v1, v2, v3, v4⟩ := nt h1 hcl hi1 hr
    cases hb : si (dk c f) i f with
    | false => rw [if_neg (by simp)]; exact v4 (by omega)
    | true =>
      rw [if_pos rfl, cg v3]
      have v := v4 (by omega)
      have hpk := v.pk k' (List.mem_of_getElem? v3)
      have hil := (List.getElem?_eq_some_iff.1 v3).1
      refine v.upd (k' := { k' with ib := k'.ib ++ [f.data] }) (sw' := (dX (dk c f) i f).sw) (rw' := (dX (dk c f) i f).rw) (ou' := (dX (dk c f) i f).ou) v3 ?_ rfl (fun e => e) v.sw v.ss v.sh (Int.le_refl _) (v.nf k' (List.mem_of_getElem? v3)) v.rw v.rs v.ou (fun e => (v.cl e).1) ?_
      · refine hpk.rcv (w := k'.st.rcv) (ib := k'.ib ++ [f.data]) hpk.vs.rv rfl (fun m hm => ?_) (fun hd => ?_)
        · rcases List.mem_append.1 hm with hm | hm
          · exact hpk.ib m hm
          · obtain rfl := List.mem_singleton.1 hm
            exact (fw hf).1
        · rw [kB, hr.ib]
          exact hr.da hb hk hd
      · rw [dh v3]
        show aP (dX (dk c f) i f).ks - aN k'.ib + aN (k'.ib ++ [f.data]) ≤ (dX (dk c f) i f).rw.held
        rw [kB, hr.eq]
        show aP ((dk c f).ks.set i k') - aN k'.ib + (aN k'.ib + au f.data) ≤ (dk c f).rw.held
        rw [dh hi1, hks, hr.ib, e1]
        have := h.tt
        show aP c.ks - aN k.ib + aN k.ib - aN k.ib + (aN k.ib + au f.data) ≤ c.rw.held + au f.data
        omega
theorem Cu {c : NL} (h : VN c) {i : Nat} {k : KR} (hi : c.ks[i]? = some k) {f : FrV} (hf : ay f = 0) (hid : f.strm = k.st.id) (hkk : 2 ≤ f.kind ∧ f.kind ≤ 6) : (bp k.st f).err ≠ 0 → (bh k.st (ll k)).err = 0 := fun he => by
  have hp := h.pk k (List.mem_of_getElem? hi)
  have hd0 : k.st.done = false := eq_false_of_ne_true fun e => he (by rw [uX ⟨fU.2 hp.vs, hf, hid, hkk, .old e⟩])
  have hid' := hp.vs.id
  have hfr : ay (ll k) = 0 := Iu hid'.1 hid'.2 (by decide) (by decide)
  have hso : SndOk k.st (ll k) (dN k.st 11 ⟨#[]⟩) := ⟨fU.2 hp.vs, hfr, rfl, hd0, .reset rfl⟩
  rw [ij hso]
end Go.Proofs.YtklcfjlmlbnkaaaGreatDoor.Y
namespace Go.Proofs.YtklcfjlmlbnkaaaGreatDoor.Y
open Go.RowKit
abbrev CM (gc : Nat) (F : Nat → Prop) (v : NV) (M : List Ent) : List Ent := .own v.o v.oc 74 4 v.c.ou.length (v.c.ou.flatMap fC) :: .own v.x v.xc 87 22 v.kv.length (v.kv.flatMap KC) :: .cl gc 34 [.int .i64 v.c.sd, .int .i64 v.c.nx, .int .i64 v.c.la, .int .i64 v.c.aw, .int .i64 v.c.sz, .int .i64 v.c.sw.size, .int .i64 v.c.sw.left, .int .i64 v.c.sw.held, .int .i64 v.c.rw.size, .int .i64 v.c.rw.left, .int .i64 v.c.rw.held, .slice v.x v.kv.length v.xc, .slice v.o v.c.ou.length v.oc, .slice v.p v.c.pg.length v.pc, .bool v.c.cl] :: .own v.p v.pc 3 1 v.c.pg.length (v.c.pg.flatMap iC) :: .rep F (fun w => ∀ u ∈ v.kv, KOk F w u) :: M
def FE (l : List KV) (u : KV) (i b : Nat) : Prop := ∃ e ∈ [Ent.own u.m u.mc 85 2 u.k.ms.length (u.k.ms.flatMap mC), .own u.o u.oc 74 4 u.k.ob.length (u.k.ob.flatMap fC)] ++ (l.eraseIdx i).flatMap EK, e.foot b
def PE (l : List KV) (u : KV) (i : Nat) (w : World) : Prop := Rws (FE l u i) w 2 mC u.m u.k.ms ∧ Rws (FE l u i) w 4 fC u.o u.k.ob ∧ ∀ x ∈ l.eraseIdx i, KOk (FE l u i) w x
theorem F9 {w : World} {B : Nat} {e : Ent} (h : Ent.ok B w e) (hr : ue e = false) {k : Nat} (hk : e.foot k) : B ≤ k := by
  cases e with
  | rep F p => cases hr
  | obj g o => exact (h.mut_lt (k := k) hk).1
  | own a cap e size n xs => exact (h.mut_lt (k := k) hk).1
theorem Ga {l : List KV} {u : KV} {i : Nat} : ∀ e ∈ [Ent.own u.m u.mc 85 2 u.k.ms.length (u.k.ms.flatMap mC), .own u.o u.oc 74 4 u.k.ob.length (u.k.ob.flatMap fC)] ++ (l.eraseIdx i).flatMap EK, ue e = false := fun e he => by
  rcases List.mem_append.1 he with he | he
  · simp only [List.mem_cons, List.not_mem_nil, or_false] at he
    rcases he with rfl | rfl <;> rfl
  · exact wA _ e he
theorem Gb {w0 w : World} {a b c d : Ent} {l : List KV} {u : KV} {i : Nat} {M : List Ent} (hu : l[i]? = some u) (h : Mem w0 w (a :: b :: c :: d :: (l.flatMap EK ++ M))) : Mem w0 w (a :: b :: c :: d :: .own u.i u.ic 9 1 u.k.ib.length (u.k.ib.flatMap sC) :: .rep (FE l u i) (PE l u i) :: M) ∧ ∀ k, FE l u i k → w0.heap.size ≤ k := by
  have hp : (a :: b :: c :: d :: (l.flatMap EK ++ M)).Perm (([Ent.own u.m u.mc 85 2 u.k.ms.length (u.k.ms.flatMap mC), .own u.o u.oc 74 4 u.k.ob.length (u.k.ob.flatMap fC)] ++ (l.eraseIdx i).flatMap EK) ++ (a :: b :: c :: d :: .own u.i u.ic 9 1 u.k.ib.length (u.k.ib.flatMap sC) :: M)) := by
    have h1 := (sD hu).append_right M
    have h2 : (a :: b :: c :: d :: (l.flatMap EK ++ M)).Perm ([a, b, c, d] ++ ((EK u ++ (l.eraseIdx i).flatMap EK) ++ M)) := List.Perm.append_left [a, b, c, d] h1
    refine h2.trans ?_
    unfold EK
    generalize (l.eraseIdx i).flatMap _ = R
    generalize Ent.own u.m u.mc 85 2 u.k.ms.length (u.k.ms.flatMap mC) = x
    generalize Ent.own u.o u.oc 74 4 u.k.ob.length (u.k.ob.flatMap fC) = y
    generalize Ent.own u.i u.ic 9 1 u.k.ib.length (u.k.ib.flatMap sC) = z
    have q1 : ([a, b, c, d] ++ (([x, y, z] ++ R) ++ M)).Perm ([a, b, c, d] ++ ([x, y] ++ (R ++ (z :: M)))) := List.Perm.append_left _ (List.Perm.append_left [x, y] (List.perm_middle (a := z) (l₁ := R) (l₂ := M)).symm)
    refine q1.trans ?_
    rw [← List.append_assoc [x, y] R]
    exact IL [a, b, c, d] ([x, y] ++ R) (z :: M) |>.trans (List.Perm.append_left _ (List.perm_append_comm (l₁ := z :: M) (l₂ := [a, b, c, d]))) |>.trans (List.Perm.refl _)
  have hm := h.perm hp
  have hl := (MemL.split hm.2).1
  refine ⟨?_, fun k ⟨e, he, hk⟩ => F9 (MemL.mem hl e he) (Ga e he) hk⟩
  have h2 := Mem.fuse _ (FE l u i) (PE l u i) hm rfl (fun k hk => hk) (fun hl => by
    obtain ⟨l1, l2, _⟩ := MemL.split (M1 := [_, _]) hl
    refine ⟨(dD iK l1.1 rfl).mono fun b hb => ⟨_, List.mem_append_left _ (List.mem_cons_self ..), hb⟩, (dD ej l1.2.2.1 rfl).mono fun b hb => ⟨_, List.mem_append_left _ (List.mem_cons_of_mem _ (List.mem_cons_self ..)), hb⟩, fun x hx => ?_⟩
    exact (E0 l2 x hx).mono fun b ⟨e, he, hb⟩ => ⟨e, List.mem_append_right _ he, hb⟩) (fun w1 w2 hk ⟨p1, p2, p3⟩ => ⟨p1.agree hk, p2.agree hk, fun x hx => (p3 x hx).agree hk⟩)
  exact h2.perm (List.perm_middle (l₁ := [a, b, c, d, _]) (l₂ := M)).symm
theorem nu {w0 w : World} {a b c d : Ent} {l : List KV} {M : List Ent} (h : Mem w0 w (a :: b :: c :: d :: (l.flatMap EK ++ M))) : Mem w0 w (a :: b :: c :: d :: .rep (FK l) (fun w => ∀ u ∈ l, KOk (FK l) w u) :: M) ∧ ∀ k, FK l k → w0.heap.size ≤ k := by
  have hp : Mem w0 w (b :: c :: d :: (l.flatMap EK ++ (a :: M))) := h.perm (by
    have h1 : (a :: (b :: c :: d :: l.flatMap EK) ++ M).Perm ((b :: c :: d :: l.flatMap EK) ++ a :: M) := (List.perm_middle).symm
    simpa using h1)
  refine ⟨?_, Ck hp⟩
  have h2 := sL hp
  exact h2.perm (List.perm_middle (l₁ := [b, c, d, _]) (l₂ := M))
theorem yi {w0 w : World} {a b c d : Ent} {M : List Ent} {x : Option Addr} {xc n : Nat} {xs : List Value} {F : Nat → Prop} {P : World → Prop} (h : Mem w0 w (a :: b :: c :: d :: .own x xc 9 1 n xs :: .rep F P :: M)) (Q : World → Prop) (hq : ∀ w, w.ownsRow w0.heap.size 9 1 (.slice x n xc) n xs → P w → Q w) (hk : ∀ w1 w2, (∀ k, ((Ent.own x xc 9 1 n xs).foot k ∨ F k) → w2.heap[k]? = w1.heap[k]?) → Q w1 → Q w2) : Mem w0 w (a :: b :: c :: d :: .rep (fun k => (Ent.own x xc 9 1 n xs).foot k ∨ F k) Q :: M) := by
  have hp : (a :: b :: c :: d :: .own x xc 9 1 n xs :: .rep F P :: M).Perm ([Ent.own x xc 9 1 n xs, .rep F P] ++ (a :: b :: c :: d :: M)) := List.perm_append_comm (l₁ := [a, b, c, d]) (l₂ := [_, _]) |>.append_right M
  have h2 := Mem.fuse [Ent.own x xc 9 1 n xs, .rep F P] (fun k => (Ent.own x xc 9 1 n xs).foot k ∨ F k) Q (h.perm hp) rfl (fun k hk => hk.elim (fun h => ⟨_, List.mem_cons_self .., h⟩) (fun h => ⟨_, List.mem_cons_of_mem _ (List.mem_cons_self ..), h⟩)) (fun hm => hq w hm.1 hm.2.2.1.2.1) hk
  exact h2.perm (List.perm_middle (l₁ := [a, b, c, d]) (l₂ := M)).symm
theorem zL (u : KV) (f : FrV) : (jn u f).i = u.i ∧ (jn u f).ic = u.ic ∧ (jn u f).k.ib = u.k.ib := by
  unfold jn fX
  split
  · split <;> exact ⟨rfl, rfl, rfl⟩
  · split <;> exact ⟨rfl, rfl, rfl⟩
theorem Em {A : Nat → Prop} {w : World} {u : KV} {f : FrV} (h1 : Rws A w 2 mC u.m u.k.ms) (h3 : Rws A w 4 fC u.o u.k.ob) : Rws A w 2 mC (jn u f).m (jn u f).k.ms ∧ Rws A w 4 fC (jn u f).o (jn u f).k.ob := by
  unfold jn fX
  split
  · split
    · exact ⟨h1, dw⟩
    · exact ⟨h1, h3⟩
  · split
    · exact ⟨h1, dw⟩
    · exact ⟨h1, h3⟩
theorem vn {w : World} {B cap : Nat} {T : TypeId} {a : Option Addr} {l : List ByteArray} {s : ByteArray} {xs : List Value} (h : w.ownsRow B T 1 (.slice a (l.length + 1) cap) (l.length + 1) (l.flatMap sC ++ xs)) (hx : xs = sC s) : w.ownsRow B T 1 (.slice a (l ++ [s]).length cap) (l ++ [s]).length ((l ++ [s]).flatMap sC) := by
  rw [List.length_append, List.flatMap_append, List.flatMap_singleton, ← hx]
  exact h
attribute [local irreducible] Calls
set_option maxRecDepth 100000 in
set_option maxHeartbeats 16000000 in
theorem zM {w0 : World} {M : List Ent} (gc : Nat) (v : NV) (f : FrV) (w : World) (hv : VN v.c) (hms : cm v.c ≤ 500000000) (heq : v.c.ks = v.kv.map (·.k)) (hcl : v.c.cl = false) (hf : ay f = 0) (hk : f.kind = 2) (hl : au f.data ≤ v.c.rw.left) (hg : MLen w0) (hM : Mem w0 w (.own v.o v.oc 74 4 v.c.ou.length (v.c.ou.flatMap fC) :: .own v.x v.xc 87 22 v.kv.length (v.kv.flatMap KC) :: .cl gc 34 [.int .i64 v.c.sd, .int .i64 v.c.nx, .int .i64 v.c.la, .int .i64 v.c.aw, .int .i64 v.c.sz, .int .i64 v.c.sw.size, .int .i64 v.c.sw.left, .int .i64 v.c.sw.held, .int .i64 v.c.rw.size, .int .i64 v.c.rw.left, .int .i64 v.c.rw.held, .slice v.x v.kv.length v.xc, .slice v.o v.c.ou.length v.oc, .slice v.p v.c.pg.length v.pc, .bool v.c.cl] :: .own v.p v.pc 3 1 v.c.pg.length (v.c.pg.flatMap iC) :: (v.kv.flatMap EK ++ M))) : Calls Tryz.prog 91 #[.pointer (some ⟨gc, 0, none⟩), .agg #[.int .i64 f.kind, .int .i64 f.strm, .int .i64 f.num, .string f.data]] w fun e w' => ∃ r : Value × NV × (Nat → Prop), (r.2.1.c = lv v.c f ∧ r.2.1.c.ks = r.2.1.kv.map (·.k) ∧ ∀ b, r.2.2 b → w0.heap.size ≤ b) ∧ e = .returned r.1 ∧ Mem w0 w' (CM gc r.2.2 r.2.1 M) := by
  obtain ⟨n, hn⟩ : ∃ n, au f.data = n := ⟨_, rfl⟩
  have hnp := dz f.data
  have hvd := hv.datP hcl hf hk hl
  rw [hn] at hnp hl
  have hacc := pA hv.rw (show 0 ≤ n by omega) hl
  have hwa : aS (⟨v.c.rw.size, v.c.rw.left - n, v.c.rw.held + n⟩ : WinV) = true := sG hv.rw (by omega) hl
  have hwb := aR.1 hwa
  dsimp only at hwb
  have hsz := hv.toVB.szl hms
  have hlk : v.c.ks.length = v.kv.length := by rw [heq, List.length_map]
  have hks := hsz.ks
  have hoz := hsz.ou.1
  have htk : dk v.c f = { v.c with rw := (⟨v.c.rw.size, v.c.rw.left - n, v.c.rw.held + n⟩ : WinV) } := by rw [(pH hv (by rw [hn]; exact hl)).1, hn]
  rw [Ct]
  obtain ⟨o, ho⟩ : ∃ o, dj f.strm v.c.ks 0 = o := ⟨_, rfl⟩
  cases o with
  | none =>
    have hdp : datP v.c f = { v.c with rw := (⟨v.c.rw.size, v.c.rw.left - n, v.c.rw.held + n⟩ : WinV) } := by unfold datP; rw [ho]; exact htk
    rw [hdp] at hvd ⊢
    obtain ⟨hM, hFK⟩ := nu hM
    refine bv hM Tryz.func91 rfl Tryz.ntmps91 J J ?_
    repeat' (first | refine aL am rfl (by kernel_rfl) ?_ | (refine bC ?_; intro g) | (refine bx ?_; intro g3) | ((refine' di rfl ?_ J J J ?_); rotate_left; first | exact aI af J J J J | exact bw af J J J J J J | exact ab af 0 J J J J J | exact ab af 3 J J J J J) | refine bm rfl (ap J J J J ⟨J, trivial⟩ rfl (by kernel_rfl)) rfl (fun w hm => Cr f.data n hn w) J J ?_ | refine bm rfl (ap J J J J ⟨J, J, trivial⟩ rfl (by kernel_rfl)) rfl (fun w hm => Hi v.c.rw n ⟨(⟨v.c.rw.size, v.c.rw.left - n, v.c.rw.held + n⟩ : WinV), 0⟩ hacc w) J J ?_ | refine bY af J J J J J J ?_ | refine nx ?_)
    refine aq J J ?_
    repeat' (first | refine aL am rfl (by kernel_rfl) ?_ | ((refine' di rfl ?_ J J J ?_); rotate_left; first | exact aI af J J J J | exact ab af 0 J J J J J | exact ab af 1 J J J J J | exact ab af 4 J J J J J) | refine nx ?_)
    repeat' (first | refine bW ?_ | ((refine' di rfl ?_ J J J ?_); rotate_left; first | exact aI af J J J J | exact bw af J J J J J J) | refine bm rfl (ap J J J J ⟨J, J, trivial⟩ rfl (by kernel_rfl)) rfl (fun w hm => BG (⟨{ v.c with rw := (⟨v.c.rw.size, v.c.rw.left - n, v.c.rw.held + n⟩ : WinV) }, v.x, v.xc, v.kv, v.o, v.oc, v.p, v.pc⟩ : NV) f.strm none w (jF (hm.2.get (i := 3) rfl) (hm.2.get (i := 2) rfl) (hm.2.get (i := 5) rfl) heq (hm.2.get (i := 6) rfl).2.1) (show v.kv.length ≤ 606626243774 by omega) ho) J J ?_ | refine nx ?_)
    refine ai J J ?_
    obtain ⟨T, hT⟩ : ∃ T, aP (v.kv.map (·.k)) = T := ⟨_, rfl⟩
    have hT0 : 0 ≤ T := by rw [← hT]; exact eC _
    have hT1 : T ≤ v.c.rw.held + n := by rw [← hT, ← heq]; exact hvd.tt
    have hzx : ∀ x ∈ v.kv, x.k.ib.length ≤ 8796093022208 := fun x hx => by
      have h1 := kC x.k.ib
      have h2 : aN x.k.ib ≤ aP (v.kv.map (·.k)) := jh (List.mem_map_of_mem hx)
      omega
    repeat' refine cV ?_
    refine bR [true, true, true, true, true, true] (fun _ => True) am (by kernel_rfl) J J (fun _ _ => trivial) ?_
    iterate 7 (((refine' gp J J ?_ J J ?_); rotate_left; first | exact aI af J J J J | exact ab af 4 J J J J J))
    refine oq rfl (ap J J J J ⟨J, trivial⟩ rfl (by kernel_rfl)) J J (fun w1 hm => uM (⟨{ v.c with rw := (⟨v.c.rw.size, v.c.rw.left - n, v.c.rw.held + n⟩ : WinV), ks := (v.kv).map (·.k), ou := v.c.ou }, v.x, v.xc, v.kv, v.o, v.oc, v.p, v.pc⟩ : NV) T hT w1 (jF (hm.2.get (i := 3) rfl) (hm.2.get (i := 2) rfl) (hm.2.get (i := 5) rfl) rfl (hm.2.get (i := 6) rfl).2.1) (show v.kv.length ≤ 606626243774 by omega) (by rw [hT]; omega) hzx) (fun w1 hm => ⟨hm.mask [true, true, true, true, true, true] rfl, trivial⟩) J J ?_
    refine fK (σ := Value × Option Addr × Nat) (fun _ => True) (fun s => s.1) (fun s => _) rfl (ap J J J J ⟨J, J, J, J, trivial⟩ rfl (by kernel_rfl)) (fun w1 hM => (kD gc _ _ _ _ _ _ _ _ _ _ v.c.cl (⟨v.c.rw.size, v.c.rw.left - n, v.c.rw.held + n⟩ : WinV) v.o v.oc (v.c.ou) 0 T w1 hwa hT0 hT1 (by omega) (hM.perm ((List.perm_middle (l₁ := [_, _])).trans ((List.perm_middle (l₁ := [_, _, _])).cons _)))).mono fun e w' ⟨s, h1, h2, h3⟩ => ⟨s, h1, h2, h3⟩) J J ?_
    rintro ⟨rv, ta, tc⟩ -
    repeat' (first | refine vx rfl (aj af J J ⟨J, J, J, J, J, J, J, J, trivial⟩ J J J) ?_ | refine aL am rfl (by kernel_rfl) ?_ | refine bW ?_ | (refine bC ?_; intro g) | ((refine' di rfl ?_ J J J ?_); rotate_left; first | exact aI af J J J J | exact bw af J J J J J J | exact ew J J J J J | exact eF J J J J J | exact ab af 0 J J J J J | exact ab af 1 J J J J J | exact ab af 2 J J J J J | exact ab af 3 J J J J J | exact ab af 4 J J J J J | exact ab af 5 J J J J J | exact ab af 6 J J J J J | exact ab af 7 J J J J J | exact gQ af iI J J J J J J (by kernel_rfl) | exact iG af iI J J J J J J (by kernel_rfl) | exact fi af J J J J J J J | exact fO J J J J J | exact iF J J J J J | exact lp J J J J J J J | exact aj af J J trivial J J J | exact aj af J J ⟨J, trivial⟩ J J J | exact aj af J J ⟨J, J, trivial⟩ J J J | exact aj af J J ⟨J, J, J, trivial⟩ J J J | exact aj af J J ⟨J, J, J, J, trivial⟩ J J J | exact aj af J J ⟨J, J, J, J, J, trivial⟩ J J J | exact aj af J J ⟨J, J, J, J, J, J, trivial⟩ J J J | exact aj af J J ⟨J, J, J, J, J, J, J, trivial⟩ J J J | exact aj af J J ⟨J, J, J, J, J, J, J, J, trivial⟩ J J J) | (refine bx ?_; intro g) | (refine al ?_; intro g) | refine bY af J J J J J J ?_ | refine iH J J J J J J ?_ | refine nx ?_)
    (refine bJ af (fun _ => 0) J J trivial rfl fun w1 hm => ?_)
    refine ⟨(_, ⟨{ v.c with rw := fL v.c.cl (⟨v.c.rw.size, v.c.rw.left - n, v.c.rw.held + n⟩ : WinV) T, ou := eQ v.c.cl (⟨v.c.rw.size, v.c.rw.left - n, v.c.rw.held + n⟩ : WinV) T 0 v.c.ou }, v.x, v.xc, v.kv, ta, tc, v.p, v.pc⟩, FK v.kv), ⟨by rw [jm]; dsimp only; rw [heq, hT], heq, hFK⟩, rfl, ?_⟩
    exact (hm.mask [true, true, false, false, true, true, true] rfl).perm ((List.Perm.swap _ _ _).cons _)
  | some i =>
    obtain ⟨q, hq, hqi⟩ := od ho
    obtain ⟨u, hu, huk⟩ : ∃ u, v.kv[i]? = some u ∧ u.k = q := by rw [heq, List.getElem?_map] at hq; simpa using hq
    subst huk
    have hi : i < v.kv.length := (List.getElem?_eq_some_iff.1 hu).1
    have hum := List.mem_of_getElem? hu
    have hV1 : VN { v.c with rw := (⟨v.c.rw.size, v.c.rw.left - n, v.c.rw.held + n⟩ : WinV) } := by rw [← htk]; exact (pH hv (by rw [hn]; exact hl)).2
    have hso := Cu hV1 (i := i) (k := u.k) hq hf hqi.symm ⟨by omega, by omega⟩
    obtain ⟨hr1, hr2⟩ := pP (c := { v.c with rw := (⟨v.c.rw.size, v.c.rw.left - n, v.c.rw.held + n⟩ : WinV) }) (f := f) hq hso
    have hfz := fw hf
    have htx : u.k.st.text.size ≤ 4611686018427387900 := (hsz.ok u.k (List.mem_of_getElem? hq)).2.2.2.1
    obtain ⟨hM, hFE⟩ := Gb hu hM
    have hokr : ∀ w, PE v.kv u i w → Rws (fun _ => True) w 1 sC u.i u.k.ib → ∀ x ∈ v.kv, KOk (fun _ => True) w x := fun w ⟨p1, p2, p3⟩ p4 x hx => by
      obtain ⟨j, hj⟩ := List.getElem?_of_mem hx
      by_cases e : j = i
      · subst e
        rw [hu] at hj
        obtain rfl := Option.some.inj hj
        exact ⟨p1.mono fun _ _ => trivial, p4, p2.mono fun _ _ => trivial⟩
      · exact (p3 x (List.mem_eraseIdx_iff_getElem?.2 ⟨j, e, hj⟩)).mono fun _ _ => trivial
    refine bv hM Tryz.func91 rfl Tryz.ntmps91 J J ?_
    repeat' (first | refine aL am rfl (by kernel_rfl) ?_ | (refine bC ?_; intro g) | (refine bx ?_; intro g3) | ((refine' di rfl ?_ J J J ?_); rotate_left; first | exact aI af J J J J | exact bw af J J J J J J | exact ab af 0 J J J J J | exact ab af 3 J J J J J) | refine bm rfl (ap J J J J ⟨J, trivial⟩ rfl (by kernel_rfl)) rfl (fun w hm => Cr f.data n hn w) J J ?_ | refine bm rfl (ap J J J J ⟨J, J, trivial⟩ rfl (by kernel_rfl)) rfl (fun w hm => Hi v.c.rw n ⟨(⟨v.c.rw.size, v.c.rw.left - n, v.c.rw.held + n⟩ : WinV), 0⟩ hacc w) J J ?_ | refine bY af J J J J J J ?_ | refine nx ?_)
    refine aq J J ?_
    repeat' (first | refine aL am rfl (by kernel_rfl) ?_ | ((refine' di rfl ?_ J J J ?_); rotate_left; first | exact aI af J J J J | exact ab af 0 J J J J J | exact ab af 1 J J J J J | exact ab af 4 J J J J J) | refine nx ?_)
    have hiz : decide ((GU (some i)) ≥ 0) = true := decide_eq_true (by show ((i : Nat) : Int) ≥ 0; omega)
    repeat' (first | refine bW ?_ | ((refine' di rfl ?_ J J J ?_); rotate_left; first | exact aI af J J J J | exact bw af J J J J J J) | refine bm rfl (ap J J J J ⟨J, J, trivial⟩ rfl (by kernel_rfl)) rfl (fun w hm => BG (⟨{ v.c with rw := (⟨v.c.rw.size, v.c.rw.left - n, v.c.rw.held + n⟩ : WinV) }, v.x, v.xc, v.kv, v.o, v.oc, v.p, v.pc⟩ : NV) f.strm (some i) w (jF (hm.2.get (i := 3) rfl) (hm.2.get (i := 2) rfl) (hm.2.get (i := 5) rfl) heq (hokr w (hm.2.get (i := 7) rfl).2.1 ((Rws.own eb (hm.2.get (i := 6) rfl)).mono fun _ _ => trivial))) (show v.kv.length ≤ 606626243774 by omega) ho) J J ?_ | refine nx ?_)
    refine aq rfl hiz ?_
    refine bc ?_
    refine aH ?_
    refine oV 3 rfl (show 0 < v.kv.length by omega) ?_
    intro gx hgx
    rw [hgx]
    repeat' (first | refine vx rfl (ia (m := 22) i hi) ?_ | refine nx ?_)
    refine cR (fun w1 hm => hm.perm (List.perm_append_comm (l₁ := [_, _]) (l₂ := [_, _, _]) |>.append_right _)) ?_
    dsimp only [List.cons_append, List.nil_append]
    refine bj (σ := Option Addr × Nat) (fun _ => True) (fun _ => .bool (xb u f)) (fun s => _) rfl (ap J J J J ⟨J, J, J, trivial⟩ rfl (by kernel_rfl)) (fun w1 hM => (vm gc gx v.xc v.kv.length i _ _ _ _ _ _ _ _ _ _ _ _ _ _ v.kv u hu v.o v.oc v.c.ou f w1 htx (by omega) (by omega) hso hg hM).mono fun e w' ⟨s, h1, h2, h3⟩ => ⟨s, h1, h2, h3⟩) J J ?_
    rintro ⟨qa, qc⟩ -
    obtain ⟨u2, hu2⟩ : ∃ u2 : KV, jn u f = u2 := ⟨_, rfl⟩
    obtain ⟨ou2, hou2⟩ : ∃ l, qt u f v.c.ou = l := ⟨_, rfl⟩
    have hol : ou2.length ≤ v.c.ou.length + 1 := by rw [← hou2]; exact Cq
    rw [hu2, hou2] at hr1
    rw [hu2, hou2]
    have hat2 : (v.kv.set i u2)[i]? = some u2 := dH hu _
    have hsm := zL u f
    rw [hu2] at hsm
    obtain ⟨hs1, hs2, hs3⟩ := hsm
    have hc20 : (KC u2)[20]? = some (.slice u.i u.k.ib.length u.ic) := by rw [← hs1, ← hs2, ← hs3]; rfl
    have hmo : ∀ {A : Nat → Prop} {w : World}, Rws A w 2 mC u.m u.k.ms → Rws A w 4 fC u.o u.k.ob → Rws A w 2 mC u2.m u2.k.ms ∧ Rws A w 4 fC u2.o u2.k.ob := fun h1 h3 => by rw [← hu2]; exact Em h1 h3
    have hokx : ∀ (u3 : KV) {F : Nat → Prop} (w : World), PE v.kv u i w → (∀ k, FE v.kv u i k → F k) → KOk F w u3 → ∀ x ∈ v.kv.set i u3, KOk F w x := fun u3 F w ⟨p1, p2, p3⟩ hF h3 x hx => by
      rcases kZ hi hx with rfl | hx
      · exact h3
      · exact (p3 x hx).mono hF
    repeat' refine cV ?_
    by_cases hb : xb u f = true
    · refine aq rfl hb ?_
      have hil := (hsz.ok u.k (List.mem_of_getElem? hq)).2.1
      refine cY 8 am rfl (by kernel_rfl) ?_
      iterate 7 (((refine' di rfl ?_ J J J ?_); rotate_left; first | exact bM af 1 (v := .slice u.i u.k.ib.length u.ic) J J J J J J (fun _ => by rw [Nat.zero_add]; exact aJ aK hat2 hc20) | exact aI af J J J J | exact ab af 4 J J J J J))
      refine dV af J J J ⟨J, trivial⟩ J J J J J J J J ?_
      refine bC ?_
      intro s1
      refine bA af 7 0 J J J J J J J J J (fun _ _ => rfl) xI J J (by unfold maxLen; omega) (by omega) J J ?_
      intro sa sc
      repeat' refine cV ?_
      refine cF af 2 J J J J J J J J J (show jv _ (0 + i * 22 + 20) _ = _ from by rw [Nat.zero_add]; exact cy aK (v.kv.set i u2) i 20 (u2) ({ u2 with k := { u2.k with ib := u2.k.ib ++ [f.data] }, i := sa, ic := sc }) _ hat2 (by rw [show u.k.ib.length + 1 = (u2.k.ib ++ [f.data]).length by rw [List.length_append, hs3]; rfl]; rfl)) J J ?_
      rw [List.set_set]
      obtain ⟨u3, hu3⟩ : ∃ u3 : KV, { u2 with k := { u2.k with ib := u2.k.ib ++ [f.data] }, i := sa, ic := sc } = u3 := ⟨_, rfl⟩
      rw [hu3]
      obtain ⟨kvx, hkx⟩ : ∃ l, v.kv.set i u3 = l := ⟨_, rfl⟩
      rw [hkx]
      have hdp : datP v.c f = { v.c with rw := (⟨v.c.rw.size, v.c.rw.left - n, v.c.rw.held + n⟩ : WinV), ks := kvx.map (·.k), ou := ou2 } := by
        have h3 : u3.k = { u2.k with ib := u2.k.ib ++ [f.data] } := by rw [← hu3]
        unfold datP
        rw [ho]
        dsimp only
        rw [htk, hr2, if_pos hb, hr1, cg (k := u2.k) (List.getElem?_set_self (by rw [hlk]; exact hi))]
        dsimp only
        rw [List.set_set, ← hkx, List.map_set, h3, ← heq]
      rw [hdp] at hvd ⊢
      obtain ⟨T, hT⟩ : ∃ T, aP ((kvx).map (·.k)) = T := ⟨_, rfl⟩
      have hT0 : 0 ≤ T := by rw [← hT]; exact eC _
      have hT1 : T ≤ v.c.rw.held + n := by rw [← hT]; exact hvd.tt
      have hzx : ∀ x ∈ kvx, x.k.ib.length ≤ 8796093022208 := fun x hx => by
        have h1 := kC x.k.ib
        have h2 : aN x.k.ib ≤ aP ((kvx).map (·.k)) := jh (List.mem_map_of_mem hx)
        omega
      have hlx : v.kv.length = (kvx).length := by rw [← hkx, List.length_set]
      rw [hlx]
      have hokT : ∀ w, PE v.kv u i w → Rws (fun _ => True) w 1 sC sa (u2.k.ib ++ [f.data]) → ∀ x ∈ kvx, KOk (fun _ => True) w x := fun w hp hb x hx => by
        rw [← hkx] at hx
        obtain ⟨q1, q2⟩ := hmo hp.1 hp.2.1
        exact hokx u3 w hp (fun _ _ => trivial) (by rw [← hu3]; exact ⟨q1.mono fun _ _ => trivial, hb, q2.mono fun _ _ => trivial⟩) x hx
      repeat' refine cV ?_
      refine bR [true, true, true, true, true, true] (fun _ => True) am (by kernel_rfl) J J (fun _ _ => trivial) ?_
      iterate 7 (((refine' gp J J ?_ J J ?_); rotate_left; first | exact aI af J J J J | exact ab af 3 J J J J J))
      refine oq rfl (ap J J J J ⟨J, trivial⟩ rfl (by kernel_rfl)) J J (fun w1 hm => uM (⟨{ v.c with rw := (⟨v.c.rw.size, v.c.rw.left - n, v.c.rw.held + n⟩ : WinV), ks := (kvx).map (·.k), ou := ou2 }, some ⟨gx, 0, none⟩, v.xc, kvx, qa, qc, v.p, v.pc⟩ : NV) T hT w1 (jF (hm.2.get (i := 2) rfl) (hm.2.get (i := 1) rfl) (hm.2.get (i := 6) rfl) rfl (hokT w1 (hm.2.get (i := 8) rfl).2.1 (by rw [hs3]; exact (Rws.own eb (vn (s := f.data) (hm.2.get (i := 7) rfl) rfl)).mono fun _ _ => trivial))) (show kvx.length ≤ 606626243774 by omega) (by rw [hT]; omega) hzx) (fun w1 hm => ⟨hm.mask [true, true, true, true, true, true] rfl, trivial⟩) J J ?_
      refine fK (σ := Value × Option Addr × Nat) (fun _ => True) (fun s => s.1) (fun s => _) rfl (ap J J J J ⟨J, J, J, J, trivial⟩ rfl (by kernel_rfl)) (fun w1 hM => (kD gc _ _ _ _ _ _ _ _ _ _ v.c.cl (⟨v.c.rw.size, v.c.rw.left - n, v.c.rw.held + n⟩ : WinV) qa qc (ou2) 0 T w1 hwa hT0 hT1 (by omega) (hM.perm ((List.perm_middle (l₁ := [_])).trans ((List.perm_middle (l₁ := [_, _])).cons _)))).mono fun e w' ⟨s, h1, h2, h3⟩ => ⟨s, h1, h2, h3⟩) J J ?_
      rintro ⟨rv, ta, tc⟩ -
      repeat' (first | refine vx rfl (aj af J J ⟨J, J, J, J, J, J, J, J, trivial⟩ J J J) ?_ | refine aL am rfl (by kernel_rfl) ?_ | refine bW ?_ | (refine bC ?_; intro g) | ((refine' di rfl ?_ J J J ?_); rotate_left; first | exact aI af J J J J | exact bw af J J J J J J | exact ew J J J J J | exact eF J J J J J | exact ab af 0 J J J J J | exact ab af 1 J J J J J | exact ab af 2 J J J J J | exact ab af 3 J J J J J | exact ab af 4 J J J J J | exact ab af 5 J J J J J | exact ab af 6 J J J J J | exact ab af 7 J J J J J | exact ab af 8 J J J J J | exact gQ af iI J J J J J J (by kernel_rfl) | exact iG af iI J J J J J J (by kernel_rfl) | exact fi af J J J J J J J | exact fO J J J J J | exact iF J J J J J | exact lp J J J J J J J | exact aj af J J trivial J J J | exact aj af J J ⟨J, trivial⟩ J J J | exact aj af J J ⟨J, J, trivial⟩ J J J | exact aj af J J ⟨J, J, J, trivial⟩ J J J | exact aj af J J ⟨J, J, J, J, trivial⟩ J J J | exact aj af J J ⟨J, J, J, J, J, trivial⟩ J J J | exact aj af J J ⟨J, J, J, J, J, J, trivial⟩ J J J | exact aj af J J ⟨J, J, J, J, J, J, J, trivial⟩ J J J | exact aj af J J ⟨J, J, J, J, J, J, J, J, trivial⟩ J J J) | (refine bx ?_; intro g) | (refine al ?_; intro g) | refine bY af J J J J J J ?_ | refine iH J J J J J J ?_ | refine nx ?_)
      (refine bJ af (fun _ => 0) J J trivial rfl fun w1 hm => ?_)
      refine ⟨(_, ⟨{ v.c with rw := fL v.c.cl (⟨v.c.rw.size, v.c.rw.left - n, v.c.rw.held + n⟩ : WinV) T, ks := kvx.map (·.k), ou := eQ v.c.cl (⟨v.c.rw.size, v.c.rw.left - n, v.c.rw.held + n⟩ : WinV) T 0 ou2 }, some ⟨gx, 0, none⟩, v.xc, kvx, ta, tc, v.p, v.pc⟩, fun k => (Ent.own sa sc 9 1 (u.k.ib.length + 1) (u.k.ib.flatMap sC ++ sC f.data)).foot k ∨ FE v.kv u i k), ⟨by rw [jm]; dsimp only; rw [hT], rfl, fun k hk => hk.elim (fun h => (gU (hm.2.get (i := 7) rfl) h).1) (hFE k)⟩, rfl, ?_⟩
      refine yi ((hm.mask [true, true, false, true, false, false, true, true, true] rfl).perm ((List.Perm.swap _ _ _).cons _)) _ (fun w2 ho hp x hx => ?_) (fun w1 w2 hk hp x hx => (hp x hx).agree hk)
      dsimp only at hx ⊢
      rw [← hkx] at hx
      obtain ⟨q1, q2⟩ := hmo hp.1 hp.2.1
      exact hokx _ w2 hp (fun _ => .inr) ⟨by first | (rw [← hu3]; exact q1.mono fun _ => .inr) | exact q1.mono fun _ => .inr, (by rw [← hu3]; dsimp only; rw [hs3]; exact (dD eb (vn (s := f.data) ho rfl) rfl).mono fun _ h => .inl h), by first | (rw [← hu3]; exact q2.mono fun _ => .inr) | exact q2.mono fun _ => .inr⟩ x hx
    · refine ai rfl (eq_false_of_ne_true hb) ?_
      obtain ⟨kvx, hkx⟩ : ∃ l, v.kv.set i u2 = l := ⟨_, rfl⟩
      rw [hkx]
      have hdp : datP v.c f = { v.c with rw := (⟨v.c.rw.size, v.c.rw.left - n, v.c.rw.held + n⟩ : WinV), ks := kvx.map (·.k), ou := ou2 } := by
        unfold datP
        rw [ho]
        dsimp only
        rw [htk, hr2, if_neg hb, hr1, ← hkx, List.map_set, ← heq]
      rw [hdp] at hvd ⊢
      obtain ⟨T, hT⟩ : ∃ T, aP ((kvx).map (·.k)) = T := ⟨_, rfl⟩
      have hT0 : 0 ≤ T := by rw [← hT]; exact eC _
      have hT1 : T ≤ v.c.rw.held + n := by rw [← hT]; exact hvd.tt
      have hzx : ∀ x ∈ kvx, x.k.ib.length ≤ 8796093022208 := fun x hx => by
        have h1 := kC x.k.ib
        have h2 : aN x.k.ib ≤ aP ((kvx).map (·.k)) := jh (List.mem_map_of_mem hx)
        omega
      have hlx : v.kv.length = (kvx).length := by rw [← hkx, List.length_set]
      rw [hlx]
      have hokT : ∀ w, PE v.kv u i w → Rws (fun _ => True) w 1 sC u.i u.k.ib → ∀ x ∈ kvx, KOk (fun _ => True) w x := fun w hp hb x hx => by
        rw [← hkx] at hx
        obtain ⟨q1, q2⟩ := hmo hp.1 hp.2.1
        exact hokx u2 w hp (fun _ _ => trivial) ⟨q1.mono fun _ _ => trivial, by rw [hs1, hs3]; exact hb, q2.mono fun _ _ => trivial⟩ x hx
      repeat' refine cV ?_
      refine bR [true, true, true, true, true, true] (fun _ => True) am (by kernel_rfl) J J (fun _ _ => trivial) ?_
      iterate 7 (((refine' gp J J ?_ J J ?_); rotate_left; first | exact aI af J J J J | exact ab af 2 J J J J J))
      refine oq rfl (ap J J J J ⟨J, trivial⟩ rfl (by kernel_rfl)) J J (fun w1 hm => uM (⟨{ v.c with rw := (⟨v.c.rw.size, v.c.rw.left - n, v.c.rw.held + n⟩ : WinV), ks := (kvx).map (·.k), ou := ou2 }, some ⟨gx, 0, none⟩, v.xc, kvx, qa, qc, v.p, v.pc⟩ : NV) T hT w1 (jF (hm.2.get (i := 1) rfl) (hm.2.get (i := 0) rfl) (hm.2.get (i := 5) rfl) rfl (hokT w1 (hm.2.get (i := 7) rfl).2.1 ((Rws.own eb (hm.2.get (i := 6) rfl)).mono fun _ _ => trivial))) (show kvx.length ≤ 606626243774 by omega) (by rw [hT]; omega) hzx) (fun w1 hm => ⟨hm.mask [true, true, true, true, true, true] rfl, trivial⟩) J J ?_
      refine fK (σ := Value × Option Addr × Nat) (fun _ => True) (fun s => s.1) (fun s => _) rfl (ap J J J J ⟨J, J, J, J, trivial⟩ rfl (by kernel_rfl)) (fun w1 hM => (kD gc _ _ _ _ _ _ _ _ _ _ v.c.cl (⟨v.c.rw.size, v.c.rw.left - n, v.c.rw.held + n⟩ : WinV) qa qc (ou2) 0 T w1 hwa hT0 hT1 (by omega) (hM.perm ((List.Perm.swap _ _ _).cons _))).mono fun e w' ⟨s, h1, h2, h3⟩ => ⟨s, h1, h2, h3⟩) J J ?_
      rintro ⟨rv, ta, tc⟩ -
      repeat' (first | refine vx rfl (aj af J J ⟨J, J, J, J, J, J, J, J, trivial⟩ J J J) ?_ | refine aL am rfl (by kernel_rfl) ?_ | refine bW ?_ | (refine bC ?_; intro g) | ((refine' di rfl ?_ J J J ?_); rotate_left; first | exact aI af J J J J | exact bw af J J J J J J | exact ew J J J J J | exact eF J J J J J | exact ab af 0 J J J J J | exact ab af 1 J J J J J | exact ab af 2 J J J J J | exact ab af 3 J J J J J | exact ab af 4 J J J J J | exact ab af 5 J J J J J | exact ab af 6 J J J J J | exact ab af 7 J J J J J | exact ab af 8 J J J J J | exact gQ af iI J J J J J J (by kernel_rfl) | exact iG af iI J J J J J J (by kernel_rfl) | exact fi af J J J J J J J | exact fO J J J J J | exact iF J J J J J | exact lp J J J J J J J | exact aj af J J trivial J J J | exact aj af J J ⟨J, trivial⟩ J J J | exact aj af J J ⟨J, J, trivial⟩ J J J | exact aj af J J ⟨J, J, J, trivial⟩ J J J | exact aj af J J ⟨J, J, J, J, trivial⟩ J J J | exact aj af J J ⟨J, J, J, J, J, trivial⟩ J J J | exact aj af J J ⟨J, J, J, J, J, J, trivial⟩ J J J | exact aj af J J ⟨J, J, J, J, J, J, J, trivial⟩ J J J | exact aj af J J ⟨J, J, J, J, J, J, J, J, trivial⟩ J J J) | (refine bx ?_; intro g) | (refine al ?_; intro g) | refine bY af J J J J J J ?_ | refine iH J J J J J J ?_ | refine nx ?_)
      (refine bJ af (fun _ => 0) J J trivial rfl fun w1 hm => ?_)
      refine ⟨(_, ⟨{ v.c with rw := fL v.c.cl (⟨v.c.rw.size, v.c.rw.left - n, v.c.rw.held + n⟩ : WinV) T, ks := kvx.map (·.k), ou := eQ v.c.cl (⟨v.c.rw.size, v.c.rw.left - n, v.c.rw.held + n⟩ : WinV) T 0 ou2 }, some ⟨gx, 0, none⟩, v.xc, kvx, ta, tc, v.p, v.pc⟩, fun k => (Ent.own u.i u.ic 9 1 u.k.ib.length (u.k.ib.flatMap sC)).foot k ∨ FE v.kv u i k), ⟨by rw [jm]; dsimp only; rw [hT], rfl, fun k hk => hk.elim (fun h => (gU (hm.2.get (i := 6) rfl) h).1) (hFE k)⟩, rfl, ?_⟩
      refine yi ((hm.mask [true, true, true, false, false, true, true, true] rfl).perm ((List.Perm.swap _ _ _).cons _)) _ (fun w2 ho hp x hx => ?_) (fun w1 w2 hk hp x hx => (hp x hx).agree hk)
      dsimp only at hx ⊢
      rw [← hkx] at hx
      obtain ⟨q1, q2⟩ := hmo hp.1 hp.2.1
      exact hokx _ w2 hp (fun _ => .inr) ⟨by first | (rw [← hu3]; exact q1.mono fun _ => .inr) | exact q1.mono fun _ => .inr, (by rw [hs1, hs3]; exact (dD eb ho rfl).mono fun _ h => .inl h), by first | (rw [← hu3]; exact q2.mono fun _ => .inr) | exact q2.mono fun _ => .inr⟩ x hx
end Go.Proofs.YtklcfjlmlbnkaaaGreatDoor.Y
