/- Two ends of a connection: their sizes; how they begin. No program in sight. -/
import Derived.Test.YthiocbcokfondaaGreatDoorQBunDl
import Derived.Test.YthiocbcokfondaaGreatDoorQBunX
namespace Go.Proofs.YthiocbcokfondaaGreatDoor.Y
theorem As : ∀ {l : List aY}, (∀ f ∈ l, FO f) → (l.length : Int) ≤ (cE l).length + kN 0 l + kN 1 l
  | [], _ => by simp [kh, gp]
  | f :: l, h => by
    have ih := As fun x hx => h x (List.mem_cons_of_mem f hx)
    have hf := h f (List.mem_cons_self ..)
    rw [cU, cU, List.length_cons]
    rcases hf.2.1 with hk | hk
    · rw [fR hk, List.length_cons]
      have e0 : eQ 0 f = 0 := by unfold eQ; rw [if_neg (by omega)]
      have e1 : eQ 1 f = 0 := by unfold eQ; rw [if_neg (by omega)]
      omega
    · rw [iF (by omega)]
      have hn := hf.win hk
      rcases hf.2.2 with hs | hs
      · have e0 : eQ 0 f = f.num := by unfold eQ; rw [if_pos ⟨hk, hs⟩]
        have e1 : eQ 1 f = 0 := by unfold eQ; rw [if_neg (by omega)]
        omega
      · have e0 : eQ 0 f = 0 := by unfold eQ; rw [if_neg (by omega)]
        have e1 : eQ 1 f = f.num := by unfold eQ; rw [if_pos ⟨hk, hs⟩]
        omega
theorem PI.small {n sx sy : Int} {x y : NL} {kx ky : KR} {F G : List aY} {up gS dn gC : List ByteArray} (h : PI n x kx sx y ky sy F G up gS dn gC) : (F.length : Int) + kx.ob.length ≤ up.length + 2 * n ∧ gS.length ≤ up.length := by
  have h1 := As h.fF
  have ms := congrArg List.length h.d1.ms
  simp only [List.length_append] at ms
  rw [pG h.ex.ob] at ms
  have t1 := h.d2.s1
  have t2 := h.d2.s2
  have t3 := h.d2.h1
  have t4 := h.d2.h2
  have wy := aX.1 h.ey.v.sw
  have wky := aX.1 h.ey.pk.vs.sn
  have wx := aX.1 h.ex.v.rw
  have wkx := aX.1 h.ex.pk.vs.rv
  have cG := ie G
  omega
theorem sj {c : NL} {k : KR} {sd n : Int} (h : EP c k sd n) : cu c = 1 + c.ou.length + k.ob.length := by
  unfold cu
  rw [h.ks]
  simp [ut]
structure FQ (p : MP) : Prop where
  vc : VN p.c
  vs : VN p.s
  mc : cu p.c ≤ 100000000
  ms : cu p.s ≤ 100000000
  up : p.up.length ≤ 1000000
  dn : p.dn.length ≤ 1000000
  gS : p.gS.length ≤ 1000000
  gC : p.gC.length ≤ 1000000
theorem PS.sz {n : Int} {h : ir} {p : MP} {N : Nat} (hp : PS n h p N) (hN : N ≤ 900000) (hn : n ≤ 60) (hs0 : VN (dP 2 n).1) : FQ p := by
  obtain ⟨hq, hu, hd⟩ := hp
  rcases hq with ⟨kc, ks, F, h0⟩ | ⟨kc, ks, h1⟩
  · have s1 := h0.pi.small
    have s2 := h0.pi.symm.small
    have hm := sj h0.pi.ex
    rw [h0.ou, List.length_cons] at hm
    refine ⟨h0.pi.ex.vn, by rw [h0.s]; exact hs0, by omega, ?_, by omega, by omega, by omega, by omega⟩
    rw [h0.s]
    unfold cu
    rw [(pJ n).1, (pJ n).2]
    exact Nat.zero_le _
  · have s1 := h1.pi.small
    have s2 := h1.pi.symm.small
    have hm := sj h1.pi.ex
    have hm2 := sj h1.pi.ey
    exact ⟨h1.pi.ex.vn, h1.pi.ey.vn, by omega, by omega, by omega, by omega, by omega, by omega⟩
theorem PS.mv {n : Int} {h : ir} {p : MP} {N : Nat} (hp : PS n h p N) (hN : N ≤ 900000) (hn1 : 1 ≤ n) (hn : n ≤ 60) : PS n h (lD p) N ∧ PS n h (nO p) N ∧ PS n h (pQ p) N ∧ PS n h (sg p) N := by
  have a := fun k => (hp.move hN hn1 (by omega) k emptyB).1.1
  exact ⟨⟨a 2, hp.2⟩, ⟨a 3, hp.2⟩, ⟨a 4, hp.2⟩, ⟨a 5, hp.2⟩⟩
theorem new1 {sd n : Int} (hs : sd = 1 ∨ sd = 2) (h1 : 1 ≤ n) (h2 : n ≤ 60) : dP sd n = (⟨sd, 1, 0, 0, n, ⟨n, n, 0⟩, ⟨n, n, 0⟩, [], [], [], false⟩, 0) := by
  have e : ig n = ⟨⟨n, n, 0⟩, 0⟩ := by unfold ig; rw [if_neg (by omega)]
  unfold dP
  rw [e, if_neg (by dsimp only; omega)]
def Em (sd n : Int) : cx := ⟨1, sd, 4, 0, 0, false, false, false, 0, ⟨#[]⟩, ⟨n, n, 0⟩, ⟨n, n, 0⟩⟩
theorem vC {sd n : Int} (hs : sd = 1 ∨ sd = 2) (h1 : 1 ≤ n) (h2 : n ≤ 60) : dH 1 sd 4 n = ⟨Em sd n, 0⟩ := by
  have e : ig n = ⟨⟨n, n, 0⟩, 0⟩ := by unfold ig; rw [if_neg (by omega)]
  unfold dH
  have h4 : rA 4 = true := by decide
  rw [e, h4, if_neg (by simp; omega)]
  rfl
theorem wI : aR qd = 0 := by kernel_rfl
theorem Db : bo exH = 0 := by kernel_rfl
theorem Dc : cP (oH exH) = ⟨exH, 0⟩ := by kernel_rfl
def cB (n : Int) : NL := ⟨1, 2, 1, 0, n, ⟨n, n, 0⟩, ⟨n, n, 0⟩, [⟨Em 1 n, exH.svc, exH.mth, exH.late, exH.metas, [], []⟩], [qd], [], false⟩
def sB (n : Int) : NL := ⟨2, 1, 1, 0, n, ⟨n, n, 0⟩, ⟨n, n, 0⟩, [⟨Em 2 n, exH.svc, exH.mth, exH.late, exH.metas, [], []⟩], [], [], false⟩
theorem Cl {n : Int} (h1 : 1 ≤ n) (h2 : n ≤ 60) : cQ (dP 1 n).1 exH 4 = (cB n, 1, 0) := by
  rw [new1 (.inl rfl) h1 h2]
  have e : lj (⟨1, 1, 0, 0, n, ⟨n, n, 0⟩, ⟨n, n, 0⟩, [], [], [], false⟩ : NL) exH 4 = 0 := by
    unfold lj
    rw [if_neg (by simp), if_neg (by show ¬ 64 ≤ 0; decide), Db, if_neg (by simp)]
    rw [show aR (iW (⟨1, 1, 0, 0, n, ⟨n, n, 0⟩, ⟨n, n, 0⟩, [], [], [], false⟩ : NL) exH 4) = 0 from wI, if_neg (by simp)]
    dsimp only
    rw [vC (.inl rfl) h1 h2]
  unfold cQ
  rw [e, if_neg (by simp)]
  dsimp only
  rw [vC (.inl rfl) h1 h2]
  rfl
theorem wJ {n : Int} (h1 : 1 ≤ n) (h2 : n ≤ 60) : aH (dP 2 n).1 (Ap exH) = (sB n, 0) := by
  rw [new1 (.inr rfl) h1 h2]
  have e : jL (⟨2, 1, 0, 0, n, ⟨n, n, 0⟩, ⟨n, n, 0⟩, [], [], [], false⟩ : NL) (Ap exH) = 0 := by
    unfold jL
    rw [show aR (Ap exH) = 0 from wI, if_neg (by show ¬ ((0 : Int) ≠ 0 ∨ oI 2 1 = true); decide), if_neg (by
      intro e
      have : (1 : Int) ≤ 0 := e.mp rfl
      omega), if_neg (fun e => absurd (show (1 : Int) = 2 from e.1) (by decide)), if_neg (fun e => absurd (show (1 : Int) = 6 from e.1) (by decide))]
  have hw : Ap exH = ⟨1, 1, 4, oH exH⟩ := rfl
  unfold aH
  rw [if_neg (by simp), e, if_neg (by simp)]
  unfold lR
  rw [if_pos (show (Ap exH).kind = 1 from rfl)]
  unfold iw
  rw [hw]
  dsimp only
  rw [vC (.inr rfl) h1 h2, Dc, if_neg (by simp [eo])]
  rfl
theorem Dd {n : Int} (h1 : 1 ≤ n) (h2 : n ≤ 60) : P0 n exH ⟨cB n, (dP 2 n).1, [], [], [], [], true⟩ ⟨Em 1 n, exH.svc, exH.mth, exH.late, exH.metas, [], []⟩ ⟨Em 2 n, exH.svc, exH.mth, exH.late, exH.metas, [], []⟩ [] := by
  have hvc : VN (cB n) := by
    have := (VN.new (sd := 1) (sz := n) (by rw [new1 (.inl rfl) h1 h2])).open exH 4
    rw [Cl h1 h2] at this
    exact this
  have hvs : VN (sB n) := by
    have := (VN.new (sd := 2) (sz := n) (by rw [new1 (.inr rfl) h1 h2])).feed (Ap exH)
    rw [wJ h1 h2] at this
    exact this
  have hd : ∀ (x y : NL) (kx ky : KR), x.sw.left = n → y.rw = ⟨n, n, 0⟩ → kx.st.snd.left = n → ky.st.rcv = ⟨n, n, 0⟩ → kx.st.sent = 0 → ky.st.got = 0 → kx.ob = [] → ky.ib = [] → Dir x kx y ky [] [] n [] [] := fun x y kx ky e1 e2 e3 e4 e5 e6 e7 e8 =>
    ⟨by rw [e4, e3, fo, gp]; show n = _; omega, by rw [e2, e1, fo, gp]; show n = _; omega, by rw [e4]; show n + 0 = n; omega, by rw [e2]; show n + 0 = n; omega, fun _ => by rw [e4], fun _ => by rw [e2], by rw [e5, e6]; rfl, by rw [e5, e7]; rfl, by rw [e7, e8]; rfl⟩
  refine ⟨rfl, rfl, ?_, by rw [wJ h1 h2], by rw [wJ h1 h2]; rfl, rfl, rfl, rfl, rfl⟩
  rw [wJ h1 h2]
  exact ⟨⟨⟨hvc.toVB, rfl, rfl, rfl, rfl, rfl, rfl, rfl, rfl, rfl, rfl, (fun _ h => by cases h)⟩, hvc.nf _ (List.mem_singleton.2 rfl)⟩, ⟨⟨hvs.toVB, rfl, rfl, rfl, rfl, rfl, rfl, rfl, rfl, rfl, rfl, (fun _ h => by cases h)⟩, hvs.nf _ (List.mem_singleton.2 rfl)⟩, hd _ _ _ _ J J J J J J J J, hd _ _ _ _ J J J J J J J J, (fun _ h => by cases h), (fun _ h => by cases h)⟩
theorem De {n : Int} (h1 : 1 ≤ n) (h2 : n ≤ 60) : PS n exH ⟨cB n, (dP 2 n).1, [], [], [], [], true⟩ 0 := ⟨.inl ⟨_, _, _, Dd h1 h2⟩, Nat.le_refl _, Nat.le_refl _⟩
end Go.Proofs.YthiocbcokfondaaGreatDoor.Y
