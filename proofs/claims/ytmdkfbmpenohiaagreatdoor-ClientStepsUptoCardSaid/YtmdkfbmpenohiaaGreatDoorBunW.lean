/- Texts of this claim merged into one: VcV, CliS, Steps. -/
import Derived.Test.YtmdkfbmpenohiaaGreatDoorBunM
import Derived.Test.YtmdkfbmpenohiaaGreatDoorBunL
import Derived.Test.YtmdkfbmpenohiaaGreatDoorBunR4
namespace Go.Proofs.YtmdkfbmpenohiaaGreatDoor.Y
open Go.RowKit
theorem Af {ra : Int} {bs : List BV} {q : QR} (h : nO ra bs q = true) : VQ ra bs q := by
  unfold nO at h
  cases h1 : wL q with
  | true => rw [h1] at h; cases h
  | false =>
  cases h2 : xY ra q with
  | true => rw [h1, h2] at h; cases h
  | false =>
  cases h3 : wM bs q with
  | true => rw [h1, h2, h3] at h; cases h
  | false =>
  rw [h1, h2, h3] at h
  replace h : (if q.dn then (be q.cd q.tx == 0) else if wN ra q then false else xZ q) = true := h
  unfold wL at h1
  simp only [Bool.or_eq_false_iff, bne_eq_false_iff_eq, Bool.not_eq_false'] at h1
  obtain ⟨⟨⟨⟨a1, a2⟩, a3⟩, a4⟩, a5⟩ := h1
  unfold xY at h2
  simp only [Bool.or_eq_false_iff, decide_eq_false_iff_not] at h2
  obtain ⟨⟨⟨⟨⟨b1, b2⟩, b3⟩, b4⟩, b5⟩, b6⟩ := h2
  have hsp : kC q.sh = true ∧ iL q.mg.length (c1 q.sh) (c2 q.sh) = true := by
    unfold iP at a2
    unfold kC iL
    simp only [Bool.and_eq_true] at a2 ⊢
    exact ⟨⟨a2.1.1.1, a2.1.1.2⟩, a2.1.2, a2.2⟩
  unfold wM at h3
  rw [cI] at h3
  refine ⟨a1, hsp.1, hsp.2, a3, a4, a5, ⟨by omega, by omega⟩, ⟨by omega, by omega⟩, ⟨by omega, by omega⟩, fun hb => ?_, fun hb => ?_, fun hd => ?_, fun hd => ?_, fun hd hb => ?_⟩
  · simp [hb] at h3
    exact h3
  · simp [hb] at h3
    obtain ⟨⟨c1, c2⟩, c3⟩ := h3
    refine ⟨?_, by omega, c3⟩
    cases hf : eA q.bk bs 0 with
    | none => rw [hf] at c1; simp at c1
    | some i =>
      obtain ⟨b, hb1, hb2⟩ := nB hf
      exact ⟨b, List.mem_of_getElem? hb1, tY.1 hb2⟩
  · rw [hd] at h
    simpa using h
  · rw [hd] at h
    cases h4 : wN ra q with
    | true => rw [h4] at h; cases h
    | false =>
      rw [h4] at h
      replace h : xZ q = true := h
      unfold xZ at h
      rw [cI] at h
      simpa using h
  · rw [hd] at h
    cases h4 : wN ra q with
    | true => rw [h4] at h; cases h
    | false =>
      unfold wN at h4
      rw [cI] at h4
      simp only [hb, decide_true, Bool.true_and, Bool.or_eq_false_iff, decide_eq_false_iff_not] at h4
      omega
theorem wT {c : CL} : ∀ (l : List QR) (p : Option Int), vcGo c p l = true → (∀ q ∈ l, 1 ≤ q.id ∧ q.id < c.nx) ∧ l.Pairwise (fun a b => a.id < b.id) ∧ (∀ q ∈ l, VQ c.ra c.bs q) ∧ ∀ x, p = some x → ∀ q ∈ l, x < q.id
  | [], p, _ => ⟨fun q h => (by cases h), .nil, fun q h => (by cases h), fun x _ q h => (by cases h)⟩
  | q :: r, p, h => by
    revert h
    cases hc : (decide (q.id < 1) || decide (q.id ≥ c.nx) || (match p with | none => false | some x => decide (x ≥ q.id)) || !nO c.ra c.bs q) with
    | true => intro h; rw [nP hc] at h; cases h
    | false =>
      intro h
      rw [ii hc] at h
      obtain ⟨i1, i2, i3, i4⟩ := wT r (some q.id) h
      simp only [Bool.or_eq_false_iff, decide_eq_false_iff_not, Bool.not_eq_false'] at hc
      obtain ⟨⟨⟨d1, d2⟩, d3⟩, d4⟩ := hc
      have hq : ∀ x, p = some x → x < q.id := by
        rintro x rfl
        have : ¬ (x ≥ q.id) := of_decide_eq_false d3
        omega
      refine ⟨fun y hy => ?_, List.pairwise_cons.2 ⟨fun y hy => i4 _ rfl y hy, i2⟩, fun y hy => ?_, fun x hx y hy => ?_⟩
      · rcases List.mem_cons.1 hy with rfl | hy
        · omega
        · exact i1 y hy
      · rcases List.mem_cons.1 hy with rfl | hy
        · exact Af d4
        · exact i3 y hy
      · rcases List.mem_cons.1 hy with rfl | hy
        · exact hq x hx
        · have := hq x hx
          have := i4 _ rfl y hy
          omega
theorem Ag {c : CL} (h : sE c = true) : VC c := by
  unfold sE at h
  cases h1 : wO c with
  | true => rw [h1] at h; cases h
  | false =>
  cases h2 : wP c with
  | true => rw [h1, h2] at h; cases h
  | false =>
  rw [h1, h2] at h
  obtain ⟨i1, i2, i3, _⟩ := wT c.qs none h
  unfold wO at h1
  simp only [Bool.or_eq_false_iff, bne_eq_false_iff_eq] at h1
  obtain ⟨⟨⟨a1, a2⟩, a3⟩, a4⟩ := h1
  unfold wP at h2
  simp only [Bool.or_eq_false_iff, decide_eq_false_iff_not] at h2
  exact ⟨a1, fun hn => by rw [hn] at a2; simp at a2, a3, a4, by omega, by omega, i1, i2, i3⟩
end Go.Proofs.YtmdkfbmpenohiaaGreatDoor.Y
namespace Go.Proofs.YtmdkfbmpenohiaaGreatDoor.Y
open Go.RowKit
structure xO (K : Nat) (w : World) (v : CV) : Prop where
  ok : COk (fun _ => True) w v
  wf : eE v
  bs : v.c.bs.length ≤ K
  qs : v.qv.length ≤ K
  sz : ∀ u ∈ v.qv, SzK K u.q ∧ u.q.tx.size ≤ K
theorem yS {K : Nat} {w : World} {n : Nat} {cs : List Value} (h : ja Tryz.prog tab K w (n + 9) 32 cs) : ∃ v : CV, cs = CC v ∧ xO K w v := by
  obtain ⟨hl, hf⟩ := dB rfl h
  match cs, hl with
  | [c0, c1, c2, c3, c4, c5, c6, c7, c8, c9], _ =>
    obtain ⟨_, hr⟩ := dB rfl (hf 1 1 24 _ J J)
    obtain ⟨_, hb⟩ := dB rfl (hf 2 5 26 _ J J)
    obtain ⟨xb, cb, lb, e_lb, z_lb, r_lb, o_lb⟩ := ij bC (fun _ => True) J J J (fun cs' h => m8 h) (hf 0 0 22 _ J J)
    obtain rfl := (List.cons.inj e_lb).1
    obtain ⟨ra, e_ra, w_ra⟩ := bG rfl (hr 0 0 3 _ J J)
    obtain rfl := (List.cons.inj e_ra).1
    obtain ⟨rb, e_rb, w_rb⟩ := bG rfl (hr 1 1 3 _ J J)
    obtain rfl := (List.cons.inj e_rb).1
    obtain ⟨rc, e_rc, w_rc⟩ := bG rfl (hr 2 2 3 _ J J)
    obtain rfl := (List.cons.inj e_rc).1
    obtain ⟨rk, e_rk, w_rk⟩ := bG rfl (hr 3 3 3 _ J J)
    obtain rfl := (List.cons.inj e_rk).1
    obtain ⟨tk, e_tk, w_tk⟩ := bG rfl (hb 0 0 3 _ J J)
    obtain rfl := (List.cons.inj e_tk).1
    obtain ⟨mo, e_mo, w_mo⟩ := bG rfl (hb 1 1 3 _ J J)
    obtain rfl := (List.cons.inj e_mo).1
    obtain ⟨gn, e_gn, w_gn⟩ := bG rfl (hb 2 2 3 _ J J)
    obtain rfl := (List.cons.inj e_gn).1
    obtain ⟨xq, cq, lq, e_lq, z_lq, r_lq, o_lq, q_lq⟩ := ki QC (fun v => QOk (fun _ => True) w v ∧ SzK K v.q ∧ (v.a = none → v.ac = 0) ∧ v.q.tx.size ≤ K) J J J (fun cs' h => pr h) (hf 3 8 30 _ J J)
    obtain rfl := (List.cons.inj e_lq).1
    obtain ⟨nx, e_nx, w_nx⟩ := bG rfl (hf 4 9 3 _ J J)
    obtain rfl := (List.cons.inj e_nx).1
    exact ⟨⟨⟨lb, ra, rb, rc, rk, tk, mo, gn, lq.map (·.q), nx⟩, xb, cb, xq, cq, lq⟩, rfl, ⟨m7 cr (by decide) r_lb, m7 bj (by decide) r_lq, rfl, fun q hq => (o_lq q hq).1⟩, ⟨q_lq.1, q_lq.2, fun u hu => (o_lq u hu).2.2.1⟩, z_lb, z_lq, fun u hu => ⟨(o_lq u hu).2.1, (o_lq u hu).2.2.2⟩⟩
end Go.Proofs.YtmdkfbmpenohiaaGreatDoor.Y
namespace Go.Proofs.YtmdkfbmpenohiaaGreatDoor.Y
open Go.RowKit
theorem uB (v : CV) (w w1 : World) (bv : Bool) (hb : sE v.c = bv) (hK : xO 1048576 w v) (hbe : Below w.heap.size w w1) : Calls Tryz.prog 12 #[.agg #[.slice v.b v.c.bs.length v.bc, .int .i64 v.c.ra, .int .i64 v.c.rb, .int .i64 v.c.rc, .int .i64 v.c.rk, .int .i64 v.c.tk, .int .i64 v.c.mo, .int .i64 v.c.gn, .slice v.x v.qv.length v.xc, .int .i64 v.c.nx]] w1 fun e w' => e = .returned (.bool bv) ∧ Below w1.heap.size w1 w' := by
  subst hb
  have h1 := hK.bs
  have h2 := hK.qs
  exact lO v w1 (hK.ok.below hbe) (by omega) (by omega) (fun x hx => (hK.sz x hx).1.szq (Nat.le_refl _)) (fun x hx => (hK.sz x hx).1.hd (Nat.le_refl _)) (fun x hx => Nat.le_trans (hK.sz x hx).2 (by decide))
theorem xP (v : CV) (o : OV) (w w1 : World) {M : List Ent} (hm : Mem w w1 M) (hC : COk (fun _ => True) w v) (hQ : QOk (fun _ => True) w o.q) (hg : MLen w) (hV : VC v.c) (hzq : v.c.qs.length ≤ 703687441775) (hz : ∀ q ∈ v.c.qs, eP q) (han : ∀ q ∈ v.c.qs, q.an.length < 8796093022208) (hsz : eP o.q.q) (hhd : dH o.q.q.hd) (htx : o.tx.size ≤ 4611686018427387900) : Calls Tryz.prog 9 #[.agg #[.slice v.b v.c.bs.length v.bc, .int .i64 v.c.ra, .int .i64 v.c.rb, .int .i64 v.c.rc, .int .i64 v.c.rk, .int .i64 v.c.tk, .int .i64 v.c.mo, .int .i64 v.c.gn, .slice v.x v.qv.length v.xc, .int .i64 v.c.nx], .agg #[.int .i64 o.kd, .int .i64 o.id, .int .i64 o.n, .int .i64 o.now, .int .i64 o.q.q.id, .string o.q.q.sv, .string o.q.q.mt, .int .i64 o.q.q.late, .slice o.q.m o.q.q.ms.length o.q.mc, .int .i64 o.q.q.sh, .slice o.q.s o.q.q.mg.length o.q.sc, .int .i64 o.q.q.att, .string o.q.q.bk, .int .i64 o.q.q.st, .int .i64 o.q.q.nx, .slice o.q.a o.q.q.an.length o.q.ac, .bool o.q.q.dn, .int .i64 o.q.q.cd, .string o.q.q.tx, .string o.msg, .int .i64 o.cd, .string o.tx, .bool o.safe]] w1 fun e w' => ∃ s : SV, ∃ F : Nat → Prop, (s.c.c = (aX v.c o.d).1 ∧ s.l.map (·.q) = (aX v.c o.d).2.qs) ∧ e = .returned (.tuple ⟨[.agg ⟨CC s.c⟩, .agg ⟨RC s (aX v.c o.d).2⟩]⟩) ∧ Mem w w' (.rep F (fun w => StOk F w s (aX v.c o.d).2.ids) :: M) := by
  exact (pj (A := fun b => True ∧ b < w.heap.size) v o w1 (hC.lt.below hm.below) (hQ.lt.below hm.below) (hg.below hm.below) hV (by rw [← hC.lenq]; exact hzq) (gI hC hz) han hsz hhd htx).mono fun e w2 ⟨s, F1, h1, h2, h3, h4, h5⟩ => ⟨s, _, h2, h3, Mem.out hm (A := fun b => True ∧ b < w.heap.size) (fun b hb f hf => cE hm hb.2 hf) h5 (fun F w => StOk F w s (aX v.c o.d).2.ids) ((h4.mono h1).lt) (fun F w3 w4 hk h => h.agree hk)⟩
theorem ws (v : CV) (o : OV) (w w1 : World) {M : List Ent} (hm : Mem w w1 M) (hC : COk (fun _ => True) w v) (hw : eE v) (hQ : QOk (fun _ => True) w o.q) (_ : MLen w) (hV : VC v.c) (hzq : v.c.qs.length ≤ 703687441775) (_ : ∀ q ∈ v.c.qs, eP q) (han : ∀ q ∈ v.c.qs, q.an.length < 8796093022208) (hsz : eP o.q.q) (hhd : dH o.q.q.hd) (htx : o.tx.size ≤ 4611686018427387900) : Calls Tryz.prog 10 #[.agg #[.slice v.b v.c.bs.length v.bc, .int .i64 v.c.ra, .int .i64 v.c.rb, .int .i64 v.c.rc, .int .i64 v.c.rk, .int .i64 v.c.tk, .int .i64 v.c.mo, .int .i64 v.c.gn, .slice v.x v.qv.length v.xc, .int .i64 v.c.nx], .agg #[.int .i64 o.kd, .int .i64 o.id, .int .i64 o.n, .int .i64 o.now, .int .i64 o.q.q.id, .string o.q.q.sv, .string o.q.q.mt, .int .i64 o.q.q.late, .slice o.q.m o.q.q.ms.length o.q.mc, .int .i64 o.q.q.sh, .slice o.q.s o.q.q.mg.length o.q.sc, .int .i64 o.q.q.att, .string o.q.q.bk, .int .i64 o.q.q.st, .int .i64 o.q.q.nx, .slice o.q.a o.q.q.an.length o.q.ac, .bool o.q.q.dn, .int .i64 o.q.q.cd, .string o.q.q.tx, .string o.msg, .int .i64 o.cd, .string o.tx, .bool o.safe]] w1 fun e w' => ∃ s : SV, ∃ F : Nat → Prop, ((s.c.c = (aX v.c o.d).1 ∧ s.l.map (·.q) = (aX v.c o.d).2.qs) ∧ eE s.c) ∧ e = .returned (.tuple ⟨[.agg ⟨CC s.c⟩, .agg ⟨RC s (aX v.c o.d).2⟩]⟩) ∧ Mem w w' (.rep F (fun w => StOk F w s (aX v.c o.d).2.ids) :: M) := by
  exact (mZ (A := fun b => True ∧ b < w.heap.size) v o w1 (hC.lt.below hm.below) hw (hQ.lt.below hm.below) hV (by rw [← hC.lenq]; exact hzq) han hsz hhd htx).mono fun e w2 ⟨s, F1, ⟨h1, h6⟩, h2, h3, h4, h5⟩ => ⟨s, _, ⟨h2, h6⟩, h3, Mem.out hm (A := fun b => True ∧ b < w.heap.size) (fun b hb f hf => cE hm hb.2 hf) h5 (fun F w => StOk F w s (aX v.c o.d).2.ids) ((h4.mono h1).lt) (fun F w3 w4 hk h => h.agree hk)⟩
attribute [local irreducible] Calls
set_option maxRecDepth 100000 in
set_option maxHeartbeats 32000000 in
theorem za (v : CV) (o : OV) (w : World) (hK : xO 1048576 w v) (hQ : QOk (fun _ => True) w o.q) (hS : SzK 1048576 o.q.q) (htx : o.tx.size ≤ 1048576) (hg : MLen w) : Calls Tryz.prog 4 #[.agg #[.slice v.b v.c.bs.length v.bc, .int .i64 v.c.ra, .int .i64 v.c.rb, .int .i64 v.c.rc, .int .i64 v.c.rk, .int .i64 v.c.tk, .int .i64 v.c.mo, .int .i64 v.c.gn, .slice v.x v.qv.length v.xc, .int .i64 v.c.nx], .agg #[.int .i64 o.kd, .int .i64 o.id, .int .i64 o.n, .int .i64 o.now, .int .i64 o.q.q.id, .string o.q.q.sv, .string o.q.q.mt, .int .i64 o.q.q.late, .slice o.q.m o.q.q.ms.length o.q.mc, .int .i64 o.q.q.sh, .slice o.q.s o.q.q.mg.length o.q.sc, .int .i64 o.q.q.att, .string o.q.q.bk, .int .i64 o.q.q.st, .int .i64 o.q.q.nx, .slice o.q.a o.q.q.an.length o.q.ac, .bool o.q.q.dn, .int .i64 o.q.q.cd, .string o.q.q.tx, .string o.msg, .int .i64 o.cd, .string o.tx, .bool o.safe]] w fun e w' => e = .returned (.bool true) ∧ Below w.heap.size w w' := by
  refine aD Tryz.func4 rfl Tryz.ntmps4 J J ?_
  obtain ⟨bv, hbv⟩ : ∃ b, sE v.c = b := ⟨_, rfl⟩
  repeat' (first | refine ag ?_ | refine aa ?_ | refine ab ?_ | refine ae ?_ | (refine aT J J J J J J ?_; intro g2) | ((refine' ak rfl ?_ J J ?_); rotate_left; first | exact ai af J J J J | exact ah af 1 J J J J J) | refine aG rfl (ay J J J J ⟨J, trivial⟩ rfl (by kernel_rfl)) (fun w hm => uB v _ w bv hbv hK hm.below) J J ?_)
  cases bv with
  | false =>
    refine aw J J ?_
    repeat' (first | refine ag ?_ | refine aa ?_ | refine ab ?_ | refine aA ?_ | refine ar ?_ | refine ae ?_ | ((refine' ak rfl ?_ J J ?_); rotate_left; exact ai af J J J J) | refine aG rfl (ay J J J J trivial rfl (by kernel_rfl)) (fun w hm => kL w (hg.below hm.below)) J J ?_)
    refine aB af (fun _ => 0) J J trivial rfl fun w hm => ⟨?_, hm.below⟩
    rfl
  | true =>
    have hV := Ag hbv
    have hq0 := hK.qs
    have hlq : v.c.qs.length ≤ 703687441775 := by rw [hK.ok.lenq]; omega
    have hsz : ∀ q ∈ v.c.qs, SzK 1048576 q := fun q hq => by
      rw [hK.ok.eq] at hq
      obtain ⟨u, hu, rfl⟩ := List.mem_map.1 hq
      exact (hK.sz u hu).1
    have hzz : ∀ q ∈ v.c.qs, eP q := fun q hq => (hsz q hq).szq (Nat.le_refl _)
    have haz : ∀ q ∈ v.c.qs, q.an.length < 8796093022208 := fun q hq => by have := (hsz q hq).an; omega
    have hCl : COk (fun b => b < w.heap.size) w v := hK.ok.lt.mono fun b hb => hb.2
    have hI0 : LI ⟨v.b, v.bc, v.c.bs, v.c.ra, v.c.rb, v.c.rc, v.c.rk, v.c.tk, v.c.mo, v.c.gn⟩ 1048576 v.c := ⟨hV, ⟨by rw [hK.ok.lenq]; exact hq0, fun q hq => ⟨by have := (hsz q hq).ms; omega, by have := (hsz q hq).mg; omega, (hsz q hq).an⟩⟩, rfl, rfl, rfl⟩
    obtain ⟨hI1, n1, hmv⟩ := hI0.step o hS
    refine am J J ?_
    repeat' (first | refine ag ?_ | refine aa ?_ | refine ab ?_ | refine au ?_ | ((refine' ak rfl ?_ J J ?_); rotate_left; first | exact ah af 0 J J J J J | exact ah af 1 J J J J J))
    refine bE (σ := SV) (fun s _ => (s.c.c = (aX v.c o.d).1 ∧ s.l.map (·.q) = (aX v.c o.d).2.qs)) (fun s => .tuple ⟨[.agg ⟨CC s.c⟩, .agg ⟨RC s (aX v.c o.d).2⟩]⟩) (fun s F w => StOk F w s (aX v.c o.d).2.ids) rfl (ay J J J J ⟨J, J, trivial⟩ rfl (by kernel_rfl)) (fun w1 hm => xP v o w w1 hm hK.ok hQ hg hV hlq hzz haz (hS.szq (Nat.le_refl _)) (hS.hd (Nat.le_refl _)) (Nat.le_trans htx (by decide))) J J ?_
    rintro ⟨⟨c1, bb1, bc1, xx1, xc1, qv1⟩, l1, la1, lc1, ia1, ic1⟩ F1 ⟨hc1, hl1⟩
    dsimp only at hc1 hl1
    repeat' (first | refine ag ?_ | refine aa ?_ | refine ab ?_ | refine ae ?_ | (refine aF af J J J J J J ?_; intro g5) | ((refine' ak rfl ?_ J J ?_); rotate_left; first | exact ai af J J J J | exact ah af 3 J J J J J | exact ah af 4 J J J J J) | refine aj af 0 J J J J J J J J J J J J ?_ | refine aj af 1 J J J J J J J J J J J J ?_)
    repeat' (first | refine ag ?_ | refine aa ?_ | refine ab ?_ | refine aA ?_ | refine au ?_ | refine aE ?_ | refine a8 ?_ | refine ar ?_ | refine aH ?_ | refine ax ?_ | refine aQ ?_ | refine aN ?_ | refine cu rfl ?_ | refine aY aK rfl (by kernel_rfl) ?_ | refine ae ?_ | refine bz ?_ | (refine ea ?_; intro g) | ((first | refine' ak rfl ?_ J J ?_ | refine' dm rfl ?_ J J J ?_); rotate_left; first | exact ai af J J J J | exact aq af J J J J J J | exact bp J J J J J | exact bx J J J J J | exact ah af 0 J J J J J | exact ah af 1 J J J J J | exact ah af 2 J J J J J | exact ah af 3 J J J J J | exact ah af 4 J J J J J | exact ah af 5 J J J J J | exact fX af fm J J J J J J (by kernel_rfl) | exact ew af fm J J J J J J (by kernel_rfl) | exact aO af J J J J J J J | exact d9 J J J J J | exact cV J J J J J | exact jd J J J J J J J | exact aC af J J trivial J J J | exact aC af J J ⟨J, trivial⟩ J J J | exact aC af J J ⟨J, J, trivial⟩ J J J | exact aC af J J ⟨J, J, J, trivial⟩ J J J | exact aC af J J ⟨J, J, J, J, trivial⟩ J J J | exact aC af J J ⟨J, J, J, J, J, trivial⟩ J J J | exact aC af J J ⟨J, J, J, J, J, J, trivial⟩ J J J | exact aC af J J ⟨J, J, J, J, J, J, J, trivial⟩ J J J | exact aC af J J ⟨J, J, J, J, J, J, J, J, trivial⟩ J J J) | (refine aT J J J J J J ?_; intro g) | (refine aF af J J J J J J ?_; intro g) | refine dJ af J J J J J J ?_ | refine gA J J J J J J ?_ | refine aj af 0 J J J J J J J J J J J J ?_ | refine aj af 1 J J J J J J J J J J J J ?_ | refine aj af 2 J J J J J J J J J J J J ?_ | refine aj af 3 J J J J J J J J J J J J ?_ | refine aj af 4 J J J J J J J J J J J J ?_ | refine aj af 5 J J J J J J J J J J J J ?_)
    refine bE (σ := SV) (fun s _ => ((s.c.c = (aX v.c o.d).1 ∧ s.l.map (·.q) = (aX v.c o.d).2.qs) ∧ eE s.c)) (fun s => .tuple ⟨[.agg ⟨CC s.c⟩, .agg ⟨RC s (aX v.c o.d).2⟩]⟩) (fun s F w => StOk F w s (aX v.c o.d).2.ids) rfl (ay J J J J ⟨J, J, trivial⟩ rfl (by kernel_rfl)) (fun w1 hm => ws v o w w1 hm hK.ok hK.wf hQ hg hV hlq hzz haz (hS.szq (Nat.le_refl _)) (hS.hd (Nat.le_refl _)) (Nat.le_trans htx (by decide))) J J ?_
    rintro ⟨⟨c2, bb2, bc2, xx2, xc2, qv2⟩, l2, la2, lc2, ia2, ic2⟩ F2 ⟨⟨hc2, hl2⟩, hwf2⟩
    dsimp only at hc2 hl2
    repeat' (first | refine ag ?_ | refine aa ?_ | refine ab ?_ | refine ae ?_ | (refine aF af J J J J J J ?_; intro g7) | ((refine' ak rfl ?_ J J ?_); rotate_left; first | exact ai af J J J J | exact ah af 0 J J J J J | exact ah af 3 J J J J J) | refine aj af 0 J J J J J J J J J J J J ?_ | refine aj af 1 J J J J J J J J J J J J ?_)
    have hcc : c1 = c2 := hc1.trans hc2.symm
    subst hcc
    rw [← hc1] at hI1
    have hlq1 : c1.qs.length ≤ 703687441775 := by have := hI1.sz.1; omega
    have hzz1 : ∀ q ∈ c1.qs, eP q := fun q hq => by
      obtain ⟨h1, h2, h3⟩ := hI1.sz.2 q hq
      exact ⟨h1, h2, by omega⟩
    obtain ⟨hr1, hr2, hr3⟩ := pw o.d hzz
    have hb1 := (gH hI1.ok.cb).1
    have hll : l1.length = (aX v.c o.d).2.qs.length := by rw [← hl1, List.length_map]
    have hlz : ∀ u ∈ l1, eP u.q := fun u hu => hr1 _ (by rw [← hl1]; exact List.mem_map_of_mem hu)
    repeat' (first | refine ab ?_ | refine aA ?_ | refine ae ?_ | ((refine' ak rfl ?_ J J ?_); rotate_left; first | exact ai af J J J J | exact bx J J J J J | exact ah af 1 J J J J J | exact ah af 4 J J J J J) | refine aG rfl (ay J J J J ⟨J, J, trivial⟩ rfl (by kernel_rfl)) (fun w hm => pt (A := F1) (A' := F2) ⟨⟨c1, bb1, bc1, xx1, xc1, qv1⟩, l1, la1, lc1, ia1, ic1⟩ ⟨⟨c1, bb2, bc2, xx2, xc2, qv2⟩, l2, la2, lc2, ia2, ic2⟩ (aX v.c o.d).2 w (hm.2.get (i := 5) rfl).2.1.qs (hm.2.get (i := 2) rfl).2.1.qs (hl1.trans hl2.symm) (hm.2.get (i := 5) rfl).2.1.ok (hm.2.get (i := 2) rfl).2.1.ok hlz (by show l1.length ≤ _; omega) (hm.2.get (i := 5) rfl).2.1.is (hm.2.get (i := 2) rfl).2.1.is (by omega)) J J ?_ | refine aG rfl (ay J J J J ⟨J, J, trivial⟩ rfl (by kernel_rfl)) (fun w hm => uA (A := F1) (A2 := F2) ⟨c1, bb1, bc1, xx1, xc1, qv1⟩ ⟨c1, bb2, bc2, xx2, xc2, qv2⟩ w (hm.2.get (i := 5) rfl).2.1.cl (hm.2.get (i := 2) rfl).2.1.cl rfl (by show c1.bs.length ≤ _; omega) hlq1 hzz1) J J ?_ | refine aG rfl (ay J J J J ⟨J, trivial⟩ rfl (by kernel_rfl)) (fun w hm => uz (A := F1) ⟨c1, bb1, bc1, xx1, xc1, qv1⟩ w (hm.2.get (i := 5) rfl).2.1.cl hI1.ok hlq1 hzz1) J J ?_ | refine aG rfl (ay J J J J trivial rfl (by kernel_rfl)) (fun w hm => kL w (hg.below hm.below)) J J ?_)
    refine aB af (fun _ => 0) J J trivial rfl fun w hm => ⟨?_, hm.below⟩
    simp
end Go.Proofs.YtmdkfbmpenohiaaGreatDoor.Y
