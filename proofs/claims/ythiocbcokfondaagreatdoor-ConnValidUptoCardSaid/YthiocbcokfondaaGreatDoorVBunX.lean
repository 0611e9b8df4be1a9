/- Texts of this claim merged into one: VConV, VEx47, VAw47. -/
import Derived.Test.YthiocbcokfondaaGreatDoorVBunC14
namespace Go.Proofs.YthiocbcokfondaaGreatDoor.Y
theorem kZ (c : NL) (s : cP) : ∀ l : List cO, el c l false s = l.all qh
  | [] => rfl
  | f :: r => by
    rw [kW, kZ c s r, List.all_cons, Bool.false_and, Bool.not_false, Bool.and_true]
    rfl
theorem pw (c : NL) (k : KR) : el c k.ob true k.st = (k.ob.all qh && !iX c k) := by
  unfold iX
  cases h : k.ob with
  | nil => rfl
  | cons f r =>
    rw [kW, kZ, List.all_cons, Bool.true_and]
    dsimp only
    rw [show (f.kind == 2 || f.kind == 3 || f.kind == 4) = qh f from rfl]
    cases qh f <;> cases (f.kind != 2 || decide (bE f.data ≤ k.st.snd.left) && decide (bE f.data ≤ c.sw.left)) <;> cases r.all qh <;> rfl
theorem vn (c : NL) (k : KR) : gS c k = (dJ c k && decide (k.st.id ≤ c.la)) := by
  have h1 : xl c k = !(cn k.st && decide (k.st.side = c.sd) && decide (k.st.snd.size = c.sz) && decide (k.st.rcv.size = c.sz) && decide (k.st.snd.held = 0) && decide (bd k.hd = 0) && decide (k.st.id ≤ c.la)) := by
    unfold xl
    have e1 : decide (k.st.id > c.la) = !decide (k.st.id ≤ c.la) := by rw [← decide_not]; congr 1; exact propext ⟨fun h => by omega, fun h => by omega⟩
    rw [e1]
    simp only [bne, Bool.beq_eq_decide_eq]
    cases cn k.st <;> cases decide (k.st.side = c.sd) <;> cases decide (k.st.id ≤ c.la) <;> cases decide (k.st.snd.size = c.sz) <;> cases decide (k.st.rcv.size = c.sz) <;> cases decide (k.st.snd.held = 0) <;> cases decide (bd k.hd = 0) <;> rfl
  unfold gS dJ
  rw [h1, pw]
  generalize (cn k.st && decide (k.st.side = c.sd) && decide (k.st.snd.size = c.sz) && decide (k.st.rcv.size = c.sz) && decide (k.st.snd.held = 0) && decide (bd k.hd = 0)) = a
  generalize decide (k.st.id ≤ c.la) = b
  generalize (k.ib.all fun m => decide (m.size ≤ 16384)) = d
  generalize decide (k.ob.length = 0) = e
  generalize k.ob.all qh = f
  generalize decide ((dH k.ob k.st).err = 0) = g
  generalize decide (ce k.ib ≤ k.st.rcv.held) = h
  generalize iX c k = i
  cases k.st.done <;> cases a <;> cases b <;> cases d <;> cases e <;> cases f <;> cases g <;> cases h <;> cases i <;> rfl
theorem vT (c : NL) : ∀ (l : List KR) (p : Option Int), rgtGo c p l = rgGo c p l
  | [], p => by rw [mh, oe]
  | k :: r, p => by
    have h1 : (!dJ c k || decide (k.st.id > c.la) || (match p with | none => false | some x => decide (k.st.id ≤ x))) = (!gS c k || (match p with | none => false | some x => decide (x ≥ k.st.id))) := by
      rw [vn]
      have e1 : decide (k.st.id > c.la) = !decide (k.st.id ≤ c.la) := by rw [← decide_not]; congr 1; exact propext ⟨fun h => by omega, fun h => by omega⟩
      rw [e1]
      cases p <;> cases dJ c k <;> cases decide (k.st.id ≤ c.la) <;> rfl
    revert h1
    cases hb : (!gS c k || (match p with | none => false | some x => decide (x ≥ k.st.id))) with
    | true => intro h1; rw [j3 hb, kX h1]
    | false => intro h1; rw [iY hb, jC h1, vT c r (some k.st.id)]
theorem tL (c : NL) : ∀ (l : List KR) (p : Option Int), rgGo c p l = true → ascB p l = true
  | [], _, _ => by rw [ascB.eq_def]
  | k :: r, p, h => by
    revert h
    cases hb : (!gS c k || (match p with | none => false | some x => decide (x ≥ k.st.id))) with
    | true => intro h; rw [j3 hb] at h; cases h
    | false =>
      intro h
      rw [iY hb] at h
      have ih := tL c r (some k.st.id) h
      rw [ascB.eq_def]
      dsimp only
      rw [ih, Bool.and_true]
      cases p with
      | none => rfl
      | some x =>
        simp only [Bool.or_eq_false_iff, decide_eq_false_iff_not] at hb
        exact decide_eq_true (by omega)
theorem yo (l : List Int) : hJ l = kY l := by
  unfold hJ kY
  congr 1
theorem vo (c : NL) : jK c = (!tX c && !tY c && !tI c && !tZ c) := by
  rw [Bool.eq_iff_iff]
  unfold jK tX tY tI tZ
  generalize di c.sw = a
  generalize di c.rw = b
  grind
theorem tM (c : NL) : fi c = iZ c := by
  unfold fi iZ
  rw [vT, yo]
  cases hg : rgGo c none c.ks with
  | false => cases vm c <;> cases tX c <;> cases tY c <;> cases tI c <;> cases tZ c <;> rfl
  | true =>
    have ha := tz (tL c c.ks none hg)
    have h1 : vm c = !(!tX c && !tY c && !tI c && !tZ c && decide (c.pg.length ≤ 16) && decide (dw c.ks ≤ 64)) := by
      unfold vm
      rw [vo, ha]
      rw [show decide ((c.pg.length : Int) > 16) = !decide (c.pg.length ≤ 16) by rw [← decide_not]; congr 1; exact propext ⟨fun h => by omega, fun h => by omega⟩]
      rw [show decide (((dw c.ks : Nat) : Int) > 64) = !decide (dw c.ks ≤ 64) by rw [← decide_not]; congr 1; exact propext ⟨fun h => by omega, fun h => by omega⟩]
      generalize (!tX c && !tY c && !tI c && !tZ c) = a
      cases a <;> cases decide (c.pg.length ≤ 16) <;> cases decide (dw c.ks ≤ 64) <;> rfl
    have h2 : tF c = oh c := by unfold tF oh; rw [ha]
    have h3 : tJ c = (decide (dw c.ks ≤ 64) && decide (cL c.ks ≤ c.rw.held) && decide (c.pg.length ≤ 16)) := by
      unfold tJ
      rw [show decide ((c.pg.length : Int) ≤ 16) = decide (c.pg.length ≤ 16) by congr 1; exact propext ⟨fun h => by omega, fun h => by omega⟩]
      rw [show decide (((dw c.ks : Nat) : Int) ≤ 64) = decide (dw c.ks ≤ 64) by congr 1; exact propext ⟨fun h => by omega, fun h => by omega⟩]
    rw [h1, h2, h3]
    generalize decide (c.pg.length ≤ 16) = x1
    generalize decide (dw c.ks ≤ 64) = x2
    generalize decide (cL c.ks ≤ c.rw.held) = x3
    generalize oh c = x4
    generalize kY c.pg = x5
    generalize iA c.ou = x6
    cases tX c <;> cases tY c <;> cases tI c <;> cases tZ c <;> cases x1 <;> cases x2 <;> cases x3 <;> cases x4 <;> cases x5 <;> cases x6 <;> rfl
end Go.Proofs.YthiocbcokfondaaGreatDoor.Y
namespace Go.Proofs.YthiocbcokfondaaGreatDoor.Y
def exH : gR := ⟨⟨#[97, 46, 83]⟩, ⟨#[71, 101, 116]⟩, 0, []⟩
def t6 (n : Int) : dU := ⟨10, n, 0⟩
def pz : NL := ⟨1, 1, 0, 0, 10, t6 10, t6 10, [], [], [], false⟩
theorem zv : kz 1 10 = (pz, 0) := by kernel_rfl
def yx (n : Int) (l : Int) : cP := ⟨1, 1, 4, n, 0, false, false, false, 0, ⟨#[]⟩, t6 l, t6 10⟩
def om : cO := ⟨1, 1, 4, nw exH⟩
def pA : NL := ⟨1, 2, 1, 0, 10, t6 10, t6 10, [⟨yx 0 10, exH.svc, exH.mth, 0, [], [], []⟩], [om], [], false⟩
theorem zk : dk pz exH 4 = (pA, 1, 0) := by kernel_rfl
def yW : ByteArray := ⟨#[97, 98, 99, 100]⟩
def yy : ByteArray := ⟨#[97, 98, 99, 100, 101, 102, 103]⟩
def mT : cO := ⟨2, 1, 0, yW⟩
def rz : NL := ⟨1, 2, 1, 0, 10, t6 6, t6 10, [⟨yx 1 6, exH.svc, exH.mth, 0, [], [], []⟩], [om, mT], [], false⟩
theorem zl : lL pA 1 yW = (rz, 0) := by kernel_rfl
def lw : NL := ⟨1, 2, 1, 0, 10, t6 6, t6 10, [⟨yx 1 6, exH.svc, exH.mth, 0, [], [], [⟨2, 1, 0, yy⟩]⟩], [om, mT], [], false⟩
theorem zm : lL rz 1 yy = (lw, 0) := by kernel_rfl
theorem zn : dI lw 1 = (⟨yx 1 6, exH.svc, exH.mth, 0, [], [], [⟨2, 1, 0, yy⟩]⟩, true) := by kernel_rfl
theorem zw : fi lw = true := by kernel_rfl
end Go.Proofs.YthiocbcokfondaaGreatDoor.Y
namespace Go.Proofs.YthiocbcokfondaaGreatDoor.Y
open Go.RowKit
structure SzL (c : NL) : Prop where
  ks : c.ks.length ≤ 600000000
  ou : c.ou.length ≤ 1000000000 ∧ ∀ f ∈ c.ou, f.data.size < 4294967281
  pg : c.pg.length ≤ 1000000000
  tb : cL c.ks ≤ 4611686018427387904
  ok : ∀ k ∈ c.ks, k.ms.length ≤ 1000000000 ∧ k.ib.length ≤ 1000000000 ∧ k.ob.length ≤ 1000000000 ∧ k.st.text.size ≤ 4611686018427387900 ∧ (∀ f ∈ k.ob, f.data.size < 4294967281) ∧ ce k.ib ≤ 4611686018427387904 ∧ eo k.hd
theorem NOk.inks {A : Nat → Prop} {w : World} {v : NV} (h : NOk A w v) {u : KV} (hu : u ∈ v.kv) : u.k ∈ v.c.ks := by rw [h.eq]; exact List.mem_map_of_mem hu
theorem SzL.n {A : Nat → Prop} {w : World} {v : NV} (h : SzL v.c) (hN : NOk A w v) : pS v := by
  have h1 := h.ks
  have h2 := h.ou.1
  have h3 := h.pg
  have h4 := hN.lenk
  exact ⟨by omega, by omega, by omega, fun u hu => by
    obtain ⟨a, b, c, _⟩ := h.ok _ (hN.inks hu)
    exact ⟨by omega, by omega, by omega⟩⟩
theorem SzL.g {A : Nat → Prop} {w : World} {v : NV} (h : SzL v.c) (hN : NOk A w v) : vf v := ⟨fun _ hu => (h.ok _ (hN.inks hu)).2.2.2.1, fun _ hu => (h.ok _ (hN.inks hu)).2.2.2.2.1, fun _ hu => (h.ok _ (hN.inks hu)).2.2.1, h.ou.1⟩
theorem SzL.v {A : Nat → Prop} {w : World} {v : NV} (h : SzL v.c) (hN : NOk A w v) : xj v := ⟨fun _ hu => (h.ok _ (hN.inks hu)).2.2.2.2.2.1, h.tb, fun _ hu => (h.ok _ (hN.inks hu)).2.2.2.2.2.2, h.ou.2⟩
theorem wZ {c : NL} (h1 : c.ks = []) (h2 : c.ou = []) (h3 : c.pg = []) : SzL c := by
  refine ⟨by rw [h1]; decide, by rw [h2]; exact ⟨by decide, fun _ h => by cases h⟩, by rw [h3]; decide, by rw [h1]; decide, fun k hk => ?_⟩
  rw [h1] at hk; cases hk
theorem yz : eo exH := ⟨by decide, by decide, fun _ h => by cases h⟩
theorem szX1 : SzL pz := wZ J J J
theorem szX2 : SzL pA := ⟨by decide, ⟨by decide, fun f hf => by obtain rfl := List.mem_singleton.1 hf; exact of_decide_eq_true (by kernel_rfl)⟩, by decide, of_decide_eq_true (by kernel_rfl), fun k hk => by
  obtain rfl := List.mem_singleton.1 hk
  exact ⟨by decide, by decide, by decide, by decide, (fun _ h => by cases h), by decide, yz⟩⟩
theorem qi {p : cO → Prop} (h1 : p om) (h2 : p mT) : ∀ f ∈ [om, mT], p f := fun f hf => by
  rcases List.mem_cons.1 hf with rfl | hf
  · exact h1
  · obtain rfl := List.mem_singleton.1 hf
    exact h2
theorem szX3 : SzL rz := ⟨by decide, ⟨by decide, qi (of_decide_eq_true (by kernel_rfl)) (of_decide_eq_true (by kernel_rfl))⟩, by decide, of_decide_eq_true (by kernel_rfl), fun k hk => by
  obtain rfl := List.mem_singleton.1 hk
  exact ⟨by decide, by decide, by decide, by decide, (fun _ h => by cases h), by decide, yz⟩⟩
theorem szX4 : SzL lw := ⟨by decide, ⟨by decide, qi (of_decide_eq_true (by kernel_rfl)) (of_decide_eq_true (by kernel_rfl))⟩, by decide, of_decide_eq_true (by kernel_rfl), fun k hk => by
  obtain rfl := List.mem_singleton.1 hk
  exact ⟨by decide, by decide, by decide, by decide, (fun f hf => by obtain rfl := List.mem_singleton.1 hf; exact of_decide_eq_true (by kernel_rfl)), by decide, yz⟩⟩
theorem tN {F0 : Nat → Prop} {w w1 w2 : World} {M : List Ent} {s : NV} (hm : Mem w w1 M) (hF : ∀ b, F0 b → ∀ f ∈ M, ¬ f.mut b) (h : OutN F0 w1 w2 s) : ∃ F : Nat → Prop, Mem w w2 (.rep F (fun w => NOk F w s) :: M) :=
  ⟨_, Mem.out hm (A := F0) hF h.2 (fun F w => NOk F w s) h.1.lt (fun _ _ _ hk h => h.agree hk)⟩
attribute [local irreducible] Calls
set_option maxRecDepth 100000 in
set_option maxHeartbeats 8000000 in
theorem w7  (w : World) : Calls Tryz.prog 16 #[] w fun e w' => e = .returned (.agg #[.string exH.svc, .string exH.mth, .int .i64 exH.late, .slice none exH.metas.length 0]) ∧ Below w.heap.size w w' := by
  refine aI Tryz.func16 rfl Tryz.ntmps16 J J ?_
  repeat' (first | refine ah ?_ | refine aa ?_ | refine ab ?_ | refine az ?_ | refine ae ?_ | ((refine' am rfl ?_ J J ?_); rotate_left; exact aT af J J ⟨J, J, trivial⟩ J J J) | (refine aN af J J J J J J ?_; intro g) | refine aq af 0 J J J J J J J J J J J J ?_)
  (refine ay af (fun _ => 0) J J ⟨J, trivial⟩ rfl fun w hm => ⟨?_, hm.below⟩)
  rfl
theorem yp {A : Nat → Prop} {w : World} {v : NV} (hN : NOk A w v) (hg : MLen w) (hc : v.c = lw) : Calls Tryz.prog 8 #[.agg ⟨NC v⟩] w fun e w' => e = .returned (.bool true) ∧ Below w.heap.size w w' := by
  have hs : SzL v.c := by rw [hc]; exact szX4
  exact (od v w hN (hs.n hN) (hs.g hN) (hs.v hN) hg).mono fun e w' h => ⟨by rw [h.1, hc, zw], h.2⟩
set_option maxRecDepth 100000 in
set_option maxHeartbeats 16000000 in
theorem vp  (w : World) (hg : MLen w) : Calls Tryz.prog 13 #[] w fun e w' => e = .returned (.bool true) ∧ Below w.heap.size w w' := by
  refine aI Tryz.func13 rfl Tryz.ntmps13 J J ?_
  repeat' (first | refine ah ?_ | refine aa ?_ | refine ab ?_ | refine ae ?_ | ((refine' am rfl ?_ J J ?_); rotate_left; exact ai af J J J J))
  refine aH (v := .tuple ⟨[.agg ⟨NC (tn pz)⟩, .int .i64 0]⟩) rfl (av J J J J ⟨J, J, trivial⟩ rfl (by kernel_rfl)) (fun w1 hm => (tr 1 10 w1).mono fun e w2 h => ⟨by rw [h.1, zv], h.2⟩) J J ?_
  repeat' (first | refine ah ?_ | refine ab ?_ | refine ae ?_ | (refine aN af J J J J J J ?_; intro g1) | ((refine' am rfl ?_ J J ?_); rotate_left; exact ai af J J J J) | refine aq af 0 J J J J J J J J J J J J ?_)
  refine nS (fun _ => False) 7 [18] [15, 19, 20, 21] [20, 21] (fun _ _ _ h => h.elim) aQ rfl (by kernel_rfl) ?_
  ((refine' x7 rfl ?_ J J J ?_); rotate_left; exact ag af 0 J J J J J)
  refine s9 rfl (av J J J J trivial rfl (by kernel_rfl)) (fun w1 hm => w7 w1) J J J ?_
  refine qY (σ := NV × (Nat → Prop)) (fun s => s.1.c = pA) (fun s => .tuple #[.agg ⟨NC s.1⟩, .int .i64 1, .int .i64 0]) (fun s => [.rep s.2 (fun w => NOk s.2 w s.1)]) rfl (av J J J J ⟨J, J, J, trivial⟩ rfl (by kernel_rfl)) (fun w1 hm => ?_) J J J J J ?_
  · refine (ri (A := fun _ => False) (tn pz) exH none 0 4 w1 (mP J J J) (szX1.n (A := fun _ => False) (w := w1) (mP J J J)) (szX1.g (A := fun _ => False) (w := w1) (mP J J J)) (hg.below hm.below) (by kernel_rfl) (by decide) dr yz (of_decide_eq_true (by kernel_rfl)) (by decide)).mono fun e w2 ⟨v', h1, h2, h3, h4⟩ => ?_
    refine ⟨⟨(v', fun b => (False ∨ w1.heap.size ≤ b) ∧ b < w2.heap.size), fun b => w1.heap.size ≤ b ∧ b < w2.heap.size, by rw [h1]; exact congrArg (·.1) zk, by rw [h2]; rw [show (tn pz).c = pz from rfl, zk], ⟨⟨fun _ h => h.2, h3.lt, fun w3 w4 hk h => h.agree hk⟩, fun f hf => (by cases hf), trivial⟩, fun f hf b hm => ?_, fun f hf b hm => ?_, fun _ h => h⟩, h4⟩
    · obtain rfl := List.mem_singleton.1 hf
      exact hm.elim
    · obtain rfl := List.mem_singleton.1 hf
      exact .inl ⟨hm.1.elim (fun h => h.elim) id, hm.2⟩
  refine ta 2 J J J J J J J (by kernel_rfl) ?_
  refine kR 3 0 (m := 3) J J (fun x ⟨s, _, e⟩ => ⟨_, e, rfl⟩) J J J J J J (by kernel_rfl) ?_
  refine kR 3 1 (m := 3) J J (fun x ⟨s, _, e⟩ => ⟨_, e, rfl⟩) J J J J J J (by kernel_rfl) ?_
  refine kR 3 2 (m := 3) J J (fun x ⟨s, _, e⟩ => ⟨_, e, rfl⟩) J J J J J J (by kernel_rfl) ?_
  refine va ?_
  refine xZ ?_
  rintro ⟨⟨c2, x2, xc2, kv2, o2, oc2, p2, pc2⟩, F2⟩ h1
  dsimp only at h1
  subst h1
  refine mO _ J J ?_
  refine mO (.agg ⟨NC ⟨pA, x2, xc2, kv2, o2, oc2, p2, pc2⟩⟩) J J ?_
  refine mO (.int .i64 1) J J ?_
  refine mO (.int .i64 0) J J ?_
  refine wH ?_
  dsimp only [List.cons_append, List.nil_append]
  repeat' (first | refine ah ?_ | refine aa ?_ | refine ab ?_ | refine ae ?_ | ((refine' am rfl ?_ J J ?_); rotate_left; first | exact ai af J J J J | exact ag af 1 J J J J J) | refine aq af 1 J J J J J J J J J J J J ?_)
  refine d5 (σ := NV × (Nat → Prop)) (fun s => s.1.c = rz) (fun s => .tuple ⟨[.agg ⟨NC s.1⟩, .int .i64 0]⟩) (fun s => [.rep s.2 (fun w => NOk s.2 w s.1), .cl g1 28 (NC ⟨pA, x2, xc2, kv2, o2, oc2, p2, pc2⟩)]) rfl (av J J J J ⟨J, J, J, trivial⟩ rfl (by kernel_rfl)) (fun w1 hm => ?_) J J ?_
  · obtain ⟨_, hN, _⟩ := hm.2.get (i := 0) rfl
    refine (kV (A := F2) ⟨pA, x2, xc2, kv2, o2, oc2, p2, pc2⟩ 1 yW w1 hN (szX2.n hN) (szX2.g hN) (hg.below hm.below) (by decide)).mono fun e w2 ⟨v', h1, h2, h3⟩ => ?_
    obtain ⟨F, hF⟩ := tN (M := [.cl g1 _ _]) (hm.mask [false, true] rfl) (fun b hb f hf => jt hm.2 (i := 0) rfl b hb f (List.mem_cons_of_mem _ hf)) h3
    exact ⟨(v', F), by rw [h1, zl], by rw [h2, zl], hF⟩
  rintro ⟨⟨c3, x3, xc3, kv3, o3, oc3, p3, pc3⟩, F3⟩ h1
  dsimp only at h1
  subst h1
  repeat' (first | refine ah ?_ | refine aa ?_ | refine ab ?_ | refine ae ?_ | ((refine' am rfl ?_ J J ?_); rotate_left; first | exact ai af J J J J | exact ag af 1 J J J J J) | refine aq af 1 J J J J J J J J J J J J ?_)
  refine d5 (σ := NV × (Nat → Prop)) (fun s => s.1.c = lw) (fun s => .tuple ⟨[.agg ⟨NC s.1⟩, .int .i64 0]⟩) (fun s => [.rep s.2 (fun w => NOk s.2 w s.1), .cl g1 28 (NC ⟨rz, x3, xc3, kv3, o3, oc3, p3, pc3⟩)]) rfl (av J J J J ⟨J, J, J, trivial⟩ rfl (by kernel_rfl)) (fun w1 hm => ?_) J J ?_
  · obtain ⟨_, hN, _⟩ := hm.2.get (i := 0) rfl
    refine (kV (A := F3) ⟨rz, x3, xc3, kv3, o3, oc3, p3, pc3⟩ 1 yy w1 hN (szX3.n hN) (szX3.g hN) (hg.below hm.below) (by decide)).mono fun e w2 ⟨v', h1, h2, h3⟩ => ?_
    obtain ⟨F, hF⟩ := tN (M := [.cl g1 _ _]) (hm.mask [false, true] rfl) (fun b hb f hf => jt hm.2 (i := 0) rfl b hb f (List.mem_cons_of_mem _ hf)) h3
    exact ⟨(v', F), by rw [h1, zm], by rw [h2, zm], hF⟩
  rintro ⟨⟨c4, x4, xc4, kv4, o4, oc4, p4, pc4⟩, F4⟩ h1
  dsimp only at h1
  subst h1
  repeat' (first | refine ah ?_ | refine aa ?_ | refine ab ?_ | refine ae ?_ | ((refine' am rfl ?_ J J ?_); rotate_left; first | exact ai af J J J J | exact ag af 1 J J J J J) | refine aq af 1 J J J J J J J J J J J J ?_)
  refine nC (σ := NV × (Option Addr × Nat)) (fun _ => True) (fun s => .tuple ⟨[.agg ⟨NC s.1⟩, .slice s.2.1 2 s.2.2]⟩) (fun s F w => Rws F w 4 fC s.2.1 [om, mT]) rfl (av J J J J ⟨J, trivial⟩ rfl (by kernel_rfl)) (fun w1 hm => ?_) J J ?_
  · obtain ⟨_, hN, _⟩ := hm.2.get (i := 0) rfl
    exact (pp (A := F4) ⟨lw, x4, xc4, kv4, o4, oc4, p4, pc4⟩ w1 hN (szX4.n hN)).mono fun e w2 ⟨v', p, h1, h2, h3, h4⟩ => ⟨(v', p), _, trivial, h2, Mem.out hm (A := fun _ => False) (fun b hb => hb.elim) h3.2 (fun F w => Rws F w 4 fC p.1 [om, mT]) ((h4.mono fun _ => .inr).lt) (fun F w3 w4 hk h => h.agree hk)⟩
  rintro ⟨⟨c5, x5, xc5, kv5, o5, oc5, p5, pc5⟩, la, lc⟩ Fl -
  refine pO (p := ∃ b off, la = some ⟨b, off, none⟩ ∧ ∀ w, Rws Fl w 4 fC la [om, mT] → w.rangeAt b (off + 1 * 4) (fC mT)) (fun w hM => ?_) ?_
  · obtain ⟨_, hS, _⟩ := hM.2.get (i := 0) rfl
    obtain ⟨b, off, hx, hh⟩ := uJ hS (by decide)
    exact ⟨b, off, hx, fun w2 h2 => hh w2 h2 1 _ rfl⟩
  rintro ⟨yl, ol, rfl, hr⟩
  repeat' (first | refine ah ?_ | refine aa ?_ | refine ab ?_ | refine ae ?_ | (refine aN af J J J J J J ?_; intro g5) | ((refine' am rfl ?_ J J ?_); rotate_left; first | exact ai af J J J J | exact ag af 3 J J J J J) | refine aq af 0 J J J J J J J J J J J J ?_)
  refine nB (σ := KV) (fun s => s.k = (dI lw 1).1) (fun s => .tuple ⟨[.agg ⟨KC s⟩, .bool true]⟩) rfl (av J J J J ⟨J, J, trivial⟩ rfl (by kernel_rfl)) (fun w1 hm => ?_) J J ?_
  · obtain ⟨_, hN, _⟩ := hm.2.get (i := 2) rfl
    exact (mb (A := F4) ⟨lw, x4, xc4, kv4, o4, oc4, p4, pc4⟩ 1 w1 hN (szX4.n hN)).mono fun e w2 ⟨v', h1, h2, _, h3⟩ => ⟨v', h1, by rw [h2, show (dI lw 1).2 = true by rw [zn]], h3⟩
  rintro ⟨k6, m6, mc6, i6, ic6, o6, oc6⟩ h1
  rw [zn] at h1
  dsimp only at h1
  subst h1
  repeat' (first | refine ah ?_ | refine aa ?_ | refine ab ?_ | refine az ?_ | refine ae ?_ | (refine aN af J J J J J J ?_; intro g6) | ((refine' am rfl ?_ J J ?_); rotate_left; first | exact cM af (m := 4) 1 J J J J J J J J (fun _ => rfl) (fun _ => (show 1 < 2 by decide)) | exact pF af 2 (cs := fC mT) J J J J J J (fun _ w hp => hr w hp) | exact ai af J J J J | exact ap af J J J J J J | exact bJ J J J J J | exact ag af 0 J J J J J | exact ag af 4 J J J J J | exact jb af jg J J J J J J (by kernel_rfl) | exact aV af J J J J J J J | exact aT af J J ⟨J, J, J, trivial⟩ J J J) | refine aH rfl (av J J J J ⟨J, trivial⟩ rfl (by kernel_rfl)) (fun w hm => yp (hm.2.get (i := 3) rfl).2.1 (hg.below hm.below) rfl) J J ?_ | refine aq af 0 J J J J J J J J J J J J ?_)
  refine ay af (fun _ => 0) J J trivial rfl fun w hm => ⟨?_, hm.below⟩
  kernel_rfl
end Go.Proofs.YthiocbcokfondaaGreatDoor.Y
