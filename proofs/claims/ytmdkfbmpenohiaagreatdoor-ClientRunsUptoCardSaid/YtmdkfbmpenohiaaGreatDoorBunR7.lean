/- Texts of this claim merged into one: R7, R8, R9. -/
import Derived.Test.YtmdkfbmpenohiaaGreatDoorBunR4
namespace Go.Proofs.YtmdkfbmpenohiaaGreatDoor.Y
open Go.RowKit
theorem yL (a b c k t m gn n code : Int) (safe : Bool) (r : Bool) (h : nu a b c k t m gn n code safe = r) (w : World) : Calls Tryz.prog 76 #[.agg #[.int .i64 a, .int .i64 b, .int .i64 c, .int .i64 k], .agg #[.int .i64 t, .int .i64 m, .int .i64 gn], .int .i64 n, .int .i64 code, .bool safe] w fun e w' => e = .returned (.bool r) ∧ Below w.heap.size w w' := by subst h; exact pZ a b c k t m gn n code safe w
theorem xG (a b c k n r : Int) (hn1 : 1 ≤ n) (hn : n ≤ 10) (he : eV a b c k = 0) (h : lf a b c k n = r) (w : World) : Calls Tryz.prog 75 #[.agg #[.int .i64 a, .int .i64 b, .int .i64 c, .int .i64 k], .int .i64 n] w fun e w' => e = .returned (.int .i64 r) ∧ Below w.heap.size w w' := by subst h; exact oA a b c k n w hn1 hn he
theorem uq (c e : Int) (s : ByteArray) (w : World) (hs : s.size ≤ 4611686018427387900) (he : be c s = e) : Calls Tryz.prog 72 #[.agg #[.int .i64 c, .string s]] w fun r w' => r = .returned (.int .i64 e) ∧ Below w.heap.size w w' := by subst he; exact nq c s w hs
set_option maxRecDepth 100000 in
set_option maxHeartbeats 8000000 in
theorem qt (n : Int) (w : World) : Calls Tryz.prog 107 #[.int .i64 n] w fun e w' => e = .returned (.int .i64 (bI n)) ∧ Below w.heap.size w w' := by
  refine aD Tryz.func107 rfl Tryz.ntmps107 J J ?_
  repeat' (first | refine ag ?_ | refine aa ?_ | refine ab ?_ | refine ae ?_ | ((refine' ak rfl ?_ J J ?_); rotate_left; first | exact ai af J J J J | exact aq af J J J J J J))
  by_cases h1 : n < 0
  · refine aw rfl (by simpa using h1) ?_
    repeat' (first | refine ag ?_ | refine aa ?_ | refine ab ?_ | refine aA ?_ | refine ar ?_ | refine ae ?_ | ((refine' ak rfl ?_ J J ?_); rotate_left; exact ai af J J J J))
    refine aB af (fun _ => 0) J J trivial rfl fun w hm => ⟨?_, hm.below⟩
    refine cx ?_
    clear hm
    unfold bI cp
    omega
  refine am rfl (by simp; omega) ?_
  repeat' (first | refine ag ?_ | refine aa ?_ | refine ab ?_ | refine au ?_ | refine ae ?_ | ((refine' ak rfl ?_ J J ?_); rotate_left; first | exact ai af J J J J | exact aq af J J J J J J))
  by_cases h2 : 1099511627776 < n
  · refine aw rfl (by simpa using h2) ?_
    repeat' (first | refine ag ?_ | refine aa ?_ | refine ab ?_ | refine aA ?_ | refine ar ?_ | refine ae ?_ | ((refine' ak rfl ?_ J J ?_); rotate_left; exact ai af J J J J))
    refine aB af (fun _ => 0) J J trivial rfl fun w hm => ⟨?_, hm.below⟩
    refine cx ?_
    clear hm
    unfold bI cp
    omega
  refine am rfl (by simp; omega) ?_
  repeat' (first | refine ag ?_ | refine aa ?_ | refine ab ?_ | refine aA ?_ | refine au ?_ | refine ae ?_ | ((refine' ak rfl ?_ J J ?_); rotate_left; exact ai af J J J J))
  refine aB af (fun _ => 0) J J trivial rfl fun w hm => ⟨?_, hm.below⟩
  refine cx ?_
  clear hm
  unfold bI cp
  omega
set_option maxRecDepth 100000 in
set_option maxHeartbeats 8000000 in
theorem ur (a b : Int) (w : World) : Calls Tryz.prog 74 #[.int .i64 a, .int .i64 b] w fun e w' => e = .returned (.int .i64 (lV a b)) ∧ Below w.heap.size w w' := by
  have ha := kG a
  have hb := kG b
  refine aD Tryz.func74 rfl Tryz.ntmps74 J J ?_
  repeat' (first | refine ag ?_ | refine aa ?_ | refine ab ?_ | refine aA ?_ | refine ae ?_ | ((refine' ak rfl ?_ J J ?_); rotate_left; first | exact dg (v := .int .i64 (bI a + bI b)) (aq af J J J J J J) (congrArg (Value.int .i64) (IntWalk.i64_in _ (by omega))) | exact ai af J J J J) | refine aG rfl (ay J J J J ⟨J, trivial⟩ rfl (by kernel_rfl)) (fun w hm => qt _ w) J J ?_)
  refine aB af (fun _ => 0) J J trivial rfl fun w hm => ⟨?_, hm.below⟩
  rfl
theorem ig {α : Type} {F : Nat → Prop} {w : World} {sz : Nat} {f : α → List Value} {x : Option Addr} {l : List α} (h : Rws F w sz f x l) (h0 : 0 < l.length) : ∃ b off, x = some ⟨b, off, none⟩ ∧ ∀ w', Rws F w' sz f x l → ∀ (j : Nat) (v : α), l[j]? = some v → w'.rangeAt b (off + j * sz) (f v) := by
  obtain ⟨b, off, hx, _⟩ := h h0
  refine ⟨b, off, hx, fun w' h' j v hj => ?_⟩
  obtain ⟨b', off', hx', _, _, h4⟩ := h' h0
  rw [hx] at hx'
  obtain ⟨rfl, rfl⟩ := (by simpa using hx' : b = b' ∧ off = off')
  exact h4 j v hj
theorem yM (a b r : Int) (h : lV a b = r) (w : World) : Calls Tryz.prog 74 #[.int .i64 a, .int .i64 b] w fun e w' => e = .returned (.int .i64 r) ∧ Below w.heap.size w w' := by subst h; exact ur a b w
theorem qu (u : QV) (now : Int) (b : Bool) (h : dC u.q now = b) (w : World) : Calls Tryz.prog 65 #[.agg #[.int .i64 u.q.id, .string u.q.sv, .string u.q.mt, .int .i64 u.q.late, .slice u.m u.q.ms.length u.mc, .int .i64 u.q.sh, .slice u.s u.q.mg.length u.sc, .int .i64 u.q.att, .string u.q.bk, .int .i64 u.q.st, .int .i64 u.q.nx, .slice u.a u.q.an.length u.ac, .bool u.q.dn, .int .i64 u.q.cd, .string u.q.tx], .int .i64 now] w fun e w' => e = .returned (.bool b) ∧ Below w.heap.size w w' := by subst h; exact mW u now w
set_option maxRecDepth 100000 in
set_option maxHeartbeats 16000000 in
theorem COk.tk {A : Nat → Prop} {w : World} {c : CL} {b : Option Addr} {bc : Nat} {x : Option Addr} {xc : Nat} {qv : List QV} (h : COk A w ⟨c, b, bc, x, xc, qv⟩) (t : Int) : COk A w ⟨{ c with tk := t }, b, bc, x, xc, qv⟩ := ⟨h.bk, h.qs, h.eq, h.ok⟩
theorem ut {A : Nat → Prop} (v : CV) (now id code : Int) (tx : ByteArray) (safe : Bool) (w : World) (hC : COk A w v) (hw : eE v) (hzq : v.qv.length ≤ 703687441775) (hV : VC v.c) (htx : tx.size ≤ 4611686018427387900) : Calls Tryz.prog 37 #[.agg #[.slice v.b v.c.bs.length v.bc, .int .i64 v.c.ra, .int .i64 v.c.rb, .int .i64 v.c.rc, .int .i64 v.c.rk, .int .i64 v.c.tk, .int .i64 v.c.mo, .int .i64 v.c.gn, .slice v.x v.qv.length v.xc, .int .i64 v.c.nx], .int .i64 now, .int .i64 id, .agg #[.int .i64 code, .string tx], .bool safe] w fun e w' => ∃ v' : CV, v'.c = (de v.c now id code tx safe).1 ∧ e = .returned (.tuple #[.agg ⟨CC v'⟩, .int .i64 (de v.c now id code tx safe).2]) ∧ OutR A w w' v' := by
  obtain ⟨o, ho⟩ : ∃ o, dh id v.c.qs 0 = o := ⟨_, rfl⟩
  obtain ⟨es, hes⟩ : ∃ e, be code tx = e := ⟨_, rfl⟩
  refine aD Tryz.func37 rfl Tryz.ntmps37 J J ?_
  refine ag ?_
  refine aa ?_
  (refine aT J J J J J J ?_; intro g5)
  (refine aT J J J J J J ?_; intro g8)
  (refine aF af J J J J J J ?_; intro g10)
  repeat' (first | refine ag ?_ | refine aa ?_ | refine ab ?_ | refine ae ?_ | ((refine' ak rfl ?_ J J ?_); rotate_left; first | exact ai af J J J J | exact aq af J J J J J J | exact ah af 2 J J J J J) | refine aG rfl (ay J J J J ⟨J, J, trivial⟩ rfl (by kernel_rfl)) (fun w hm => wb v id o w (hC.below hm.below) (by omega) ho) J J ?_)
  cases o with
  | none =>
    have hst : de v.c now id code tx safe = (v.c, 10) := by unfold de; rw [(fa ho).1, if_pos (by decide)]
    refine aw J J ?_
    repeat' (first | refine ag ?_ | refine aa ?_ | refine ab ?_ | refine aA ?_ | refine ar ?_ | refine ae ?_ | ((refine' ak rfl ?_ J J ?_); rotate_left; first | exact ai af J J J J | exact ah af 2 J J J J J) | refine aj af 0 J J J J J J J J J J J J ?_)
    (refine aB af (fun _ => 0) J J ⟨J, trivial⟩ rfl fun w1 hm => ⟨v, ?_, ?_, OutR.same hC hw hm.below⟩)
    · rw [hst]
    · rw [hst]; rfl
  | some k =>
    obtain ⟨q0, hqk0, hid⟩ := ej ho
    obtain ⟨u, hk, hu1⟩ : ∃ u, v.qv[k]? = some u ∧ u.q = q0 := by rw [hC.eq, List.getElem?_map] at hqk0; simpa using hqk0
    have hcap := hw.cap
    have hk1 : k < v.qv.length := (List.getElem?_eq_some_iff.1 hk).1
    obtain ⟨bb, off, hx, _, hbl, hrows⟩ := hC.qs (by omega)
    have hrow : w.rangeAt bb (off + k * 15) (QC u) := hrows k u hk
    have hqk : v.c.qs[k]? = some u.q := by rw [hC.eq, List.getElem?_map, hk]; rfl
    have hUk : QOk A w u := hC.ok u (List.mem_of_getElem? hk)
    have hUa := hw.ans u (List.mem_of_getElem? hk)
    have hat : i9 v.c k = u.q := ek hqk
    have hru := lN ho hqk
    have hri := kM ho hqk
    refine am rfl (decide_eq_false (show ¬ ((k : Nat) : Int) < 0 by omega)) ?_
    repeat' (first | refine ag ?_ | refine aa ?_ | refine ab ?_ | refine au ?_ | refine ae ?_ | ((refine' ak rfl ?_ J J ?_); rotate_left; first | exact b7 af (m := 15) k rfl hx J J J J J J J (fun _ => rfl) (fun _ => hk1) | exact bT af J J J J J (fun _ => hrow 8 _ rfl) | exact ai af J J J J | exact aq af J J J J J J | exact ah af 2 J J J J J))
    by_cases hb : u.q.bk.size = 0
    · have hst : de v.c now id code tx safe = (v.c, 20) := by unfold de; rw [hru, if_pos hb, if_pos (by decide)]
      refine aw rfl (by show (u.q.bk.toList == (⟨#[]⟩ : ByteArray).toList) = true; rw [cI]; simpa using hb) ?_
      repeat' (first | refine ag ?_ | refine aa ?_ | refine ab ?_ | refine aA ?_ | refine ar ?_ | refine ae ?_ | ((refine' ak rfl ?_ J J ?_); rotate_left; first | exact ai af J J J J | exact ah af 2 J J J J J) | refine aj af 0 J J J J J J J J J J J J ?_)
      (refine aB af (fun _ => 0) J J ⟨J, trivial⟩ rfl fun w1 hm => ⟨v, ?_, ?_, OutR.same hC hw hm.below⟩)
      · rw [hst]
      · rw [hst]; rfl
    · have hru0 : el v.c id = 0 := by rw [hru, if_neg hb]
      have hri0 := hri hb
      refine am rfl (by show (u.q.bk.toList == (⟨#[]⟩ : ByteArray).toList) = false; rw [cI]; simpa using hb) ?_
      repeat' (first | refine ag ?_ | refine aa ?_ | refine ab ?_ | refine au ?_ | refine ae ?_ | ((refine' ak rfl ?_ J J ?_); rotate_left; first | exact ai af J J J J | exact aq af J J J J J J | exact ah af 1 J J J J J) | refine aG rfl (ay J J J J ⟨J, trivial⟩ rfl (by kernel_rfl)) (fun w hm => uq code es tx w htx hes) J J ?_)
      by_cases hs0 : es = 0
      · subst hs0
        have hen : de v.c now id code tx safe = vJ (ct v.c k code (bI now)) k now code tx safe := by
          unfold de; rw [hru0, if_neg (by decide), hes, if_neg (by decide), hri0]; rfl
        rw [ke] at hen
        refine am J J ?_
        repeat' (first | refine ag ?_ | refine aa ?_ | refine ab ?_ | refine au ?_ | ((refine' ak rfl ?_ J J ?_); rotate_left; first | exact ai af J J J J | exact ah af 1 J J J J J | exact ah af 2 J J J J J))
        refine bE (σ := CV) (fun s F => s.c = ct v.c k code now ∧ eE s ∧ ∀ b, F b → A b ∨ w.heap.size ≤ b) (fun s => .agg ⟨CC s⟩) (fun s F w => COk F w s) rfl (ay J J J J ⟨J, J, J, J, trivial⟩ rfl (by kernel_rfl)) (fun w1 hm => (kc (A := fun b => A b ∧ b < w.heap.size) v k u code now w1 (hC.lt.below hm.below) hw hzq hk hV).mono fun e w2 ⟨s, g1, g2, g3⟩ => by obtain ⟨F, g4, g5⟩ := rm hm g3; exact ⟨s, F, ⟨g1, g4⟩, g2, g5⟩) J J ?_
        rintro ⟨c1, b1, bc1, x1, xc1, qv1⟩ F1 ⟨hc1, hw1, hF1⟩
        dsimp only at hc1 hw1
        repeat' (first | refine ag ?_ | refine aa ?_ | refine ab ?_ | refine ae ?_ | ((refine' ak rfl ?_ J J ?_); rotate_left; first | exact ai af J J J J | exact ah af 3 J J J J J) | refine aj af 3 J J J J J J J J J J J J ?_)
        refine eH (p := c1.qs = qv1.map (·.q)) (fun w1 hm => (hm.2.get (i := 0) rfl).2.1.eq) ?_
        intro hq1
        have hln : qv1.length = v.qv.length := kg (v := v) (s := ⟨c1, b1, bc1, x1, xc1, qv1⟩) hC.eq hq1 (by show c1.qs.length = _; rw [hc1]; exact kh _ _ _ _)
        have hk2 : k < qv1.length := by omega
        obtain ⟨u1, hk9⟩ : ∃ u1, qv1[k]? = some u1 := ⟨_, List.getElem?_eq_getElem hk2⟩
        refine eH (p := ∃ bl ol, x1 = some ⟨bl, ol, none⟩ ∧ ∀ w', Rws F1 w' 15 QC x1 qv1 → ∀ (j : Nat) (v : QV), qv1[j]? = some v → w'.rangeAt bl (ol + j * 15) (QC v)) (fun w1 hm => ig (hm.2.get (i := 0) rfl).2.1.qs (by omega)) ?_
        rintro ⟨bl1, ol1, hx1, hrows1⟩
        have hse := nK hqk (jy hV hqk) code now
        rw [← hc1] at hse
        have hat2 : i9 c1 k = u1.q := eQ hq1 hk9
        have hui : u1.q = lJ u.q := by
          rw [← hat2, hse]
          exact ek (qh hqk)
        have hbz := (hV.qs u.q (dI hqk)).busy hb
        have hatt := (hV.qs u.q (dI hqk)).att
        have hrr := fy hV.re
        have hqa1 : 1 ≤ u1.q.att := by rw [hui]; exact hbz.2.1
        have hqa2 : u1.q.att ≤ 10 := by rw [hui]; have := hatt.2; have := hrr.2.1; show u.q.att ≤ 10; omega
        have hre : eV c1.ra c1.rb c1.rc c1.rk = 0 := by rw [hse]; exact hV.re
        unfold vJ at hen
        rw [← hc1, hat2] at hen
        obtain ⟨p1, hp1⟩ : ∃ p, lf c1.ra c1.rb c1.rc c1.rk u1.q.att = p := ⟨_, rfl⟩
        obtain ⟨x, hxx⟩ : ∃ p, lV (bI now) p1 = p := ⟨_, rfl⟩
        have hag : en c1 u1.q (bI now) = x := by unfold en; rw [hp1, hxx]
        obtain ⟨b0, hb0⟩ : ∃ b, nu c1.ra c1.rb c1.rc c1.rk c1.tk c1.mo c1.gn u1.q.att code safe = b := ⟨_, rfl⟩
        obtain ⟨p0, hp0⟩ : ∃ b, dC u1.q x = b := ⟨_, rfl⟩
        have hok : fv c1 u1.q (bI now) code safe = (b0 && decide (u1.q.an.length = 0) && !p0) := by
          unfold fv
          rw [lv, hb0, hag, show (decide (1 ≤ u1.q.late) && decide (u1.q.late ≤ x)) = p0 from hp0]
          cases b0 with
          | false => simp
          | true =>
            obtain ⟨_, h4, h5⟩ := t1 (show rJ c1 u1.q.att code safe = true from hb0)
            have h6 : iI c1.tk c1.mo c1.gn = 0 := by unfold iI; simp [h4, h5]
            simp [h6]
        repeat' (first | refine ag ?_ | refine aa ?_ | refine ab ?_ | refine aY aK rfl (by kernel_rfl) ?_ | refine ae ?_ | refine bz ?_ | (refine aF af J J J J J J ?_; intro g14) | ((first | refine' ak rfl ?_ J J ?_ | refine' dm rfl ?_ J J J ?_); rotate_left; first | exact b7 af (m := 15) k rfl hx1 J J J J J J J (fun _ => rfl) (fun _ => hk2) | exact ni af 0 (cs := QC u1) J J J J J J (fun _ w hp => hrows1 w hp.qs k u1 hk9) | exact ai af J J J J | exact aq af J J J J J J | exact bp J J J J J | exact ah af 0 J J J J J | exact ah af 3 J J J J J | exact ah af 4 J J J J J | exact aO af J J J J J J J) | refine bY rfl (ay J J J J ⟨J, trivial⟩ rfl (by kernel_rfl)) rfl (fun w hm => fE now w) J J ?_ | refine bY rfl (ay J J J J ⟨J, J, trivial⟩ rfl (by kernel_rfl)) rfl (fun w hm => xG _ _ _ _ _ p1 hqa1 hqa2 hre hp1 w) J J ?_ | refine bY rfl (ay J J J J ⟨J, J, trivial⟩ rfl (by kernel_rfl)) rfl (fun w hm => yM _ _ x hxx w) J J ?_ | refine aG rfl (ay J J J J ⟨J, J, J, J, J, trivial⟩ rfl (by kernel_rfl)) (fun w hm => yL _ _ _ _ _ _ _ _ _ _ b0 hb0 w) J J ?_ | refine aG rfl (ay J J J J ⟨J, J, trivial⟩ rfl (by kernel_rfl)) (fun w hm => qu u1 x p0 hp0 w) J J ?_ | refine aj af 0 J J J J J J J J J J J J ?_)
        by_cases hO : fv c1 u1.q (bI now) code safe = true
        · rw [if_pos hO] at hen
          rw [hok] at hO
          simp only [Bool.and_eq_true, decide_eq_true_eq, Bool.not_eq_true'] at hO
          obtain ⟨⟨rfl, hO2⟩, rfl⟩ := hO
          refine am rfl (by simp [hO2]) ?_
          repeat' (first | refine ag ?_ | refine aa ?_ | refine ab ?_ | refine au ?_ | refine ae ?_ | (refine aF af J J J J J J ?_; intro g16) | ((refine' ak rfl ?_ J J ?_); rotate_left; first | exact ai af J J J J | exact ah af 0 J J J J J | exact ah af 1 J J J J J | exact ah af 4 J J J J J | exact ah af 5 J J J J J) | refine aG rfl (ay J J J J ⟨J, trivial⟩ rfl (by kernel_rfl)) (fun w hm => s3 _ _ _ w) J J ?_ | refine aj af 0 J J J J J J J J J J J J ?_ | refine aj af 1 J J J J J J J J J J J J ?_ | refine aj af 5 J J J J J J J J J J J J ?_)
          refine bE (σ := CV) (fun s F => s.c = bZ { c1 with tk := nk c1.tk c1.mo c1.gn } k (fun _ => ({ u1 with q := { u1.q with nx := x } } : QV).q) ∧ eE s ∧ ∀ b, F b → A b ∨ w.heap.size ≤ b) (fun s => .agg ⟨CC s⟩) (fun s F w => COk F w s) rfl (ay J J J J ⟨J, J, J, trivial⟩ rfl (by kernel_rfl)) (fun w1 hm => (eF (A := F1) ⟨{ c1 with tk := nk c1.tk c1.mo c1.gn }, b1, bc1, x1, xc1, qv1⟩ k u1 { u1 with q := { u1.q with nx := x } } w1 ((hm.2.get (i := 2) rfl).2.1.tk _) ⟨hw1.cap, hw1.nil, hw1.ans⟩ (by show qv1.length ≤ _; omega) hk9 ((hm.2.get (i := 2) rfl).2.1.ok u1 (List.mem_of_getElem? hk9)) (hw1.ans u1 (List.mem_of_getElem? hk9))).mono fun e w2 ⟨s, g1, g2, g3⟩ => by obtain ⟨F, g4, g5⟩ := jD hm (i := 2) rfl hF1 g3; exact ⟨s, F, ⟨g1, g4⟩, g2, g5⟩) J J ?_
          rintro ⟨c2, b2, bc2, x2, xc2, qv2⟩ F2 ⟨hc2, hw2, hF2⟩
          dsimp only at hc2 hw2
          repeat' (first | refine ab ?_ | refine aA ?_ | refine ae ?_ | ((refine' ak rfl ?_ J J ?_); rotate_left; exact ai af J J J J) | refine aj af 4 J J J J J J J J J J J J ?_)
          have hfin : c2 = (de v.c now id code tx safe).1 := by
            rw [hen, hc2]
            exact (congrArg (fun y => bZ { c1 with tk := nk c1.tk c1.mo c1.gn } k (fun _ => { u1.q with nx := y })) hag.symm).trans (fF (c := { c1 with tk := nk c1.tk c1.mo c1.gn }) (show c1.qs[k]? = some u1.q by rw [hq1, List.getElem?_map, hk9]; rfl) (fun q => { q with nx := en c1 q (bI now) }))
          (refine aB af (fun _ => 4) J J ⟨J, trivial⟩ rfl fun w1 hm => ⟨⟨c2, b2, bc2, x2, xc2, qv2⟩, hfin, by rw [hen]; rfl, eX hm (i := 0) rfl hF2 hw2⟩)
        · rw [if_neg hO] at hen
          rw [hok] at hO
          refine aw rfl (by
            cases b0 with
            | false => rfl
            | true =>
              by_cases h0 : u1.q.an.length = 0
              · cases p0 with
                | true => simp [h0]
                | false => exact absurd (by simp [h0]) hO
              · have : 0 < u1.q.an.length := by omega
                simp [this]) ?_
          repeat' (first | refine ag ?_ | refine aa ?_ | ((refine' ak rfl ?_ J J ?_); rotate_left; first | exact ai af J J J J | exact ah af 3 J J J J J | exact ah af 4 J J J J J))
          refine bE (σ := CV) (fun s F => s.c = bZ c1 k (fun q => { q with dn := true, cd := code, tx := tx }) ∧ eE s ∧ ∀ b, F b → A b ∨ w.heap.size ≤ b) (fun s => .agg ⟨CC s⟩) (fun s F w => COk F w s) rfl (ay J J J J ⟨J, J, J, trivial⟩ rfl (by kernel_rfl)) (fun w1 hm => (ka (A := F1) ⟨c1, b1, bc1, x1, xc1, qv1⟩ k u1 code tx w1 (hm.2.get (i := 1) rfl).2.1 hw1 (by show qv1.length ≤ _; omega) hk9).mono fun e w2 ⟨s, g1, g2, g3⟩ => by obtain ⟨F, g4, g5⟩ := jD hm (i := 1) rfl hF1 g3; exact ⟨s, F, ⟨g1, g4⟩, g2, g5⟩) J J ?_
          rintro ⟨c2, b2, bc2, x2, xc2, qv2⟩ F2 ⟨hc2, hw2, hF2⟩
          dsimp only at hc2 hw2
          repeat' (first | refine ab ?_ | refine aA ?_ | refine ar ?_ | refine ae ?_ | ((refine' ak rfl ?_ J J ?_); rotate_left; exact ai af J J J J) | refine aj af 3 J J J J J J J J J J J J ?_)
          have hfin : c2 = (de v.c now id code tx safe).1 := by rw [hen, hc2]
          (refine aB af (fun _ => 3) J J ⟨J, trivial⟩ rfl fun w1 hm => ⟨⟨c2, b2, bc2, x2, xc2, qv2⟩, hfin, by rw [hen]; rfl, eX hm (i := 0) rfl hF2 hw2⟩)
      · have hst : de v.c now id code tx safe = (v.c, es) := by unfold de; rw [hru0, if_neg (by decide), hes, if_pos hs0]
        refine aw rfl (by simpa using hs0) ?_
        repeat' (first | refine ag ?_ | refine aa ?_ | refine ab ?_ | refine aA ?_ | refine ar ?_ | refine ae ?_ | ((refine' ak rfl ?_ J J ?_); rotate_left; first | exact ai af J J J J | exact ah af 2 J J J J J) | refine aj af 0 J J J J J J J J J J J J ?_)
        (refine aB af (fun _ => 0) J J ⟨J, trivial⟩ rfl fun w1 hm => ⟨v, ?_, ?_, OutR.same hC hw hm.below⟩)
        · rw [hst]
        · rw [hst]; rfl
end Go.Proofs.YtmdkfbmpenohiaaGreatDoor.Y
namespace Go.Proofs.YtmdkfbmpenohiaaGreatDoor.Y
open Go.RowKit
theorem Mem.oldC {A : Nat → Prop} {w w1 : World} {M : List Ent} {v : CV} (hm : Mem w w1 M) (hC : COk A w v) : Mem w w1 (.rep (fun b => A b ∧ b < w.heap.size) (fun w' => COk (fun b => A b ∧ b < w.heap.size) w' v) :: M) :=
  hm.rep (Below.refl _ _) _ _ (fun _ hk => ⟨Nat.lt_of_lt_of_le hk.2 hm.1.size, fun _ hf => cE hm hk.2 hf⟩) (hC.lt.below hm.below) (fun _ _ hk h => h.agree hk)
structure Ad where
  i : Nat
  v : CV
  F : Nat → Prop
  la : Option Addr
  lc : Nat
  ids : List Int
structure SJR (A : Nat → Prop) (B n : Nat) (now : Int) (c0 : CL) (i : Nat) (v : CV) (F : Nat → Prop) (ids : List Int) : Prop where
  le : i ≤ n
  len : v.qv.length = n
  eq : v.c.qs = v.qv.map (·.q)
  wf : eE v
  ok : VC v.c
  fo : ∀ b, F b → A b ∨ B ≤ b
  ll : ids.length ≤ i
  go : eb now n 0 c0 = ((eb now (n - i) i v.c).1, ids ++ (eb now (n - i) i v.c).2)
theorem SJR.no {A F : Nat → Prop} {B n i : Nat} {now : Int} {c0 : CL} {v : CV} {ids : List Int} (h : SJR A B n now c0 i v F ids) {u : QV} (hu : v.qv[i]? = some u) (hi : i < n) (hn : ¬(u.q.dn = false ∧ dC u.q now = true)) : SJR A B n now c0 (i + 1) v F ids := by
  refine ⟨hi, h.len, h.eq, h.wf, h.ok, h.fo, Nat.le_succ_of_le h.ll, ?_⟩
  have h1 := h.go
  rw [show n - i = n - (i + 1) + 1 by omega, eb, eQ h.eq hu] at h1
  dsimp only at h1
  rw [if_neg hn] at h1
  exact h1
theorem SJR.yes {A F F2 : Nat → Prop} {B n i : Nat} {now : Int} {c0 : CL} {v v2 : CV} {ids : List Int} (h : SJR A B n now c0 i v F ids) {u : QV} (hu : v.qv[i]? = some u) (hi : i < n) (hn : u.q.dn = false ∧ dC u.q now = true) (h1 : v2.c = dE v.c i 3 now) (h2 : v2.c.qs = v2.qv.map (·.q)) (h3 : v2.qv.length = n) (h4 : eE v2) (h5 : ∀ b, F2 b → A b ∨ B ≤ b) : SJR A B n now c0 (i + 1) v2 F2 (ids ++ [u.q.id]) := by
  have hq : v.c.qs[i]? = some u.q := by rw [h.eq, List.getElem?_map, hu]; rfl
  refine ⟨hi, h3, h2, h4, by rw [h1]; exact (nM h.ok hq hn.1 now xy).ok h.ok, h5, by simp; have := h.ll; omega, ?_⟩
  have h9 := h.go
  rw [show n - i = n - (i + 1) + 1 by omega, eb, eQ h.eq hu] at h9
  dsimp only at h9
  rw [if_pos hn] at h9
  rw [h9, List.append_assoc, h1]; rfl
set_option maxRecDepth 100000 in
set_option maxHeartbeats 16000000 in
theorem so {A : Nat → Prop} (v : CV) (now : Int) (w : World) (hC : COk A w v) (hw : eE v) (hzq : v.qv.length ≤ 703687441775) (hV : VC v.c) : Calls Tryz.prog 39 #[.agg #[.slice v.b v.c.bs.length v.bc, .int .i64 v.c.ra, .int .i64 v.c.rb, .int .i64 v.c.rc, .int .i64 v.c.rk, .int .i64 v.c.tk, .int .i64 v.c.mo, .int .i64 v.c.gn, .slice v.x v.qv.length v.xc, .int .i64 v.c.nx], .int .i64 now] w fun e w' => ∃ s : CV × (Option Addr × Nat), s.1.c = (df v.c now).1 ∧ e = .returned (.tuple #[.agg ⟨CC s.1⟩, .slice s.2.1 (df v.c now).2.length s.2.2]) ∧ OutR A w w' s.1 ∧ Rws (fun b => w.heap.size ≤ b) w' 1 iC s.2.1 (df v.c now).2 := by
  refine aD Tryz.func39 rfl Tryz.ntmps39 J J ?_
  refine ag ?_
  refine aa ?_
  (refine aT J J J J J J ?_; intro g2)
  (refine aF af J J J J J J ?_; intro g4)
  repeat' (first | refine ag ?_ | refine aa ?_ | refine ab ?_ | refine aE ?_ | refine ae ?_ | ((refine' ak rfl ?_ J J ?_); rotate_left; exact ai af J J J J))
  refine iT 3 1 ?_
  refine jf (fun w1 hm => Mem.oldC hm hC) ?_
  refine bF (σ := Ad) (fun p => SJR A w.heap.size v.qv.length (bI now) v.c p.i p.v p.F p.ids) (fun p => [(7, [], .int .i64 ((p.i : Nat) : Int)), (6, [], .slice p.la p.ids.length p.lc), (1, [], .int .i64 now), (2, [], .pointer (some ⟨g2, 0, none⟩)), (4, [], .pointer (some ⟨g4, 0, none⟩))]) (fun p => [.rep p.F (fun w => COk p.F w p.v), .own p.la p.lc 3 1 p.ids.length (p.ids.flatMap iC), .cl g4 32 [.slice none 0 0, .int .i64 0, .int .i64 0, .int .i64 0, .int .i64 0, .int .i64 0, .int .i64 0, .int .i64 0, .slice none 0 0, .int .i64 0], .cl g2 32 (CC p.v)]) (fun p => v.qv.length - p.i) ⟨0, v, _, none, 0, []⟩ [] ⟨Nat.zero_le _, rfl, hC.eq, hw, hV, fun b hb => .inl hb.1, Nat.le_refl _, by simp⟩ ⟨J, J, J, J, J, trivial⟩ rfl ?_
  rintro ⟨i, ⟨c, b, bc, x, xc, qv⟩, F, la, lc, ids⟩ hI
  dsimp only at hI ⊢
  have hln2 : qv.length = v.qv.length := hI.len
  have hll := hI.ll
  by_cases hi : i < v.qv.length
  · have hi' : i < qv.length := by omega
    obtain ⟨u, hu⟩ : ∃ u, qv[i]? = some u := ⟨_, List.getElem?_eq_getElem hi'⟩
    refine nh (p := ∃ bl ol, x = some ⟨bl, ol, none⟩ ∧ ∀ w', Rws F w' 15 QC x qv → ∀ (j : Nat) (v : QV), qv[j]? = some v → w'.rangeAt bl (ol + j * 15) (QC v)) (fun w1 hm => ig (hm.2.get (i := 0) rfl).2.1.qs (by omega)) ?_
    rintro ⟨bl1, ol1, hx1, hrows1⟩
    repeat' (first | refine ag ?_ | refine aa ?_ | refine ab ?_ | refine ae ?_ | ((refine' ak rfl ?_ J J ?_); rotate_left; first | exact ai af J J J J | exact aq af J J J J J J | exact ah af 3 J J J J J | exact aO af J J J J J J J))
    refine aw rfl (by simp; omega) ?_
    obtain ⟨p0, hp0⟩ : ∃ b, dC u.q (bI now) = b := ⟨_, rfl⟩
    obtain ⟨d0, hd0⟩ : ∃ b, u.q.dn = b := ⟨_, rfl⟩
    repeat' (first | refine ag ?_ | refine ab ?_ | refine au ?_ | refine aE ?_ | refine aY aK rfl (by kernel_rfl) ?_ | refine ae ?_ | refine bz ?_ | ((refine' dm rfl ?_ J J J ?_); rotate_left; first | exact b7 af (m := 15) i rfl hx1 J J J J J J J (fun _ => rfl) (fun _ => hi') | exact hX af 0 (v := .bool d0) J J J J J J (fun _ w hp => hrows1 w hp.qs i u hu 12 _ (by rw [← hd0]; rfl)) | exact ni af 0 (cs := QC u) J J J J J J (fun _ w hp => hrows1 w hp.qs i u hu) | exact ai af J J J J | exact bx J J J J J | exact ah af 3 J J J J J) | refine bY rfl (ay J J J J ⟨J, trivial⟩ rfl (by kernel_rfl)) rfl (fun w hm => fE now w) J J ?_ | refine bY rfl (ay J J J J ⟨J, J, trivial⟩ rfl (by kernel_rfl)) rfl (fun w hm => qu u (bI now) p0 hp0 w) J J ?_)
    by_cases hd : u.q.dn = false ∧ dC u.q (bI now) = true
    · refine aw rfl (by rw [← hd0, ← hp0, hd.1, hd.2]; rfl) ?_
      repeat' (first | refine ag ?_ | refine aa ?_ | ((refine' ak rfl ?_ J J ?_); rotate_left; first | exact ai af J J J J | exact ah af 3 J J J J J))
      refine bE (σ := CV) (fun s F => s.c = ct c i 3 now ∧ eE s ∧ ∀ b, F b → A b ∨ w.heap.size ≤ b) (fun s => .agg ⟨CC s⟩) (fun s F w => COk F w s) rfl (ay J J J J ⟨J, J, J, J, trivial⟩ rfl (by kernel_rfl)) (fun w1 hm => (kc (A := F) ⟨c, b, bc, x, xc, qv⟩ i u 3 now w1 (hm.2.get (i := 0) rfl).2.1 hI.wf (by show qv.length ≤ _; omega) hu hI.ok).mono fun e w2 ⟨s, g1, g2, g3⟩ => by obtain ⟨F, g4, g5⟩ := jD hm (i := 0) rfl hI.fo g3; exact ⟨s, F, ⟨g1, g4⟩, g2, g5⟩) J J ?_
      rintro ⟨c1, b1, bc1, x1, xc1, qv1⟩ F1 ⟨hc1, hw1, hF1⟩
      dsimp only at hc1 hw1
      repeat' (((refine' ak rfl ?_ J J ?_); rotate_left; first | exact ai af J J J J | exact aC af J J ⟨J, trivial⟩ J J J))
      refine eH (p := c1.qs = qv1.map (·.q)) (fun w1 hm => (hm.2.get (i := 0) rfl).2.1.eq) ?_
      intro hq1
      have hln : qv1.length = qv.length := kg (v := ⟨c, b, bc, x, xc, qv⟩) (s := ⟨c1, b1, bc1, x1, xc1, qv1⟩) hI.eq hq1 (by show c1.qs.length = _; rw [hc1]; exact kh _ _ _ _)
      obtain ⟨u1, hk9⟩ : ∃ u1, qv1[i]? = some u1 := ⟨_, List.getElem?_eq_getElem (by omega)⟩
      refine bE (σ := CV) (fun s F => s.c = bZ c1 i (fun q => { q with dn := true, cd := 3, tx := ⟨#[]⟩ }) ∧ eE s ∧ ∀ b, F b → A b ∨ w.heap.size ≤ b) (fun s => .agg ⟨CC s⟩) (fun s F w => COk F w s) rfl (ay J J J J ⟨J, J, J, trivial⟩ rfl (by kernel_rfl)) (fun w1 hm => (ka (A := F1) ⟨c1, b1, bc1, x1, xc1, qv1⟩ i u1 3 ⟨#[]⟩ w1 (hm.2.get (i := 0) rfl).2.1 hw1 (by show qv1.length ≤ _; omega) hk9).mono fun e w2 ⟨s, g1, g2, g3⟩ => by obtain ⟨F, g4, g5⟩ := jD hm (i := 0) rfl hF1 g3; exact ⟨s, F, ⟨g1, g4⟩, g2, g5⟩) J J ?_
      rintro ⟨c2, b2, bc2, x2, xc2, qv2⟩ F2 ⟨hc2, hw2, hF2⟩
      dsimp only at hc2 hw2
      have hfin : c2 = dE c i 3 (bI now) := by rw [hc2, hc1]; unfold dE; rw [ke]; rfl
      refine eH (p := c2.qs = qv2.map (·.q)) (fun w1 hm => (hm.2.get (i := 0) rfl).2.1.eq) ?_
      intro hq2
      have hln2' : qv2.length = qv1.length := kg (v := ⟨c1, b1, bc1, x1, xc1, qv1⟩) (s := ⟨c2, b2, bc2, x2, xc2, qv2⟩) hq1 hq2 (by show c2.qs.length = _; rw [hc2]; exact List.length_modify _ _ _)
      have hi2 : i < qv2.length := by omega
      obtain ⟨u2, hk2⟩ : ∃ u2, qv2[i]? = some u2 := ⟨_, List.getElem?_eq_getElem hi2⟩
      have hid : u2.q.id = u.q.id := by
        have h9 : i9 c2 i = u2.q := eQ hq2 hk2
        have h8 : c.qs[i]? = some u.q := by have := hI.eq; dsimp only at this; rw [this, List.getElem?_map, hu]; rfl
        rw [← h9, hfin, nL h8 (jy hI.ok h8)]
        rw [ek (qh h8)]
      refine eH (p := ∃ bl ol, x2 = some ⟨bl, ol, none⟩ ∧ ∀ w', Rws F2 w' 15 QC x2 qv2 → ∀ (j : Nat) (v : QV), qv2[j]? = some v → w'.rangeAt bl (ol + j * 15) (QC v)) (fun w1 hm => ig (hm.2.get (i := 0) rfl).2.1.qs (by omega)) ?_
      rintro ⟨bl2, ol2, hx2, hrows2⟩
      repeat' (first | refine aa ?_ | refine ab ?_ | refine ax ?_ | refine ae ?_ | (refine bq af J J J ⟨J, trivial⟩ J J J J J J J J ?_; intro g) | (refine bK af 4 0 J J J J J J J J J (fun _ _ => rfl) qO J J (by unfold maxLen; omega) (by omega) J J ?_; intro sa sc) | ((refine' ak rfl ?_ J J ?_); rotate_left; first | exact a6 J J J J J (by omega) | exact b7 af (m := 15) i rfl hx2 J J J J J J J (fun _ => rfl) (fun _ => hi2) | exact hX af 0 (v := .int .i64 u2.q.id) J J J J J J (fun _ w hp => hrows2 w hp.qs i u2 hk2 0 _ rfl) | exact ai af J J J J | exact ah af 5 J J J J J) | refine aj af 5 J J J J J J J J J J J J ?_)
      refine aR ⟨i + 1, ⟨c2, b2, bc2, x2, xc2, qv2⟩, F2, sa, sc, ids ++ [u.q.id]⟩ [false, true, false, false, true, true, true] (hI.yes hu hi hd hfin hq2 (by show qv2.length = _; omega) hw2 hF2) (show v.qv.length - (i + 1) < v.qv.length - i by omega) ⟨rfl, by simp [lk], rfl, rfl, rfl, trivial⟩ (by simp [dV, iC, hid]; exact ⟨rfl, rfl⟩)
    · refine am rfl (by rw [← hd0, ← hp0]; cases h8 : u.q.dn <;> cases h9 : dC u.q (bI now) <;> first | rfl | exact absurd ⟨h8, h9⟩ hd) ?_
      repeat' (first | refine aa ?_ | refine ab ?_ | refine au ?_ | refine ax ?_ | refine ae ?_ | ((refine' ak rfl ?_ J J ?_); rotate_left; first | exact a6 J J J J J (by omega) | exact ai af J J J J))
      refine aR ⟨i + 1, ⟨c, b, bc, x, xc, qv⟩, F, la, lc, ids⟩ [] (hI.no hu hi hd) (show v.qv.length - (i + 1) < v.qv.length - i by omega) ⟨J, J, J, J, J, trivial⟩ rfl
  · have hin : i = v.qv.length := by have := hI.le; omega
    subst hin
    have hgo := hI.go
    have hl9 : v.c.qs.length = v.qv.length := by rw [hC.eq, List.length_map]
    rw [Nat.sub_self, ← hl9] at hgo
    have hex : df v.c now = (c, ids) := by unfold df; rw [hgo]; simp [eb]
    repeat' (first | refine ag ?_ | refine aa ?_ | refine ab ?_ | refine ae ?_ | ((refine' ak rfl ?_ J J ?_); rotate_left; first | exact ai af J J J J | exact aq af J J J J J J | exact ah af 3 J J J J J | exact aO af J J J J J J J))
    refine am rfl (by simp; omega) ?_
    repeat' (first | refine ag ?_ | refine aa ?_ | refine ab ?_ | refine aA ?_ | refine a8 ?_ | refine aH ?_ | refine aN ?_ | refine ae ?_ | ((refine' ak rfl ?_ J J ?_); rotate_left; first | exact ai af J J J J | exact ah af 3 J J J J J) | refine aj af 2 J J J J J J J J J J J J ?_)
    (refine aB af (fun _ => 2) J J ⟨J, trivial⟩ rfl fun w1 hm => ⟨(⟨c, b, bc, x, xc, qv⟩, (la, lc)), ?_, ?_, eX hm (i := 0) rfl hI.fo hI.wf, ?_⟩)
    · rw [hex]
    · rw [hex]; rfl
    · rw [hex]
      exact Rws.own nw (hm.2.get (i := 1) rfl)
end Go.Proofs.YtmdkfbmpenohiaaGreatDoor.Y
namespace Go.Proofs.YtmdkfbmpenohiaaGreatDoor.Y
open Go.RowKit
theorem xH {A : Nat → Prop} (x : Option Addr) (l : List BV) (cap : Nat) (now : Int) (o : Option Nat) (w : World) (hR : Rws A w 6 bC x l) (hlen : l.length ≤ 2513169434916) (hok : ∀ b ∈ l, dK b = true) (h : cK now l = o) : Calls Tryz.prog 66 #[.slice x l.length cap, .int .i64 now] w fun e w' => e = .returned (.int .i64 (yZ o)) ∧ Below w.heap.size w w' := by
  subst h; exact r5 x l cap now w hR hlen hok
theorem sq (now : Int) (l : List BV) : cK (bI now) l = cK now l := by unfold cK; rw [qT]
theorem mY (now : Int) : ∀ (l : List BV) (i : Nat) (p : Nat × BV), ∃ q, cZ now l i (some p) = some q
  | [], _, p => ⟨p, rfl⟩
  | x :: r, i, (k, b) => by
    rw [cZ]
    split <;> exact mY now r _ _
theorem uu {now : Int} {l : List BV} (h : l ≠ []) : ∃ k, cK now l = some k := by
  cases l with
  | nil => exact absurd rfl h
  | cons x r =>
    obtain ⟨q, hq⟩ := mY (bI now) r 1 (0, x)
    refine ⟨q.1, ?_⟩
    unfold cK
    rw [cZ]
    show (cZ (bI now) r 1 (some (0, x))).map _ = _
    rw [hq]; rfl
structure Ae where
  i : Nat
  v : CV
  F : Nat → Prop
  la : Option Addr
  lc : Nat
  lq : List QV
structure SIR (A : Nat → Prop) (B n : Nat) (now : Int) (c0 : CL) (i : Nat) (v : CV) (F : Nat → Prop) (lq : List QV) : Prop where
  le : i ≤ n
  len : v.qv.length = n
  eq : v.c.qs = v.qv.map (·.q)
  wf : eE v
  fo : ∀ b, F b → A b ∨ B ≤ b
  ll : lq.length ≤ i
  fr : v.c = { c0 with qs := v.c.qs, bs := v.c.bs, tk := v.c.tk }
  rest : v.c.qs.drop i = c0.qs.drop i
  ok : ∀ b ∈ v.c.bs, dK b = true
  bl : v.c.bs.length = c0.bs.length
  go : bB now c0.mo c0.gn c0.qs c0.bs c0.tk = ⟨v.c.qs.take i ++ (bB now c0.mo c0.gn (c0.qs.drop i) v.c.bs v.c.tk).qs, (bB now c0.mo c0.gn (c0.qs.drop i) v.c.bs v.c.tk).bs, (bB now c0.mo c0.gn (c0.qs.drop i) v.c.bs v.c.tk).tk, lq.map (·.q) ++ (bB now c0.mo c0.gn (c0.qs.drop i) v.c.bs v.c.tk).out⟩
theorem SIR.at0 {A F : Nat → Prop} {B n i : Nat} {now : Int} {c0 : CL} {v : CV} {lq : List QV} (h : SIR A B n now c0 i v F lq) {u : QV} (hu : v.qv[i]? = some u) : v.c.qs[i]? = some u.q ∧ c0.qs[i]? = some u.q := by
  have h1 : v.c.qs[i]? = some u.q := by rw [h.eq, List.getElem?_map, hu]; rfl
  refine ⟨h1, ?_⟩
  have h2 : (v.c.qs.drop i)[0]? = (c0.qs.drop i)[0]? := by rw [h.rest]
  rw [List.getElem?_drop, List.getElem?_drop, Nat.add_zero] at h2
  rw [← h2, h1]
theorem SIR.no {A F : Nat → Prop} {B n i : Nat} {now : Int} {c0 : CL} {v : CV} {lq : List QV} (h : SIR A B n now c0 i v F lq) {u : QV} (hu : v.qv[i]? = some u) (hi : i < n) (hn : (if fG now u.q = true then cK now v.c.bs else none) = none) : SIR A B n now c0 (i + 1) v F lq := by
  obtain ⟨h1, h2⟩ := h.at0 hu
  refine ⟨hi, h.len, h.eq, h.wf, h.fo, Nat.le_succ_of_le h.ll, h.fr, by rw [← List.drop_drop, h.rest, List.drop_drop], h.ok, h.bl, ?_⟩
  have h3 := h.go
  rw [cn h2, gG hn] at h3
  rw [dW h1, List.append_assoc]
  exact h3
theorem yN {l : List QR} {i : Nat} {q x : QR} (h : l[i]? = some q) : l.modify i (fun _ => x) = l.set i x := by
  refine List.ext_getElem? fun j => ?_
  rw [List.getElem?_modify, List.getElem?_set]
  by_cases hij : i = j
  · subst hij
    have := (List.getElem?_eq_some_iff.1 h).1
    simp [this]
  · simp [hij]
theorem SIR.yes {A F F2 : Nat → Prop} {B n i : Nat} {now : Int} {c0 : CL} {v v2 : CV} {lq : List QV} (h : SIR A B n now c0 i v F lq) {u u' : QV} (hu : v.qv[i]? = some u) (hi : i < n) {k : Nat} (hn : (if fG now u.q = true then cK now v.c.bs else none) = some k) (hu' : u'.q = f0 v.c.bs k u.q) {t : Int} (ht : (if u.q.att + 1 = 1 then dt v.c.tk v.c.mo v.c.gn else v.c.tk) = t) (hc : v2.c = bZ { v.c with tk := t, bs := bR cG v.c.bs k } i (fun _ => u'.q)) (hq : v2.c.qs = v2.qv.map (·.q)) (hl : v2.qv.length = n) (hw : eE v2) (hF : ∀ b, F2 b → A b ∨ B ≤ b) : SIR A B n now c0 (i + 1) v2 F2 (lq ++ [u']) := by
  obtain ⟨h1, h2⟩ := h.at0 hu
  have hfr := h.fr
  have hmo : v.c.mo = c0.mo := by rw [hfr]
  have hgn : v.c.gn = c0.gn := by rw [hfr]
  have hqs : v2.c.qs = v.c.qs.modify i (fun _ => u'.q) := by rw [hc]; rfl
  have hbs : v2.c.bs = bR cG v.c.bs k := by rw [hc]; rfl
  have htk : v2.c.tk = t := by rw [hc]; rfl
  have hat : (v.c.qs.modify i (fun _ => u'.q))[i]? = some u'.q := by rw [List.getElem?_modify, h1]; simp
  refine ⟨hi, hl, hq, hw, hF, by simp; have := h.ll; omega, ?_, ?_, ?_, ?_, ?_⟩
  · rw [hc]
    unfold bZ
    dsimp only
    rw [hfr]
  · rw [hqs, yN h1]
    rw [List.drop_set_of_lt (by omega), ← List.drop_drop, h.rest, List.drop_drop]
  · rw [hbs]; exact nE (fun _ => nD) h.ok
  · rw [hbs, eg]; exact h.bl
  · have h3 := h.go
    rw [hmo, hgn] at ht
    rw [cn h2, fR hn, ht, ← hu'] at h3
    rw [hqs, dW hat, hbs, htk, yN h1]
    rw [List.take_set_of_le (Nat.le_refl _), List.append_assoc, List.map_append, List.append_assoc]
    exact h3
set_option maxRecDepth 100000 in
set_option maxHeartbeats 16000000 in
theorem qw {A : Nat → Prop} (v : CV) (now : Int) (w : World) (hC : COk A w v) (hw : eE v) (hzq : v.qv.length ≤ 703687441775) (hV : VC v.c) : Calls Tryz.prog 34 #[.agg #[.slice v.b v.c.bs.length v.bc, .int .i64 v.c.ra, .int .i64 v.c.rb, .int .i64 v.c.rc, .int .i64 v.c.rk, .int .i64 v.c.tk, .int .i64 v.c.mo, .int .i64 v.c.gn, .slice v.x v.qv.length v.xc, .int .i64 v.c.nx], .int .i64 now] w fun e w' => ∃ s : CV × List QV × (Option Addr × Nat), (s.1.c = (cD v.c now).1 ∧ s.2.1.map (·.q) = (cD v.c now).2) ∧ e = .returned (.tuple #[.agg ⟨CC s.1⟩, .slice s.2.2.1 s.2.1.length s.2.2.2]) ∧ OutR A w w' s.1 ∧ Rws (fun b => w.heap.size ≤ b) w' 15 QC s.2.2.1 s.2.1 ∧ ∀ q ∈ s.2.1, QOk (fun b => A b ∨ w.heap.size ≤ b) w' q := by
  have hcb := gH hV.cb
  refine aD Tryz.func34 rfl Tryz.ntmps34 J J ?_
  refine ag ?_
  refine aa ?_
  (refine aT J J J J J J ?_; intro g2)
  (refine aF af J J J J J J ?_; intro g4)
  repeat' (first | refine ag ?_ | refine aa ?_ | refine ab ?_ | refine aE ?_ | refine ae ?_ | ((refine' ak rfl ?_ J J ?_); rotate_left; exact ai af J J J J))
  refine iT 50 15 ?_
  refine jf (M' := .rep (fun b => A b ∧ b < w.heap.size) (fun w9 => COk (fun b => A b ∧ b < w.heap.size) w9 v ∧ ∀ x ∈ ([] : List QV), QOk (fun b => A b ∧ b < w.heap.size) w9 x) :: .own none 0 50 15 ([] : List QV).length (([] : List QV).flatMap QC) :: .cl g4 32 [.slice none 0 0, .int .i64 0, .int .i64 0, .int .i64 0, .int .i64 0, .int .i64 0, .int .i64 0, .int .i64 0, .slice none 0 0, .int .i64 0] :: .cl g2 32 (CC v) :: []) (fun w1 hm => hm.rep (Below.refl _ _) _ _ (fun _ hk => ⟨Nat.lt_of_lt_of_le hk.2 hm.1.size, fun _ hf => cE hm hk.2 hf⟩) ⟨hC.lt.below hm.below, fun _ h => (by cases h)⟩ (fun _ _ hk h => ⟨h.1.agree hk, fun x hx => (by cases hx)⟩)) ?_
  refine bF (σ := Ae) (fun p => SIR A w.heap.size v.qv.length (bI now) v.c p.i p.v p.F p.lq) (fun p => [(7, [], .int .i64 ((p.i : Nat) : Int)), (6, [], .slice p.la p.lq.length p.lc), (1, [], .int .i64 now), (2, [], .pointer (some ⟨g2, 0, none⟩)), (4, [], .pointer (some ⟨g4, 0, none⟩))]) (fun p => [.rep p.F (fun w9 => COk p.F w9 p.v ∧ ∀ x ∈ p.lq, QOk p.F w9 x), .own p.la p.lc 50 15 p.lq.length (p.lq.flatMap QC), .cl g4 32 [.slice none 0 0, .int .i64 0, .int .i64 0, .int .i64 0, .int .i64 0, .int .i64 0, .int .i64 0, .int .i64 0, .slice none 0 0, .int .i64 0], .cl g2 32 (CC p.v)]) (fun p => v.qv.length - p.i) ⟨0, v, _, none, 0, []⟩ [] ⟨Nat.zero_le _, rfl, hC.eq, hw, fun b hb => .inl hb.1, Nat.le_refl _, rfl, rfl, fun b hb => (hcb.2 b hb).1, rfl, rfl⟩ ⟨J, J, J, J, J, trivial⟩ rfl ?_
  rintro ⟨i, ⟨c, b, bc, x, xc, qv⟩, F, la, lc, lq⟩ hI
  dsimp only at hI ⊢
  have hln2 : qv.length = v.qv.length := hI.len
  have hll := hI.ll
  have hbl : c.bs.length = v.c.bs.length := hI.bl
  have hb8 := hcb.1
  by_cases hi : i < v.qv.length
  · have hi' : i < qv.length := by omega
    obtain ⟨u, hu⟩ : ∃ u, qv[i]? = some u := ⟨_, List.getElem?_eq_getElem hi'⟩
    have huq : u.q ∈ v.c.qs := List.mem_of_getElem? (hI.at0 hu).2
    have hatt := (hV.qs u.q huq).att
    have hra := fy hV.re
    refine nh (p := ∃ bl ol, x = some ⟨bl, ol, none⟩ ∧ ∀ w', Rws F w' 15 QC x qv → ∀ (j : Nat) (v : QV), qv[j]? = some v → w'.rangeAt bl (ol + j * 15) (QC v)) (fun w1 hm => ig (hm.2.get (i := 0) rfl).2.1.1.qs (by omega)) ?_
    rintro ⟨bl1, ol1, hx1, hrows1⟩
    repeat' (first | refine ag ?_ | refine aa ?_ | refine ab ?_ | refine ae ?_ | ((refine' ak rfl ?_ J J ?_); rotate_left; first | exact ai af J J J J | exact aq af J J J J J J | exact ah af 3 J J J J J | exact aO af J J J J J J J))
    refine aw rfl (by simp; omega) ?_
    obtain ⟨p0, hp0⟩ : ∃ b, dC u.q (bI now) = b := ⟨_, rfl⟩
    repeat' (first | refine ag ?_ | refine aa ?_ | refine ab ?_ | refine au ?_ | refine aE ?_ | refine aY aK rfl (by kernel_rfl) ?_ | refine ae ?_ | refine bz ?_ | (refine aF af J J J J J J ?_; intro g8) | ((first | refine' ak rfl ?_ J J ?_ | refine' dm rfl ?_ J J J ?_); rotate_left; first | exact b7 af (m := 15) i rfl hx1 J J J J J J J (fun _ => rfl) (fun _ => hi') | exact ni af 0 (cs := QC u) J J J J J J (fun _ w hp => hrows1 w hp.1.qs i u hu) | exact ai af J J J J | exact aq af J J J J J J | exact bp J J J J J | exact ah af 0 J J J J J | exact ah af 3 J J J J J) | refine bY rfl (ay J J J J ⟨J, trivial⟩ rfl (by kernel_rfl)) rfl (fun w hm => fE now w) J J ?_ | refine bY rfl (ay J J J J ⟨J, J, trivial⟩ rfl (by kernel_rfl)) rfl (fun w hm => qu u (bI now) p0 hp0 w) J J ?_ | refine aj af 0 J J J J J J J J J J J J ?_)
    by_cases hdu : fG (bI now) u.q = true
    · refine am rfl (by rw [← hp0, nG, hdu]; rfl) ?_
      have hbne : c.bs ≠ [] := fun h => hV.bl (List.eq_nil_of_length_eq_zero (by rw [← hbl, h]; rfl))
      obtain ⟨k, hpk⟩ := uu (now := bI now) hbne
      have hyes : (if fG (bI now) u.q = true then cK (bI now) c.bs else none) = some k := by rw [if_pos hdu, hpk]
      obtain ⟨bv, hbv⟩ := nF hpk
      rw [sq] at hpk
      have hkb : k < c.bs.length := (List.getElem?_eq_some_iff.1 hbv).1
      have hbok := hI.ok bv (List.mem_of_getElem? hbv)
      have hbq : ({ u with q := { u.q with bk := bv.nm, att := u.q.att + 1 } } : QV).q = f0 c.bs k u.q := by unfold f0; rw [hbv]
      repeat' (first | refine ag ?_ | refine aa ?_ | refine ab ?_ | refine au ?_ | ((refine' ak rfl ?_ J J ?_); rotate_left; first | exact ai af J J J J | exact ah af 4 J J J J J))
      refine eH (p := ∃ bl ol, b = some ⟨bl, ol, none⟩ ∧ ∀ w', Rws F w' 6 bC b c.bs → ∀ (j : Nat) (v : BV), c.bs[j]? = some v → w'.rangeAt bl (ol + j * 6) (bC v)) (fun w1 hm => ig (hm.2.get (i := 1) rfl).2.1.1.bk (by omega)) ?_
      rintro ⟨bb, ob, hxb, hbrows⟩
      repeat' (first | refine ag ?_ | refine aa ?_ | refine ab ?_ | refine ae ?_ | ((refine' ak rfl ?_ J J ?_); rotate_left; first | exact b7 af (m := 6) k rfl hxb J J J J J J J (fun _ => rfl) (fun _ => hkb) | exact hX af 1 (v := .string bv.nm) J J J J J J (fun _ w hp => hbrows w hp.1.bk k bv hbv 0 _ rfl) | exact a6 J J J J J (by omega) | exact ai af J J J J | exact aq af J J J J J J | exact ah af 0 J J J J J | exact ah af 4 J J J J J) | refine aG rfl (ay J J J J ⟨J, J, trivial⟩ rfl (by kernel_rfl)) (fun w hm => xH b c.bs bc now (some k) w (hm.2.get (i := 1) rfl).2.1.1.bk (by omega) hI.ok hpk) J J ?_ | refine aj af 0 J J J J J J J J J J J J ?_)
      by_cases ha : u.q.att + 1 = 1
      · have htk : (if u.q.att + 1 = 1 then dt c.tk c.mo c.gn else c.tk) = dt c.tk c.mo c.gn := if_pos ha
        refine aw rfl (by simpa using ha) ?_
        repeat' (first | refine ag ?_ | refine aa ?_ | refine ab ?_ | refine ae ?_ | ((refine' ak rfl ?_ J J ?_); rotate_left; first | exact ai af J J J J | exact ah af 4 J J J J J) | refine aG rfl (ay J J J J ⟨J, trivial⟩ rfl (by kernel_rfl)) (fun w hm => rQ _ _ _ w) J J ?_ | refine aj af 4 J J J J J J J J J J J J ?_)
        refine bf (σ := Option Addr × Nat) (fun _ => True) (fun p => .slice p.1 c.bs.length p.2) (fun p => [.own p.1 p.2 64 6 c.bs.length ((bR cG c.bs k).flatMap bC)]) rfl (ay J J J J ⟨J, J, trivial⟩ rfl (by kernel_rfl)) (fun w1 hm => mH b c.bs bc k bv w1 (hm.2.get (i := 1) rfl).2.1.1.bk (by omega) hbv hbok) J J ?_
        rintro ⟨pa, pc⟩ -
        dsimp only [List.cons_append, List.nil_append]
        repeat' (first | refine ag ?_ | refine aa ?_ | refine ab ?_ | refine ae ?_ | ((refine' ak rfl ?_ J J ?_); rotate_left; first | exact ai af J J J J | exact ah af 1 J J J J J | exact ah af 5 J J J J J) | refine aj af 5 J J J J J J J J J J J J ?_)
        refine bX (σ := CV × (Nat → Prop)) (fun s => s.1.c = bZ { c with tk := dt c.tk c.mo c.gn, bs := bR cG c.bs k } i (fun _ => ({ u with q := { u.q with bk := bv.nm, att := u.q.att + 1 } } : QV).q) ∧ eE s.1 ∧ ∀ b, s.2 b → A b ∨ w.heap.size ≤ b) (fun s => .agg ⟨CC s.1⟩) (fun s => [.rep s.2 (fun w => COk s.2 w s.1 ∧ ∀ x ∈ lq ++ [({ u with q := { u.q with bk := bv.nm, att := u.q.att + 1 } } : QV)], QOk s.2 w x), .cl g8 50 (QC { u with q := { u.q with bk := bv.nm, att := u.q.att + 1 } }), .own la lc 50 15 lq.length (lq.flatMap QC), .cl g4 32 [.slice none 0 0, .int .i64 0, .int .i64 0, .int .i64 0, .int .i64 0, .int .i64 0, .int .i64 0, .int .i64 0, .slice none 0 0, .int .i64 0], .cl g2 32 [.slice pa c.bs.length pc, .int .i64 c.ra, .int .i64 c.rb, .int .i64 c.rc, .int .i64 c.rk, .int .i64 (dt c.tk c.mo c.gn), .int .i64 c.mo, .int .i64 c.gn, .slice x qv.length xc, .int .i64 c.nx]]) rfl (ay J J J J ⟨J, J, J, trivial⟩ rfl (by kernel_rfl)) (fun w1 hm => ?_) J J ?_
        · have hown := hm.2.get (i := 0) rfl
          have hrep := (hm.2.get (i := 2) rfl).2.1
          have hml := eg cG c.bs k
          have hA0 : ∀ b, (∃ a, pa = some a ∧ b = a.block) → w.heap.size ≤ b := fun b ⟨a, h1, h2⟩ => by
            subst h1 h2
            exact ((Ent.ok.mut_lt (e := .own (some a) pc 64 6 c.bs.length ((bR cG c.bs k).flatMap bC)) hown (by show a.block = a.block; rfl)).1)
          have hCi : COk (fun b => F b ∨ ∃ a, pa = some a ∧ b = a.block) w1 ⟨{ c with tk := dt c.tk c.mo c.gn, bs := bR cG c.bs k }, pa, pc, x, xc, qv⟩ := ⟨(qr hml hown).mono fun _ => .inr, hrep.1.qs.mono fun _ => .inl, hrep.1.eq, fun q hq => (hrep.1.ok q hq).mono fun _ => .inl⟩
          have hqu : QOk F w1 u := hrep.1.ok u (List.mem_of_getElem? hu)
          have hcall := eF (A := fun b => F b ∨ ∃ a, pa = some a ∧ b = a.block) ⟨{ c with tk := dt c.tk c.mo c.gn, bs := bR cG c.bs k }, pa, pc, x, xc, qv⟩ i u { u with q := { u.q with bk := bv.nm, att := u.q.att + 1 } } w1 hCi ⟨hI.wf.cap, hI.wf.nil, hI.wf.ans⟩ (by show qv.length ≤ _; omega) hu (QOk.mono (v := ({ u with q := { u.q with bk := bv.nm, att := u.q.att + 1 } } : QV)) hqu fun _ => .inl) (hI.wf.ans u (List.mem_of_getElem? hu))
          have hbb : (⟨{ c with tk := dt c.tk c.mo c.gn, bs := bR cG c.bs k }, pa, pc, x, xc, qv⟩ : CV).c.bs.length = c.bs.length := hml
          rw [hbb] at hcall
          refine hcall.mono fun e w2 ⟨s, h1, h2, h3, h4⟩ => ⟨(s, _), ⟨h1, h4, fun b hb => ?_⟩, h2, Mem.out (hm.mask [false, true, false, true, true, true] rfl) (A := fun b => F b ∨ ∃ a, pa = some a ∧ b = a.block) (fun b hb f hf hfm => ?_) h3.2 (fun F w => COk F w s ∧ ∀ x ∈ lq ++ [({ u with q := { u.q with bk := bv.nm, att := u.q.att + 1 } } : QV)], QOk F w x) ⟨h3.1.lt, fun y hy => ?_⟩ (fun F w3 w4 hk h => ⟨h.1.agree hk, fun x hx => (h.2 x hx).agree hk⟩)⟩
          · have := hm.1.size
            rcases hb.1 with (h9 | h9) | h9
            · exact hI.fo b h9
            · exact .inr (hA0 b h9)
            · exact .inr (by omega)
          · rcases hb with h9 | ⟨a, h9, h10⟩
            · exact dz hm.2 (i := 2) rfl b h9 f (List.Sublist.subset (List.Sublist.cons _ (List.Sublist.cons_cons _ (List.Sublist.cons _ (List.Sublist.refl _)))) hf) hfm
            · subst h9 h10
              exact (hm.2.2.1 f (List.Sublist.subset (List.Sublist.cons_cons _ (List.Sublist.cons _ (List.Sublist.refl _))) hf) a.block).1 (show a.block = a.block from rfl) (Ent.mut_foot hfm)
          · have hy1 : QOk F w1 y := by
              rcases List.mem_append.1 hy with h9 | h9
              · exact hrep.2 y h9
              · obtain rfl := List.mem_singleton.1 h9
                exact QOk.mono (v := ({ u with q := { u.q with bk := bv.nm, att := u.q.att + 1 } } : QV)) hqu fun _ h => h
            exact ((hy1.below h3.2).mono fun _ h => .inl (.inl h)).lt
        rintro ⟨⟨c1, b1, bc1, x1, xc1, qv1⟩, F1⟩ ⟨hc1, hw1, hF1⟩
        dsimp only at hc1 hw1 hF1
        repeat' (first | refine aa ?_ | refine ab ?_ | refine ae ?_ | ((refine' ak rfl ?_ J J ?_); rotate_left; first | exact ai af J J J J | exact ah af 1 J J J J J) | refine aj af 4 J J J J J J J J J J J J ?_)
        refine eH (p := c1.qs = qv1.map (·.q)) (fun w1 hm => (hm.2.get (i := 0) rfl).2.1.1.eq) ?_
        intro hq1
        have hln1 : qv1.length = qv.length := kg (v := ⟨c, b, bc, x, xc, qv⟩) (s := ⟨c1, b1, bc1, x1, xc1, qv1⟩) hI.eq hq1 (by show c1.qs.length = _; rw [hc1]; exact List.length_modify _ _ _)
        repeat' (first | refine aa ?_ | refine ab ?_ | refine ax ?_ | refine ae ?_ | (refine bq af J J J ⟨J, trivial⟩ J J J J J J J J ?_; intro g) | (refine bK af 3 0 J J J J J J J J J (fun _ _ => rfl) eR J J (by unfold maxLen; omega) (by omega) J J ?_; intro sa sc) | ((refine' ak rfl ?_ J J ?_); rotate_left; first | exact a6 J J J J J (by omega) | exact ai af J J J J))
        refine aR ⟨i + 1, ⟨c1, b1, bc1, x1, xc1, qv1⟩, F1, sa, sc, lq ++ [({ u with q := { u.q with bk := bv.nm, att := u.q.att + 1 } } : QV)]⟩ [false, true, false, true, true, true] (hI.yes hu hi hyes hbq htk hc1 hq1 (by show qv1.length = _; omega) hw1 hF1) (show v.qv.length - (i + 1) < v.qv.length - i by omega) ⟨rfl, by simp [lk], rfl, rfl, rfl, trivial⟩ (by simp [dV]; first | exact ⟨⟨rfl, rfl⟩, rfl⟩ | exact ⟨rfl, rfl⟩)
      · have htk : (if u.q.att + 1 = 1 then dt c.tk c.mo c.gn else c.tk) = c.tk := if_neg ha
        refine am rfl (by simpa using ha) ?_
        repeat' (first | refine ag ?_ | refine aa ?_ | refine ab ?_ | refine au ?_ | ((refine' ak rfl ?_ J J ?_); rotate_left; first | exact ai af J J J J | exact ah af 4 J J J J J))
        refine bf (σ := Option Addr × Nat) (fun _ => True) (fun p => .slice p.1 c.bs.length p.2) (fun p => [.own p.1 p.2 64 6 c.bs.length ((bR cG c.bs k).flatMap bC)]) rfl (ay J J J J ⟨J, J, trivial⟩ rfl (by kernel_rfl)) (fun w1 hm => mH b c.bs bc k bv w1 (hm.2.get (i := 1) rfl).2.1.1.bk (by omega) hbv hbok) J J ?_
        rintro ⟨pa, pc⟩ -
        dsimp only [List.cons_append, List.nil_append]
        repeat' (first | refine ag ?_ | refine aa ?_ | refine ab ?_ | refine ae ?_ | ((refine' ak rfl ?_ J J ?_); rotate_left; first | exact ai af J J J J | exact ah af 1 J J J J J | exact ah af 5 J J J J J) | refine aj af 5 J J J J J J J J J J J J ?_)
        refine bX (σ := CV × (Nat → Prop)) (fun s => s.1.c = bZ { c with tk := c.tk, bs := bR cG c.bs k } i (fun _ => ({ u with q := { u.q with bk := bv.nm, att := u.q.att + 1 } } : QV).q) ∧ eE s.1 ∧ ∀ b, s.2 b → A b ∨ w.heap.size ≤ b) (fun s => .agg ⟨CC s.1⟩) (fun s => [.rep s.2 (fun w => COk s.2 w s.1 ∧ ∀ x ∈ lq ++ [({ u with q := { u.q with bk := bv.nm, att := u.q.att + 1 } } : QV)], QOk s.2 w x), .cl g8 50 (QC { u with q := { u.q with bk := bv.nm, att := u.q.att + 1 } }), .own la lc 50 15 lq.length (lq.flatMap QC), .cl g4 32 [.slice none 0 0, .int .i64 0, .int .i64 0, .int .i64 0, .int .i64 0, .int .i64 0, .int .i64 0, .int .i64 0, .slice none 0 0, .int .i64 0], .cl g2 32 [.slice pa c.bs.length pc, .int .i64 c.ra, .int .i64 c.rb, .int .i64 c.rc, .int .i64 c.rk, .int .i64 (c.tk), .int .i64 c.mo, .int .i64 c.gn, .slice x qv.length xc, .int .i64 c.nx]]) rfl (ay J J J J ⟨J, J, J, trivial⟩ rfl (by kernel_rfl)) (fun w1 hm => ?_) J J ?_
        · have hown := hm.2.get (i := 0) rfl
          have hrep := (hm.2.get (i := 2) rfl).2.1
          have hml := eg cG c.bs k
          have hA0 : ∀ b, (∃ a, pa = some a ∧ b = a.block) → w.heap.size ≤ b := fun b ⟨a, h1, h2⟩ => by
            subst h1 h2
            exact ((Ent.ok.mut_lt (e := .own (some a) pc 64 6 c.bs.length ((bR cG c.bs k).flatMap bC)) hown (by show a.block = a.block; rfl)).1)
          have hCi : COk (fun b => F b ∨ ∃ a, pa = some a ∧ b = a.block) w1 ⟨{ c with tk := c.tk, bs := bR cG c.bs k }, pa, pc, x, xc, qv⟩ := ⟨(qr hml hown).mono fun _ => .inr, hrep.1.qs.mono fun _ => .inl, hrep.1.eq, fun q hq => (hrep.1.ok q hq).mono fun _ => .inl⟩
          have hqu : QOk F w1 u := hrep.1.ok u (List.mem_of_getElem? hu)
          have hcall := eF (A := fun b => F b ∨ ∃ a, pa = some a ∧ b = a.block) ⟨{ c with tk := c.tk, bs := bR cG c.bs k }, pa, pc, x, xc, qv⟩ i u { u with q := { u.q with bk := bv.nm, att := u.q.att + 1 } } w1 hCi ⟨hI.wf.cap, hI.wf.nil, hI.wf.ans⟩ (by show qv.length ≤ _; omega) hu (QOk.mono (v := ({ u with q := { u.q with bk := bv.nm, att := u.q.att + 1 } } : QV)) hqu fun _ => .inl) (hI.wf.ans u (List.mem_of_getElem? hu))
          have hbb : (⟨{ c with tk := c.tk, bs := bR cG c.bs k }, pa, pc, x, xc, qv⟩ : CV).c.bs.length = c.bs.length := hml
          rw [hbb] at hcall
          refine hcall.mono fun e w2 ⟨s, h1, h2, h3, h4⟩ => ⟨(s, _), ⟨h1, h4, fun b hb => ?_⟩, h2, Mem.out (hm.mask [false, true, false, true, true, true] rfl) (A := fun b => F b ∨ ∃ a, pa = some a ∧ b = a.block) (fun b hb f hf hfm => ?_) h3.2 (fun F w => COk F w s ∧ ∀ x ∈ lq ++ [({ u with q := { u.q with bk := bv.nm, att := u.q.att + 1 } } : QV)], QOk F w x) ⟨h3.1.lt, fun y hy => ?_⟩ (fun F w3 w4 hk h => ⟨h.1.agree hk, fun x hx => (h.2 x hx).agree hk⟩)⟩
          · have := hm.1.size
            rcases hb.1 with (h9 | h9) | h9
            · exact hI.fo b h9
            · exact .inr (hA0 b h9)
            · exact .inr (by omega)
          · rcases hb with h9 | ⟨a, h9, h10⟩
            · exact dz hm.2 (i := 2) rfl b h9 f (List.Sublist.subset (List.Sublist.cons _ (List.Sublist.cons_cons _ (List.Sublist.cons _ (List.Sublist.refl _)))) hf) hfm
            · subst h9 h10
              exact (hm.2.2.1 f (List.Sublist.subset (List.Sublist.cons_cons _ (List.Sublist.cons _ (List.Sublist.refl _))) hf) a.block).1 (show a.block = a.block from rfl) (Ent.mut_foot hfm)
          · have hy1 : QOk F w1 y := by
              rcases List.mem_append.1 hy with h9 | h9
              · exact hrep.2 y h9
              · obtain rfl := List.mem_singleton.1 h9
                exact QOk.mono (v := ({ u with q := { u.q with bk := bv.nm, att := u.q.att + 1 } } : QV)) hqu fun _ h => h
            exact ((hy1.below h3.2).mono fun _ h => .inl (.inl h)).lt
        rintro ⟨⟨c1, b1, bc1, x1, xc1, qv1⟩, F1⟩ ⟨hc1, hw1, hF1⟩
        dsimp only at hc1 hw1 hF1
        repeat' (first | refine aa ?_ | refine ab ?_ | refine ae ?_ | ((refine' ak rfl ?_ J J ?_); rotate_left; first | exact ai af J J J J | exact ah af 1 J J J J J) | refine aj af 4 J J J J J J J J J J J J ?_)
        refine eH (p := c1.qs = qv1.map (·.q)) (fun w1 hm => (hm.2.get (i := 0) rfl).2.1.1.eq) ?_
        intro hq1
        have hln1 : qv1.length = qv.length := kg (v := ⟨c, b, bc, x, xc, qv⟩) (s := ⟨c1, b1, bc1, x1, xc1, qv1⟩) hI.eq hq1 (by show c1.qs.length = _; rw [hc1]; exact List.length_modify _ _ _)
        repeat' (first | refine aa ?_ | refine ab ?_ | refine ax ?_ | refine ae ?_ | (refine bq af J J J ⟨J, trivial⟩ J J J J J J J J ?_; intro g) | (refine bK af 3 0 J J J J J J J J J (fun _ _ => rfl) eR J J (by unfold maxLen; omega) (by omega) J J ?_; intro sa sc) | ((refine' ak rfl ?_ J J ?_); rotate_left; first | exact a6 J J J J J (by omega) | exact ai af J J J J))
        refine aR ⟨i + 1, ⟨c1, b1, bc1, x1, xc1, qv1⟩, F1, sa, sc, lq ++ [({ u with q := { u.q with bk := bv.nm, att := u.q.att + 1 } } : QV)]⟩ [false, true, false, true, true, true] (hI.yes hu hi hyes hbq htk hc1 hq1 (by show qv1.length = _; omega) hw1 hF1) (show v.qv.length - (i + 1) < v.qv.length - i by omega) ⟨rfl, by simp [lk], rfl, rfl, rfl, trivial⟩ (by simp [dV]; first | exact ⟨⟨rfl, rfl⟩, rfl⟩ | exact ⟨rfl, rfl⟩)
    · have hno : (if fG (bI now) u.q = true then cK (bI now) c.bs else none) = none := if_neg hdu
      have hdu' : fG (bI now) u.q = false := eq_false_of_ne_true hdu
      refine aw rfl (by rw [← hp0, nG, hdu']; rfl) ?_
      repeat' (first | refine aa ?_ | refine ab ?_ | refine a8 ?_ | refine aH ?_ | refine aN ?_ | refine ae ?_ | ((refine' ak rfl ?_ J J ?_); rotate_left; first | exact a6 J J J J J (by omega) | exact ai af J J J J))
      refine aR ⟨i + 1, ⟨c, b, bc, x, xc, qv⟩, F, la, lc, lq⟩ [false] (hI.no hu hi hno) (show v.qv.length - (i + 1) < v.qv.length - i by omega) ⟨J, J, J, J, J, trivial⟩ rfl
  · have hin : i = v.qv.length := by have := hI.le; omega
    subst hin
    have hl9 : v.c.qs.length = v.qv.length := by rw [hC.eq, List.length_map]
    have hgo := hI.go
    have hcl : c.qs.length = v.qv.length := by have := hI.eq; dsimp only at this; rw [this, List.length_map, hln2]
    dsimp only at hgo
    rw [List.drop_eq_nil_of_le (by omega), List.take_of_length_le (by omega)] at hgo
    have hfr := hI.fr
    dsimp only at hfr
    have hex : cD v.c now = (c, lq.map (·.q)) := by
      unfold cD
      rw [hgo]
      dsimp only [bB]
      rw [List.append_nil, List.append_nil, ← hfr]
    repeat' (first | refine ag ?_ | refine aa ?_ | refine ab ?_ | refine ae ?_ | ((refine' ak rfl ?_ J J ?_); rotate_left; first | exact ai af J J J J | exact aq af J J J J J J | exact ah af 3 J J J J J | exact aO af J J J J J J J))
    refine am rfl (by simp; omega) ?_
    repeat' (first | refine ag ?_ | refine aa ?_ | refine ab ?_ | refine aA ?_ | refine a8 ?_ | refine aH ?_ | refine aN ?_ | refine ae ?_ | ((refine' ak rfl ?_ J J ?_); rotate_left; first | exact ai af J J J J | exact ah af 3 J J J J J) | refine aj af 2 J J J J J J J J J J J J ?_)
    (refine aB af (fun _ => 2) J J ⟨J, trivial⟩ rfl fun w1 hm => ⟨(⟨c, b, bc, x, xc, qv⟩, lq, (la, lc)), ?_, ?_, ?_, ?_, ?_⟩)
    · rw [hex]; exact ⟨rfl, rfl⟩
    · rfl
    · exact ⟨⟨(hm.2.get (i := 0) rfl).2.1.1.mono hI.fo, hm.below⟩, hI.wf⟩
    · exact Rws.own bj (hm.2.get (i := 1) rfl)
    · exact fun q hq => ((hm.2.get (i := 0) rfl).2.1.2 q hq).mono hI.fo
end Go.Proofs.YtmdkfbmpenohiaaGreatDoor.Y
