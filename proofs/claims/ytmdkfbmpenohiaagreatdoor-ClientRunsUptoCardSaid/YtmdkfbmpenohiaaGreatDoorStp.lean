/- The step of law 53: a call of the package, and what it hands out. -/
import Derived.Test.YtmdkfbmpenohiaaGreatDoorBunN
import Derived.Test.YtmdkfbmpenohiaaGreatDoorRegV
import Derived.Test.YtmdkfbmpenohiaaGreatDoorBunF
namespace Go.Proofs.YtmdkfbmpenohiaaGreatDoor.Y
open Go.RowKit
structure OV where
  kd : Int
  id : Int
  n : Int
  now : Int
  q : QV
  msg : ByteArray
  cd : Int
  tx : ByteArray
  safe : Bool
def OC (o : OV) : List Value := [.int .i64 o.kd, .int .i64 o.id, .int .i64 o.n, .int .i64 o.now, .int .i64 o.q.q.id, .string o.q.q.sv, .string o.q.q.mt, .int .i64 o.q.q.late, .slice o.q.m o.q.q.ms.length o.q.mc, .int .i64 o.q.q.sh, .slice o.q.s o.q.q.mg.length o.q.sc, .int .i64 o.q.q.att, .string o.q.q.bk, .int .i64 o.q.q.st, .int .i64 o.q.q.nx, .slice o.q.a o.q.q.an.length o.q.ac, .bool o.q.q.dn, .int .i64 o.q.q.cd, .string o.q.q.tx, .string o.msg, .int .i64 o.cd, .string o.tx, .bool o.safe]
def OV.d (o : OV) : y4 := ⟨o.kd, o.id, o.n, o.now, o.q.q, o.msg, o.cd, o.tx, o.safe⟩
structure SV where
  c : CV
  l : List QV
  la : Option Addr
  lc : Nat
  ia : Option Addr
  ic : Nat
def RC (s : SV) (r : xt) : List Value := [.int .i64 r.e, .int .i64 r.id, .slice s.la s.l.length s.lc, .slice s.ia r.ids.length s.ic]
structure StOk (F : Nat → Prop) (w : World) (s : SV) (ids : List Int) : Prop where
  cl : COk F w s.c
  qs : Rws F w 15 QC s.la s.l
  ok : ∀ q ∈ s.l, QOk F w q
  is : Rws F w 1 iC s.ia ids
theorem StOk.agree {F : Nat → Prop} {w1 w2 : World} {s : SV} {ids : List Int} (h : StOk F w1 s ids) (hk : ∀ b, F b → w2.heap[b]? = w1.heap[b]?) : StOk F w2 s ids := ⟨h.cl.agree hk, h.qs.agree hk, fun q hq => (h.ok q hq).agree hk, h.is.agree hk⟩
theorem StOk.lt {F : Nat → Prop} {w : World} {s : SV} {ids : List Int} (h : StOk F w s ids) : StOk (fun b => F b ∧ b < w.heap.size) w s ids := ⟨h.cl.lt, h.qs.lt, fun q hq => (h.ok q hq).lt, h.is.lt⟩
theorem StOk.mono {F F' : Nat → Prop} {w : World} {s : SV} {ids : List Int} (h : StOk F w s ids) (hF : ∀ b, F b → F' b) : StOk F' w s ids := ⟨h.cl.mono hF, h.qs.mono hF, fun q hq => (h.ok q hq).mono hF, h.is.mono hF⟩
theorem dA {α : Type} {A : Nat → Prop} {w : World} {sz : Nat} {f : α → List Value} {x : Option Addr} : Rws A w sz f x [] := fun h => absurd h (Nat.lt_irrefl _)
theorem StOk.cli {F : Nat → Prop} {w : World} {v : CV} (h : COk F w v) : StOk F w ⟨v, [], none, 0, none, 0⟩ [] := ⟨h, dA, fun _ hq => (by cases hq), dA⟩
theorem cE {w0 w : World} {M : List Ent} (h : Mem w0 w M) {b : Nat} (hb : b < w0.heap.size) {f : Ent} (hf : f ∈ M) : ¬ f.mut b := fun hm => by
  have := ((MemL.mem h.2 f hf).mut_lt hm).1
  omega
theorem b8 {A : Nat → Prop} {w w1 w2 : World} {M : List Ent} (hm : Mem w w1 M) (s : SV) (ids : List Int) (h : StOk (fun b => (A b ∧ b < w.heap.size) ∨ w1.heap.size ≤ b) w2 s ids) (hb : Below w1.heap.size w1 w2) : ∃ F : Nat → Prop, (∀ b, F b → A b ∨ w.heap.size ≤ b) ∧ Mem w w2 (.rep F (fun w => StOk F w s ids) :: M) :=
  ⟨_, fun b hb => by
    rcases hb.1 with h1 | h1
    · exact .inl h1.1
    · have := hm.1.size
      exact .inr (by omega), Mem.out hm (A := fun b => A b ∧ b < w.heap.size) (fun b hb f hf => cE hm hb.2 hf) hb (fun F w => StOk F w s ids) h.lt (fun F w3 w4 hk h => h.agree hk)⟩
section
variable {P : Program} {l0 rest : List Oper} {Q : Exit → Act → World → Prop} {n : Nat} {w0 : World} {S : bM} {M : List Ent} {o : Oper} {d : Nat}
theorem bE {σ : Type} {f : FuncId} {args : List Value} (Φ : σ → (Nat → Prop) → Prop) (V : σ → Value) (p : σ → (Nat → Prop) → World → Prop) (hg : o.guard = none) (ho : dO P S [] o f args)
    (hc : ∀ w, Mem w0 w M → Calls P f ⟨args⟩ w fun e w' => ∃ s, ∃ F : Nat → Prop, Φ s F ∧ e = .returned (V s) ∧ Mem w0 w' (.rep F (p s F) :: M))
    (hd : o.dst = some d) (hn : Nat.blt d n = true) (h : ∀ s (F : Nat → Prop), Φ s F → SL P l0 Q rest n w0 ((d, [], V s) :: S) (.rep F (p s F) :: M)) : SL P l0 Q (o :: rest) n w0 S M :=
  bX (σ := σ × (Nat → Prop)) (fun s => Φ s.1 s.2) (fun s => V s.1) (fun s => .rep s.2 (p s.1 s.2) :: M) hg ho (fun w hM => (hc w hM).mono fun _ _ ⟨s, F, h1, h2, h3⟩ => ⟨(s, F), h1, h2, h3⟩) hd hn (fun s hs => h s.1 s.2 hs)
end
set_option maxRecDepth 100000 in
set_option maxHeartbeats 32000000 in
theorem pj {A : Nat → Prop} (v : CV) (o : OV) (w : World) (hC : COk A w v) (hQ : QOk A w o.q) (hg : MLen w) (hV : VC v.c) (hzq : v.qv.length ≤ 703687441775) (hz : ∀ u ∈ v.qv, eP u.q) (han : ∀ q ∈ v.c.qs, q.an.length < 8796093022208) (hsz : eP o.q.q) (hhd : dH o.q.q.hd) (htx : o.tx.size ≤ 4611686018427387900) : Calls Tryz.prog 9 #[.agg #[.slice v.b v.c.bs.length v.bc, .int .i64 v.c.ra, .int .i64 v.c.rb, .int .i64 v.c.rc, .int .i64 v.c.rk, .int .i64 v.c.tk, .int .i64 v.c.mo, .int .i64 v.c.gn, .slice v.x v.qv.length v.xc, .int .i64 v.c.nx], .agg #[.int .i64 o.kd, .int .i64 o.id, .int .i64 o.n, .int .i64 o.now, .int .i64 o.q.q.id, .string o.q.q.sv, .string o.q.q.mt, .int .i64 o.q.q.late, .slice o.q.m o.q.q.ms.length o.q.mc, .int .i64 o.q.q.sh, .slice o.q.s o.q.q.mg.length o.q.sc, .int .i64 o.q.q.att, .string o.q.q.bk, .int .i64 o.q.q.st, .int .i64 o.q.q.nx, .slice o.q.a o.q.q.an.length o.q.ac, .bool o.q.q.dn, .int .i64 o.q.q.cd, .string o.q.q.tx, .string o.msg, .int .i64 o.cd, .string o.tx, .bool o.safe]] w fun e w' => ∃ s : SV, ∃ F : Nat → Prop, (∀ b, F b → A b ∨ w.heap.size ≤ b) ∧ (s.c.c = (aX v.c o.d).1 ∧ s.l.map (·.q) = (aX v.c o.d).2.qs) ∧ e = .returned (.tuple #[.agg ⟨CC s.c⟩, .agg ⟨RC s (aX v.c o.d).2⟩]) ∧ StOk F w' s (aX v.c o.d).2.ids ∧ Below w.heap.size w w' := by
  have hcb := gH hV.cb
  have hzb : v.c.bs.length ≤ 2513169434916 := by omega
  have hbo : ∀ b ∈ v.c.bs, dK b = true := fun b hb => (hcb.2 b hb).1
  have hra := fy hV.re
  have hatt : ∀ q ∈ v.c.qs, 0 ≤ q.att ∧ q.att ≤ 1000000000 := fun q hq => by
    have := (hV.qs q hq).att
    omega
  have hC' := hC.lt
  have hQ' := hQ.lt
  refine aD Tryz.func9 rfl Tryz.ntmps9 J J ?_
  refine ag ?_
  refine aa ?_
  (refine aT J J J J J J ?_; intro g2)
  (refine aT J J J J J J ?_; intro g3)
  (refine aF af J J J J J J ?_; intro g4)
  (refine aF af J J J J J J ?_; intro g5)
  repeat' (first | refine ag ?_ | refine aa ?_ | refine ab ?_ | refine aE ?_ | refine ae ?_ | ((refine' ak rfl ?_ J J ?_); rotate_left; first | exact ai af J J J J | exact aq af J J J J J J | exact ah af 2 J J J J J))
  by_cases h0 : o.kd = 0
  · have hst : aX v.c o.d = ((ci v.c o.now o.q.q).1, ⟨(ci v.c o.now o.q.q).2.2, (ci v.c o.now o.q.q).2.1, [], []⟩) := by unfold aX; rw [if_pos (show o.d.kd = 0 from h0)]; rfl
    refine aw rfl (by simpa using h0) ?_
    repeat' (first | refine ag ?_ | refine aa ?_ | ((refine' ak rfl ?_ J J ?_); rotate_left; first | exact ai af J J J J | exact ah af 2 J J J J J | exact ah af 3 J J J J J))
    refine bE (σ := SV) (fun s F => (∀ b, F b → A b ∨ w.heap.size ≤ b) ∧ s.c.c = (ci v.c o.now o.q.q).1 ∧ s.l = [] ∧ s.la = none ∧ s.lc = 0 ∧ s.ia = none ∧ s.ic = 0) (fun s => .tuple ⟨[.agg ⟨CC s.c⟩, .int .i64 (ci v.c o.now o.q.q).2.1, .int .i64 (ci v.c o.now o.q.q).2.2]⟩) (fun s F w => StOk F w s []) rfl (ay J J J J ⟨J, J, J, trivial⟩ rfl (by kernel_rfl)) (fun w1 hm => (oG (A := fun b => A b ∧ b < w.heap.size) v o.now o.q w1 (hC'.below hm.below) hzq hzb hz (hQ'.below hm.below) hsz (hg.below hm.below) hhd (by have := hV.nx; omega)).mono fun e w2 ⟨v', h1, h2, h3⟩ => by obtain ⟨F, hF, hM⟩ := b8 hm ⟨v', [], none, 0, none, 0⟩ [] (StOk.cli h3.1) h3.2; exact ⟨_, F, ⟨hF, h1, rfl, rfl, rfl, rfl, rfl⟩, h2, hM⟩) J J ?_
    rintro ⟨⟨c1, b1, bc1, x1, xc1, qv1⟩, l1, la1, lc1, ia1, ic1⟩ F ⟨hF, hp⟩
    obtain ⟨hc1, rfl, rfl, rfl, rfl, rfl⟩ := hp
    repeat' (first | refine ag ?_ | refine aa ?_ | refine ab ?_ | refine aA ?_ | refine ar ?_ | refine aQ ?_ | refine ae ?_ | (refine aF af J J J J J J ?_; intro g7) | ((refine' ak rfl ?_ J J ?_); rotate_left; first | exact ai af J J J J | exact ah af 0 J J J J J | exact aC af J J ⟨J, J, trivial⟩ J J J) | refine aj af 0 J J J J J J J J J J J J ?_ | refine aj af 2 J J J J J J J J J J J J ?_ | refine aj af 3 J J J J J J J J J J J J ?_)
    (first | refine aB af (fun t => cond (Nat.beq t 4) 3 2) J J ⟨J, J, trivial⟩ rfl fun w1 hm => by rw [hst]; exact ⟨⟨⟨c1, b1, bc1, x1, xc1, qv1⟩, [], none, 0, none, 0⟩, F, hF, ⟨hc1, rfl⟩, rfl, (hm.2.get (i := 1) rfl).2.1, hm.below⟩)
  refine am rfl (by simpa using h0) ?_
  repeat' (first | refine ag ?_ | refine aa ?_ | refine ab ?_ | refine ae ?_ | ((refine' ak rfl ?_ J J ?_); rotate_left; first | exact ai af J J J J | exact aq af J J J J J J))
  by_cases h1 : o.kd = 1
  · have hst : aX v.c o.d = ((cD v.c o.now).1, ⟨0, 0, (cD v.c o.now).2, []⟩) := by unfold aX; rw [if_neg (show ¬ o.d.kd = 0 from h0), if_pos (show o.d.kd = 1 from h1)]; rfl
    refine aw rfl (by simpa using h1) ?_
    repeat' (first | refine ag ?_ | refine aa ?_ | ((refine' ak rfl ?_ J J ?_); rotate_left; first | exact ai af J J J J | exact ah af 2 J J J J J | exact ah af 3 J J J J J))
    refine bE (σ := SV) (fun s F => (∀ b, F b → A b ∨ w.heap.size ≤ b) ∧ s.c.c = (cD v.c o.now).1 ∧ s.l.map (·.q) = (cD v.c o.now).2 ∧ s.ia = none ∧ s.ic = 0) (fun s => .tuple ⟨[.agg ⟨CC s.c⟩, .slice s.la s.l.length s.lc]⟩) (fun s F w => StOk F w s []) rfl (ay J J J J ⟨J, J, trivial⟩ rfl (by kernel_rfl)) (fun w1 hm => (iF (A := fun b => A b ∧ b < w.heap.size) v o.now w1 (hC'.below hm.below) (by omega) hzb hz hbo hatt).mono fun e w2 ⟨⟨c1, l1, p1⟩, ⟨h1, h2⟩, h3, h4, h5, h6⟩ => by obtain ⟨F, hF, hM⟩ := b8 hm ⟨c1, l1, p1.1, p1.2, none, 0⟩ [] ⟨h4.1, h5.mono fun _ => .inr, fun q hq => (h6 q hq).mono fun _ => .inr, dA⟩ h4.2; exact ⟨_, F, ⟨hF, h1, h2, rfl, rfl⟩, h3, hM⟩) J J ?_
    rintro ⟨⟨c1, b1, bc1, x1, xc1, qv1⟩, l1, la1, lc1, ia1, ic1⟩ F ⟨hF, hp⟩
    obtain ⟨hc1, hl1, rfl, rfl⟩ := hp
    repeat' (first | refine ag ?_ | refine aa ?_ | refine ab ?_ | refine aA ?_ | refine ar ?_ | refine aQ ?_ | refine ae ?_ | (refine aF af J J J J J J ?_; intro g7) | ((refine' ak rfl ?_ J J ?_); rotate_left; first | exact ai af J J J J | exact ah af 0 J J J J J | exact aC af J J ⟨J, trivial⟩ J J J) | refine aj af 0 J J J J J J J J J J J J ?_ | refine aj af 2 J J J J J J J J J J J J ?_ | refine aj af 3 J J J J J J J J J J J J ?_)
    (first | refine aB af (fun t => cond (Nat.beq t 4) 3 2) J J ⟨J, J, trivial⟩ rfl fun w1 hm => by rw [hst]; exact ⟨⟨⟨c1, b1, bc1, x1, xc1, qv1⟩, l1, la1, lc1, none, 0⟩, F, hF, ⟨hc1, hl1⟩, rfl, (hm.2.get (i := 1) rfl).2.1, hm.below⟩)
  refine am rfl (by simpa using h1) ?_
  repeat' (first | refine ag ?_ | refine aa ?_ | refine ab ?_ | refine ae ?_ | ((refine' ak rfl ?_ J J ?_); rotate_left; first | exact ai af J J J J | exact aq af J J J J J J))
  by_cases h2 : o.kd = 2
  · have hst : aX v.c o.d = ((cC v.c o.id o.n).1, ⟨(cC v.c o.id o.n).2, 0, [], []⟩) := by unfold aX; rw [if_neg (show ¬ o.d.kd = 0 from h0), if_neg (show ¬ o.d.kd = 1 from h1), if_pos (show o.d.kd = 2 from h2)]; rfl
    refine aw rfl (by simpa using h2) ?_
    repeat' (first | refine aa ?_ | ((refine' ak rfl ?_ J J ?_); rotate_left; first | exact ai af J J J J | exact ah af 2 J J J J J | exact ah af 3 J J J J J))
    refine bE (σ := SV) (fun s F => (∀ b, F b → A b ∨ w.heap.size ≤ b) ∧ s.c.c = (cC v.c o.id o.n).1 ∧ s.l = [] ∧ s.la = none ∧ s.lc = 0 ∧ s.ia = none ∧ s.ic = 0) (fun s => .tuple ⟨[.agg ⟨CC s.c⟩, .int .i64 (cC v.c o.id o.n).2]⟩) (fun s F w => StOk F w s []) rfl (ay J J J J ⟨J, J, J, trivial⟩ rfl (by kernel_rfl)) (fun w1 hm => (tT (A := fun b => A b ∧ b < w.heap.size) v o.id o.n w1 (hC'.below hm.below) (by omega) hzb hz).mono fun e w2 ⟨v', h1, h2, h3⟩ => by obtain ⟨F, hF, hM⟩ := b8 hm ⟨v', [], none, 0, none, 0⟩ [] (StOk.cli h3.1) h3.2; exact ⟨_, F, ⟨hF, h1, rfl, rfl, rfl, rfl, rfl⟩, h2, hM⟩) J J ?_
    rintro ⟨⟨c1, b1, bc1, x1, xc1, qv1⟩, l1, la1, lc1, ia1, ic1⟩ F ⟨hF, hp⟩
    obtain ⟨hc1, rfl, rfl, rfl, rfl, rfl⟩ := hp
    repeat' (first | refine ag ?_ | refine aa ?_ | refine ab ?_ | refine aA ?_ | refine ax ?_ | refine ae ?_ | ((refine' ak rfl ?_ J J ?_); rotate_left; first | exact ai af J J J J | exact ah af 4 J J J J J | exact aC af J J ⟨J, trivial⟩ J J J) | refine aj af 1 J J J J J J J J J J J J ?_ | refine aj af 2 J J J J J J J J J J J J ?_ | refine aj af 4 J J J J J J J J J J J J ?_)
    (first | refine aB af (fun t => cond (Nat.beq t 4) 2 1) J J ⟨J, J, trivial⟩ rfl fun w1 hm => by rw [hst]; exact ⟨⟨⟨c1, b1, bc1, x1, xc1, qv1⟩, [], none, 0, none, 0⟩, F, hF, ⟨hc1, rfl⟩, rfl, (hm.2.get (i := 0) rfl).2.1, hm.below⟩)
  refine am rfl (by simpa using h2) ?_
  repeat' (first | refine ag ?_ | refine aa ?_ | refine ab ?_ | refine ae ?_ | ((refine' ak rfl ?_ J J ?_); rotate_left; first | exact ai af J J J J | exact aq af J J J J J J))
  by_cases h3 : o.kd = 3
  · have hst : aX v.c o.d = ((cy v.c o.id o.msg).1, ⟨(cy v.c o.id o.msg).2, 0, [], []⟩) := by unfold aX; rw [if_neg (show ¬ o.d.kd = 0 from h0), if_neg (show ¬ o.d.kd = 1 from h1), if_neg (show ¬ o.d.kd = 2 from h2), if_pos (show o.d.kd = 3 from h3)]; rfl
    refine aw rfl (by simpa using h3) ?_
    repeat' (first | refine aa ?_ | ((refine' ak rfl ?_ J J ?_); rotate_left; first | exact ai af J J J J | exact ah af 2 J J J J J | exact ah af 3 J J J J J))
    refine bE (σ := SV) (fun s F => (∀ b, F b → A b ∨ w.heap.size ≤ b) ∧ s.c.c = (cy v.c o.id o.msg).1 ∧ s.l = [] ∧ s.la = none ∧ s.lc = 0 ∧ s.ia = none ∧ s.ic = 0) (fun s => .tuple ⟨[.agg ⟨CC s.c⟩, .int .i64 (cy v.c o.id o.msg).2]⟩) (fun s F w => StOk F w s []) rfl (ay J J J J ⟨J, J, J, trivial⟩ rfl (by kernel_rfl)) (fun w1 hm => (tU (A := fun b => A b ∧ b < w.heap.size) v o.id o.msg w1 (hC'.below hm.below) (by omega) hzb hz han).mono fun e w2 ⟨v', h1, h2, h3⟩ => by obtain ⟨F, hF, hM⟩ := b8 hm ⟨v', [], none, 0, none, 0⟩ [] (StOk.cli h3.1) h3.2; exact ⟨_, F, ⟨hF, h1, rfl, rfl, rfl, rfl, rfl⟩, h2, hM⟩) J J ?_
    rintro ⟨⟨c1, b1, bc1, x1, xc1, qv1⟩, l1, la1, lc1, ia1, ic1⟩ F ⟨hF, hp⟩
    obtain ⟨hc1, rfl, rfl, rfl, rfl, rfl⟩ := hp
    repeat' (first | refine ag ?_ | refine aa ?_ | refine ab ?_ | refine aA ?_ | refine ax ?_ | refine ae ?_ | ((refine' ak rfl ?_ J J ?_); rotate_left; first | exact ai af J J J J | exact ah af 4 J J J J J | exact aC af J J ⟨J, trivial⟩ J J J) | refine aj af 1 J J J J J J J J J J J J ?_ | refine aj af 2 J J J J J J J J J J J J ?_ | refine aj af 4 J J J J J J J J J J J J ?_)
    (first | refine aB af (fun t => cond (Nat.beq t 4) 2 1) J J ⟨J, J, trivial⟩ rfl fun w1 hm => by rw [hst]; exact ⟨⟨⟨c1, b1, bc1, x1, xc1, qv1⟩, [], none, 0, none, 0⟩, F, hF, ⟨hc1, rfl⟩, rfl, (hm.2.get (i := 0) rfl).2.1, hm.below⟩)
  refine am rfl (by simpa using h3) ?_
  repeat' (first | refine ag ?_ | refine aa ?_ | refine ab ?_ | refine ae ?_ | ((refine' ak rfl ?_ J J ?_); rotate_left; first | exact ai af J J J J | exact aq af J J J J J J))
  by_cases h4 : o.kd = 4
  · have hst : aX v.c o.d = ((de v.c o.now o.id o.cd o.tx o.safe).1, ⟨(de v.c o.now o.id o.cd o.tx o.safe).2, 0, [], []⟩) := by unfold aX; rw [if_neg (show ¬ o.d.kd = 0 from h0), if_neg (show ¬ o.d.kd = 1 from h1), if_neg (show ¬ o.d.kd = 2 from h2), if_neg (show ¬ o.d.kd = 3 from h3), if_pos (show o.d.kd = 4 from h4)]; rfl
    refine aw rfl (by simpa using h4) ?_
    repeat' (first | refine aa ?_ | ((refine' ak rfl ?_ J J ?_); rotate_left; first | exact ai af J J J J | exact ah af 2 J J J J J | exact ah af 3 J J J J J))
    refine bE (σ := SV) (fun s F => (∀ b, F b → A b ∨ w.heap.size ≤ b) ∧ s.c.c = (de v.c o.now o.id o.cd o.tx o.safe).1 ∧ s.l = [] ∧ s.la = none ∧ s.lc = 0 ∧ s.ia = none ∧ s.ic = 0) (fun s => .tuple ⟨[.agg ⟨CC s.c⟩, .int .i64 (de v.c o.now o.id o.cd o.tx o.safe).2]⟩) (fun s F w => StOk F w s []) rfl (ay J J J J ⟨J, J, J, J, J, trivial⟩ rfl (by kernel_rfl)) (fun w1 hm => (mG (A := fun b => A b ∧ b < w.heap.size) v o.now o.id o.cd o.tx o.safe w1 (hC'.below hm.below) (by omega) hzb hz hbo htx (fun q hq => by have := hatt q hq; omega)).mono fun e w2 ⟨v', h1, h2, h3⟩ => by obtain ⟨F, hF, hM⟩ := b8 hm ⟨v', [], none, 0, none, 0⟩ [] (StOk.cli h3.1) h3.2; exact ⟨_, F, ⟨hF, h1, rfl, rfl, rfl, rfl, rfl⟩, h2, hM⟩) J J ?_
    rintro ⟨⟨c1, b1, bc1, x1, xc1, qv1⟩, l1, la1, lc1, ia1, ic1⟩ F ⟨hF, hp⟩
    obtain ⟨hc1, rfl, rfl, rfl, rfl, rfl⟩ := hp
    repeat' (first | refine ag ?_ | refine aa ?_ | refine ab ?_ | refine aA ?_ | refine ax ?_ | refine ae ?_ | ((refine' ak rfl ?_ J J ?_); rotate_left; first | exact ai af J J J J | exact ah af 4 J J J J J | exact aC af J J ⟨J, trivial⟩ J J J) | refine aj af 1 J J J J J J J J J J J J ?_ | refine aj af 2 J J J J J J J J J J J J ?_ | refine aj af 4 J J J J J J J J J J J J ?_)
    (first | refine aB af (fun t => cond (Nat.beq t 4) 2 1) J J ⟨J, J, trivial⟩ rfl fun w1 hm => by rw [hst]; exact ⟨⟨⟨c1, b1, bc1, x1, xc1, qv1⟩, [], none, 0, none, 0⟩, F, hF, ⟨hc1, rfl⟩, rfl, (hm.2.get (i := 0) rfl).2.1, hm.below⟩)
  refine am rfl (by simpa using h4) ?_
  repeat' (first | refine ag ?_ | refine aa ?_ | refine ab ?_ | refine ae ?_ | ((refine' ak rfl ?_ J J ?_); rotate_left; first | exact ai af J J J J | exact aq af J J J J J J))
  by_cases h5 : o.kd = 5
  · have hst : aX v.c o.d = ((cR v.c o.now o.id).1, ⟨(cR v.c o.now o.id).2, 0, [], []⟩) := by unfold aX; rw [if_neg (show ¬ o.d.kd = 0 from h0), if_neg (show ¬ o.d.kd = 1 from h1), if_neg (show ¬ o.d.kd = 2 from h2), if_neg (show ¬ o.d.kd = 3 from h3), if_neg (show ¬ o.d.kd = 4 from h4), if_pos (show o.d.kd = 5 from h5)]; rfl
    refine aw rfl (by simpa using h5) ?_
    repeat' (first | refine aa ?_ | ((refine' ak rfl ?_ J J ?_); rotate_left; first | exact ai af J J J J | exact ah af 2 J J J J J | exact ah af 3 J J J J J))
    refine bE (σ := SV) (fun s F => (∀ b, F b → A b ∨ w.heap.size ≤ b) ∧ s.c.c = (cR v.c o.now o.id).1 ∧ s.l = [] ∧ s.la = none ∧ s.lc = 0 ∧ s.ia = none ∧ s.ic = 0) (fun s => .tuple ⟨[.agg ⟨CC s.c⟩, .int .i64 (cR v.c o.now o.id).2]⟩) (fun s F w => StOk F w s []) rfl (ay J J J J ⟨J, J, J, trivial⟩ rfl (by kernel_rfl)) (fun w1 hm => (tV (A := fun b => A b ∧ b < w.heap.size) v o.now o.id w1 (hC'.below hm.below) (by omega) hzb hz hbo).mono fun e w2 ⟨v', h1, h2, h3⟩ => by obtain ⟨F, hF, hM⟩ := b8 hm ⟨v', [], none, 0, none, 0⟩ [] (StOk.cli h3.1) h3.2; exact ⟨_, F, ⟨hF, h1, rfl, rfl, rfl, rfl, rfl⟩, h2, hM⟩) J J ?_
    rintro ⟨⟨c1, b1, bc1, x1, xc1, qv1⟩, l1, la1, lc1, ia1, ic1⟩ F ⟨hF, hp⟩
    obtain ⟨hc1, rfl, rfl, rfl, rfl, rfl⟩ := hp
    repeat' (first | refine ag ?_ | refine aa ?_ | refine ab ?_ | refine aA ?_ | refine ax ?_ | refine ae ?_ | ((refine' ak rfl ?_ J J ?_); rotate_left; first | exact ai af J J J J | exact ah af 4 J J J J J | exact aC af J J ⟨J, trivial⟩ J J J) | refine aj af 1 J J J J J J J J J J J J ?_ | refine aj af 2 J J J J J J J J J J J J ?_ | refine aj af 4 J J J J J J J J J J J J ?_)
    (first | refine aB af (fun t => cond (Nat.beq t 4) 2 1) J J ⟨J, J, trivial⟩ rfl fun w1 hm => by rw [hst]; exact ⟨⟨⟨c1, b1, bc1, x1, xc1, qv1⟩, [], none, 0, none, 0⟩, F, hF, ⟨hc1, rfl⟩, rfl, (hm.2.get (i := 0) rfl).2.1, hm.below⟩)
  refine am rfl (by simpa using h5) ?_
  repeat' (first | refine ag ?_ | refine aa ?_ | refine ab ?_ | refine ae ?_ | ((refine' ak rfl ?_ J J ?_); rotate_left; first | exact ai af J J J J | exact aq af J J J J J J))
  by_cases h6 : o.kd = 6
  · have hst : aX v.c o.d = ((df v.c o.now).1, ⟨0, 0, [], (df v.c o.now).2⟩) := by unfold aX; rw [if_neg (show ¬ o.d.kd = 0 from h0), if_neg (show ¬ o.d.kd = 1 from h1), if_neg (show ¬ o.d.kd = 2 from h2), if_neg (show ¬ o.d.kd = 3 from h3), if_neg (show ¬ o.d.kd = 4 from h4), if_neg (show ¬ o.d.kd = 5 from h5), if_pos (show o.d.kd = 6 from h6)]; rfl
    refine aw rfl (by simpa using h6) ?_
    repeat' (first | refine ag ?_ | refine aa ?_ | ((refine' ak rfl ?_ J J ?_); rotate_left; first | exact ai af J J J J | exact ah af 2 J J J J J | exact ah af 3 J J J J J))
    refine bE (σ := SV) (fun s F => (∀ b, F b → A b ∨ w.heap.size ≤ b) ∧ s.c.c = (df v.c o.now).1 ∧ s.l = [] ∧ s.la = none ∧ s.lc = 0) (fun s => .tuple ⟨[.agg ⟨CC s.c⟩, .slice s.ia (df v.c o.now).2.length s.ic]⟩) (fun s F w => StOk F w s (df v.c o.now).2) rfl (ay J J J J ⟨J, J, trivial⟩ rfl (by kernel_rfl)) (fun w1 hm => (tW (A := fun b => A b ∧ b < w.heap.size) v o.now w1 (hC'.below hm.below) (by omega) hzb hz hbo).mono fun e w2 ⟨⟨c1, p1⟩, h1, h3, h4, h5⟩ => by obtain ⟨F, hF, hM⟩ := b8 hm ⟨c1, [], none, 0, p1.1, p1.2⟩ (df v.c o.now).2 ⟨h4.1, dA, fun _ hq => (by cases hq), h5.mono fun _ => .inr⟩ h4.2; exact ⟨_, F, ⟨hF, h1, rfl, rfl, rfl⟩, h3, hM⟩) J J ?_
    rintro ⟨⟨c1, b1, bc1, x1, xc1, qv1⟩, l1, la1, lc1, ia1, ic1⟩ F ⟨hF, hp⟩
    obtain ⟨hc1, rfl, rfl, rfl⟩ := hp
    repeat' (first | refine ag ?_ | refine aa ?_ | refine ab ?_ | refine aA ?_ | refine ar ?_ | refine aQ ?_ | refine ae ?_ | (refine aF af J J J J J J ?_; intro g7) | ((refine' ak rfl ?_ J J ?_); rotate_left; first | exact ai af J J J J | exact ah af 0 J J J J J | exact aC af J J ⟨J, trivial⟩ J J J) | refine aj af 0 J J J J J J J J J J J J ?_ | refine aj af 2 J J J J J J J J J J J J ?_ | refine aj af 3 J J J J J J J J J J J J ?_)
    (first | refine aB af (fun t => cond (Nat.beq t 4) 3 2) J J ⟨J, J, trivial⟩ rfl fun w1 hm => by rw [hst]; exact ⟨⟨⟨c1, b1, bc1, x1, xc1, qv1⟩, [], none, 0, ia1, ic1⟩, F, hF, ⟨hc1, rfl⟩, rfl, (hm.2.get (i := 1) rfl).2.1, hm.below⟩)
  refine am rfl (by simpa using h6) ?_
  repeat' (first | refine ag ?_ | refine aa ?_ | refine ab ?_ | refine aA ?_ | refine au ?_ | refine ax ?_ | refine ae ?_ | ((refine' ak rfl ?_ J J ?_); rotate_left; first | exact ai af J J J J | exact ah af 3 J J J J J | exact aC af J J ⟨J, trivial⟩ J J J) | refine aj af 0 J J J J J J J J J J J J ?_ | refine aj af 1 J J J J J J J J J J J J ?_)
  have hst : aX v.c o.d = (v.c, ⟨0, 0, [], []⟩) := by unfold aX; rw [if_neg (show ¬ o.d.kd = 0 from h0), if_neg (show ¬ o.d.kd = 1 from h1), if_neg (show ¬ o.d.kd = 2 from h2), if_neg (show ¬ o.d.kd = 3 from h3), if_neg (show ¬ o.d.kd = 4 from h4), if_neg (show ¬ o.d.kd = 5 from h5), if_neg (show ¬ o.d.kd = 6 from h6)]
  (first | refine aB af (fun t => cond (Nat.beq t 4) 1 0) J J ⟨J, J, trivial⟩ rfl fun w1 hm => by rw [hst]; exact ⟨⟨v, [], none, 0, none, 0⟩, A, fun _ h => .inl h, ⟨rfl, rfl⟩, rfl, StOk.cli (hC.below hm.below), hm.below⟩)
end Go.Proofs.YtmdkfbmpenohiaaGreatDoor.Y
