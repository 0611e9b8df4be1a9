/- The step of law 53: a call of the package, and what it hands out. -/
import Derived.Test.YtmdkfbmpenohiaaDoorBunI
import Derived.Test.YtmdkfbmpenohiaaDoorRegV
import Derived.Test.YtmdkfbmpenohiaaDoorBunF
namespace Go.Proofs.YtmdkfbmpenohiaaDoor.Y
open Go.RowKit
/-- a call of the package in memory. -/
structure OV where
  kd : Int
  id : Int
  n : Int
  now : Int
  q : QV
  msg : ByteArray
  cd : Int
  tx : ByteArray
  safe : Bool
def OC (o : OV) : List Value := [.int .i64 o.kd, .int .i64 o.id, .int .i64 o.n, .int .i64 o.now, .int .i64 o.q.q.id, .string o.q.q.sv, .string o.q.q.mt, .int .i64 o.q.q.late, .slice o.q.m o.q.q.ms.length o.q.mc, .int .i64 o.q.q.sh, .slice o.q.s o.q.q.mg.length o.q.sc, .int .i64 o.q.q.att, .string o.q.q.bk, .int .i64 o.q.q.st, .int .i64 o.q.q.nx, .slice o.q.a o.q.q.an.length o.q.ac, .bool o.q.q.dn, .int .i64 o.q.q.cd, .string o.q.q.tx, .string o.msg, .int .i64 o.cd, .string o.tx, .bool o.safe]
def OV.d (o : OV) : OpD := ⟨o.kd, o.id, o.n, o.now, o.q.q, o.msg, o.cd, o.tx, o.safe⟩
/-- what a step hands out, in memory. -/
structure SV where
  c : CV
  l : List QV
  la : Option Addr
  lc : Nat
  ia : Option Addr
  ic : Nat
def RC (s : SV) (r : SRet) : List Value := [.int .i64 r.e, .int .i64 r.id, .slice s.la s.l.length s.lc, .slice s.ia r.ids.length s.ic]
structure StOk (F : Nat → Prop) (w : World) (s : SV) (ids : List Int) : Prop where
  cl : COk F w s.c
  qs : Rws F w 15 QC s.la s.l
  ok : ∀ q ∈ s.l, QOk F w q
  is : Rws F w 1 iC s.ia ids
theorem StOk.agree {F : Nat → Prop} {w1 w2 : World} {s : SV} {ids : List Int} (h : StOk F w1 s ids) (hk : ∀ b, F b → w2.heap[b]? = w1.heap[b]?) : StOk F w2 s ids := ⟨h.cl.agree hk, h.qs.agree hk, fun q hq => (h.ok q hq).agree hk, h.is.agree hk⟩
theorem StOk.lt {F : Nat → Prop} {w : World} {s : SV} {ids : List Int} (h : StOk F w s ids) : StOk (fun b => F b ∧ b < w.heap.size) w s ids := ⟨h.cl.lt, h.qs.lt, fun q hq => (h.ok q hq).lt, h.is.lt⟩
theorem StOk.mono {F F' : Nat → Prop} {w : World} {s : SV} {ids : List Int} (h : StOk F w s ids) (hF : ∀ b, F b → F' b) : StOk F' w s ids := ⟨h.cl.mono hF, h.qs.mono hF, fun q hq => (h.ok q hq).mono hF, h.is.mono hF⟩
theorem rws_nil {α : Type} {A : Nat → Prop} {w : World} {sz : Nat} {f : α → List Value} {x : Option Addr} : Rws A w sz f x [] := fun h => absurd h (Nat.lt_irrefl _)
theorem StOk.cli {F : Nat → Prop} {w : World} {v : CV} (h : COk F w v) : StOk F w ⟨v, [], none, 0, none, 0⟩ [] := ⟨h, rws_nil, fun _ hq => (by cases hq), rws_nil⟩
theorem old_apart {w0 w : World} {M : List Ent} (h : Mem w0 w M) {b : Nat} (hb : b < w0.heap.size) {f : Ent} (hf : f ∈ M) : ¬ f.mut b := fun hm => by
  have := ((MemL.mem h.2 f hf).mut_lt hm).1
  omega
/-- what a call hands out, that rests on old memory and on what it made, as a fact. -/
theorem mem_out_st {A : Nat → Prop} {w w1 w2 : World} {M : List Ent} (hm : Mem w w1 M) (s : SV) (ids : List Int) (h : StOk (fun b => (A b ∧ b < w.heap.size) ∨ w1.heap.size ≤ b) w2 s ids) (hb : Below w1.heap.size w1 w2) : ∃ F : Nat → Prop, (∀ b, F b → A b ∨ w.heap.size ≤ b) ∧ Mem w w2 (.rep F (fun w => StOk F w s ids) :: M) :=
  ⟨_, fun b hb => by
    rcases hb.1 with h1 | h1
    · exact .inl h1.1
    · have := hm.1.size
      exact .inr (by omega), Mem.out hm (A := fun b => A b ∧ b < w.heap.size) (fun b hb f hf => old_apart hm hb.2 hf) hb (fun F w => StOk F w s ids) h.lt (fun F w3 w4 hk h => h.agree hk)⟩
section
variable {P : Program} {l0 rest : List Oper} {Q : Exit → Act → World → Prop} {n : Nat} {w0 : World} {S : Sts} {M : List Ent} {o : Oper} {d : Nat}
theorem sx_callP {σ : Type} {f : FuncId} {args : List Value} (Φ : σ → (Nat → Prop) → Prop) (V : σ → Value) (p : σ → (Nat → Prop) → World → Prop) (hg : o.guard = none) (ho : CallOp P S [] o f args)
    (hc : ∀ w, Mem w0 w M → Calls P f ⟨args⟩ w fun e w' => ∃ s, ∃ F : Nat → Prop, Φ s F ∧ e = .returned (V s) ∧ Mem w0 w' (.rep F (p s F) :: M))
    (hd : o.dst = some d) (hn : Nat.blt d n = true) (h : ∀ s (F : Nat → Prop), Φ s F → SL P l0 Q rest n w0 ((d, [], V s) :: S) (.rep F (p s F) :: M)) : SL P l0 Q (o :: rest) n w0 S M :=
  sx_callE (σ := σ × (Nat → Prop)) (fun s => Φ s.1 s.2) (fun s => V s.1) (fun s => .rep s.2 (p s.1 s.2) :: M) hg ho (fun w hM => (hc w hM).mono fun _ _ ⟨s, F, h1, h2, h3⟩ => ⟨(s, F), h1, h2, h3⟩) hd hn (fun s hs => h s.1 s.2 hs)
end
set_option maxRecDepth 100000 in
set_option maxHeartbeats 32000000 in
theorem step_any {A : Nat → Prop} (v : CV) (o : OV) (w : World) (hC : COk A w v) (hQ : QOk A w o.q) (hg : MLen w) (hV : VC v.c) (hzq : v.qv.length ≤ 703687441775) (hz : ∀ u ∈ v.qv, SzQ u.q) (han : ∀ q ∈ v.c.qs, q.an.length < 8796093022208) (hsz : SzQ o.q.q) (hhd : HdSz o.q.q.hd) (htx : o.tx.size ≤ 4611686018427387900) : Calls Tryd.prog 15 #[.agg #[.slice v.b v.c.bs.length v.bc, .int .i64 v.c.ra, .int .i64 v.c.rb, .int .i64 v.c.rc, .int .i64 v.c.rk, .int .i64 v.c.tk, .int .i64 v.c.mo, .int .i64 v.c.gn, .slice v.x v.qv.length v.xc, .int .i64 v.c.nx], .agg #[.int .i64 o.kd, .int .i64 o.id, .int .i64 o.n, .int .i64 o.now, .int .i64 o.q.q.id, .string o.q.q.sv, .string o.q.q.mt, .int .i64 o.q.q.late, .slice o.q.m o.q.q.ms.length o.q.mc, .int .i64 o.q.q.sh, .slice o.q.s o.q.q.mg.length o.q.sc, .int .i64 o.q.q.att, .string o.q.q.bk, .int .i64 o.q.q.st, .int .i64 o.q.q.nx, .slice o.q.a o.q.q.an.length o.q.ac, .bool o.q.q.dn, .int .i64 o.q.q.cd, .string o.q.q.tx, .string o.msg, .int .i64 o.cd, .string o.tx, .bool o.safe]] w fun e w' => ∃ s : SV, ∃ F : Nat → Prop, (∀ b, F b → A b ∨ w.heap.size ≤ b) ∧ (s.c.c = (stepL v.c o.d).1 ∧ s.l.map (·.q) = (stepL v.c o.d).2.qs) ∧ e = .returned (.tuple #[.agg ⟨CC s.c⟩, .agg ⟨RC s (stepL v.c o.d).2⟩]) ∧ StOk F w' s (stepL v.c o.d).2.ids ∧ Below w.heap.size w w' := by
  have hcb := chkB_ok hV.cb
  have hzb : v.c.bs.length ≤ 2513169434916 := by omega
  have hbo : ∀ b ∈ v.c.bs, bOk b = true := fun b hb => (hcb.2 b hb).1
  have hra := rchk_rng hV.re
  have hatt : ∀ q ∈ v.c.qs, 0 ≤ q.att ∧ q.att ≤ 1000000000 := fun q hq => by
    have := (hV.qs q hq).att
    omega
  have hC' := hC.lt
  have hQ' := hQ.lt
  refine sx_enter Tryd.func15 rfl Tryd.ntmps15 rfl rfl ?_
  refine sc_seq ?_
  refine sc_region ?_
  (refine sx_box rfl rfl rfl rfl rfl rfl ?_; intro g2)
  (refine sx_box rfl rfl rfl rfl rfl rfl ?_; intro g3)
  (refine sx_alloc tok rfl rfl rfl rfl rfl rfl ?_; intro g4)
  (refine sx_alloc tok rfl rfl rfl rfl rfl rfl ?_; intro g5)
  repeat' (first | refine sc_seq ?_ | refine sc_region ?_ | refine sq_then ?_ | refine sc_block ?_ | refine sx_nil ?_ | ((refine' sx_v rfl ?_ rfl rfl ?_); rotate_left; first | exact vo_un tok rfl rfl rfl rfl | exact vo_bin tok rfl rfl rfl rfl rfl rfl | exact vo_load tok 2 rfl rfl rfl rfl rfl))
  by_cases h0 : o.kd = 0
  · have hst : stepL v.c o.d = ((callL v.c o.now o.q.q).1, ⟨(callL v.c o.now o.q.q).2.2, (callL v.c o.now o.q.q).2.1, [], []⟩) := by unfold stepL; rw [if_pos (show o.d.kd = 0 from h0)]; rfl
    refine sc_true rfl (by simpa using h0) ?_
    repeat' (first | refine sc_seq ?_ | refine sc_region ?_ | ((refine' sx_v rfl ?_ rfl rfl ?_); rotate_left; first | exact vo_un tok rfl rfl rfl rfl | exact vo_load tok 2 rfl rfl rfl rfl rfl | exact vo_load tok 3 rfl rfl rfl rfl rfl))
    refine sx_callP (σ := SV) (fun s F => (∀ b, F b → A b ∨ w.heap.size ≤ b) ∧ s.c.c = (callL v.c o.now o.q.q).1 ∧ s.l = [] ∧ s.la = none ∧ s.lc = 0 ∧ s.ia = none ∧ s.ic = 0) (fun s => .tuple ⟨[.agg ⟨CC s.c⟩, .int .i64 (callL v.c o.now o.q.q).2.1, .int .i64 (callL v.c o.now o.q.q).2.2]⟩) (fun s F w => StOk F w s []) rfl (callOp rfl rfl rfl rfl ⟨rfl, rfl, rfl, trivial⟩ rfl (by kernel_rfl)) (fun w1 hm => (call_any (A := fun b => A b ∧ b < w.heap.size) v o.now o.q w1 (hC'.below hm.below) hzq hzb hz (hQ'.below hm.below) hsz (hg.below hm.below) hhd (by have := hV.nx; omega)).mono fun e w2 ⟨v', h1, h2, h3⟩ => by obtain ⟨F, hF, hM⟩ := mem_out_st hm ⟨v', [], none, 0, none, 0⟩ [] (StOk.cli h3.1) h3.2; exact ⟨_, F, ⟨hF, h1, rfl, rfl, rfl, rfl, rfl⟩, h2, hM⟩) rfl rfl ?_
    rintro ⟨⟨c1, b1, bc1, x1, xc1, qv1⟩, l1, la1, lc1, ia1, ic1⟩ F ⟨hF, hp⟩
    obtain ⟨hc1, rfl, rfl, rfl, rfl, rfl⟩ := hp
    repeat' (first | refine sc_seq ?_ | refine sc_region ?_ | refine sq_then ?_ | refine sc_ret ?_ | refine sq_pass_ret ?_ | refine sq_blk_ret ?_ | refine sx_nil ?_ | (refine sx_alloc tok rfl rfl rfl rfl rfl rfl ?_; intro g7) | ((refine' sx_v rfl ?_ rfl rfl ?_); rotate_left; first | exact vo_un tok rfl rfl rfl rfl | exact vo_load tok 0 rfl rfl rfl rfl rfl | exact vo_build tok rfl rfl ⟨rfl, rfl, trivial⟩ rfl rfl rfl) | refine sx_store tok 0 rfl rfl rfl rfl rfl rfl rfl rfl rfl rfl rfl rfl ?_ | refine sx_store tok 2 rfl rfl rfl rfl rfl rfl rfl rfl rfl rfl rfl rfl ?_ | refine sx_store tok 3 rfl rfl rfl rfl rfl rfl rfl rfl rfl rfl rfl rfl ?_)
    (first | refine sq_ret tok (fun t => cond (Nat.beq t 4) 3 2) rfl rfl ⟨rfl, rfl, trivial⟩ rfl fun w1 hm => by rw [hst]; exact ⟨⟨⟨c1, b1, bc1, x1, xc1, qv1⟩, [], none, 0, none, 0⟩, F, hF, ⟨hc1, rfl⟩, rfl, (hm.2.get (i := 1) rfl).2.1, hm.below⟩)
  refine sc_false rfl (by simpa using h0) ?_
  repeat' (first | refine sc_seq ?_ | refine sc_region ?_ | refine sq_then ?_ | refine sx_nil ?_ | ((refine' sx_v rfl ?_ rfl rfl ?_); rotate_left; first | exact vo_un tok rfl rfl rfl rfl | exact vo_bin tok rfl rfl rfl rfl rfl rfl))
  by_cases h1 : o.kd = 1
  · have hst : stepL v.c o.d = ((startL v.c o.now).1, ⟨0, 0, (startL v.c o.now).2, []⟩) := by unfold stepL; rw [if_neg (show ¬ o.d.kd = 0 from h0), if_pos (show o.d.kd = 1 from h1)]; rfl
    refine sc_true rfl (by simpa using h1) ?_
    repeat' (first | refine sc_seq ?_ | refine sc_region ?_ | ((refine' sx_v rfl ?_ rfl rfl ?_); rotate_left; first | exact vo_un tok rfl rfl rfl rfl | exact vo_load tok 2 rfl rfl rfl rfl rfl | exact vo_load tok 3 rfl rfl rfl rfl rfl))
    refine sx_callP (σ := SV) (fun s F => (∀ b, F b → A b ∨ w.heap.size ≤ b) ∧ s.c.c = (startL v.c o.now).1 ∧ s.l.map (·.q) = (startL v.c o.now).2 ∧ s.ia = none ∧ s.ic = 0) (fun s => .tuple ⟨[.agg ⟨CC s.c⟩, .slice s.la s.l.length s.lc]⟩) (fun s F w => StOk F w s []) rfl (callOp rfl rfl rfl rfl ⟨rfl, rfl, trivial⟩ rfl (by kernel_rfl)) (fun w1 hm => (start_any (A := fun b => A b ∧ b < w.heap.size) v o.now w1 (hC'.below hm.below) (by omega) hzb hz hbo hatt).mono fun e w2 ⟨⟨c1, l1, p1⟩, ⟨h1, h2⟩, h3, h4, h5, h6⟩ => by obtain ⟨F, hF, hM⟩ := mem_out_st hm ⟨c1, l1, p1.1, p1.2, none, 0⟩ [] ⟨h4.1, h5.mono fun _ => .inr, fun q hq => (h6 q hq).mono fun _ => .inr, rws_nil⟩ h4.2; exact ⟨_, F, ⟨hF, h1, h2, rfl, rfl⟩, h3, hM⟩) rfl rfl ?_
    rintro ⟨⟨c1, b1, bc1, x1, xc1, qv1⟩, l1, la1, lc1, ia1, ic1⟩ F ⟨hF, hp⟩
    obtain ⟨hc1, hl1, rfl, rfl⟩ := hp
    repeat' (first | refine sc_seq ?_ | refine sc_region ?_ | refine sq_then ?_ | refine sc_ret ?_ | refine sq_pass_ret ?_ | refine sq_blk_ret ?_ | refine sx_nil ?_ | (refine sx_alloc tok rfl rfl rfl rfl rfl rfl ?_; intro g7) | ((refine' sx_v rfl ?_ rfl rfl ?_); rotate_left; first | exact vo_un tok rfl rfl rfl rfl | exact vo_load tok 0 rfl rfl rfl rfl rfl | exact vo_build tok rfl rfl ⟨rfl, trivial⟩ rfl rfl rfl) | refine sx_store tok 0 rfl rfl rfl rfl rfl rfl rfl rfl rfl rfl rfl rfl ?_ | refine sx_store tok 2 rfl rfl rfl rfl rfl rfl rfl rfl rfl rfl rfl rfl ?_ | refine sx_store tok 3 rfl rfl rfl rfl rfl rfl rfl rfl rfl rfl rfl rfl ?_)
    (first | refine sq_ret tok (fun t => cond (Nat.beq t 4) 3 2) rfl rfl ⟨rfl, rfl, trivial⟩ rfl fun w1 hm => by rw [hst]; exact ⟨⟨⟨c1, b1, bc1, x1, xc1, qv1⟩, l1, la1, lc1, none, 0⟩, F, hF, ⟨hc1, hl1⟩, rfl, (hm.2.get (i := 1) rfl).2.1, hm.below⟩)
  refine sc_false rfl (by simpa using h1) ?_
  repeat' (first | refine sc_seq ?_ | refine sc_region ?_ | refine sq_then ?_ | refine sx_nil ?_ | ((refine' sx_v rfl ?_ rfl rfl ?_); rotate_left; first | exact vo_un tok rfl rfl rfl rfl | exact vo_bin tok rfl rfl rfl rfl rfl rfl))
  by_cases h2 : o.kd = 2
  · have hst : stepL v.c o.d = ((sentL v.c o.id o.n).1, ⟨(sentL v.c o.id o.n).2, 0, [], []⟩) := by unfold stepL; rw [if_neg (show ¬ o.d.kd = 0 from h0), if_neg (show ¬ o.d.kd = 1 from h1), if_pos (show o.d.kd = 2 from h2)]; rfl
    refine sc_true rfl (by simpa using h2) ?_
    repeat' (first | refine sc_region ?_ | ((refine' sx_v rfl ?_ rfl rfl ?_); rotate_left; first | exact vo_un tok rfl rfl rfl rfl | exact vo_load tok 2 rfl rfl rfl rfl rfl | exact vo_load tok 3 rfl rfl rfl rfl rfl))
    refine sx_callP (σ := SV) (fun s F => (∀ b, F b → A b ∨ w.heap.size ≤ b) ∧ s.c.c = (sentL v.c o.id o.n).1 ∧ s.l = [] ∧ s.la = none ∧ s.lc = 0 ∧ s.ia = none ∧ s.ic = 0) (fun s => .tuple ⟨[.agg ⟨CC s.c⟩, .int .i64 (sentL v.c o.id o.n).2]⟩) (fun s F w => StOk F w s []) rfl (callOp rfl rfl rfl rfl ⟨rfl, rfl, rfl, trivial⟩ rfl (by kernel_rfl)) (fun w1 hm => (sent_any (A := fun b => A b ∧ b < w.heap.size) v o.id o.n w1 (hC'.below hm.below) (by omega) hzb hz).mono fun e w2 ⟨v', h1, h2, h3⟩ => by obtain ⟨F, hF, hM⟩ := mem_out_st hm ⟨v', [], none, 0, none, 0⟩ [] (StOk.cli h3.1) h3.2; exact ⟨_, F, ⟨hF, h1, rfl, rfl, rfl, rfl, rfl⟩, h2, hM⟩) rfl rfl ?_
    rintro ⟨⟨c1, b1, bc1, x1, xc1, qv1⟩, l1, la1, lc1, ia1, ic1⟩ F ⟨hF, hp⟩
    obtain ⟨hc1, rfl, rfl, rfl, rfl, rfl⟩ := hp
    repeat' (first | refine sc_seq ?_ | refine sc_region ?_ | refine sq_then ?_ | refine sc_ret ?_ | refine sq_blk_normal ?_ | refine sx_nil ?_ | ((refine' sx_v rfl ?_ rfl rfl ?_); rotate_left; first | exact vo_un tok rfl rfl rfl rfl | exact vo_load tok 4 rfl rfl rfl rfl rfl | exact vo_build tok rfl rfl ⟨rfl, trivial⟩ rfl rfl rfl) | refine sx_store tok 1 rfl rfl rfl rfl rfl rfl rfl rfl rfl rfl rfl rfl ?_ | refine sx_store tok 2 rfl rfl rfl rfl rfl rfl rfl rfl rfl rfl rfl rfl ?_ | refine sx_store tok 4 rfl rfl rfl rfl rfl rfl rfl rfl rfl rfl rfl rfl ?_)
    (first | refine sq_ret tok (fun t => cond (Nat.beq t 4) 2 1) rfl rfl ⟨rfl, rfl, trivial⟩ rfl fun w1 hm => by rw [hst]; exact ⟨⟨⟨c1, b1, bc1, x1, xc1, qv1⟩, [], none, 0, none, 0⟩, F, hF, ⟨hc1, rfl⟩, rfl, (hm.2.get (i := 0) rfl).2.1, hm.below⟩)
  refine sc_false rfl (by simpa using h2) ?_
  repeat' (first | refine sc_seq ?_ | refine sc_region ?_ | refine sq_then ?_ | refine sx_nil ?_ | ((refine' sx_v rfl ?_ rfl rfl ?_); rotate_left; first | exact vo_un tok rfl rfl rfl rfl | exact vo_bin tok rfl rfl rfl rfl rfl rfl))
  by_cases h3 : o.kd = 3
  · have hst : stepL v.c o.d = ((recvL v.c o.id o.msg).1, ⟨(recvL v.c o.id o.msg).2, 0, [], []⟩) := by unfold stepL; rw [if_neg (show ¬ o.d.kd = 0 from h0), if_neg (show ¬ o.d.kd = 1 from h1), if_neg (show ¬ o.d.kd = 2 from h2), if_pos (show o.d.kd = 3 from h3)]; rfl
    refine sc_true rfl (by simpa using h3) ?_
    repeat' (first | refine sc_region ?_ | ((refine' sx_v rfl ?_ rfl rfl ?_); rotate_left; first | exact vo_un tok rfl rfl rfl rfl | exact vo_load tok 2 rfl rfl rfl rfl rfl | exact vo_load tok 3 rfl rfl rfl rfl rfl))
    refine sx_callP (σ := SV) (fun s F => (∀ b, F b → A b ∨ w.heap.size ≤ b) ∧ s.c.c = (recvL v.c o.id o.msg).1 ∧ s.l = [] ∧ s.la = none ∧ s.lc = 0 ∧ s.ia = none ∧ s.ic = 0) (fun s => .tuple ⟨[.agg ⟨CC s.c⟩, .int .i64 (recvL v.c o.id o.msg).2]⟩) (fun s F w => StOk F w s []) rfl (callOp rfl rfl rfl rfl ⟨rfl, rfl, rfl, trivial⟩ rfl (by kernel_rfl)) (fun w1 hm => (recv_any (A := fun b => A b ∧ b < w.heap.size) v o.id o.msg w1 (hC'.below hm.below) (by omega) hzb hz han).mono fun e w2 ⟨v', h1, h2, h3⟩ => by obtain ⟨F, hF, hM⟩ := mem_out_st hm ⟨v', [], none, 0, none, 0⟩ [] (StOk.cli h3.1) h3.2; exact ⟨_, F, ⟨hF, h1, rfl, rfl, rfl, rfl, rfl⟩, h2, hM⟩) rfl rfl ?_
    rintro ⟨⟨c1, b1, bc1, x1, xc1, qv1⟩, l1, la1, lc1, ia1, ic1⟩ F ⟨hF, hp⟩
    obtain ⟨hc1, rfl, rfl, rfl, rfl, rfl⟩ := hp
    repeat' (first | refine sc_seq ?_ | refine sc_region ?_ | refine sq_then ?_ | refine sc_ret ?_ | refine sq_blk_normal ?_ | refine sx_nil ?_ | ((refine' sx_v rfl ?_ rfl rfl ?_); rotate_left; first | exact vo_un tok rfl rfl rfl rfl | exact vo_load tok 4 rfl rfl rfl rfl rfl | exact vo_build tok rfl rfl ⟨rfl, trivial⟩ rfl rfl rfl) | refine sx_store tok 1 rfl rfl rfl rfl rfl rfl rfl rfl rfl rfl rfl rfl ?_ | refine sx_store tok 2 rfl rfl rfl rfl rfl rfl rfl rfl rfl rfl rfl rfl ?_ | refine sx_store tok 4 rfl rfl rfl rfl rfl rfl rfl rfl rfl rfl rfl rfl ?_)
    (first | refine sq_ret tok (fun t => cond (Nat.beq t 4) 2 1) rfl rfl ⟨rfl, rfl, trivial⟩ rfl fun w1 hm => by rw [hst]; exact ⟨⟨⟨c1, b1, bc1, x1, xc1, qv1⟩, [], none, 0, none, 0⟩, F, hF, ⟨hc1, rfl⟩, rfl, (hm.2.get (i := 0) rfl).2.1, hm.below⟩)
  refine sc_false rfl (by simpa using h3) ?_
  repeat' (first | refine sc_seq ?_ | refine sc_region ?_ | refine sq_then ?_ | refine sx_nil ?_ | ((refine' sx_v rfl ?_ rfl rfl ?_); rotate_left; first | exact vo_un tok rfl rfl rfl rfl | exact vo_bin tok rfl rfl rfl rfl rfl rfl))
  by_cases h4 : o.kd = 4
  · have hst : stepL v.c o.d = ((endC v.c o.now o.id o.cd o.tx o.safe).1, ⟨(endC v.c o.now o.id o.cd o.tx o.safe).2, 0, [], []⟩) := by unfold stepL; rw [if_neg (show ¬ o.d.kd = 0 from h0), if_neg (show ¬ o.d.kd = 1 from h1), if_neg (show ¬ o.d.kd = 2 from h2), if_neg (show ¬ o.d.kd = 3 from h3), if_pos (show o.d.kd = 4 from h4)]; rfl
    refine sc_true rfl (by simpa using h4) ?_
    repeat' (first | refine sc_region ?_ | ((refine' sx_v rfl ?_ rfl rfl ?_); rotate_left; first | exact vo_un tok rfl rfl rfl rfl | exact vo_load tok 2 rfl rfl rfl rfl rfl | exact vo_load tok 3 rfl rfl rfl rfl rfl))
    refine sx_callP (σ := SV) (fun s F => (∀ b, F b → A b ∨ w.heap.size ≤ b) ∧ s.c.c = (endC v.c o.now o.id o.cd o.tx o.safe).1 ∧ s.l = [] ∧ s.la = none ∧ s.lc = 0 ∧ s.ia = none ∧ s.ic = 0) (fun s => .tuple ⟨[.agg ⟨CC s.c⟩, .int .i64 (endC v.c o.now o.id o.cd o.tx o.safe).2]⟩) (fun s F w => StOk F w s []) rfl (callOp rfl rfl rfl rfl ⟨rfl, rfl, rfl, rfl, rfl, trivial⟩ rfl (by kernel_rfl)) (fun w1 hm => (endC_any2 (A := fun b => A b ∧ b < w.heap.size) v o.now o.id o.cd o.tx o.safe w1 (hC'.below hm.below) (by omega) hzb hz hbo htx (fun q hq => by have := hatt q hq; omega)).mono fun e w2 ⟨v', h1, h2, h3⟩ => by obtain ⟨F, hF, hM⟩ := mem_out_st hm ⟨v', [], none, 0, none, 0⟩ [] (StOk.cli h3.1) h3.2; exact ⟨_, F, ⟨hF, h1, rfl, rfl, rfl, rfl, rfl⟩, h2, hM⟩) rfl rfl ?_
    rintro ⟨⟨c1, b1, bc1, x1, xc1, qv1⟩, l1, la1, lc1, ia1, ic1⟩ F ⟨hF, hp⟩
    obtain ⟨hc1, rfl, rfl, rfl, rfl, rfl⟩ := hp
    repeat' (first | refine sc_seq ?_ | refine sc_region ?_ | refine sq_then ?_ | refine sc_ret ?_ | refine sq_blk_normal ?_ | refine sx_nil ?_ | ((refine' sx_v rfl ?_ rfl rfl ?_); rotate_left; first | exact vo_un tok rfl rfl rfl rfl | exact vo_load tok 4 rfl rfl rfl rfl rfl | exact vo_build tok rfl rfl ⟨rfl, trivial⟩ rfl rfl rfl) | refine sx_store tok 1 rfl rfl rfl rfl rfl rfl rfl rfl rfl rfl rfl rfl ?_ | refine sx_store tok 2 rfl rfl rfl rfl rfl rfl rfl rfl rfl rfl rfl rfl ?_ | refine sx_store tok 4 rfl rfl rfl rfl rfl rfl rfl rfl rfl rfl rfl rfl ?_)
    (first | refine sq_ret tok (fun t => cond (Nat.beq t 4) 2 1) rfl rfl ⟨rfl, rfl, trivial⟩ rfl fun w1 hm => by rw [hst]; exact ⟨⟨⟨c1, b1, bc1, x1, xc1, qv1⟩, [], none, 0, none, 0⟩, F, hF, ⟨hc1, rfl⟩, rfl, (hm.2.get (i := 0) rfl).2.1, hm.below⟩)
  refine sc_false rfl (by simpa using h4) ?_
  repeat' (first | refine sc_seq ?_ | refine sc_region ?_ | refine sq_then ?_ | refine sx_nil ?_ | ((refine' sx_v rfl ?_ rfl rfl ?_); rotate_left; first | exact vo_un tok rfl rfl rfl rfl | exact vo_bin tok rfl rfl rfl rfl rfl rfl))
  by_cases h5 : o.kd = 5
  · have hst : stepL v.c o.d = ((cancL v.c o.now o.id).1, ⟨(cancL v.c o.now o.id).2, 0, [], []⟩) := by unfold stepL; rw [if_neg (show ¬ o.d.kd = 0 from h0), if_neg (show ¬ o.d.kd = 1 from h1), if_neg (show ¬ o.d.kd = 2 from h2), if_neg (show ¬ o.d.kd = 3 from h3), if_neg (show ¬ o.d.kd = 4 from h4), if_pos (show o.d.kd = 5 from h5)]; rfl
    refine sc_true rfl (by simpa using h5) ?_
    repeat' (first | refine sc_region ?_ | ((refine' sx_v rfl ?_ rfl rfl ?_); rotate_left; first | exact vo_un tok rfl rfl rfl rfl | exact vo_load tok 2 rfl rfl rfl rfl rfl | exact vo_load tok 3 rfl rfl rfl rfl rfl))
    refine sx_callP (σ := SV) (fun s F => (∀ b, F b → A b ∨ w.heap.size ≤ b) ∧ s.c.c = (cancL v.c o.now o.id).1 ∧ s.l = [] ∧ s.la = none ∧ s.lc = 0 ∧ s.ia = none ∧ s.ic = 0) (fun s => .tuple ⟨[.agg ⟨CC s.c⟩, .int .i64 (cancL v.c o.now o.id).2]⟩) (fun s F w => StOk F w s []) rfl (callOp rfl rfl rfl rfl ⟨rfl, rfl, rfl, trivial⟩ rfl (by kernel_rfl)) (fun w1 hm => (canc_any (A := fun b => A b ∧ b < w.heap.size) v o.now o.id w1 (hC'.below hm.below) (by omega) hzb hz hbo).mono fun e w2 ⟨v', h1, h2, h3⟩ => by obtain ⟨F, hF, hM⟩ := mem_out_st hm ⟨v', [], none, 0, none, 0⟩ [] (StOk.cli h3.1) h3.2; exact ⟨_, F, ⟨hF, h1, rfl, rfl, rfl, rfl, rfl⟩, h2, hM⟩) rfl rfl ?_
    rintro ⟨⟨c1, b1, bc1, x1, xc1, qv1⟩, l1, la1, lc1, ia1, ic1⟩ F ⟨hF, hp⟩
    obtain ⟨hc1, rfl, rfl, rfl, rfl, rfl⟩ := hp
    repeat' (first | refine sc_seq ?_ | refine sc_region ?_ | refine sq_then ?_ | refine sc_ret ?_ | refine sq_blk_normal ?_ | refine sx_nil ?_ | ((refine' sx_v rfl ?_ rfl rfl ?_); rotate_left; first | exact vo_un tok rfl rfl rfl rfl | exact vo_load tok 4 rfl rfl rfl rfl rfl | exact vo_build tok rfl rfl ⟨rfl, trivial⟩ rfl rfl rfl) | refine sx_store tok 1 rfl rfl rfl rfl rfl rfl rfl rfl rfl rfl rfl rfl ?_ | refine sx_store tok 2 rfl rfl rfl rfl rfl rfl rfl rfl rfl rfl rfl rfl ?_ | refine sx_store tok 4 rfl rfl rfl rfl rfl rfl rfl rfl rfl rfl rfl rfl ?_)
    (first | refine sq_ret tok (fun t => cond (Nat.beq t 4) 2 1) rfl rfl ⟨rfl, rfl, trivial⟩ rfl fun w1 hm => by rw [hst]; exact ⟨⟨⟨c1, b1, bc1, x1, xc1, qv1⟩, [], none, 0, none, 0⟩, F, hF, ⟨hc1, rfl⟩, rfl, (hm.2.get (i := 0) rfl).2.1, hm.below⟩)
  refine sc_false rfl (by simpa using h5) ?_
  repeat' (first | refine sc_seq ?_ | refine sc_region ?_ | refine sq_then ?_ | refine sx_nil ?_ | ((refine' sx_v rfl ?_ rfl rfl ?_); rotate_left; first | exact vo_un tok rfl rfl rfl rfl | exact vo_bin tok rfl rfl rfl rfl rfl rfl))
  by_cases h6 : o.kd = 6
  · have hst : stepL v.c o.d = ((expiL v.c o.now).1, ⟨0, 0, [], (expiL v.c o.now).2⟩) := by unfold stepL; rw [if_neg (show ¬ o.d.kd = 0 from h0), if_neg (show ¬ o.d.kd = 1 from h1), if_neg (show ¬ o.d.kd = 2 from h2), if_neg (show ¬ o.d.kd = 3 from h3), if_neg (show ¬ o.d.kd = 4 from h4), if_neg (show ¬ o.d.kd = 5 from h5), if_pos (show o.d.kd = 6 from h6)]; rfl
    refine sc_true rfl (by simpa using h6) ?_
    repeat' (first | refine sc_seq ?_ | refine sc_region ?_ | ((refine' sx_v rfl ?_ rfl rfl ?_); rotate_left; first | exact vo_un tok rfl rfl rfl rfl | exact vo_load tok 2 rfl rfl rfl rfl rfl | exact vo_load tok 3 rfl rfl rfl rfl rfl))
    refine sx_callP (σ := SV) (fun s F => (∀ b, F b → A b ∨ w.heap.size ≤ b) ∧ s.c.c = (expiL v.c o.now).1 ∧ s.l = [] ∧ s.la = none ∧ s.lc = 0) (fun s => .tuple ⟨[.agg ⟨CC s.c⟩, .slice s.ia (expiL v.c o.now).2.length s.ic]⟩) (fun s F w => StOk F w s (expiL v.c o.now).2) rfl (callOp rfl rfl rfl rfl ⟨rfl, rfl, trivial⟩ rfl (by kernel_rfl)) (fun w1 hm => (expi_any (A := fun b => A b ∧ b < w.heap.size) v o.now w1 (hC'.below hm.below) (by omega) hzb hz hbo).mono fun e w2 ⟨⟨c1, p1⟩, h1, h3, h4, h5⟩ => by obtain ⟨F, hF, hM⟩ := mem_out_st hm ⟨c1, [], none, 0, p1.1, p1.2⟩ (expiL v.c o.now).2 ⟨h4.1, rws_nil, fun _ hq => (by cases hq), h5.mono fun _ => .inr⟩ h4.2; exact ⟨_, F, ⟨hF, h1, rfl, rfl, rfl⟩, h3, hM⟩) rfl rfl ?_
    rintro ⟨⟨c1, b1, bc1, x1, xc1, qv1⟩, l1, la1, lc1, ia1, ic1⟩ F ⟨hF, hp⟩
    obtain ⟨hc1, rfl, rfl, rfl⟩ := hp
    repeat' (first | refine sc_seq ?_ | refine sc_region ?_ | refine sq_then ?_ | refine sc_ret ?_ | refine sq_pass_ret ?_ | refine sq_blk_ret ?_ | refine sx_nil ?_ | (refine sx_alloc tok rfl rfl rfl rfl rfl rfl ?_; intro g7) | ((refine' sx_v rfl ?_ rfl rfl ?_); rotate_left; first | exact vo_un tok rfl rfl rfl rfl | exact vo_load tok 0 rfl rfl rfl rfl rfl | exact vo_build tok rfl rfl ⟨rfl, trivial⟩ rfl rfl rfl) | refine sx_store tok 0 rfl rfl rfl rfl rfl rfl rfl rfl rfl rfl rfl rfl ?_ | refine sx_store tok 2 rfl rfl rfl rfl rfl rfl rfl rfl rfl rfl rfl rfl ?_ | refine sx_store tok 3 rfl rfl rfl rfl rfl rfl rfl rfl rfl rfl rfl rfl ?_)
    (first | refine sq_ret tok (fun t => cond (Nat.beq t 4) 3 2) rfl rfl ⟨rfl, rfl, trivial⟩ rfl fun w1 hm => by rw [hst]; exact ⟨⟨⟨c1, b1, bc1, x1, xc1, qv1⟩, [], none, 0, ia1, ic1⟩, F, hF, ⟨hc1, rfl⟩, rfl, (hm.2.get (i := 1) rfl).2.1, hm.below⟩)
  refine sc_false rfl (by simpa using h6) ?_
  repeat' (first | refine sc_seq ?_ | refine sc_region ?_ | refine sq_then ?_ | refine sc_ret ?_ | refine sc_skip ?_ | refine sq_blk_normal ?_ | refine sx_nil ?_ | ((refine' sx_v rfl ?_ rfl rfl ?_); rotate_left; first | exact vo_un tok rfl rfl rfl rfl | exact vo_load tok 3 rfl rfl rfl rfl rfl | exact vo_build tok rfl rfl ⟨rfl, trivial⟩ rfl rfl rfl) | refine sx_store tok 0 rfl rfl rfl rfl rfl rfl rfl rfl rfl rfl rfl rfl ?_ | refine sx_store tok 1 rfl rfl rfl rfl rfl rfl rfl rfl rfl rfl rfl rfl ?_)
  have hst : stepL v.c o.d = (v.c, ⟨0, 0, [], []⟩) := by unfold stepL; rw [if_neg (show ¬ o.d.kd = 0 from h0), if_neg (show ¬ o.d.kd = 1 from h1), if_neg (show ¬ o.d.kd = 2 from h2), if_neg (show ¬ o.d.kd = 3 from h3), if_neg (show ¬ o.d.kd = 4 from h4), if_neg (show ¬ o.d.kd = 5 from h5), if_neg (show ¬ o.d.kd = 6 from h6)]
  (first | refine sq_ret tok (fun t => cond (Nat.beq t 4) 1 0) rfl rfl ⟨rfl, rfl, trivial⟩ rfl fun w1 hm => by rw [hst]; exact ⟨⟨v, [], none, 0, none, 0⟩, A, fun _ h => .inl h, ⟨rfl, rfl⟩, rfl, StOk.cli (hC.below hm.below), hm.below⟩)
end Go.Proofs.YtmdkfbmpenohiaaDoor.Y
