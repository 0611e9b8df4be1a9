/- The law's step. -/
import Derived.Test.YthiocbcokfondaaGreatDoorBCn25
import Derived.Test.YthiocbcokfondaaGreatDoorBBunC26
import Derived.Test.YthiocbcokfondaaGreatDoorBBunC17
import Derived.Test.YthiocbcokfondaaGreatDoorBBunQ
namespace Go.Proofs.YthiocbcokfondaaGreatDoor.Y
open Go.RowKit
section
variable {P : Program} {T : eU} {l0 rest : List Oper} {Z : Act → World → Prop} {Q : Exit → Act → World → Prop} {n : Nat} {w0 : World} {S : bR} {M M' M2 : List Ent} {p : World → Prop} {L : Cd} {o : Oper} {d : Nat}
theorem dX (hT : TOK P T) (i : Nat) {t : TypeId} {td : TD} {x y : Operand} {g off : Nat} {B : TypeId} {v : Value} {cs cs' vs : List Value} (h1 : o.op = .store t x y) (hg : o.guard = none) (h2 : ev S x = some ([], .pointer (some ⟨g, off, none⟩))) (h3 : ev S y = some ([], v))
 (hm : eE M i = some (.cl g B cs)) (h4 : dO v = some vs) (h5 : lk t T = some td) (h6 : Nat.beq vs.length td.size = true) (h7 : fg vs = true) (h8 : iu cs off vs = some cs') (h9 : fb M i (.cl g B cs') = some M2) (hd : o.dst = none)
 (h : SQ Q .normal n w0 S M2) : SY P l0 (iB P l0.toArray o (Q .normal)) [] n w0 M' p S M := by
 refine ⟨fun a w hS hM => ?_⟩
 have hrun : (execOp a.eval o).run P w = .ok .skip (w.setRow g ⟨cs'⟩) := by
  unfold execOp
  simp only [h1, aK hS h2 rfl, aK hS h3 rfl, Sem.run_bind, eV hT (show Bk w g B ⟨cs⟩ from (hM.2.get hm).2) h4 h5 h6 h7 h8]
  rfl
 have hM2 := hM.setRow hm h9
 refine cZ (iD (by unfold Region.wanted; rw [hg]) fun K hK => ?_)
 unfold Oper.wp
 rw [hrun]
 simp only [Oper.upon]
 refine hK _ _ (h.run _ _ ?_ hM2)
 first | exact hS | (rw [hd]; exact hS)
end
def B7 (o : sj) (hx : Option Addr) (hc : Nat) : List Value := [.int .i64 o.kind, .int .i64 o.id, .int .i64 o.n, .string o.msg, .string o.h.svc, .string o.h.mth, .int .i64 o.h.late, .slice hx o.h.metas.length hc, .int .i64 o.f.kind, .int .i64 o.f.strm, .int .i64 o.f.num, .string o.f.data, .int .i64 o.tc, .string o.tt]
def CL (r : CD) (x : Option Addr × Nat) : List Value := [.int .i64 r.e, .int .i64 r.id, .string r.msg, .bool r.ok, .slice x.1 r.outs.length x.2]
structure OpOk (A : Nat → Prop) (w : World) (o : sj) (hx : Option Addr) : Prop where
 ms : o.msg.size ≤ 1048576
 hd : o.h.svc.size ≤ 1048576 ∧ o.h.mth.size ≤ 1048576 ∧ ∀ m ∈ o.h.metas, m.1.size ≤ 1048576 ∧ m.2.size ≤ 1048576
 hl : o.h.metas.length ≤ 1048576
 hR : Rws A w 2 mC hx o.h.metas
 fd : o.f.data.size ≤ 1048576
 tt : o.tt.size ≤ 1048576
theorem zE {h : ju} (hd : h.svc.size ≤ 1048576 ∧ h.mth.size ≤ 1048576 ∧ ∀ m ∈ h.metas, m.1.size ≤ 1048576 ∧ m.2.size ≤ 1048576) : f8 h :=
 ⟨by have := hd.1; omega, by have := hd.2.1; omega, fun m hm => by have := hd.2.2 m hm; exact ⟨by omega, by omega⟩⟩
theorem vT (m : ByteArray × ByteArray) (h : m.1.size ≤ 1048576 ∧ m.2.size ≤ 1048576) : (kY m).length ≤ 2097172 := by
 unfold kY aP
 have h1 := (cd m.1.size).2
 have h2 := (cd m.2.size).2
 have e1 : m.1.data.toList.length = m.1.size := by rw [Array.length_toList]; rfl
 have e2 : m.2.data.toList.length = m.2.size := by rw [Array.length_toList]; rfl
 simp only [List.length_append]
 omega
theorem od : ∀ l : List (ByteArray × ByteArray), (∀ m ∈ l, m.1.size ≤ 1048576 ∧ m.2.size ≤ 1048576) → (l.flatMap kY).length ≤ l.length * 2097172
 | [], _ => by simp
 | m :: l, h => by
  have h1 := od l fun x hx => h x (List.mem_cons_of_mem m hx)
  have h2 := vT m (h m (List.mem_cons_self ..))
  rw [List.flatMap_cons, List.length_append, List.length_cons, Nat.succ_mul]
  omega
theorem sq (h : ju) (hd : h.svc.size ≤ 1048576 ∧ h.mth.size ≤ 1048576 ∧ ∀ m ∈ h.metas, m.1.size ≤ 1048576 ∧ m.2.size ≤ 1048576) : (nl h).size < 4294967281 := by
 unfold nl kk
 show (List.toArray _).size < _
 rw [List.size_toArray]
 by_cases he : bk h = 0
 · rw [if_pos he]
   have hm : h.metas.length ≤ 16 := by
    unfold bk at he
    refine Decidable.byContradiction fun hn => ?_
    rw [if_pos (show 16 < h.metas.length by omega)] at he
    split at he
    · omega
    · split at he <;> omega
   show (dp h).length < _
   unfold dp aP
   have h1 := (cd h.svc.size).2
   have h2 := (cd h.mth.size).2
   have h3 := (cd h.late.toNat).2
   have h4 := (cd h.metas.length).2
   have e1 : h.svc.data.toList.length = h.svc.size := by rw [Array.length_toList]; rfl
   have e2 : h.mth.data.toList.length = h.mth.size := by rw [Array.length_toList]; rfl
   have h5 := od h.metas hd.2.2
   simp only [List.length_append]
   omega
 · rw [if_neg he]
   exact show (0 : Nat) < 4294967281 by decide
attribute [local irreducible] Calls
set_option maxRecDepth 100000 in
set_option maxHeartbeats 32000000 in
theorem tB {A : Nat → Prop} (v : NV) (h : ju) (hx : Option Addr) (hc : Nat) (sh : Int) (w : World) (hN : NOk A w v) (hz : rk v) (hgd : uc v) (hg : MLen w) (hact : md v.c.ks = dS v.c.ks) (hkl : v.kv.length ≤ 1000000000) (hH : Rws A w 2 mC hx h.metas) (hhz : f8 h) (hds : (nl h).size < 4294967281) (hml : h.metas.length ≤ 2000000) : Calls Tryz.prog 15 #[.agg #[.int .i64 v.c.sd, .int .i64 v.c.nx, .int .i64 v.c.la, .int .i64 v.c.aw, .int .i64 v.c.sz, .int .i64 v.c.sw.size, .int .i64 v.c.sw.left, .int .i64 v.c.sw.held, .int .i64 v.c.rw.size, .int .i64 v.c.rw.left, .int .i64 v.c.rw.held, .slice v.x v.kv.length v.xc, .slice v.o v.c.ou.length v.oc, .slice v.p v.c.pg.length v.pc, .bool v.c.cl], .agg #[.string h.svc, .string h.mth, .int .i64 h.late, .slice hx h.metas.length hc], .int .i64 sh] w fun e w' => ∃ v' : NV, v'.c = (bx v.c h sh).1 ∧ e = .returned (.tuple #[.agg ⟨NC v'⟩, .int .i64 (bx v.c h sh).2.1, .int .i64 (bx v.c h sh).2.2]) ∧ OutN A w w' v' := by
 refine aI Tryz.func15 rfl Tryz.ntmps15 J J ?_
 have hzk := hz.ks
 have hoe : lV v.c h sh = if v.c.sd ≠ 1 ∨ v.c.cl = true ∨ v.c.aw ≠ 0 then 20 else if 64 ≤ dS v.c.ks then 22 else if bk h ≠ 0 then bk h else if aQ (eA v.c h sh) ≠ 0 then aQ (eA v.c h sh) else (dv v.c.nx 1 sh v.c.sz).err := rfl
 repeat' (first | refine ai ?_ | refine aa ?_ | refine ab ?_ | refine ag ?_ | (refine aR J J J J J J ?_; intro g3) | (refine aD af J J J J J J ?_; intro g6) | ((refine' ap rfl ?_ J J ?_); rotate_left; first | exact ak af J J J J | exact aq af J J J J J J | exact bN J J J J J | exact ae af 2 J J J J J))
 by_cases h0 : v.c.sd ≠ 1 ∨ v.c.cl = true ∨ v.c.aw ≠ 0
 · have hol : bx v.c h sh = (v.c, 0, 20) := by unfold bx; rw [hoe, if_pos h0]; rfl
   refine aB rfl (by
    rcases h0 with h0 | h0 | h0
    · simp [h0]
    · simp [h0]
    · simp [h0]) ?_
   repeat' (first | refine ai ?_ | refine aa ?_ | refine ab ?_ | refine az ?_ | refine ar ?_ | refine ag ?_ | ((refine' ap rfl ?_ J J ?_); rotate_left; first | exact ak af J J J J | exact ae af 2 J J J J J) | refine aj af 0 J J J J J J J J J J J J ?_)
   (refine aA af (fun _ => 0) J J ⟨J, trivial⟩ rfl fun w1 hm => ⟨v, ?_, ?_, OutN.same hN hm.below⟩)
   · rw [hol]
   · rw [hol]; rfl
 rw [if_neg h0] at hoe
 refine am rfl (by
  have h1 : v.c.sd = 1 := by omega
  have h2 : v.c.cl = false := eq_false_of_ne_true fun h => h0 (.inr (.inl h))
  have h3 : v.c.aw = 0 := by omega
  rw [h1, h2, h3]; rfl) ?_
 repeat' (first | refine ai ?_ | refine aa ?_ | refine ab ?_ | refine ay ?_ | ((refine' ap rfl ?_ J J ?_); rotate_left; exact ae af 2 J J J J J))
 refine cy (σ := Nat × Array MapEntry × Nat) (fun s => s.2.1.size = md v.c.ks) (fun s => .map (some s.1)) (fun s => [.obj s.1 (.map s.2.1 s.2.2)]) rfl (av J J J J ⟨J, trivial⟩ rfl (by kernel_rfl)) (fun w1 hm => jM v w1 (hN.below hm.below) (by omega)) J J ?_
 rintro ⟨gm, es, ck⟩ hes
 dsimp only [List.cons_append, List.nil_append]
 dsimp only at hes
 rw [hact] at hes
 repeat' (first | refine ab ?_ | refine ag ?_ | ((refine' ap rfl ?_ J J ?_); rotate_left; first | exact lv 0 J J J J Tryz.underlying75 | exact aq af J J J J J J))
 by_cases h64 : 64 ≤ dS v.c.ks
 · have hol : bx v.c h sh = (v.c, 0, 22) := by unfold bx; rw [hoe, if_pos h64]; rfl
   refine aB rfl (by rw [hes]; simp; omega) ?_
   repeat' (first | refine ai ?_ | refine aa ?_ | refine ab ?_ | refine az ?_ | refine ar ?_ | refine ag ?_ | ((refine' ap rfl ?_ J J ?_); rotate_left; first | exact ak af J J J J | exact ae af 3 J J J J J) | refine aj af 1 J J J J J J J J J J J J ?_)
   (refine aA af (fun _ => 1) J J ⟨J, trivial⟩ rfl fun w1 hm => ⟨v, ?_, ?_, OutN.same hN hm.below⟩)
   · rw [hol]
   · rw [hol]; rfl
 rw [if_neg h64] at hoe
 refine am rfl (by rw [hes]; simp; omega) ?_
 obtain ⟨eh, heh⟩ : ∃ x, bk h = x := ⟨_, rfl⟩
 rw [heh] at hoe
 repeat' (first | refine ai ?_ | refine aa ?_ | refine ab ?_ | refine ay ?_ | refine ag ?_ | ((refine' ap rfl ?_ J J ?_); rotate_left; first | exact ak af J J J J | exact aq af J J J J J J | exact ae af 2 J J J J J) | refine aH rfl (av J J J J ⟨J, trivial⟩ rfl (by kernel_rfl)) (fun w hm => xz h hx hc eh heh w (hg.below hm.below) (hH.below hm.below) hhz) J J ?_)
 by_cases heh : eh = 0
 rotate_left
 · have hol : bx v.c h sh = (v.c, 0, eh) := by unfold bx; rw [hoe]; rw [if_pos heh, if_pos heh]
   refine aB rfl (by simpa using heh) ?_
   repeat' (first | refine ai ?_ | refine aa ?_ | refine ab ?_ | refine az ?_ | refine ar ?_ | refine ag ?_ | ((refine' ap rfl ?_ J J ?_); rotate_left; first | exact ak af J J J J | exact ae af 3 J J J J J) | refine aj af 1 J J J J J J J J J J J J ?_)
   (refine aA af (fun _ => 1) J J ⟨J, trivial⟩ rfl fun w1 hm => ⟨v, ?_, ?_, OutN.same hN hm.below⟩)
   · rw [hol]
   · rw [hol]; rfl
 refine am rfl (by simpa using heh) ?_
 rw [if_neg (by simpa using heh)] at hoe
 obtain ⟨ef, hef⟩ : ∃ x, aQ (eA v.c h sh) = x := ⟨_, rfl⟩
 rw [hef] at hoe
 repeat' (first | refine ai ?_ | refine aa ?_ | refine ab ?_ | refine ay ?_ | refine ag ?_ | (refine aD af J J J J J J ?_; intro g11) | ((refine' ap rfl ?_ J J ?_); rotate_left; first | exact ak af J J J J | exact aq af J J J J J J | exact ae af 0 J J J J J | exact ae af 3 J J J J J | exact au af J J ⟨J, J, J, J, trivial⟩ J J J) | refine aH rfl (av J J J J ⟨J, trivial⟩ rfl (by kernel_rfl)) (fun w hm => rO (eA v.c h sh) ef hef w (hg.below hm.below) hds) J J ?_ | refine aj af 0 J J J J J J J J J J J J ?_)
 by_cases hef : ef = 0
 rotate_left
 · have hol : bx v.c h sh = (v.c, 0, ef) := by unfold bx; rw [hoe]; rw [if_pos hef, if_pos hef]
   refine aB rfl (by simpa using hef) ?_
   repeat' (first | refine ai ?_ | refine aa ?_ | refine ab ?_ | refine az ?_ | refine ar ?_ | refine ag ?_ | ((refine' ap rfl ?_ J J ?_); rotate_left; first | exact ak af J J J J | exact ae af 4 J J J J J) | refine aj af 2 J J J J J J J J J J J J ?_)
   (refine aA af (fun _ => 2) J J ⟨J, trivial⟩ rfl fun w1 hm => ⟨v, ?_, ?_, OutN.same hN hm.below⟩)
   · rw [hol]
   · rw [hol]; rfl
 refine am rfl (by simpa using hef) ?_
 rw [if_neg (by simpa using hef)] at hoe
 obtain ⟨r, hr⟩ : ∃ x, dv v.c.nx 1 sh v.c.sz = x := ⟨_, rfl⟩
 rw [hr] at hoe
 repeat' (first | refine ai ?_ | refine aa ?_ | refine ab ?_ | refine ay ?_ | refine ag ?_ | (refine aD af J J J J J J ?_; intro g13) | ((refine' ap rfl ?_ J J ?_); rotate_left; first | exact ak af J J J J | exact aq af J J J J J J | exact ae af 4 J J J J J) | refine aH rfl (av J J J J ⟨J, J, J, J, trivial⟩ rfl (by kernel_rfl)) (fun w hm => tj v.c.nx 1 sh v.c.sz r hr w) J J ?_ | refine aj af 0 J J J J J J J J J J J J ?_)
 obtain ⟨er, her⟩ : ∃ x, r.err = x := ⟨_, rfl⟩
 rw [her] at hoe ⊢
 by_cases hez : er = 0
 rotate_left
 · have hol : bx v.c h sh = (v.c, 0, er) := by unfold bx; rw [hoe, if_pos hez]
   refine aB rfl (by simpa using hez) ?_
   repeat' (first | refine ai ?_ | refine aa ?_ | refine ab ?_ | refine az ?_ | refine ar ?_ | refine ag ?_ | ((refine' ap rfl ?_ J J ?_); rotate_left; first | exact ak af J J J J | exact ae af 5 J J J J J) | refine aj af 3 J J J J J J J J J J J J ?_)
   (refine aA af (fun _ => 3) J J ⟨J, trivial⟩ rfl fun w1 hm => ⟨v, ?_, ?_, OutN.same hN hm.below⟩)
   · rw [hol]
   · rw [hol]; rfl
 refine am rfl (by simpa using hez) ?_
 have hnx : 1 ≤ v.c.nx ∧ v.c.nx ≤ 2147483647 := by
  unfold dv at hr
  split at hr
  · rw [← hr] at her
    rw [hez] at her
    cases her
  · omega
 have hol : bx v.c h sh = ({ v.c with ks := v.c.ks ++ [⟨r.st, h.svc, h.mth, h.late, h.metas, [], []⟩], ou := v.c.ou ++ [eA v.c h sh], la := v.c.nx, nx := v.c.nx + 1 }, v.c.nx, 0) := by unfold bx; rw [hoe, if_neg (by simpa using hez), hr]
 rw [hol]
 repeat' (first | refine ai ?_ | refine aa ?_ | refine ab ?_ | refine ay ?_ | ((refine' ap rfl ?_ J J ?_); rotate_left; exact ae af 5 J J J J J))
 refine cy (σ := NV) (fun s => s.c = v.c ∧ s.kv.map (·.k) = v.kv.map (·.k)) (fun s => .agg ⟨NC s⟩) (fun s => EN s) rfl (av J J J J ⟨J, trivial⟩ rfl (by kernel_rfl)) (fun w1 hm => dz v w1 (hN.below hm.below) hz) J J ?_
 rintro ⟨c1, x1, xc1, kv1, o1, oc1, p1, pc1⟩ ⟨hc1, hkm⟩
 dsimp only at hc1 hkm
 subst hc1
 dsimp only [EN, List.cons_append, List.nil_append]
 have hkl1 : kv1.length ≤ 1000000000 := by rw [fP hkm]; exact hkl
 have hou := hgd.ou
 refine bI (fun w h => h.perm (pZ [_, _, _] (kv1.flatMap EK) [_, _, _, _, _, _])) ?_
 dsimp only [List.cons_append, List.nil_append]
 repeat' (first | refine ai ?_ | refine aa ?_ | refine ab ?_ | refine ag ?_ | (refine aD af J J J J J J ?_; intro g14) | ((refine' ap rfl ?_ J J ?_); rotate_left; first | exact ak af J J J J | exact ae af 8 J J J J J) | refine aj af 0 J J J J J J J J J J J J ?_)
 refine cy (σ := Option Addr × Nat) (fun _ => True) (fun p => .slice p.1 h.metas.length p.2) (fun p => [.own p.1 p.2 93 2 h.metas.length (h.metas.flatMap mC)]) rfl (av J J J J ⟨J, trivial⟩ rfl (by kernel_rfl)) (fun w1 hm => kH hx h.metas hc w1 (hH.below hm.below) (by omega)) J J ?_
 rintro ⟨pm, pmc⟩ -
 dsimp only [List.cons_append, List.nil_append]
 repeat' (first | refine ai ?_ | refine aa ?_ | refine ab ?_ | refine ag ?_ | (refine dr af J J J ⟨J, trivial⟩ J J J J J J J J ?_; intro g) | (refine bW af 5 0 J J J J J J J J J (fun _ _ => rfl) p6 J J (by unfold maxLen; omega) (by omega) J J ?_; intro sa sc) | (refine bW af 5 0 J J J J J J J J J (fun _ _ => rfl) f4 J J (by unfold maxLen; omega) (by omega) J J ?_; intro fa fac) | ((refine' ap rfl ?_ J J ?_); rotate_left; first | exact bU J J J J J (by omega) | exact ak af J J J J | exact ae af 1 J J J J J | exact ae af 2 J J J J J | exact ae af 3 J J J J J | exact ae af 5 J J J J J | exact ae af 7 J J J J J | exact ae af 9 J J J J J | exact ae af 12 J J J J J | exact au af J J ⟨J, J, trivial⟩ J J J) | refine aj af 2 J J J J J J J J J J J J ?_ | refine aj af 3 J J J J J J J J J J J J ?_ | refine aj af 9 J J J J J J J J J J J J ?_)
 refine nI [true, true, true, true, true, true, true, true, true, true, false] aC (by kernel_rfl) ?_
 iterate 3 (((refine' zm J J ?_ J J ?_); rotate_left; first | exact ak af J J J J | exact ae af 3 J J J J J | exact ae af 11 J J J J J))
 refine rH af 10 J J J J J J J J J J J J (fun w h => h.mask [true, true, true, true, true, true, true, true, true, true, false] rfl) ?_
 iterate 2 (((refine' zm J J ?_ J J ?_); rotate_left; exact ak af J J J J))
 refine xq ?_
 repeat' (first | refine ab ?_ | refine az ?_)
 (refine aA af (fun _ => 10) J J ⟨J, trivial⟩ rfl fun w1 hm => ⟨⟨{ v.c with ks := v.c.ks ++ [⟨r.st, h.svc, h.mth, h.late, h.metas, [], []⟩], ou := v.c.ou ++ [eA v.c h sh], la := v.c.nx, nx := v.c.nx + 1 }, sa, sc, kv1 ++ [(⟨⟨r.st, h.svc, h.mth, h.late, h.metas, [], []⟩, pm, pmc, none, 0, none, 0⟩ : KV)], fa, fac, p1, pc1⟩, rfl, ?_, ⟨?_, hm.below⟩⟩)
 · unfold NC
   simp only [List.length_append, List.length_singleton]
 · have g5 := hm.2.get (i := 5) rfl
   have g6 := hm.2.get (i := 6) rfl
   have hks : w1.ownsRow w.heap.size 39 22 (.slice sa (kv1 ++ [(⟨⟨r.st, h.svc, h.mth, h.late, h.metas, [], []⟩, pm, pmc, none, 0, none, 0⟩ : KV)]).length sc) (kv1 ++ [(⟨⟨r.st, h.svc, h.mth, h.late, h.metas, [], []⟩, pm, pmc, none, 0, none, 0⟩ : KV)]).length ((kv1 ++ [(⟨⟨r.st, h.svc, h.mth, h.late, h.metas, [], []⟩, pm, pmc, none, 0, none, 0⟩ : KV)]).flatMap KC) := by
    rw [List.length_append, List.flatMap_append, List.flatMap_singleton]
    exact g6
   have hous : w1.ownsRow w.heap.size 65 4 (.slice fa (v.c.ou ++ [eA v.c h sh]).length fac) (v.c.ou ++ [eA v.c h sh]).length ((v.c.ou ++ [eA v.c h sh]).flatMap fC) := by
    rw [List.length_append, List.flatMap_append, List.flatMap_singleton]
    exact g5
   have hR : MemL w.heap.size w1 (kv1.flatMap EK) := (hm.mask [false, false, false, false, false, false, false, false, false, false, false, false, false] rfl).2
   refine ⟨(Rws.own aV hks).mono fun _ => .inr, (Rws.own dI hous).mono fun _ => .inr, (Rws.own eP (hm.2.get (i := 4) rfl)).mono fun _ => .inr, ?_, fun x hxm => ?_⟩
   · rw [List.map_append, hkm, hN.eq]; rfl
   · rcases List.mem_append.1 hxm with hxm | hxm
     · exact (KOk.own (ku hR hxm)).mono fun _ => .inr
     · obtain rfl := List.mem_singleton.1 hxm
       exact ⟨(Rws.own fm (hm.2.get (i := 2) rfl)).mono fun _ => .inr, bT, bT⟩
set_option maxRecDepth 100000 in
set_option maxHeartbeats 32000000 in
theorem vU {A : Nat → Prop} (v : NV) (o : sj) (hx : Option Addr) (hc : Nat) (w : World) (hN : NOk A w v) (hv : VN v.c) (hms : bM v.c ≤ 400000000) (hO : OpOk A w o hx) (hg : MLen w) : Calls Tryz.prog 20 #[.agg #[.int .i64 v.c.sd, .int .i64 v.c.nx, .int .i64 v.c.la, .int .i64 v.c.aw, .int .i64 v.c.sz, .int .i64 v.c.sw.size, .int .i64 v.c.sw.left, .int .i64 v.c.sw.held, .int .i64 v.c.rw.size, .int .i64 v.c.rw.left, .int .i64 v.c.rw.held, .slice v.x v.kv.length v.xc, .slice v.o v.c.ou.length v.oc, .slice v.p v.c.pg.length v.pc, .bool v.c.cl], .agg #[.int .i64 o.kind, .int .i64 o.id, .int .i64 o.n, .string o.msg, .string o.h.svc, .string o.h.mth, .int .i64 o.h.late, .slice hx o.h.metas.length hc, .int .i64 o.f.kind, .int .i64 o.f.strm, .int .i64 o.f.num, .string o.f.data, .int .i64 o.tc, .string o.tt]] w fun e w' => ∃ v' : NV, ∃ p : Option Addr × Nat, v'.c = cG v.c o ∧ e = .returned (.tuple #[.agg ⟨NC v'⟩, .agg ⟨CL (cc v.c o) p⟩]) ∧ OutN A w w' v' ∧ Rws (fun b => w.heap.size ≤ b) w' 4 fC p.1 (cc v.c o).outs := by
 refine aI Tryz.func20 rfl Tryz.ntmps20 J J ?_
 have hz := (hv.toVB.szl (by omega)).n hN
 have hgd := (hv.toVB.szl (by omega)).g hN
 have hmsg : o.msg.size < 4294967281 := by have := hO.ms; omega
 have hfd : o.f.data.size < 4294967281 := by have := hO.fd; omega
 have htt : o.tt.size ≤ 4611686018427387900 := by have := hO.tt; omega
 repeat' (first | refine ai ?_ | refine aa ?_ | refine ab ?_ | refine aM ?_ | refine ag ?_ | (refine aR J J J J J J ?_; intro g2) | (refine aD af J J J J J J ?_; intro g4) | ((refine' ap rfl ?_ J J ?_); rotate_left; first | exact ak af J J J J | exact aq af J J J J J J | exact ae af 3 J J J J J))
 have hkl : v.kv.length ≤ 1000000000 := by
  have e : v.c.ks.length = v.kv.length := by rw [hN.eq, List.length_map]
  have h9 := hms
  unfold bM at h9
  omega
 have hla : v.c.la ≤ 4611686018427387904 ∧ -1 ≤ v.c.la := by have := hv.la; omega
 by_cases hk0 : o.kind = 0
 · have e1 : cG v.c o = (bx v.c o.h o.n).1 := by unfold cG; rw [if_pos hk0]
   have e2 : cc v.c o = ⟨(bx v.c o.h o.n).2.2, (bx v.c o.h o.n).2.1, ⟨#[]⟩, false, []⟩ := by unfold cc; rw [if_pos hk0]
   rw [e1, e2]
   refine aB rfl (by simpa using hk0) ?_
   repeat' (first | refine ai ?_ | refine aa ?_ | ((refine' ap rfl ?_ J J ?_); rotate_left; first | exact ak af J J J J | exact ae af 3 J J J J J | exact ae af 4 J J J J J))
   refine cY (σ := NV) (fun s F => s.c = (bx v.c o.h o.n).1 ∧ ∀ b, F b → A b ∨ w.heap.size ≤ b) (fun s => .tuple ⟨[.agg ⟨NC s⟩, .int .i64 (bx v.c o.h o.n).2.1, .int .i64 (bx v.c o.h o.n).2.2]⟩) (fun s F w => NOk F w s) rfl (av J J J J ⟨J, J, J, trivial⟩ rfl (by kernel_rfl)) (fun w1 hm => (tB v o.h hx hc o.n w1 (hN.lt.below hm.below) hz hgd (hg.below hm.below) hv.toVB.acts hkl (hO.hR.lt.below hm.below) (zE hO.hd) (sq o.h hO.hd) (Nat.le_trans hO.hl (by decide))).mono fun e w2 ⟨s, h1, h2, h3⟩ => by obtain ⟨F, h4, h5⟩ := dA hm h3; exact ⟨s, F, ⟨h1, h4⟩, h2, h5⟩) J J ?_
   rintro ⟨c1, x1, xc1, kv1, o1, oc1, p1, pc1⟩ F ⟨hc1, hF⟩
   dsimp only at hc1
   repeat' (first | refine ai ?_ | refine aa ?_ | refine ab ?_ | refine az ?_ | refine ar ?_ | refine aW ?_ | refine ag ?_ | (refine aD af J J J J J J ?_; intro g8) | ((refine' ap rfl ?_ J J ?_); rotate_left; first | exact ak af J J J J | exact ae af 0 J J J J J | exact au af J J ⟨J, J, trivial⟩ J J J) | refine aj af 0 J J J J J J J J J J J J ?_ | refine aj af 3 J J J J J J J J J J J J ?_ | refine aj af 4 J J J J J J J J J J J J ?_)
   refine aA af (fun t => cond (Nat.beq t 4) 4 3) J J ⟨J, J, trivial⟩ rfl fun w1 hm => ⟨⟨c1, x1, xc1, kv1, o1, oc1, p1, pc1⟩, (none, 0), hc1, rfl, cD (hm.2.get (i := 1) rfl).2.1 hF hm.below, bT⟩
 by_cases hk1 : o.kind = 1
 · have e1 : cG v.c o = (jm v.c o.id o.msg).1 := by unfold cG; rw [if_neg hk0, if_pos hk1]
   have e2 : cc v.c o = qv (jm v.c o.id o.msg).2 := by unfold cc; rw [if_neg hk0, if_pos hk1]
   rw [e1, e2]
   refine am rfl (by simpa using hk0) ?_
   repeat' (first | refine ai ?_ | refine aa ?_ | refine ab ?_ | refine ag ?_ | ((refine' ap rfl ?_ J J ?_); rotate_left; first | exact ak af J J J J | exact aq af J J J J J J))
   refine aB rfl (by simpa using hk1) ?_
   repeat' (first | refine aa ?_ | ((refine' ap rfl ?_ J J ?_); rotate_left; first | exact ak af J J J J | exact ae af 3 J J J J J | exact ae af 4 J J J J J))
   refine cY (σ := NV) (fun s F => s.c = (jm v.c o.id o.msg).1 ∧ ∀ b, F b → A b ∨ w.heap.size ≤ b) (fun s => .tuple ⟨[.agg ⟨NC s⟩, .int .i64 (jm v.c o.id o.msg).2]⟩) (fun s F w => NOk F w s) rfl (av J J J J ⟨J, J, J, trivial⟩ rfl (by kernel_rfl)) (fun w1 hm => (kN v o.id o.msg w1 (hN.lt.below hm.below) hz hgd (hg.below hm.below) hmsg).mono fun e w2 ⟨s, h1, h2, h3⟩ => by obtain ⟨F, h4, h5⟩ := dA hm h3; exact ⟨s, F, ⟨h1, h4⟩, h2, h5⟩) J J ?_
   rintro ⟨c1, x1, xc1, kv1, o1, oc1, p1, pc1⟩ F ⟨hc1, hF⟩
   dsimp only at hc1
   repeat' (first | refine ai ?_ | refine aa ?_ | refine ab ?_ | refine ax ?_ | refine ag ?_ | ((refine' ap rfl ?_ J J ?_); rotate_left; exact ak af J J J J) | refine aj af 1 J J J J J J J J J J J J ?_ | refine aj af 5 J J J J J J J J J J J J ?_)
   refine b9 [false, true, false, false, false, true] (fun _ => True) aC (by kernel_rfl) J J (fun _ _ => trivial) ?_
   iterate 2 (((refine' gJ J J ?_ J J ?_); rotate_left; first | exact ae af 0 J J J J J | exact ae af 1 J J J J J))
   refine el af 3 J J J J J J J J J J J J (fun w1 hM => ⟨hM.mask [false, true, false, false, false, true] rfl, trivial⟩) ?_
   refine dX af 2 J J J J J J J J J J J J ?_
   repeat' (first | refine ab ?_ | refine az ?_)
   refine aA af (fun t => cond (Nat.beq t 4) 3 2) J J ⟨J, J, trivial⟩ rfl fun w1 hm => ⟨⟨c1, x1, xc1, kv1, o1, oc1, p1, pc1⟩, (none, 0), hc1, rfl, cD (hm.2.get (i := 0) rfl).2.1 hF hm.below, bT⟩
 by_cases hk2 : o.kind = 2
 · have e1 : cG v.c o = (km v.c o.id).1 := by unfold cG; rw [if_neg hk0, if_neg hk1, if_pos hk2]
   have e2 : cc v.c o = qv (km v.c o.id).2 := by unfold cc; rw [if_neg hk0, if_neg hk1, if_pos hk2]
   rw [e1, e2]
   refine am rfl (by simpa using hk0) ?_
   repeat' (first | refine ai ?_ | refine aa ?_ | refine ab ?_ | refine ag ?_ | ((refine' ap rfl ?_ J J ?_); rotate_left; first | exact ak af J J J J | exact aq af J J J J J J))
   refine am rfl (by simpa using hk1) ?_
   repeat' (first | refine ai ?_ | refine aa ?_ | refine ab ?_ | refine ag ?_ | ((refine' ap rfl ?_ J J ?_); rotate_left; first | exact ak af J J J J | exact aq af J J J J J J))
   refine aB rfl (by simpa using hk2) ?_
   repeat' (first | refine aa ?_ | ((refine' ap rfl ?_ J J ?_); rotate_left; first | exact ak af J J J J | exact ae af 3 J J J J J | exact ae af 4 J J J J J))
   refine cY (σ := NV) (fun s F => s.c = (km v.c o.id).1 ∧ ∀ b, F b → A b ∨ w.heap.size ≤ b) (fun s => .tuple ⟨[.agg ⟨NC s⟩, .int .i64 (km v.c o.id).2]⟩) (fun s F w => NOk F w s) rfl (av J J J J ⟨J, J, trivial⟩ rfl (by kernel_rfl)) (fun w1 hm => (xW v o.id w1 (hN.lt.below hm.below) hz hgd (hg.below hm.below)).mono fun e w2 ⟨s, h1, h2, h3⟩ => by obtain ⟨F, h4, h5⟩ := dA hm h3; exact ⟨s, F, ⟨h1, h4⟩, h2, h5⟩) J J ?_
   rintro ⟨c1, x1, xc1, kv1, o1, oc1, p1, pc1⟩ F ⟨hc1, hF⟩
   dsimp only at hc1
   repeat' (first | refine ai ?_ | refine aa ?_ | refine ab ?_ | refine ax ?_ | refine ag ?_ | ((refine' ap rfl ?_ J J ?_); rotate_left; exact ak af J J J J) | refine aj af 1 J J J J J J J J J J J J ?_ | refine aj af 5 J J J J J J J J J J J J ?_)
   refine b9 [false, true, false, false, false, true] (fun _ => True) aC (by kernel_rfl) J J (fun _ _ => trivial) ?_
   iterate 2 (((refine' gJ J J ?_ J J ?_); rotate_left; first | exact ae af 0 J J J J J | exact ae af 1 J J J J J))
   refine el af 3 J J J J J J J J J J J J (fun w1 hM => ⟨hM.mask [false, true, false, false, false, true] rfl, trivial⟩) ?_
   refine dX af 2 J J J J J J J J J J J J ?_
   repeat' (first | refine ab ?_ | refine az ?_)
   refine aA af (fun t => cond (Nat.beq t 4) 3 2) J J ⟨J, J, trivial⟩ rfl fun w1 hm => ⟨⟨c1, x1, xc1, kv1, o1, oc1, p1, pc1⟩, (none, 0), hc1, rfl, cD (hm.2.get (i := 0) rfl).2.1 hF hm.below, bT⟩
 by_cases hk3 : o.kind = 3
 · have e1 : cG v.c o = (kn v.c o.id o.tc o.tt).1 := by unfold cG; rw [if_neg hk0, if_neg hk1, if_neg hk2, if_pos hk3]
   have e2 : cc v.c o = qv (kn v.c o.id o.tc o.tt).2 := by unfold cc; rw [if_neg hk0, if_neg hk1, if_neg hk2, if_pos hk3]
   rw [e1, e2]
   refine am rfl (by simpa using hk0) ?_
   repeat' (first | refine ai ?_ | refine aa ?_ | refine ab ?_ | refine ag ?_ | ((refine' ap rfl ?_ J J ?_); rotate_left; first | exact ak af J J J J | exact aq af J J J J J J))
   refine am rfl (by simpa using hk1) ?_
   repeat' (first | refine ai ?_ | refine aa ?_ | refine ab ?_ | refine ag ?_ | ((refine' ap rfl ?_ J J ?_); rotate_left; first | exact ak af J J J J | exact aq af J J J J J J))
   refine am rfl (by simpa using hk2) ?_
   repeat' (first | refine ai ?_ | refine aa ?_ | refine ab ?_ | refine ag ?_ | ((refine' ap rfl ?_ J J ?_); rotate_left; first | exact ak af J J J J | exact aq af J J J J J J))
   refine aB rfl (by simpa using hk3) ?_
   repeat' (first | refine aa ?_ | ((refine' ap rfl ?_ J J ?_); rotate_left; first | exact ak af J J J J | exact ae af 3 J J J J J | exact ae af 4 J J J J J))
   refine cY (σ := NV) (fun s F => s.c = (kn v.c o.id o.tc o.tt).1 ∧ ∀ b, F b → A b ∨ w.heap.size ≤ b) (fun s => .tuple ⟨[.agg ⟨NC s⟩, .int .i64 (kn v.c o.id o.tc o.tt).2]⟩) (fun s F w => NOk F w s) rfl (av J J J J ⟨J, J, J, trivial⟩ rfl (by kernel_rfl)) (fun w1 hm => (xX v o.id o.tc o.tt w1 (hN.lt.below hm.below) hz hgd (hg.below hm.below) htt).mono fun e w2 ⟨s, h1, h2, h3⟩ => by obtain ⟨F, h4, h5⟩ := dA hm h3; exact ⟨s, F, ⟨h1, h4⟩, h2, h5⟩) J J ?_
   rintro ⟨c1, x1, xc1, kv1, o1, oc1, p1, pc1⟩ F ⟨hc1, hF⟩
   dsimp only at hc1
   repeat' (first | refine ai ?_ | refine aa ?_ | refine ab ?_ | refine ax ?_ | refine ag ?_ | ((refine' ap rfl ?_ J J ?_); rotate_left; exact ak af J J J J) | refine aj af 1 J J J J J J J J J J J J ?_ | refine aj af 5 J J J J J J J J J J J J ?_)
   refine b9 [false, true, false, false, false, true] (fun _ => True) aC (by kernel_rfl) J J (fun _ _ => trivial) ?_
   iterate 2 (((refine' gJ J J ?_ J J ?_); rotate_left; first | exact ae af 0 J J J J J | exact ae af 1 J J J J J))
   refine el af 3 J J J J J J J J J J J J (fun w1 hM => ⟨hM.mask [false, true, false, false, false, true] rfl, trivial⟩) ?_
   refine dX af 2 J J J J J J J J J J J J ?_
   repeat' (first | refine ab ?_ | refine az ?_)
   refine aA af (fun t => cond (Nat.beq t 4) 3 2) J J ⟨J, J, trivial⟩ rfl fun w1 hm => ⟨⟨c1, x1, xc1, kv1, o1, oc1, p1, pc1⟩, (none, 0), hc1, rfl, cD (hm.2.get (i := 0) rfl).2.1 hF hm.below, bT⟩
 by_cases hk4 : o.kind = 4
 · have e1 : cG v.c o = (eT v.c o.id o.n).1 := by unfold cG; rw [if_neg hk0, if_neg hk1, if_neg hk2, if_neg hk3, if_pos hk4]
   have e2 : cc v.c o = qv (eT v.c o.id o.n).2 := by unfold cc; rw [if_neg hk0, if_neg hk1, if_neg hk2, if_neg hk3, if_pos hk4]
   rw [e1, e2]
   refine am rfl (by simpa using hk0) ?_
   repeat' (first | refine ai ?_ | refine aa ?_ | refine ab ?_ | refine ag ?_ | ((refine' ap rfl ?_ J J ?_); rotate_left; first | exact ak af J J J J | exact aq af J J J J J J))
   refine am rfl (by simpa using hk1) ?_
   repeat' (first | refine ai ?_ | refine aa ?_ | refine ab ?_ | refine ag ?_ | ((refine' ap rfl ?_ J J ?_); rotate_left; first | exact ak af J J J J | exact aq af J J J J J J))
   refine am rfl (by simpa using hk2) ?_
   repeat' (first | refine ai ?_ | refine aa ?_ | refine ab ?_ | refine ag ?_ | ((refine' ap rfl ?_ J J ?_); rotate_left; first | exact ak af J J J J | exact aq af J J J J J J))
   refine am rfl (by simpa using hk3) ?_
   repeat' (first | refine ai ?_ | refine aa ?_ | refine ab ?_ | refine ag ?_ | ((refine' ap rfl ?_ J J ?_); rotate_left; first | exact ak af J J J J | exact aq af J J J J J J))
   refine aB rfl (by simpa using hk4) ?_
   repeat' (first | refine aa ?_ | ((refine' ap rfl ?_ J J ?_); rotate_left; first | exact ak af J J J J | exact ae af 3 J J J J J | exact ae af 4 J J J J J))
   refine cY (σ := NV) (fun s F => s.c = (eT v.c o.id o.n).1 ∧ ∀ b, F b → A b ∨ w.heap.size ≤ b) (fun s => .tuple ⟨[.agg ⟨NC s⟩, .int .i64 (eT v.c o.id o.n).2]⟩) (fun s F w => NOk F w s) rfl (av J J J J ⟨J, J, J, trivial⟩ rfl (by kernel_rfl)) (fun w1 hm => (vQ v o.id o.n w1 (hN.lt.below hm.below) hz hgd (hg.below hm.below)).mono fun e w2 ⟨s, h1, h2, h3⟩ => by obtain ⟨F, h4, h5⟩ := dA hm h3; exact ⟨s, F, ⟨h1, h4⟩, h2, h5⟩) J J ?_
   rintro ⟨c1, x1, xc1, kv1, o1, oc1, p1, pc1⟩ F ⟨hc1, hF⟩
   dsimp only at hc1
   repeat' (first | refine ai ?_ | refine aa ?_ | refine ab ?_ | refine ax ?_ | refine ag ?_ | ((refine' ap rfl ?_ J J ?_); rotate_left; exact ak af J J J J) | refine aj af 1 J J J J J J J J J J J J ?_ | refine aj af 5 J J J J J J J J J J J J ?_)
   refine b9 [false, true, false, false, false, true] (fun _ => True) aC (by kernel_rfl) J J (fun _ _ => trivial) ?_
   iterate 2 (((refine' gJ J J ?_ J J ?_); rotate_left; first | exact ae af 0 J J J J J | exact ae af 1 J J J J J))
   refine el af 3 J J J J J J J J J J J J (fun w1 hM => ⟨hM.mask [false, true, false, false, false, true] rfl, trivial⟩) ?_
   refine dX af 2 J J J J J J J J J J J J ?_
   repeat' (first | refine ab ?_ | refine az ?_)
   refine aA af (fun t => cond (Nat.beq t 4) 3 2) J J ⟨J, J, trivial⟩ rfl fun w1 hm => ⟨⟨c1, x1, xc1, kv1, o1, oc1, p1, pc1⟩, (none, 0), hc1, rfl, cD (hm.2.get (i := 0) rfl).2.1 hF hm.below, bT⟩
 by_cases hk5 : o.kind = 5
 · have e1 : cG v.c o = (dK v.c o.id).1 := by unfold cG; rw [if_neg hk0, if_neg hk1, if_neg hk2, if_neg hk3, if_neg hk4, if_pos hk5]
   have e2 : cc v.c o = ⟨0, 0, (dK v.c o.id).2.1, (dK v.c o.id).2.2, []⟩ := by unfold cc; rw [if_neg hk0, if_neg hk1, if_neg hk2, if_neg hk3, if_neg hk4, if_pos hk5]
   rw [e1, e2]
   refine am rfl (by simpa using hk0) ?_
   repeat' (first | refine ai ?_ | refine aa ?_ | refine ab ?_ | refine ag ?_ | ((refine' ap rfl ?_ J J ?_); rotate_left; first | exact ak af J J J J | exact aq af J J J J J J))
   refine am rfl (by simpa using hk1) ?_
   repeat' (first | refine ai ?_ | refine aa ?_ | refine ab ?_ | refine ag ?_ | ((refine' ap rfl ?_ J J ?_); rotate_left; first | exact ak af J J J J | exact aq af J J J J J J))
   refine am rfl (by simpa using hk2) ?_
   repeat' (first | refine ai ?_ | refine aa ?_ | refine ab ?_ | refine ag ?_ | ((refine' ap rfl ?_ J J ?_); rotate_left; first | exact ak af J J J J | exact aq af J J J J J J))
   refine am rfl (by simpa using hk3) ?_
   repeat' (first | refine ai ?_ | refine aa ?_ | refine ab ?_ | refine ag ?_ | ((refine' ap rfl ?_ J J ?_); rotate_left; first | exact ak af J J J J | exact aq af J J J J J J))
   refine am rfl (by simpa using hk4) ?_
   repeat' (first | refine ai ?_ | refine aa ?_ | refine ab ?_ | refine ag ?_ | ((refine' ap rfl ?_ J J ?_); rotate_left; first | exact ak af J J J J | exact aq af J J J J J J))
   refine aB rfl (by simpa using hk5) ?_
   repeat' (first | refine ai ?_ | refine aa ?_ | ((refine' ap rfl ?_ J J ?_); rotate_left; first | exact ak af J J J J | exact ae af 3 J J J J J | exact ae af 4 J J J J J))
   refine cY (σ := NV) (fun s F => s.c = (dK v.c o.id).1 ∧ ∀ b, F b → A b ∨ w.heap.size ≤ b) (fun s => .tuple ⟨[.agg ⟨NC s⟩, .string (dK v.c o.id).2.1, .bool (dK v.c o.id).2.2]⟩) (fun s F w => NOk F w s) rfl (av J J J J ⟨J, J, trivial⟩ rfl (by kernel_rfl)) (fun w1 hm => (vH v o.id w1 (hN.lt.below hm.below) hv (by omega)).mono fun e w2 ⟨s, h1, h2, h3⟩ => by obtain ⟨F, h4, h5⟩ := dA hm h3; exact ⟨s, F, ⟨h1, h4⟩, h2, h5⟩) J J ?_
   rintro ⟨c1, x1, xc1, kv1, o1, oc1, p1, pc1⟩ F ⟨hc1, hF⟩
   dsimp only at hc1
   repeat' (first | refine ai ?_ | refine aa ?_ | refine ab ?_ | refine az ?_ | refine ar ?_ | refine aW ?_ | refine ag ?_ | (refine aD af J J J J J J ?_; intro g11) | ((refine' ap rfl ?_ J J ?_); rotate_left; first | exact ak af J J J J | exact ae af 0 J J J J J | exact au af J J ⟨J, J, trivial⟩ J J J) | refine aj af 0 J J J J J J J J J J J J ?_ | refine aj af 3 J J J J J J J J J J J J ?_ | refine aj af 4 J J J J J J J J J J J J ?_)
   refine aA af (fun t => cond (Nat.beq t 4) 4 3) J J ⟨J, J, trivial⟩ rfl fun w1 hm => ⟨⟨c1, x1, xc1, kv1, o1, oc1, p1, pc1⟩, (none, 0), hc1, rfl, cD (hm.2.get (i := 1) rfl).2.1 hF hm.below, bT⟩
 by_cases hk6 : o.kind = 6
 · have e1 : cG v.c o = (dF v.c o.f).1 := by unfold cG; rw [if_neg hk0, if_neg hk1, if_neg hk2, if_neg hk3, if_neg hk4, if_neg hk5, if_pos hk6]
   have e2 : cc v.c o = qv (dF v.c o.f).2 := by unfold cc; rw [if_neg hk0, if_neg hk1, if_neg hk2, if_neg hk3, if_neg hk4, if_neg hk5, if_pos hk6]
   rw [e1, e2]
   refine am rfl (by simpa using hk0) ?_
   repeat' (first | refine ai ?_ | refine aa ?_ | refine ab ?_ | refine ag ?_ | ((refine' ap rfl ?_ J J ?_); rotate_left; first | exact ak af J J J J | exact aq af J J J J J J))
   refine am rfl (by simpa using hk1) ?_
   repeat' (first | refine ai ?_ | refine aa ?_ | refine ab ?_ | refine ag ?_ | ((refine' ap rfl ?_ J J ?_); rotate_left; first | exact ak af J J J J | exact aq af J J J J J J))
   refine am rfl (by simpa using hk2) ?_
   repeat' (first | refine ai ?_ | refine aa ?_ | refine ab ?_ | refine ag ?_ | ((refine' ap rfl ?_ J J ?_); rotate_left; first | exact ak af J J J J | exact aq af J J J J J J))
   refine am rfl (by simpa using hk3) ?_
   repeat' (first | refine ai ?_ | refine aa ?_ | refine ab ?_ | refine ag ?_ | ((refine' ap rfl ?_ J J ?_); rotate_left; first | exact ak af J J J J | exact aq af J J J J J J))
   refine am rfl (by simpa using hk4) ?_
   repeat' (first | refine ai ?_ | refine aa ?_ | refine ab ?_ | refine ag ?_ | ((refine' ap rfl ?_ J J ?_); rotate_left; first | exact ak af J J J J | exact aq af J J J J J J))
   refine am rfl (by simpa using hk5) ?_
   repeat' (first | refine ai ?_ | refine aa ?_ | refine ab ?_ | refine ag ?_ | ((refine' ap rfl ?_ J J ?_); rotate_left; first | exact ak af J J J J | exact aq af J J J J J J))
   refine aB rfl (by simpa using hk6) ?_
   repeat' (first | refine aa ?_ | ((refine' ap rfl ?_ J J ?_); rotate_left; first | exact ak af J J J J | exact ae af 3 J J J J J | exact ae af 4 J J J J J))
   refine cY (σ := NV) (fun s F => s.c = (dF v.c o.f).1 ∧ ∀ b, F b → A b ∨ w.heap.size ≤ b) (fun s => .tuple ⟨[.agg ⟨NC s⟩, .int .i64 (dF v.c o.f).2]⟩) (fun s F w => NOk F w s) rfl (av J J J J ⟨J, J, trivial⟩ rfl (by kernel_rfl)) (fun w1 hm => (vP v o.f w1 (hN.lt.below hm.below) hv hms hfd (hg.below hm.below)).mono fun e w2 ⟨s, h1, h2, h3⟩ => by obtain ⟨F, h4, h5⟩ := dA hm h3; exact ⟨s, F, ⟨h1, h4⟩, h2, h5⟩) J J ?_
   rintro ⟨c1, x1, xc1, kv1, o1, oc1, p1, pc1⟩ F ⟨hc1, hF⟩
   dsimp only at hc1
   repeat' (first | refine ai ?_ | refine aa ?_ | refine ab ?_ | refine ax ?_ | refine ag ?_ | ((refine' ap rfl ?_ J J ?_); rotate_left; exact ak af J J J J) | refine aj af 1 J J J J J J J J J J J J ?_ | refine aj af 5 J J J J J J J J J J J J ?_)
   refine b9 [false, true, false, false, false, true] (fun _ => True) aC (by kernel_rfl) J J (fun _ _ => trivial) ?_
   iterate 2 (((refine' gJ J J ?_ J J ?_); rotate_left; first | exact ae af 0 J J J J J | exact ae af 1 J J J J J))
   refine el af 3 J J J J J J J J J J J J (fun w1 hM => ⟨hM.mask [false, true, false, false, false, true] rfl, trivial⟩) ?_
   refine dX af 2 J J J J J J J J J J J J ?_
   repeat' (first | refine ab ?_ | refine az ?_)
   refine aA af (fun t => cond (Nat.beq t 4) 3 2) J J ⟨J, J, trivial⟩ rfl fun w1 hm => ⟨⟨c1, x1, xc1, kv1, o1, oc1, p1, pc1⟩, (none, 0), hc1, rfl, cD (hm.2.get (i := 0) rfl).2.1 hF hm.below, bT⟩
 by_cases hk7 : o.kind = 7
 · have e1 : cG v.c o = (iF v.c).1 := by unfold cG; rw [if_neg hk0, if_neg hk1, if_neg hk2, if_neg hk3, if_neg hk4, if_neg hk5, if_neg hk6, if_pos hk7]
   have e2 : cc v.c o = ⟨0, 0, ⟨#[]⟩, false, (iF v.c).2⟩ := by unfold cc; rw [if_neg hk0, if_neg hk1, if_neg hk2, if_neg hk3, if_neg hk4, if_neg hk5, if_neg hk6, if_pos hk7]
   rw [e1, e2]
   refine am rfl (by simpa using hk0) ?_
   repeat' (first | refine ai ?_ | refine aa ?_ | refine ab ?_ | refine ag ?_ | ((refine' ap rfl ?_ J J ?_); rotate_left; first | exact ak af J J J J | exact aq af J J J J J J))
   refine am rfl (by simpa using hk1) ?_
   repeat' (first | refine ai ?_ | refine aa ?_ | refine ab ?_ | refine ag ?_ | ((refine' ap rfl ?_ J J ?_); rotate_left; first | exact ak af J J J J | exact aq af J J J J J J))
   refine am rfl (by simpa using hk2) ?_
   repeat' (first | refine ai ?_ | refine aa ?_ | refine ab ?_ | refine ag ?_ | ((refine' ap rfl ?_ J J ?_); rotate_left; first | exact ak af J J J J | exact aq af J J J J J J))
   refine am rfl (by simpa using hk3) ?_
   repeat' (first | refine ai ?_ | refine aa ?_ | refine ab ?_ | refine ag ?_ | ((refine' ap rfl ?_ J J ?_); rotate_left; first | exact ak af J J J J | exact aq af J J J J J J))
   refine am rfl (by simpa using hk4) ?_
   repeat' (first | refine ai ?_ | refine aa ?_ | refine ab ?_ | refine ag ?_ | ((refine' ap rfl ?_ J J ?_); rotate_left; first | exact ak af J J J J | exact aq af J J J J J J))
   refine am rfl (by simpa using hk5) ?_
   repeat' (first | refine ai ?_ | refine aa ?_ | refine ab ?_ | refine ag ?_ | ((refine' ap rfl ?_ J J ?_); rotate_left; first | exact ak af J J J J | exact aq af J J J J J J))
   refine am rfl (by simpa using hk6) ?_
   repeat' (first | refine ai ?_ | refine aa ?_ | refine ab ?_ | refine ag ?_ | ((refine' ap rfl ?_ J J ?_); rotate_left; first | exact ak af J J J J | exact aq af J J J J J J))
   refine aB rfl (by simpa using hk7) ?_
   repeat' (first | refine ai ?_ | refine aa ?_ | ((refine' ap rfl ?_ J J ?_); rotate_left; exact ae af 4 J J J J J))
   refine cY (σ := NV × (Option Addr × Nat)) (fun s F => s.1.c = (iF v.c).1 ∧ ∀ b, F b → A b ∨ w.heap.size ≤ b) (fun s => .tuple ⟨[.agg ⟨NC s.1⟩, .slice s.2.1 v.c.ou.length s.2.2]⟩) (fun s F w1 => NOk F w1 s.1 ∧ Rws (fun b => F b ∧ w.heap.size ≤ b) w1 4 fC s.2.1 v.c.ou) rfl (av J J J J ⟨J, trivial⟩ rfl (by kernel_rfl)) (fun w1 hm => (kL v w1 (hN.lt.below hm.below) hz).mono fun e w2 ⟨v', pp, h1, h2, h3, h4⟩ => ⟨(v', pp), fun b => ((A b ∧ b < w.heap.size) ∨ w1.heap.size ≤ b) ∧ b < w2.heap.size, ⟨h1, fun _ hb => hb.1.elim (fun h => .inl h.1) (fun h => .inr (Nat.le_trans hm.1.size h))⟩, h2, Mem.out hm (A := fun b => A b ∧ b < w.heap.size) (fun _ hb _ hf => j4 hm hb.2 hf) h3.2 (fun F w1 => NOk F w1 v' ∧ Rws (fun b => F b ∧ w.heap.size ≤ b) w1 4 fC pp.1 v.c.ou) ⟨h3.1.lt, h4.lt.mono fun b hb => ⟨⟨.inr hb.1, hb.2⟩, Nat.le_trans hm.1.size hb.1⟩⟩ (fun F w3 w4 hk h => ⟨h.1.agree hk, h.2.agree fun b hb => hk b hb.1⟩)⟩) J J ?_
   rintro ⟨⟨c1, x1, xc1, kv1, o1, oc1, p1, pc1⟩, la, lc⟩ F ⟨hc1, hF⟩
   dsimp only at hc1
   repeat' (first | refine ai ?_ | refine aa ?_ | refine ab ?_ | refine az ?_ | refine ar ?_ | refine aW ?_ | refine ag ?_ | (refine aD af J J J J J J ?_; intro g14) | ((refine' ap rfl ?_ J J ?_); rotate_left; first | exact ak af J J J J | exact ae af 0 J J J J J | exact au af J J ⟨J, trivial⟩ J J J) | refine aj af 0 J J J J J J J J J J J J ?_ | refine aj af 3 J J J J J J J J J J J J ?_ | refine aj af 4 J J J J J J J J J J J J ?_)
   refine aA af (fun t => cond (Nat.beq t 4) 4 3) J J ⟨J, J, trivial⟩ rfl fun w1 hm => ⟨⟨c1, x1, xc1, kv1, o1, oc1, p1, pc1⟩, (la, lc), hc1, rfl, cD (hm.2.get (i := 1) rfl).2.1.1 hF hm.below, (hm.2.get (i := 1) rfl).2.1.2.mono fun _ h => h.2⟩
 by_cases hk8 : o.kind = 8
 · have e1 : cG v.c o = (e9 v.c o.n).1 := by unfold cG; rw [if_neg hk0, if_neg hk1, if_neg hk2, if_neg hk3, if_neg hk4, if_neg hk5, if_neg hk6, if_neg hk7, if_pos hk8]
   have e2 : cc v.c o = qv (e9 v.c o.n).2 := by unfold cc; rw [if_neg hk0, if_neg hk1, if_neg hk2, if_neg hk3, if_neg hk4, if_neg hk5, if_neg hk6, if_neg hk7, if_pos hk8]
   rw [e1, e2]
   refine am rfl (by simpa using hk0) ?_
   repeat' (first | refine ai ?_ | refine aa ?_ | refine ab ?_ | refine ag ?_ | ((refine' ap rfl ?_ J J ?_); rotate_left; first | exact ak af J J J J | exact aq af J J J J J J))
   refine am rfl (by simpa using hk1) ?_
   repeat' (first | refine ai ?_ | refine aa ?_ | refine ab ?_ | refine ag ?_ | ((refine' ap rfl ?_ J J ?_); rotate_left; first | exact ak af J J J J | exact aq af J J J J J J))
   refine am rfl (by simpa using hk2) ?_
   repeat' (first | refine ai ?_ | refine aa ?_ | refine ab ?_ | refine ag ?_ | ((refine' ap rfl ?_ J J ?_); rotate_left; first | exact ak af J J J J | exact aq af J J J J J J))
   refine am rfl (by simpa using hk3) ?_
   repeat' (first | refine ai ?_ | refine aa ?_ | refine ab ?_ | refine ag ?_ | ((refine' ap rfl ?_ J J ?_); rotate_left; first | exact ak af J J J J | exact aq af J J J J J J))
   refine am rfl (by simpa using hk4) ?_
   repeat' (first | refine ai ?_ | refine aa ?_ | refine ab ?_ | refine ag ?_ | ((refine' ap rfl ?_ J J ?_); rotate_left; first | exact ak af J J J J | exact aq af J J J J J J))
   refine am rfl (by simpa using hk5) ?_
   repeat' (first | refine ai ?_ | refine aa ?_ | refine ab ?_ | refine ag ?_ | ((refine' ap rfl ?_ J J ?_); rotate_left; first | exact ak af J J J J | exact aq af J J J J J J))
   refine am rfl (by simpa using hk6) ?_
   repeat' (first | refine ai ?_ | refine aa ?_ | refine ab ?_ | refine ag ?_ | ((refine' ap rfl ?_ J J ?_); rotate_left; first | exact ak af J J J J | exact aq af J J J J J J))
   refine am rfl (by simpa using hk7) ?_
   repeat' (first | refine ai ?_ | refine aa ?_ | refine ab ?_ | refine ag ?_ | ((refine' ap rfl ?_ J J ?_); rotate_left; first | exact ak af J J J J | exact aq af J J J J J J))
   refine aB rfl (by simpa using hk8) ?_
   repeat' (first | refine aa ?_ | ((refine' ap rfl ?_ J J ?_); rotate_left; first | exact ak af J J J J | exact ae af 3 J J J J J | exact ae af 4 J J J J J))
   refine cY (σ := NV) (fun s F => s.c = (e9 v.c o.n).1 ∧ ∀ b, F b → A b ∨ w.heap.size ≤ b) (fun s => .tuple ⟨[.agg ⟨NC s⟩, .int .i64 (e9 v.c o.n).2]⟩) (fun s F w => NOk F w s) rfl (av J J J J ⟨J, J, trivial⟩ rfl (by kernel_rfl)) (fun w1 hm => (vA v o.n w1 (hN.lt.below hm.below) hz hgd (hg.below hm.below)).mono fun e w2 ⟨s, h1, h2, h3⟩ => by obtain ⟨F, h4, h5⟩ := dA hm h3; exact ⟨s, F, ⟨h1, h4⟩, h2, h5⟩) J J ?_
   rintro ⟨c1, x1, xc1, kv1, o1, oc1, p1, pc1⟩ F ⟨hc1, hF⟩
   dsimp only at hc1
   repeat' (first | refine ai ?_ | refine aa ?_ | refine ab ?_ | refine ax ?_ | refine ag ?_ | ((refine' ap rfl ?_ J J ?_); rotate_left; exact ak af J J J J) | refine aj af 1 J J J J J J J J J J J J ?_ | refine aj af 5 J J J J J J J J J J J J ?_)
   refine b9 [false, true, false, false, false, true] (fun _ => True) aC (by kernel_rfl) J J (fun _ _ => trivial) ?_
   iterate 2 (((refine' gJ J J ?_ J J ?_); rotate_left; first | exact ae af 0 J J J J J | exact ae af 1 J J J J J))
   refine el af 3 J J J J J J J J J J J J (fun w1 hM => ⟨hM.mask [false, true, false, false, false, true] rfl, trivial⟩) ?_
   refine dX af 2 J J J J J J J J J J J J ?_
   repeat' (first | refine ab ?_ | refine az ?_)
   refine aA af (fun t => cond (Nat.beq t 4) 3 2) J J ⟨J, J, trivial⟩ rfl fun w1 hm => ⟨⟨c1, x1, xc1, kv1, o1, oc1, p1, pc1⟩, (none, 0), hc1, rfl, cD (hm.2.get (i := 0) rfl).2.1 hF hm.below, bT⟩
 by_cases hk9 : o.kind = 9
 · have e1 : cG v.c o = (iG v.c) := by unfold cG; rw [if_neg hk0, if_neg hk1, if_neg hk2, if_neg hk3, if_neg hk4, if_neg hk5, if_neg hk6, if_neg hk7, if_neg hk8, if_pos hk9]
   have e2 : cc v.c o = qv 0 := by unfold cc; rw [if_neg hk0, if_neg hk1, if_neg hk2, if_neg hk3, if_neg hk4, if_neg hk5, if_neg hk6, if_neg hk7, if_neg hk8]
   rw [e1, e2]
   refine am rfl (by simpa using hk0) ?_
   repeat' (first | refine ai ?_ | refine aa ?_ | refine ab ?_ | refine ag ?_ | ((refine' ap rfl ?_ J J ?_); rotate_left; first | exact ak af J J J J | exact aq af J J J J J J))
   refine am rfl (by simpa using hk1) ?_
   repeat' (first | refine ai ?_ | refine aa ?_ | refine ab ?_ | refine ag ?_ | ((refine' ap rfl ?_ J J ?_); rotate_left; first | exact ak af J J J J | exact aq af J J J J J J))
   refine am rfl (by simpa using hk2) ?_
   repeat' (first | refine ai ?_ | refine aa ?_ | refine ab ?_ | refine ag ?_ | ((refine' ap rfl ?_ J J ?_); rotate_left; first | exact ak af J J J J | exact aq af J J J J J J))
   refine am rfl (by simpa using hk3) ?_
   repeat' (first | refine ai ?_ | refine aa ?_ | refine ab ?_ | refine ag ?_ | ((refine' ap rfl ?_ J J ?_); rotate_left; first | exact ak af J J J J | exact aq af J J J J J J))
   refine am rfl (by simpa using hk4) ?_
   repeat' (first | refine ai ?_ | refine aa ?_ | refine ab ?_ | refine ag ?_ | ((refine' ap rfl ?_ J J ?_); rotate_left; first | exact ak af J J J J | exact aq af J J J J J J))
   refine am rfl (by simpa using hk5) ?_
   repeat' (first | refine ai ?_ | refine aa ?_ | refine ab ?_ | refine ag ?_ | ((refine' ap rfl ?_ J J ?_); rotate_left; first | exact ak af J J J J | exact aq af J J J J J J))
   refine am rfl (by simpa using hk6) ?_
   repeat' (first | refine ai ?_ | refine aa ?_ | refine ab ?_ | refine ag ?_ | ((refine' ap rfl ?_ J J ?_); rotate_left; first | exact ak af J J J J | exact aq af J J J J J J))
   refine am rfl (by simpa using hk7) ?_
   repeat' (first | refine ai ?_ | refine aa ?_ | refine ab ?_ | refine ag ?_ | ((refine' ap rfl ?_ J J ?_); rotate_left; first | exact ak af J J J J | exact aq af J J J J J J))
   refine am rfl (by simpa using hk8) ?_
   repeat' (first | refine ai ?_ | refine aa ?_ | refine ab ?_ | refine ag ?_ | ((refine' ap rfl ?_ J J ?_); rotate_left; first | exact ak af J J J J | exact aq af J J J J J J))
   refine aB rfl (by simpa using hk9) ?_
   repeat' (first | refine aa ?_ | ((refine' ap rfl ?_ J J ?_); rotate_left; exact ae af 4 J J J J J))
   refine cY (σ := NV) (fun s F => s.c = (iG v.c) ∧ ∀ b, F b → A b ∨ w.heap.size ≤ b) (fun s => .agg ⟨NC s⟩) (fun s F w => NOk F w s) rfl (av J J J J ⟨J, trivial⟩ rfl (by kernel_rfl)) (fun w1 hm => (vC v w1 (hN.lt.below hm.below) hz hgd hla).mono fun e w2 ⟨s, h1, h2, h3⟩ => by obtain ⟨F, h4, h5⟩ := dA hm h3; exact ⟨s, F, ⟨h1, h4⟩, h2, h5⟩) J J ?_
   rintro ⟨c1, x1, xc1, kv1, o1, oc1, p1, pc1⟩ F ⟨hc1, hF⟩
   dsimp only at hc1
   repeat' (first | refine ai ?_ | refine aa ?_ | refine ab ?_ | refine ax ?_ | refine ag ?_ | ((refine' ap rfl ?_ J J ?_); rotate_left; exact ak af J J J J) | refine aj af 1 J J J J J J J J J J J J ?_ | refine aj af 5 J J J J J J J J J J J J ?_)
   refine b9 [false, true, false, false, false, true] (fun _ => True) aC (by kernel_rfl) J J (fun _ _ => trivial) ?_
   iterate 2 (((refine' gJ J J ?_ J J ?_); rotate_left; first | exact ae af 0 J J J J J | exact ae af 1 J J J J J))
   refine el af 3 J J J J J J J J J J J J (fun w1 hM => ⟨hM.mask [false, true, false, false, false, true] rfl, trivial⟩) ?_
   refine dX af 2 J J J J J J J J J J J J ?_
   repeat' (first | refine ab ?_ | refine az ?_)
   refine aA af (fun t => cond (Nat.beq t 4) 3 2) J J ⟨J, J, trivial⟩ rfl fun w1 hm => ⟨⟨c1, x1, xc1, kv1, o1, oc1, p1, pc1⟩, (none, 0), hc1, rfl, cD (hm.2.get (i := 0) rfl).2.1 hF hm.below, bT⟩
 by_cases hk10 : o.kind = 10
 · have e1 : cG v.c o = (gU v.c) := by unfold cG; rw [if_neg hk0, if_neg hk1, if_neg hk2, if_neg hk3, if_neg hk4, if_neg hk5, if_neg hk6, if_neg hk7, if_neg hk8, if_neg hk9, if_pos hk10]
   have e2 : cc v.c o = qv 0 := by unfold cc; rw [if_neg hk0, if_neg hk1, if_neg hk2, if_neg hk3, if_neg hk4, if_neg hk5, if_neg hk6, if_neg hk7, if_neg hk8]
   rw [e1, e2]
   refine am rfl (by simpa using hk0) ?_
   repeat' (first | refine ai ?_ | refine aa ?_ | refine ab ?_ | refine ag ?_ | ((refine' ap rfl ?_ J J ?_); rotate_left; first | exact ak af J J J J | exact aq af J J J J J J))
   refine am rfl (by simpa using hk1) ?_
   repeat' (first | refine ai ?_ | refine aa ?_ | refine ab ?_ | refine ag ?_ | ((refine' ap rfl ?_ J J ?_); rotate_left; first | exact ak af J J J J | exact aq af J J J J J J))
   refine am rfl (by simpa using hk2) ?_
   repeat' (first | refine ai ?_ | refine aa ?_ | refine ab ?_ | refine ag ?_ | ((refine' ap rfl ?_ J J ?_); rotate_left; first | exact ak af J J J J | exact aq af J J J J J J))
   refine am rfl (by simpa using hk3) ?_
   repeat' (first | refine ai ?_ | refine aa ?_ | refine ab ?_ | refine ag ?_ | ((refine' ap rfl ?_ J J ?_); rotate_left; first | exact ak af J J J J | exact aq af J J J J J J))
   refine am rfl (by simpa using hk4) ?_
   repeat' (first | refine ai ?_ | refine aa ?_ | refine ab ?_ | refine ag ?_ | ((refine' ap rfl ?_ J J ?_); rotate_left; first | exact ak af J J J J | exact aq af J J J J J J))
   refine am rfl (by simpa using hk5) ?_
   repeat' (first | refine ai ?_ | refine aa ?_ | refine ab ?_ | refine ag ?_ | ((refine' ap rfl ?_ J J ?_); rotate_left; first | exact ak af J J J J | exact aq af J J J J J J))
   refine am rfl (by simpa using hk6) ?_
   repeat' (first | refine ai ?_ | refine aa ?_ | refine ab ?_ | refine ag ?_ | ((refine' ap rfl ?_ J J ?_); rotate_left; first | exact ak af J J J J | exact aq af J J J J J J))
   refine am rfl (by simpa using hk7) ?_
   repeat' (first | refine ai ?_ | refine aa ?_ | refine ab ?_ | refine ag ?_ | ((refine' ap rfl ?_ J J ?_); rotate_left; first | exact ak af J J J J | exact aq af J J J J J J))
   refine am rfl (by simpa using hk8) ?_
   repeat' (first | refine ai ?_ | refine aa ?_ | refine ab ?_ | refine ag ?_ | ((refine' ap rfl ?_ J J ?_); rotate_left; first | exact ak af J J J J | exact aq af J J J J J J))
   refine am rfl (by simpa using hk9) ?_
   repeat' (first | refine ai ?_ | refine aa ?_ | refine ab ?_ | refine ag ?_ | ((refine' ap rfl ?_ J J ?_); rotate_left; first | exact ak af J J J J | exact aq af J J J J J J))
   refine aB rfl (by simpa using hk10) ?_
   repeat' (first | refine aa ?_ | ((refine' ap rfl ?_ J J ?_); rotate_left; exact ae af 4 J J J J J))
   refine cY (σ := NV) (fun s F => s.c = (gU v.c) ∧ ∀ b, F b → A b ∨ w.heap.size ≤ b) (fun s => .agg ⟨NC s⟩) (fun s F w => NOk F w s) rfl (av J J J J ⟨J, trivial⟩ rfl (by kernel_rfl)) (fun w1 hm => (n8 v w1 (hN.lt.below hm.below) hz hgd).mono fun e w2 ⟨s, h1, h2, h3⟩ => by obtain ⟨F, h4, h5⟩ := dA hm h3; exact ⟨s, F, ⟨h1, h4⟩, h2, h5⟩) J J ?_
   rintro ⟨c1, x1, xc1, kv1, o1, oc1, p1, pc1⟩ F ⟨hc1, hF⟩
   dsimp only at hc1
   repeat' (first | refine ai ?_ | refine aa ?_ | refine ab ?_ | refine ax ?_ | refine ag ?_ | ((refine' ap rfl ?_ J J ?_); rotate_left; exact ak af J J J J) | refine aj af 1 J J J J J J J J J J J J ?_ | refine aj af 5 J J J J J J J J J J J J ?_)
   refine b9 [false, true, false, false, false, true] (fun _ => True) aC (by kernel_rfl) J J (fun _ _ => trivial) ?_
   iterate 2 (((refine' gJ J J ?_ J J ?_); rotate_left; first | exact ae af 0 J J J J J | exact ae af 1 J J J J J))
   refine el af 3 J J J J J J J J J J J J (fun w1 hM => ⟨hM.mask [false, true, false, false, false, true] rfl, trivial⟩) ?_
   refine dX af 2 J J J J J J J J J J J J ?_
   repeat' (first | refine ab ?_ | refine az ?_)
   refine aA af (fun t => cond (Nat.beq t 4) 3 2) J J ⟨J, J, trivial⟩ rfl fun w1 hm => ⟨⟨c1, x1, xc1, kv1, o1, oc1, p1, pc1⟩, (none, 0), hc1, rfl, cD (hm.2.get (i := 0) rfl).2.1 hF hm.below, bT⟩
 by_cases hk11 : o.kind = 11
 · have e1 : cG v.c o = (fZ v.c o.id) := by unfold cG; rw [if_neg hk0, if_neg hk1, if_neg hk2, if_neg hk3, if_neg hk4, if_neg hk5, if_neg hk6, if_neg hk7, if_neg hk8, if_neg hk9, if_neg hk10, if_pos hk11]
   have e2 : cc v.c o = qv 0 := by unfold cc; rw [if_neg hk0, if_neg hk1, if_neg hk2, if_neg hk3, if_neg hk4, if_neg hk5, if_neg hk6, if_neg hk7, if_neg hk8]
   rw [e1, e2]
   refine am rfl (by simpa using hk0) ?_
   repeat' (first | refine ai ?_ | refine aa ?_ | refine ab ?_ | refine ag ?_ | ((refine' ap rfl ?_ J J ?_); rotate_left; first | exact ak af J J J J | exact aq af J J J J J J))
   refine am rfl (by simpa using hk1) ?_
   repeat' (first | refine ai ?_ | refine aa ?_ | refine ab ?_ | refine ag ?_ | ((refine' ap rfl ?_ J J ?_); rotate_left; first | exact ak af J J J J | exact aq af J J J J J J))
   refine am rfl (by simpa using hk2) ?_
   repeat' (first | refine ai ?_ | refine aa ?_ | refine ab ?_ | refine ag ?_ | ((refine' ap rfl ?_ J J ?_); rotate_left; first | exact ak af J J J J | exact aq af J J J J J J))
   refine am rfl (by simpa using hk3) ?_
   repeat' (first | refine ai ?_ | refine aa ?_ | refine ab ?_ | refine ag ?_ | ((refine' ap rfl ?_ J J ?_); rotate_left; first | exact ak af J J J J | exact aq af J J J J J J))
   refine am rfl (by simpa using hk4) ?_
   repeat' (first | refine ai ?_ | refine aa ?_ | refine ab ?_ | refine ag ?_ | ((refine' ap rfl ?_ J J ?_); rotate_left; first | exact ak af J J J J | exact aq af J J J J J J))
   refine am rfl (by simpa using hk5) ?_
   repeat' (first | refine ai ?_ | refine aa ?_ | refine ab ?_ | refine ag ?_ | ((refine' ap rfl ?_ J J ?_); rotate_left; first | exact ak af J J J J | exact aq af J J J J J J))
   refine am rfl (by simpa using hk6) ?_
   repeat' (first | refine ai ?_ | refine aa ?_ | refine ab ?_ | refine ag ?_ | ((refine' ap rfl ?_ J J ?_); rotate_left; first | exact ak af J J J J | exact aq af J J J J J J))
   refine am rfl (by simpa using hk7) ?_
   repeat' (first | refine ai ?_ | refine aa ?_ | refine ab ?_ | refine ag ?_ | ((refine' ap rfl ?_ J J ?_); rotate_left; first | exact ak af J J J J | exact aq af J J J J J J))
   refine am rfl (by simpa using hk8) ?_
   repeat' (first | refine ai ?_ | refine aa ?_ | refine ab ?_ | refine ag ?_ | ((refine' ap rfl ?_ J J ?_); rotate_left; first | exact ak af J J J J | exact aq af J J J J J J))
   refine am rfl (by simpa using hk9) ?_
   repeat' (first | refine ai ?_ | refine aa ?_ | refine ab ?_ | refine ag ?_ | ((refine' ap rfl ?_ J J ?_); rotate_left; first | exact ak af J J J J | exact aq af J J J J J J))
   refine am rfl (by simpa using hk10) ?_
   repeat' (first | refine ai ?_ | refine aa ?_ | refine ab ?_ | refine ag ?_ | ((refine' ap rfl ?_ J J ?_); rotate_left; first | exact ak af J J J J | exact aq af J J J J J J))
   refine aB rfl (by simpa using hk11) ?_
   repeat' (first | refine aa ?_ | ((refine' ap rfl ?_ J J ?_); rotate_left; first | exact ak af J J J J | exact ae af 3 J J J J J | exact ae af 4 J J J J J))
   refine cY (σ := NV) (fun s F => s.c = (fZ v.c o.id) ∧ ∀ b, F b → A b ∨ w.heap.size ≤ b) (fun s => .agg ⟨NC s⟩) (fun s F w => NOk F w s) rfl (av J J J J ⟨J, J, trivial⟩ rfl (by kernel_rfl)) (fun w1 hm => (vS v o.id w1 (hN.lt.below hm.below) hv (by omega)).mono fun e w2 ⟨s, h1, h2, h3⟩ => by obtain ⟨F, h4, h5⟩ := dA hm h3; exact ⟨s, F, ⟨h1, h4⟩, h2, h5⟩) J J ?_
   rintro ⟨c1, x1, xc1, kv1, o1, oc1, p1, pc1⟩ F ⟨hc1, hF⟩
   dsimp only at hc1
   repeat' (first | refine ai ?_ | refine aa ?_ | refine ab ?_ | refine ax ?_ | refine ag ?_ | ((refine' ap rfl ?_ J J ?_); rotate_left; exact ak af J J J J) | refine aj af 1 J J J J J J J J J J J J ?_ | refine aj af 5 J J J J J J J J J J J J ?_)
   refine b9 [false, true, false, false, false, true] (fun _ => True) aC (by kernel_rfl) J J (fun _ _ => trivial) ?_
   iterate 2 (((refine' gJ J J ?_ J J ?_); rotate_left; first | exact ae af 0 J J J J J | exact ae af 1 J J J J J))
   refine el af 3 J J J J J J J J J J J J (fun w1 hM => ⟨hM.mask [false, true, false, false, false, true] rfl, trivial⟩) ?_
   refine dX af 2 J J J J J J J J J J J J ?_
   repeat' (first | refine ab ?_ | refine az ?_)
   refine aA af (fun t => cond (Nat.beq t 4) 3 2) J J ⟨J, J, trivial⟩ rfl fun w1 hm => ⟨⟨c1, x1, xc1, kv1, o1, oc1, p1, pc1⟩, (none, 0), hc1, rfl, cD (hm.2.get (i := 0) rfl).2.1 hF hm.below, bT⟩
 have e1 : cG v.c o = v.c := by unfold cG; rw [if_neg hk0, if_neg hk1, if_neg hk2, if_neg hk3, if_neg hk4, if_neg hk5, if_neg hk6, if_neg hk7, if_neg hk8, if_neg hk9, if_neg hk10, if_neg hk11]
 have e2 : cc v.c o = qv 0 := by unfold cc; rw [if_neg hk0, if_neg hk1, if_neg hk2, if_neg hk3, if_neg hk4, if_neg hk5, if_neg hk6, if_neg hk7, if_neg hk8]
 rw [e1, e2]
 refine am rfl (by simpa using hk0) ?_
 repeat' (first | refine ai ?_ | refine aa ?_ | refine ab ?_ | refine ag ?_ | ((refine' ap rfl ?_ J J ?_); rotate_left; first | exact ak af J J J J | exact aq af J J J J J J))
 refine am rfl (by simpa using hk1) ?_
 repeat' (first | refine ai ?_ | refine aa ?_ | refine ab ?_ | refine ag ?_ | ((refine' ap rfl ?_ J J ?_); rotate_left; first | exact ak af J J J J | exact aq af J J J J J J))
 refine am rfl (by simpa using hk2) ?_
 repeat' (first | refine ai ?_ | refine aa ?_ | refine ab ?_ | refine ag ?_ | ((refine' ap rfl ?_ J J ?_); rotate_left; first | exact ak af J J J J | exact aq af J J J J J J))
 refine am rfl (by simpa using hk3) ?_
 repeat' (first | refine ai ?_ | refine aa ?_ | refine ab ?_ | refine ag ?_ | ((refine' ap rfl ?_ J J ?_); rotate_left; first | exact ak af J J J J | exact aq af J J J J J J))
 refine am rfl (by simpa using hk4) ?_
 repeat' (first | refine ai ?_ | refine aa ?_ | refine ab ?_ | refine ag ?_ | ((refine' ap rfl ?_ J J ?_); rotate_left; first | exact ak af J J J J | exact aq af J J J J J J))
 refine am rfl (by simpa using hk5) ?_
 repeat' (first | refine ai ?_ | refine aa ?_ | refine ab ?_ | refine ag ?_ | ((refine' ap rfl ?_ J J ?_); rotate_left; first | exact ak af J J J J | exact aq af J J J J J J))
 refine am rfl (by simpa using hk6) ?_
 repeat' (first | refine ai ?_ | refine aa ?_ | refine ab ?_ | refine ag ?_ | ((refine' ap rfl ?_ J J ?_); rotate_left; first | exact ak af J J J J | exact aq af J J J J J J))
 refine am rfl (by simpa using hk7) ?_
 repeat' (first | refine ai ?_ | refine aa ?_ | refine ab ?_ | refine ag ?_ | ((refine' ap rfl ?_ J J ?_); rotate_left; first | exact ak af J J J J | exact aq af J J J J J J))
 refine am rfl (by simpa using hk8) ?_
 repeat' (first | refine ai ?_ | refine aa ?_ | refine ab ?_ | refine ag ?_ | ((refine' ap rfl ?_ J J ?_); rotate_left; first | exact ak af J J J J | exact aq af J J J J J J))
 refine am rfl (by simpa using hk9) ?_
 repeat' (first | refine ai ?_ | refine aa ?_ | refine ab ?_ | refine ag ?_ | ((refine' ap rfl ?_ J J ?_); rotate_left; first | exact ak af J J J J | exact aq af J J J J J J))
 refine am rfl (by simpa using hk10) ?_
 repeat' (first | refine ai ?_ | refine aa ?_ | refine ab ?_ | refine ag ?_ | ((refine' ap rfl ?_ J J ?_); rotate_left; first | exact ak af J J J J | exact aq af J J J J J J))
 refine am rfl (by simpa using hk11) ?_
 repeat' (first | refine ai ?_ | refine aa ?_ | refine ab ?_ | refine ay ?_ | refine ax ?_ | refine ag ?_ | ((refine' ap rfl ?_ J J ?_); rotate_left; exact ak af J J J J) | refine aj af 0 J J J J J J J J J J J J ?_)
 repeat' (first | refine ai ?_ | refine aa ?_ | refine ab ?_ | refine az ?_ | refine ay ?_ | refine aM ?_ | refine bF ?_ | refine ar ?_ | refine aO ?_ | refine ax ?_ | refine aW ?_ | refine aS ?_ | refine cF rfl ?_ | refine ag ?_ | refine bP ?_ | (refine cO ?_; intro g) | ((first | refine' ap rfl ?_ J J ?_ | refine' dJ rfl ?_ J J J ?_); rotate_left; first | exact ak af J J J J | exact aq af J J J J J J | exact bN J J J J J | exact bV J J J J J | exact ae af 0 J J J J J | exact ae af 1 J J J J J | exact ae af 2 J J J J J | exact ae af 3 J J J J J | exact ae af 4 J J J J J | exact ae af 5 J J J J J | exact ae af 6 J J J J J | exact ae af 7 J J J J J | exact ae af 8 J J J J J | exact ff af fN J J J J J J (by kernel_rfl) | exact fW af fN J J J J J J (by kernel_rfl) | exact bo af J J J J J J J | exact fc J J J J J | exact fV J J J J J | exact jn J J J J J J J | exact au af J J trivial J J J | exact au af J J ⟨J, trivial⟩ J J J | exact au af J J ⟨J, J, trivial⟩ J J J | exact au af J J ⟨J, J, J, trivial⟩ J J J | exact au af J J ⟨J, J, J, J, trivial⟩ J J J | exact au af J J ⟨J, J, J, J, J, trivial⟩ J J J | exact au af J J ⟨J, J, J, J, J, J, trivial⟩ J J J | exact au af J J ⟨J, J, J, J, J, J, J, trivial⟩ J J J | exact au af J J ⟨J, J, J, J, J, J, J, J, trivial⟩ J J J) | (refine aR J J J J J J ?_; intro g) | (refine aD af J J J J J J ?_; intro g) | refine ci af J J J J J J ?_ | refine fX J J J J J J ?_ | refine aj af 0 J J J J J J J J J J J J ?_ | refine aj af 1 J J J J J J J J J J J J ?_ | refine aj af 2 J J J J J J J J J J J J ?_ | refine aj af 3 J J J J J J J J J J J J ?_ | refine aj af 4 J J J J J J J J J J J J ?_ | refine aj af 5 J J J J J J J J J J J J ?_ | refine aj af 6 J J J J J J J J J J J J ?_ | refine aj af 7 J J J J J J J J J J J J ?_ | refine aj af 8 J J J J J J J J J J J J ?_)
 repeat' (first | refine ai ?_ | refine aa ?_ | refine ab ?_ | refine az ?_ | refine ay ?_ | refine aM ?_ | refine bF ?_ | refine ar ?_ | refine aO ?_ | refine ax ?_ | refine aW ?_ | refine aS ?_ | refine cF rfl ?_ | refine ag ?_ | refine bP ?_ | (refine cO ?_; intro g) | ((first | refine' ap rfl ?_ J J ?_ | refine' dJ rfl ?_ J J J ?_); rotate_left; first | exact ak af J J J J | exact aq af J J J J J J | exact bN J J J J J | exact bV J J J J J | exact ae af 0 J J J J J | exact ae af 1 J J J J J | exact ae af 2 J J J J J | exact ae af 3 J J J J J | exact ae af 4 J J J J J | exact ff af fN J J J J J J (by kernel_rfl) | exact fW af fN J J J J J J (by kernel_rfl) | exact bo af J J J J J J J | exact fc J J J J J | exact fV J J J J J | exact jn J J J J J J J | exact au af J J trivial J J J | exact au af J J ⟨J, trivial⟩ J J J | exact au af J J ⟨J, J, trivial⟩ J J J | exact au af J J ⟨J, J, J, trivial⟩ J J J | exact au af J J ⟨J, J, J, J, trivial⟩ J J J | exact au af J J ⟨J, J, J, J, J, trivial⟩ J J J | exact au af J J ⟨J, J, J, J, J, J, trivial⟩ J J J | exact au af J J ⟨J, J, J, J, J, J, J, trivial⟩ J J J | exact au af J J ⟨J, J, J, J, J, J, J, J, trivial⟩ J J J) | (refine aR J J J J J J ?_; intro g) | (refine aD af J J J J J J ?_; intro g) | refine ci af J J J J J J ?_ | refine fX J J J J J J ?_ | refine aj af 0 J J J J J J J J J J J J ?_ | refine aj af 1 J J J J J J J J J J J J ?_ | refine aj af 2 J J J J J J J J J J J J ?_ | refine aj af 3 J J J J J J J J J J J J ?_ | refine aj af 4 J J J J J J J J J J J J ?_)
 refine b9 [true, false, false, false, true] (fun _ => True) aC (by kernel_rfl) J J (fun _ _ => trivial) ?_
 iterate 2 (((refine' gJ J J ?_ J J ?_); rotate_left; first | exact ae af 0 J J J J J | exact ae af 1 J J J J J))
 refine el af 2 J J J J J J J J J J J J (fun w1 hM => ⟨hM.mask [true, false, false, false, true] rfl, trivial⟩) ?_
 refine dX af 1 J J J J J J J J J J J J ?_
 repeat' (first | refine ab ?_ | refine az ?_)
 refine aA af (fun t => cond (Nat.beq t 4) 2 1) J J ⟨J, J, trivial⟩ rfl fun w1 hm => ⟨v, (none, 0), rfl, rfl, OutN.same hN hm.below, bT⟩
end Go.Proofs.YthiocbcokfondaaGreatDoor.Y
