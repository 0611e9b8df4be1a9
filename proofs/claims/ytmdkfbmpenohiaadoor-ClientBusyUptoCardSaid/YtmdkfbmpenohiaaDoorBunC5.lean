/- Texts of this claim merged into one: Cl5, Cl6. -/
import Derived.Test.YtmdkfbmpenohiaaDoorCl4
import Derived.Test.YtmdkfbmpenohiaaDoorRegT
/- client.Call. -/
namespace Go.Proofs.YtmdkfbmpenohiaaDoor.Y
open Go.RowKit
theorem rot2 (A T C : List Ent) : (A ++ (T ++ C)).Perm (A ++ (C ++ T)) := List.Perm.append_left A List.perm_append_comm
theorem map_len {l1 l2 : List QV} (h : l1.map (·.q) = l2.map (·.q)) : l1.length = l2.length := by
  have := congrArg List.length h
  simpa using this
theorem SzAll {l1 l2 : List QV} (h : l1.map (·.q) = l2.map (·.q)) (hz : ∀ u ∈ l2, SzQ u.q) : ∀ u ∈ l1, SzQ u.q := fun u hu => by
  have h1 : u.q ∈ l1.map (·.q) := List.mem_map_of_mem hu
  rw [h] at h1
  obtain ⟨u2, h2, h3⟩ := List.mem_map.1 h1
  rw [← h3]; exact hz u2 h2
def Out (A : Nat → Prop) (w w' : World) (v' : CV) : Prop := COk (fun b => A b ∨ w.heap.size ≤ b) w' v' ∧ Below w.heap.size w w'
theorem Out.same {A : Nat → Prop} {w w' : World} {v : CV} (h : COk A w v) (hb : Below w.heap.size w w') : Out A w w' v := ⟨(h.below hb).mono fun _ => .inl, hb⟩
theorem Out.made {A : Nat → Prop} {w w' : World} {v : CV} (h : Mem w w' (EC v)) (he : v.c.qs = v.qv.map (·.q)) : Out A w w' v := ⟨(COk.own h.2 he).mono fun _ => .inr, h.1⟩
theorem freshE {A : Nat → Prop} (v : CV) (q : QV) (e : Int) (w : World) (hC : COk A w v) (hzq : v.qv.length ≤ 703687441776) (hQ : QOk A w q) (hsz : SzQ q.q) (hg : MLen w) (hhd : HdSz q.q.hd) (he : freshL v.c q.q = e) : Calls Tryd.prog 46 #[.agg ⟨[.slice v.b v.c.bs.length v.bc, .int .i64 v.c.ra, .int .i64 v.c.rb, .int .i64 v.c.rc, .int .i64 v.c.rk, .int .i64 v.c.tk, .int .i64 v.c.mo, .int .i64 v.c.gn, .slice v.x v.qv.length v.xc, .int .i64 v.c.nx]⟩, .agg ⟨[.int .i64 q.q.id, .string q.q.sv, .string q.q.mt, .int .i64 q.q.late, .slice q.m q.q.ms.length q.mc, .int .i64 q.q.sh, .slice q.s q.q.mg.length q.sc, .int .i64 q.q.att, .string q.q.bk, .int .i64 q.q.st, .int .i64 q.q.nx, .slice q.a q.q.an.length q.ac, .bool q.q.dn, .int .i64 q.q.cd, .string q.q.tx]⟩] w fun r w' => r = .returned (.int .i64 e) ∧ Below w.heap.size w w' := by subst he; exact fresh_any v q w hC hzq hQ hsz hg hhd
theorem fresh_nx {c : CL} {q : QR} (h : freshL c q = 0) : c.nx ≤ 2147483647 := by
  unfold freshL at h
  split at h
  · omega
  · split at h
    · omega
    · split at h
      · omega
      · split at h <;> omega
set_option maxRecDepth 100000 in
set_option maxHeartbeats 8000000 in
theorem call_any {A : Nat → Prop} (v : CV) (now : Int) (q : QV) (w : World) (hC : COk A w v) (hzq : v.qv.length ≤ 703687441775) (hzb : v.c.bs.length ≤ 2513169434916) (hz : ∀ u ∈ v.qv, SzQ u.q) (hQ : QOk A w q) (hsz : SzQ q.q) (hg : MLen w) (hhd : HdSz q.q.hd) (hnx : 0 ≤ v.c.nx) : Calls Tryd.prog 25 #[.agg #[.slice v.b v.c.bs.length v.bc, .int .i64 v.c.ra, .int .i64 v.c.rb, .int .i64 v.c.rc, .int .i64 v.c.rk, .int .i64 v.c.tk, .int .i64 v.c.mo, .int .i64 v.c.gn, .slice v.x v.qv.length v.xc, .int .i64 v.c.nx], .int .i64 now, .agg #[.int .i64 q.q.id, .string q.q.sv, .string q.q.mt, .int .i64 q.q.late, .slice q.m q.q.ms.length q.mc, .int .i64 q.q.sh, .slice q.s q.q.mg.length q.sc, .int .i64 q.q.att, .string q.q.bk, .int .i64 q.q.st, .int .i64 q.q.nx, .slice q.a q.q.an.length q.ac, .bool q.q.dn, .int .i64 q.q.cd, .string q.q.tx]] w fun e w' => ∃ v' : CV, v'.c = (callL v.c now q.q).1 ∧ e = .returned (.tuple #[.agg ⟨CC v'⟩, .int .i64 (callL v.c now q.q).2.1, .int .i64 (callL v.c now q.q).2.2]) ∧ Out A w w' v' := by
  obtain ⟨ef, hef⟩ : ∃ e, freshL v.c q.q = e := ⟨_, rfl⟩
  refine sx_enter Tryd.func25 rfl Tryd.ntmps25 rfl rfl ?_
  refine sc_seq ?_
  refine sc_region ?_
  (refine sx_box rfl rfl rfl rfl rfl rfl ?_; intro g3)
  (refine sx_box rfl rfl rfl rfl rfl rfl ?_; intro g5)
  (refine sx_alloc tok rfl rfl rfl rfl rfl rfl ?_; intro g6)
  repeat' (first | refine sc_seq ?_ | refine sc_region ?_ | refine sq_then ?_ | refine sx_nil ?_ | ((refine' sx_v rfl ?_ rfl rfl ?_); rotate_left; first | exact vo_un tok rfl rfl rfl rfl | exact vo_bin tok rfl rfl rfl rfl rfl rfl | exact vo_load tok 1 rfl rfl rfl rfl rfl | exact vo_load tok 2 rfl rfl rfl rfl rfl) | refine sx_call rfl (callOp rfl rfl rfl rfl ⟨rfl, rfl, trivial⟩ rfl (by kernel_rfl)) (fun w hm => (freshE v q ef w (hC.below hm.below) (by omega) (hQ.below hm.below) hsz (hg.below hm.below) hhd hef)) rfl rfl ?_)
  by_cases he0 : ef = 0
  · refine sc_false rfl (by simpa using he0) ?_
    have hcl : callL v.c now q.q = ({ v.c with qs := v.c.qs ++ [madeL v.c now q.q], nx := v.c.nx + 1 }, v.c.nx, 0) := by unfold callL; rw [if_neg (by rw [hef]; simpa using he0)]
    have hnx2 : v.c.nx ≤ 2147483647 := fresh_nx (hef.trans he0)
    repeat' (first | refine sc_seq ?_ | refine sc_region ?_ | refine sq_then ?_ | refine sc_skip ?_ | refine sx_nil ?_ | ((refine' sx_v rfl ?_ rfl rfl ?_); rotate_left; first | exact vo_un tok rfl rfl rfl rfl | exact vo_load tok 2 rfl rfl rfl rfl rfl) | refine sx_call rfl (callOp rfl rfl rfl rfl ⟨rfl, trivial⟩ rfl (by kernel_rfl)) (fun w hm => clock_any now w) rfl rfl ?_)
    refine sx_callM (σ := CV) (fun s => s.c = v.c ∧ s.qv.map (·.q) = v.qv.map (·.q)) (fun s => .agg ⟨CC s⟩) EC rfl (callOp rfl rfl rfl rfl ⟨rfl, trivial⟩ rfl (by kernel_rfl)) (fun w1 hm => cloned_any v w1 (hC.below hm.below) hzb (by omega) hz) rfl rfl ?_
    rintro ⟨c1, b1, bc1, x1, xc1, qv1⟩ ⟨hc1, hq1⟩
    dsimp only at hc1 hq1
    subst hc1
    have hln := map_len hq1
    refine sl_conv (fun w hM => hM.perm (rot2 [_, _] _ _)) ?_
    dsimp only [List.cons_append, List.nil_append]
    repeat' (first | refine sc_seq ?_ | refine sc_region ?_ | refine sq_then ?_ | refine sx_nil ?_ | (refine sx_alloc tok rfl rfl rfl rfl rfl rfl ?_; intro g10) | ((refine' sx_v rfl ?_ rfl rfl ?_); rotate_left; exact vo_load tok 4 rfl rfl rfl rfl rfl) | refine sx_store tok 0 rfl rfl rfl rfl rfl rfl rfl rfl rfl rfl rfl rfl ?_)
    refine sx_callM (σ := QV) (fun s => s.q = q.q) (fun s => .agg ⟨QC s⟩) EQ rfl (callOp rfl rfl rfl rfl ⟨rfl, trivial⟩ rfl (by kernel_rfl)) (fun w1 hm => copied_any q w1 (hQ.below hm.below) hsz) rfl rfl ?_
    rintro ⟨qq, m1, mc1, s1, sc1, a1, ac1⟩ hqq
    dsimp only at hqq
    subst hqq
    dsimp only [EQ, List.cons_append, List.nil_append]
    repeat' (first | refine sc_seq ?_ | refine sc_region ?_ | refine sq_then ?_ | refine sx_nil ?_ | ((refine' sx_v rfl ?_ rfl rfl ?_); rotate_left; first | exact vo_un tok rfl rfl rfl rfl | exact vo_load tok 7 rfl rfl rfl rfl rfl | exact vo_load tok 8 rfl rfl rfl rfl rfl) | refine sx_call rfl (callOp rfl rfl rfl rfl ⟨rfl, rfl, trivial⟩ rfl (by kernel_rfl)) (fun w hm => pass_any (⟨{ q.q with id := v.c.nx, nx := clk now }, m1, mc1, s1, sc1, a1, ac1⟩ : QV) (clk now) w) rfl rfl ?_ | refine sx_store tok 7 rfl rfl rfl rfl rfl rfl rfl rfl rfl rfl rfl rfl ?_)
    cases hp : passL (⟨{ q.q with id := v.c.nx, nx := clk now }, m1, mc1, s1, sc1, a1, ac1⟩ : QV).q (clk now) with
    | true =>
      refine sc_true rfl (by first | exact hp | rfl) ?_
      repeat' (first | refine sc_seq ?_ | refine sc_region ?_ | refine sq_then ?_ | refine sx_nil ?_ | (refine sx_bslice tok rfl rfl rfl ⟨rfl, trivial⟩ rfl rfl rfl rfl rfl rfl rfl rfl ?_; intro g) | (refine sx_append tok 5 0 rfl rfl rfl rfl rfl rfl rfl rfl rfl (fun _ _ => rfl) byReq rfl rfl (by unfold maxLen; omega) (by omega) rfl rfl ?_; intro sa sc) | ((refine' sx_v rfl ?_ rfl rfl ?_); rotate_left; first | exact vo_add rfl rfl rfl rfl rfl (by omega) | exact vo_un tok rfl rfl rfl rfl | exact vo_load tok 3 rfl rfl rfl rfl rfl | exact vo_load tok 4 rfl rfl rfl rfl rfl | exact vo_load tok 7 rfl rfl rfl rfl rfl | exact vo_build tok rfl rfl ⟨rfl, trivial⟩ rfl rfl rfl) | refine sx_store tok 4 rfl rfl rfl rfl rfl rfl rfl rfl rfl rfl rfl rfl ?_ | refine sx_store tok 7 rfl rfl rfl rfl rfl rfl rfl rfl rfl rfl rfl rfl ?_)
      refine sc_regionT [true, true, true, true, true, true, true, false] follows_any (by kernel_rfl) ?_
      iterate 3 (((refine' st_v rfl rfl ?_ rfl rfl ?_); rotate_left; first | exact vo_un tok rfl rfl rfl rfl | exact vo_load tok 4 rfl rfl rfl rfl rfl | exact vo_load tok 7 rfl rfl rfl rfl rfl))
      refine st_store tok 7 rfl rfl rfl rfl rfl rfl rfl rfl rfl rfl rfl rfl (fun w h => h.mask [true, true, true, true, true, true, true, false] rfl) ?_
      iterate 2 (((refine' st_v rfl rfl ?_ rfl rfl ?_); rotate_left; exact vo_un tok rfl rfl rfl rfl))
      refine st_nil ?_
      repeat' (first | refine sq_then ?_ | refine sc_ret ?_)
      (refine sq_ret tok (fun _ => 7) rfl rfl ⟨rfl, trivial⟩ rfl fun w1 hm => ⟨⟨{ v.c with qs := v.c.qs ++ [(⟨{ q.q with id := v.c.nx, nx := clk now, dn := true, cd := 3, tx := emptyB }, m1, mc1, s1, sc1, a1, ac1⟩ : QV).q], nx := v.c.nx + 1 }, b1, bc1, sa, sc, qv1 ++ [(⟨{ q.q with id := v.c.nx, nx := clk now, dn := true, cd := 3, tx := emptyB }, m1, mc1, s1, sc1, a1, ac1⟩ : QV)]⟩, ?_, ?_, ?_⟩)
      · rw [hcl]; unfold madeL; rw [if_pos hp]
      · rw [hcl]; simp [CC]
      · refine Out.made ?_ (by simp [hC.eq, hq1])
        have h9 := (hm.mask [false, true, true, true, false, true, true, false, false, false] rfl).perm (rot [_, _, _] [_, _] (qv1.flatMap EQ))
        unfold EC
        simp only [List.flatMap_append, List.flatMap_singleton, List.length_append, List.length_singleton]
        exact h9
    | false =>
      refine sc_false rfl (by first | exact hp | rfl) ?_
      repeat' (first | refine sc_seq ?_ | refine sc_region ?_ | refine sq_then ?_ | refine sc_skip ?_ | refine sx_nil ?_ | (refine sx_bslice tok rfl rfl rfl ⟨rfl, trivial⟩ rfl rfl rfl rfl rfl rfl rfl rfl ?_; intro g) | (refine sx_append tok 5 0 rfl rfl rfl rfl rfl rfl rfl rfl rfl (fun _ _ => rfl) byReq rfl rfl (by unfold maxLen; omega) (by omega) rfl rfl ?_; intro sa sc) | ((refine' sx_v rfl ?_ rfl rfl ?_); rotate_left; first | exact vo_add rfl rfl rfl rfl rfl (by omega) | exact vo_un tok rfl rfl rfl rfl | exact vo_load tok 3 rfl rfl rfl rfl rfl | exact vo_load tok 4 rfl rfl rfl rfl rfl | exact vo_load tok 7 rfl rfl rfl rfl rfl) | refine sx_store tok 4 rfl rfl rfl rfl rfl rfl rfl rfl rfl rfl rfl rfl ?_)
      refine sc_regionT [true, true, true, true, true, true, true, false] follows_any (by kernel_rfl) ?_
      iterate 3 (((refine' st_v rfl rfl ?_ rfl rfl ?_); rotate_left; first | exact vo_un tok rfl rfl rfl rfl | exact vo_load tok 4 rfl rfl rfl rfl rfl | exact vo_load tok 7 rfl rfl rfl rfl rfl))
      refine st_store tok 7 rfl rfl rfl rfl rfl rfl rfl rfl rfl rfl rfl rfl (fun w h => h.mask [true, true, true, true, true, true, true, false] rfl) ?_
      iterate 2 (((refine' st_v rfl rfl ?_ rfl rfl ?_); rotate_left; exact vo_un tok rfl rfl rfl rfl))
      refine st_nil ?_
      repeat' (first | refine sq_then ?_ | refine sc_ret ?_)
      (refine sq_ret tok (fun _ => 7) rfl rfl ⟨rfl, trivial⟩ rfl fun w1 hm => ⟨⟨{ v.c with qs := v.c.qs ++ [(⟨{ q.q with id := v.c.nx, nx := clk now }, m1, mc1, s1, sc1, a1, ac1⟩ : QV).q], nx := v.c.nx + 1 }, b1, bc1, sa, sc, qv1 ++ [(⟨{ q.q with id := v.c.nx, nx := clk now }, m1, mc1, s1, sc1, a1, ac1⟩ : QV)]⟩, ?_, ?_, ?_⟩)
      · rw [hcl]; unfold madeL; rw [if_neg (by rw [hp]; decide)]
      · rw [hcl]; simp [CC]
      · refine Out.made ?_ (by simp [hC.eq, hq1])
        have h9 := (hm.mask [false, true, true, true, false, true, true, false, false, false] rfl).perm (rot [_, _, _] [_, _] (qv1.flatMap EQ))
        unfold EC
        simp only [List.flatMap_append, List.flatMap_singleton, List.length_append, List.length_singleton]
        exact h9
  · refine sc_true rfl (by simpa using he0) ?_
    have hcl : callL v.c now q.q = (v.c, 0, ef) := by unfold callL; rw [if_pos (by rw [hef]; exact he0), hef]
    repeat' (first | refine sc_seq ?_ | refine sc_region ?_ | refine sq_then ?_ | refine sc_ret ?_ | refine sq_pass_ret ?_ | refine sx_nil ?_ | ((refine' sx_v rfl ?_ rfl rfl ?_); rotate_left; first | exact vo_un tok rfl rfl rfl rfl | exact vo_load tok 2 rfl rfl rfl rfl rfl) | refine sx_store tok 0 rfl rfl rfl rfl rfl rfl rfl rfl rfl rfl rfl rfl ?_)
    (refine sq_ret tok (fun _ => 0) rfl rfl ⟨rfl, trivial⟩ rfl fun w1 hm => ⟨v, ?_, ?_, Out.same hC hm.below⟩)
    · rw [hcl]
    · rw [hcl]; rfl
end Go.Proofs.YtmdkfbmpenohiaaDoor.Y

/- client.New, stop. -/
namespace Go.Proofs.YtmdkfbmpenohiaaDoor.Y
open Go.RowKit
def zCV : CV := ⟨zCli, none, 0, none, 0, []⟩
theorem zero_ok {A : Nat → Prop} {w w' : World} (hb : Below w.heap.size w w') : Out A w w' zCV := ⟨⟨fun h => absurd h (Nat.lt_irrefl _), fun h => absurd h (Nat.lt_irrefl _), rfl, fun _ hq => by cases hq⟩, hb⟩
theorem chkBE {A : Nat → Prop} (x : Option Addr) (l : List BV) (cap : Nat) (e : Int) (w : World) (hR : Rws A w 6 bC x l) (hlen : l.length ≤ 2513169434916) (he : chkB l = e) : Calls Tryd.prog 26 #[.slice x l.length cap] w fun r w' => r = .returned (.int .i64 e) ∧ Below w.heap.size w w' := by subst he; exact chkB_any x l cap w hR hlen
set_option maxRecDepth 100000 in
set_option maxHeartbeats 8000000 in
theorem new_any {A : Nat → Prop} (x : Option Addr) (l : List BV) (cap : Nat) (a b c k t m g1 : Int) (w : World) (hR : Rws A w 6 bC x l) (hlen : l.length ≤ 2513169434916) : Calls Tryd.prog 14 #[.slice x l.length cap, .agg #[.int .i64 a, .int .i64 b, .int .i64 c, .int .i64 k], .agg #[.int .i64 t, .int .i64 m, .int .i64 g1]] w fun e w' => ∃ v' : CV, v'.c = (newL l a b c k t m g1).1 ∧ v'.qv = [] ∧ e = .returned (.tuple #[.agg ⟨CC v'⟩, .int .i64 (newL l a b c k t m g1).2]) ∧ Out A w w' v' := by
  obtain ⟨e1, h1⟩ : ∃ e, chkB l = e := ⟨_, rfl⟩
  obtain ⟨e2, h2⟩ : ∃ e, rchk a b c k = e := ⟨_, rfl⟩
  obtain ⟨e3, h3⟩ : ∃ e, bchk t m g1 = e := ⟨_, rfl⟩
  refine sx_enter Tryd.func14 rfl Tryd.ntmps14 rfl rfl ?_
  refine sc_seq ?_
  refine sc_region ?_
  (refine sx_box rfl rfl rfl rfl rfl rfl ?_; intro g4)
  (refine sx_box rfl rfl rfl rfl rfl rfl ?_; intro g5)
  (refine sx_alloc tok rfl rfl rfl rfl rfl rfl ?_; intro g6)
  repeat' (first | refine sc_seq ?_ | refine sc_region ?_ | refine sq_then ?_ | refine sx_nil ?_ | ((refine' sx_v rfl ?_ rfl rfl ?_); rotate_left; first | exact vo_un tok rfl rfl rfl rfl | exact vo_bin tok rfl rfl rfl rfl rfl rfl) | refine sx_call rfl (callOp rfl rfl rfl rfl ⟨rfl, trivial⟩ rfl (by kernel_rfl)) (fun w hm => chkBE x l cap e1 w (hR.below hm.below) hlen h1) rfl rfl ?_)
  by_cases hz1 : e1 = 0
  · refine sc_false rfl (by simpa using hz1) ?_
    repeat' (first | refine sc_seq ?_ | refine sc_region ?_ | refine sq_then ?_ | refine sc_skip ?_ | refine sx_nil ?_ | ((refine' sx_v rfl ?_ rfl rfl ?_); rotate_left; first | exact vo_un tok rfl rfl rfl rfl | exact vo_bin tok rfl rfl rfl rfl rfl rfl | exact vo_len tok rfl rfl rfl rfl rfl rfl rfl))
    by_cases hz0 : l.length = 0
    · have hn : newL l a b c k t m g1 = (zCli, 1) := by unfold newL; rw [h1, if_neg (by simpa using hz1), if_pos hz0]
      refine sc_true rfl (by rw [hz0]; rfl) ?_
      repeat' (first | refine sc_seq ?_ | refine sc_region ?_ | refine sq_then ?_ | refine sc_ret ?_ | refine sq_pass_ret ?_ | refine sx_nil ?_ | ((refine' sx_v rfl ?_ rfl rfl ?_); rotate_left; first | exact vo_un tok rfl rfl rfl rfl | exact vo_build tok rfl rfl trivial rfl rfl rfl) | refine sx_store tok 0 rfl rfl rfl rfl rfl rfl rfl rfl rfl rfl rfl rfl ?_)
      (refine sq_ret tok (fun _ => 0) rfl rfl ⟨rfl, trivial⟩ rfl fun w1 hm => ⟨zCV, ?_, rfl, ?_, zero_ok hm.below⟩)
      · rw [hn]; rfl
      · rw [hn]; rfl
    · refine sc_false rfl (by simp only [beq_eq_false_iff_ne]; omega) ?_
      repeat' (first | refine sc_seq ?_ | refine sc_region ?_ | refine sq_then ?_ | refine sc_skip ?_ | refine sx_nil ?_ | ((refine' sx_v rfl ?_ rfl rfl ?_); rotate_left; first | exact vo_un tok rfl rfl rfl rfl | exact vo_bin tok rfl rfl rfl rfl rfl rfl | exact vo_load tok 2 rfl rfl rfl rfl rfl) | refine sx_call rfl (callOp rfl rfl rfl rfl ⟨rfl, trivial⟩ rfl (by kernel_rfl)) (fun w hm => rchkE_any a b c k e2 h2 w) rfl rfl ?_)
      by_cases hz2 : e2 = 0
      · refine sc_false rfl (by simpa using hz2) ?_
        repeat' (first | refine sc_seq ?_ | refine sc_region ?_ | refine sq_then ?_ | refine sc_skip ?_ | refine sx_nil ?_ | ((refine' sx_v rfl ?_ rfl rfl ?_); rotate_left; first | exact vo_un tok rfl rfl rfl rfl | exact vo_bin tok rfl rfl rfl rfl rfl rfl | exact vo_load tok 1 rfl rfl rfl rfl rfl) | refine sx_call rfl (callOp rfl rfl rfl rfl ⟨rfl, trivial⟩ rfl (by kernel_rfl)) (fun w hm => bchkE_any t m g1 e3 h3 w) rfl rfl ?_)
        by_cases hz3 : e3 = 0
        · refine sc_false rfl (by simpa using hz3) ?_
          have hn : newL l a b c k t m g1 = (⟨l, a, b, c, k, t, m, g1, [], 1⟩, 0) := by unfold newL; rw [h1, if_neg (by simpa using hz1), if_neg hz0, h2, if_neg (by simpa using hz2), h3, if_neg (by simpa using hz3)]
          repeat' (first | refine sc_seq ?_ | refine sq_then ?_ | refine sc_skip ?_)
          refine sc_regionXK 4 [34] follows_any rfl (by kernel_rfl) ?_
          ((refine' srx_v rfl ?_ rfl rfl ?_); rotate_left; exact vo_un tok rfl rfl rfl rfl)
          refine srx_callE (σ := Option Addr × Nat) (fun _ => True) (fun s => .slice s.1 l.length s.2) (fun s => [.own s.1 s.2 66 6 l.length (l.flatMap bC)]) rfl (callOp rfl rfl rfl rfl ⟨rfl, trivial⟩ rfl (by kernel_rfl)) (fun w hm => (cloneBackR x l cap w (hR.below hm.below) (by omega)).mono fun e w1 h => own_ex h) rfl rfl rfl rfl ?_
          iterate 2 (((refine' srx_v rfl ?_ rfl rfl ?_); rotate_left; first | exact vo_load tok 1 rfl rfl rfl rfl rfl | exact vo_load tok 2 rfl rfl rfl rfl rfl))
          refine srx_nil ?_
          rintro ⟨pa, pc⟩ -
          dsimp only [List.cons_append, List.nil_append]
          repeat' (first | refine sq_then ?_ | refine sc_ret ?_ | refine sx_nil ?_ | ((refine' sx_v rfl ?_ rfl rfl ?_); rotate_left; first | exact vo_un tok rfl rfl rfl rfl | exact vo_build tok rfl rfl ⟨rfl, rfl, rfl, rfl, trivial⟩ rfl rfl rfl) | refine sx_store tok 1 rfl rfl rfl rfl rfl rfl rfl rfl rfl rfl rfl rfl ?_)
          (refine sq_ret tok (fun _ => 1) rfl rfl ⟨rfl, trivial⟩ rfl fun w1 hm => ⟨⟨(newL l a b c k t m g1).1, pa, pc, none, 0, []⟩, rfl, rfl, ?_, ?_⟩)
          · rw [hn]; rfl
          · refine Out.made ?_ (by rw [hn]; rfl)
            rw [hn]
            have h9 := mem_nil w 37 15 (hm.mask [true, false, false, false] rfl)
            exact h9
        · have hn : newL l a b c k t m g1 = (zCli, e3) := by unfold newL; rw [h1, if_neg (by simpa using hz1), if_neg hz0, h2, if_neg (by simpa using hz2), h3, if_pos hz3]
          refine sc_true rfl (by simpa using hz3) ?_
          repeat' (first | refine sc_seq ?_ | refine sc_region ?_ | refine sq_then ?_ | refine sc_ret ?_ | refine sq_pass_ret ?_ | refine sx_nil ?_ | ((refine' sx_v rfl ?_ rfl rfl ?_); rotate_left; first | exact vo_un tok rfl rfl rfl rfl | exact vo_build tok rfl rfl trivial rfl rfl rfl) | refine sx_store tok 0 rfl rfl rfl rfl rfl rfl rfl rfl rfl rfl rfl rfl ?_)
          (refine sq_ret tok (fun _ => 0) rfl rfl ⟨rfl, trivial⟩ rfl fun w1 hm => ⟨zCV, ?_, rfl, ?_, zero_ok hm.below⟩)
          · rw [hn]; rfl
          · rw [hn]; rfl
      · have hn : newL l a b c k t m g1 = (zCli, e2) := by unfold newL; rw [h1, if_neg (by simpa using hz1), if_neg hz0, h2, if_pos hz2]
        refine sc_true rfl (by simpa using hz2) ?_
        repeat' (first | refine sc_seq ?_ | refine sc_region ?_ | refine sq_then ?_ | refine sc_ret ?_ | refine sq_pass_ret ?_ | refine sx_nil ?_ | ((refine' sx_v rfl ?_ rfl rfl ?_); rotate_left; first | exact vo_un tok rfl rfl rfl rfl | exact vo_build tok rfl rfl trivial rfl rfl rfl) | refine sx_store tok 0 rfl rfl rfl rfl rfl rfl rfl rfl rfl rfl rfl rfl ?_)
        (refine sq_ret tok (fun _ => 0) rfl rfl ⟨rfl, trivial⟩ rfl fun w1 hm => ⟨zCV, ?_, rfl, ?_, zero_ok hm.below⟩)
        · rw [hn]; rfl
        · rw [hn]; rfl
  · have hn : newL l a b c k t m g1 = (zCli, e1) := by unfold newL; rw [h1, if_pos hz1]
    refine sc_true rfl (by simpa using hz1) ?_
    repeat' (first | refine sc_seq ?_ | refine sc_region ?_ | refine sq_then ?_ | refine sc_ret ?_ | refine sq_pass_ret ?_ | refine sx_nil ?_ | ((refine' sx_v rfl ?_ rfl rfl ?_); rotate_left; first | exact vo_un tok rfl rfl rfl rfl | exact vo_build tok rfl rfl trivial rfl rfl rfl) | refine sx_store tok 0 rfl rfl rfl rfl rfl rfl rfl rfl rfl rfl rfl rfl ?_)
    (refine sq_ret tok (fun _ => 0) rfl rfl ⟨rfl, trivial⟩ rfl fun w1 hm => ⟨zCV, ?_, rfl, ?_, zero_ok hm.below⟩)
    · rw [hn]; rfl
    · rw [hn]; rfl
end Go.Proofs.YtmdkfbmpenohiaaDoor.Y
