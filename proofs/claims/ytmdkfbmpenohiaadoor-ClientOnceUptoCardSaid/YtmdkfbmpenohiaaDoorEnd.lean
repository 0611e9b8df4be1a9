/- ends, and calls of the package in a plain region. -/
import Derived.Test.YtmdkfbmpenohiaaDoorBud
namespace Go.Proofs.YtmdkfbmpenohiaaDoor.Y
open Go.RowKit
theorem ends_no {q p : QR} (h : q.dn = true → p = q) : (!true || (q.dn && (!p.dn || !((p.cd == q.cd) && ((p.tx.toList == q.tx.toList) && true)) || (p.att != q.att) || ((p.an.length : Int) != (q.an.length : Int))))) = false := by
  cases hd : q.dn with
  | false => rfl
  | true =>
    have h1 := h hd
    subst h1
    rw [hd]
    simp
set_option maxRecDepth 100000 in
set_option maxHeartbeats 16000000 in
theorem ends_any {A B : Nat → Prop} (v d : CV) (w : World) (hC : COk A w v) (hD : COk B w d) (hzv : v.qv.length ≤ 703687441776) (hzd : d.qv.length ≤ 703687441776) (hz : ∀ u ∈ d.qv, SzQ u.q) (hV : VC d.c) (hK : Keeps v.c d.c) : Calls Tryd.prog 16 #[.agg #[.slice v.b v.c.bs.length v.bc, .int .i64 v.c.ra, .int .i64 v.c.rb, .int .i64 v.c.rc, .int .i64 v.c.rk, .int .i64 v.c.tk, .int .i64 v.c.mo, .int .i64 v.c.gn, .slice v.x v.qv.length v.xc, .int .i64 v.c.nx], .agg #[.slice d.b d.c.bs.length d.bc, .int .i64 d.c.ra, .int .i64 d.c.rb, .int .i64 d.c.rc, .int .i64 d.c.rk, .int .i64 d.c.tk, .int .i64 d.c.mo, .int .i64 d.c.gn, .slice d.x d.qv.length d.xc, .int .i64 d.c.nx]] w fun e w' => e = .returned (.bool true) ∧ Below w.heap.size w w' := by
  refine sx_enter Tryd.func16 rfl Tryd.ntmps16 rfl rfl ?_
  refine sc_seq ?_
  refine sc_region ?_
  (refine sx_box rfl rfl rfl rfl rfl rfl ?_; intro g2)
  (refine sx_box rfl rfl rfl rfl rfl rfl ?_; intro g3)
  repeat' (first | refine sc_seq ?_ | refine sc_region ?_ | refine sq_then ?_ | refine sc_block ?_ | refine sx_nil ?_ | ((refine' sx_v rfl ?_ rfl rfl ?_); rotate_left; first | exact vo_un tok rfl rfl rfl rfl | exact vo_load tok 1 rfl rfl rfl rfl rfl | exact vo_len tok rfl rfl rfl rfl rfl rfl rfl))
  refine sc_loop (σ := Nat × Unit) (fun p => p.1 ≤ v.qv.length) (fun p => [(12, [], .int .i64 ((p.1 : Nat) : Int)), (11, [], .int .i64 ((v.qv.length : Nat) : Int)), (10, [], .slice v.x v.qv.length v.xc), (2, [], .pointer (some ⟨g2, 0, none⟩)), (3, [], .pointer (some ⟨g3, 0, none⟩))]) (fun _ => [.cl g3 29 (CC d), .cl g2 29 (CC v)]) (fun p => v.qv.length - p.1) (0, ()) [] (Nat.zero_le _) ⟨rfl, rfl, rfl, rfl, rfl, trivial⟩ rfl ?_
  rintro ⟨j, ⟨⟩⟩ hj0
  dsimp only at hj0 ⊢
  by_cases hj : j < v.qv.length
  · obtain ⟨u, hu⟩ : ∃ u, v.qv[j]? = some u := ⟨_, List.getElem?_eq_getElem hj⟩
    obtain ⟨bb, off, hx, _, _, hrows⟩ := hC.qs (by omega)
    have hrow : w.rangeAt bb (off + j * 15) (QC u) := hrows j u hu
    have huq : u.q ∈ v.c.qs := by rw [hC.eq]; exact List.mem_map_of_mem (List.mem_of_getElem? hu)
    obtain ⟨p, hf, hp, hpk⟩ := hK.find hV huq
    repeat' (first | refine sc_seq ?_ | refine sc_region ?_ | refine sq_then ?_ | refine sx_nil ?_ | ((refine' sx_v rfl ?_ rfl rfl ?_); rotate_left; exact vo_bin tok rfl rfl rfl rfl rfl rfl))
    refine sc_true rfl (by simp; omega) ?_
    repeat' (first | refine sc_seq ?_ | refine sc_region ?_ | refine sq_then ?_ | refine sc_skip ?_ | refine sc_block ?_ | refine sx_nil ?_ | (refine sx_alloc tok rfl rfl rfl rfl rfl rfl ?_; intro g6) | ((refine' sx_v rfl ?_ rfl rfl ?_); rotate_left; first | exact vo_ixaH tok (m := 15) j rfl hx rfl rfl rfl rfl rfl rfl rfl (fun _ => rfl) (fun _ => hj) | exact vo_oldrowC tok (cs := QC u) rfl rfl rfl rfl rfl (fun _ => hrow) | exact vo_un tok rfl rfl rfl rfl | exact vo_load tok 0 rfl rfl rfl rfl rfl | exact vo_load tok 1 rfl rfl rfl rfl rfl) | refine sx_store tok 0 rfl rfl rfl rfl rfl rfl rfl rfl rfl rfl rfl rfl ?_)
    refine sx_callM (σ := QV) (fun s => s.q = p) (fun s => .tuple ⟨[.agg ⟨QC s⟩, .bool true]⟩) EQ rfl (callOp rfl rfl rfl rfl ⟨rfl, rfl, trivial⟩ rfl (by kernel_rfl)) (fun w1 hm => (findC_any d u.q.id w1 (hD.below hm.below) hzd hz).mono fun e w2 ⟨v', h1, h2, h3⟩ => ⟨v', by rw [h1, hf], by rw [h2, hf], h3⟩) rfl rfl ?_
    rintro ⟨q1, m1, mc1, s1, sc1, a1, ac1⟩ h1
    dsimp only at h1
    subst h1
    dsimp only [EQ, List.cons_append, List.nil_append]
    repeat' (first | refine sc_seq ?_ | refine sc_region ?_ | refine sq_then ?_ | refine sx_nil ?_ | (refine sx_alloc tok rfl rfl rfl rfl rfl rfl ?_; intro g7) | ((refine' sx_v rfl ?_ rfl rfl ?_); rotate_left; first | exact vo_un tok rfl rfl rfl rfl | exact vo_bin tok rfl rfl rfl rfl rfl rfl | exact vo_or rfl rfl rfl rfl rfl | exact vo_and rfl rfl rfl rfl rfl | exact vo_load tok 0 rfl rfl rfl rfl rfl | exact vo_load tok 4 rfl rfl rfl rfl rfl | exact vo_nes tok eqOK rfl rfl rfl rfl rfl rfl (by kernel_rfl) | exact vo_len tok rfl rfl rfl rfl rfl rfl rfl) | refine sx_store tok 0 rfl rfl rfl rfl rfl rfl rfl rfl rfl rfl rfl rfl ?_)
    refine sc_false rfl (ends_no hpk) ?_
    repeat' (first | refine sc_region ?_ | refine sq_then ?_ | refine sc_skip ?_ | refine sq_blk_normal ?_ | refine sx_nil ?_ | ((refine' sx_v rfl ?_ rfl rfl ?_); rotate_left; first | exact vo_add rfl rfl rfl rfl rfl (by omega) | exact vo_un tok rfl rfl rfl rfl))
    refine sq_again (j + 1, ()) [false, false, false, false, false, true, true] hj (show v.qv.length - (j + 1) < v.qv.length - j by omega) ⟨rfl, rfl, rfl, rfl, rfl, trivial⟩ rfl
  · have hjl : j = v.qv.length := by omega
    repeat' (first | refine sc_seq ?_ | refine sc_region ?_ | refine sq_then ?_ | refine sx_nil ?_ | ((refine' sx_v rfl ?_ rfl rfl ?_); rotate_left; exact vo_bin tok rfl rfl rfl rfl rfl rfl))
    refine sc_false rfl (by simp; omega) ?_
    repeat' (first | refine sc_seq ?_ | refine sc_region ?_ | refine sq_then ?_ | refine sc_ret ?_ | refine sc_exit ?_ | refine sq_pass_exit ?_ | refine sq_blk_hit ?_ | refine sx_nil ?_ | ((refine' sx_v rfl ?_ rfl rfl ?_); rotate_left; exact vo_un tok rfl rfl rfl rfl))
    refine sq_ret tok (fun _ => 0) rfl rfl trivial rfl fun w hm => ⟨?_, hm.below⟩
    rfl
theorem LI.mv {b : BG} {i : Nat} {c d : CL} {l : List QR} (h : LI b i c) (hm : Mv c 0 l d) : LI b i d := by
  have hp := hm.pol
  exact ⟨hm.ok h.ok, hm.sz h.sz, hp.1.trans h.ra, hp.2.2.2.2.1.trans h.mo, hp.2.2.2.2.2.1.trans h.gn⟩
theorem LI.bs {b : BG} {i : Nat} {c : CL} (h : LI b i c) : c.bs.length ≤ 2513169434916 ∧ (∀ x ∈ c.bs, bOk x = true) ∧ (∀ q ∈ c.qs, 0 ≤ q.att ∧ q.att ≤ 1000000000) := by
  have h1 := chkB_ok h.ok.cb
  refine ⟨by omega, fun x hx => (h1.2 x hx).1, fun q hq => ?_⟩
  have h2 := (h.ok.qs q hq).att
  have h3 := rchk_rng h.ok.re
  omega
section
variable {w w1 : World} {M : List Ent} {F : Nat → Prop} {k : Nat} {b : BG} {i : Nat}
theorem end_out (v : CV) (id : Int) (hm : Mem w w1 M) (hC : COk F w1 v) (hF : ∀ b, F b → ∀ f ∈ M, ¬ f.mut b) (hL : LI b i v.c) (hi : i ≤ 1000) : Calls Tryd.prog 17 #[.agg #[.slice v.b v.c.bs.length v.bc, .int .i64 v.c.ra, .int .i64 v.c.rb, .int .i64 v.c.rc, .int .i64 v.c.rk, .int .i64 v.c.tk, .int .i64 v.c.mo, .int .i64 v.c.gn, .slice v.x v.qv.length v.xc, .int .i64 v.c.nx], .int .i64 1099511627776, .int .i64 id, .agg #[.int .i64 12, .string ⟨#[]⟩], .bool true] w1 fun e w' => ∃ s : CV, ∃ F' : Nat → Prop, s.c = (endX v.c id).1 ∧ e = .returned (.tuple ⟨[.agg ⟨CC s⟩, .int .i64 (endX v.c id).2]⟩) ∧ Mem w w' (.rep F' (fun w => COk F' w s) :: M) := by
  obtain ⟨h1, h2, h3⟩ := hL.bs
  have h4 := hL.lq hi
  exact (endC_any2 (A := F) v 1099511627776 id 12 ⟨#[]⟩ true w1 hC (by rw [← hC.lenq]; omega) h1 (szq_of hC (hL.zz hi)) h2 (show 0 ≤ 4611686018427387900 by decide) (fun q hq => by have := h3 q hq; omega)).mono fun e w2 ⟨v', g1, g2, g3⟩ => ⟨v', _, g1, g2, Mem.out hm (A := F) hF g3.2 (fun F w => COk F w v') g3.1.lt (fun F w3 w4 hk h => h.agree hk)⟩
theorem exp_out (v : CV) (hm : Mem w w1 M) (hC : COk F w1 v) (hF : ∀ b, F b → ∀ f ∈ M, ¬ f.mut b) (hL : LI b i v.c) (hi : i ≤ 1000) : Calls Tryd.prog 18 #[.agg #[.slice v.b v.c.bs.length v.bc, .int .i64 v.c.ra, .int .i64 v.c.rb, .int .i64 v.c.rc, .int .i64 v.c.rk, .int .i64 v.c.tk, .int .i64 v.c.mo, .int .i64 v.c.gn, .slice v.x v.qv.length v.xc, .int .i64 v.c.nx], .int .i64 1099511627776] w1 fun e w' => ∃ s : CV × (Option Addr × Nat), ∃ F' : Nat → Prop, s.1.c = (expiL v.c 1099511627776).1 ∧ e = .returned (.tuple ⟨[.agg ⟨CC s.1⟩, .slice s.2.1 (expiL v.c 1099511627776).2.length s.2.2]⟩) ∧ Mem w w' (.rep F' (fun w => COk F' w s.1) :: M) := by
  obtain ⟨h1, h2, h3⟩ := hL.bs
  have h4 := hL.lq hi
  exact (expi_any (A := F) v 1099511627776 w1 hC (by rw [← hC.lenq]; omega) h1 (szq_of hC (hL.zz hi)) h2).mono fun e w2 ⟨s, g1, g2, g3, g4⟩ => ⟨s, _, g1, g2, Mem.out hm (A := F) hF g3.2 (fun F w => COk F w s.1) g3.1.lt (fun F w3 w4 hk h => h.agree hk)⟩
theorem sta_out (v : CV) (hm : Mem w w1 M) (hC : COk F w1 v) (hF : ∀ b, F b → ∀ f ∈ M, ¬ f.mut b) (hL : LI b i v.c) (hi : i ≤ 1000) : Calls Tryd.prog 19 #[.agg #[.slice v.b v.c.bs.length v.bc, .int .i64 v.c.ra, .int .i64 v.c.rb, .int .i64 v.c.rc, .int .i64 v.c.rk, .int .i64 v.c.tk, .int .i64 v.c.mo, .int .i64 v.c.gn, .slice v.x v.qv.length v.xc, .int .i64 v.c.nx], .int .i64 1099511627776] w1 fun e w' => ∃ s : CV × List QV × (Option Addr × Nat), ∃ F' : Nat → Prop, (s.1.c = (startL v.c 1099511627776).1 ∧ s.2.1.map (·.q) = (startL v.c 1099511627776).2) ∧ e = .returned (.tuple ⟨[.agg ⟨CC s.1⟩, .slice s.2.2.1 s.2.1.length s.2.2.2]⟩) ∧ Mem w w' (.rep F' (fun w => SOk F' w s) :: M) := by
  obtain ⟨h1, h2, h3⟩ := hL.bs
  have h4 := hL.lq hi
  exact (start_any (A := F) v 1099511627776 w1 hC (by rw [← hC.lenq]; omega) h1 (szq_of hC (hL.zz hi)) h2 h3).mono fun e w2 ⟨s, ⟨g0, g1⟩, g2, g3, g4, g5⟩ => ⟨s, _, ⟨g0, g1⟩, g2, Mem.out hm (A := F) hF g3.2 (fun F w => SOk F w s) ⟨g3.1.lt, (g4.mono fun _ => .inr).lt, fun q hq => ((g5 q hq).mono fun _ => .inr).lt⟩ (fun F w3 w4 hk h => h.agree hk)⟩
end
/-- the same fact twice. -/
theorem Mem.repDup {w0 w : World} {M : List Ent} {F : Nat → Prop} {p p' : World → Prop} (h : Mem w0 w (.rep F p :: M)) (h1 : ∀ w, p w → p' w) (h2 : ∀ w1 w2, (∀ k, F k → w2.heap[k]? = w1.heap[k]?) → p' w1 → p' w2) : Mem w0 w (.rep F p' :: .rep F p :: M) := by
  refine ⟨h.1, ⟨h.2.1.1, h1 _ h.2.1.2.1, h2⟩, fun f hf => ?_, h.2⟩
  rcases List.mem_cons.1 hf with rfl | hf
  · exact fun k => ⟨fun hk => hk.elim, fun hk => hk.elim⟩
  · exact h.2.2.1 f hf
end Go.Proofs.YtmdkfbmpenohiaaDoor.Y
