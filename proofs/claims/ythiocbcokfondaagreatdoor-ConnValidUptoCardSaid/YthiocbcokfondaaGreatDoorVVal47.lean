/- The law ConnValid, walked. -/
import Derived.Test.YthiocbcokfondaaGreatDoorVBunX
namespace Go.Proofs.YthiocbcokfondaaGreatDoor.Y
open Go.RowKit
section
variable {P : Program} {l0 rest : List Oper} {Q : Exit → Act → World → Prop} {n : Nat} {w0 : World} {S : br} {M : List Ent} {L : Cd} {o : Oper} {d : Nat}
theorem qj (t : Nat) {v : Value} (hl : lk t S = some (L, v)) (hL : aG L = true) (h : SL P l0 Q rest n w0 ((t, [], v) :: S) M) : SL P l0 Q rest n w0 S M := ⟨fun a w h1 h2 => h.run a w (h1.know hl hL) h2⟩
theorem k5 {T : dG} (hT : TOK P T) {t e : TypeId} {len : Nat} {parts : List (Nat × Operand)} {z : Value} {td : TD} {Ls : List Cd} {vs cs : List Value} (h1 : o.op = .buildSlice t len parts.toArray) (hg : gd l0 S o.guard = some L) (hL : aG L = true)
    (h2 : qn S (parts.map (·.2)) = some (Ls, vs)) (h3 : lg [] Ls) (h4 : lk t T = some (.slc e z)) (h5 : lk e T = some td) (h6 : kg td.size vs = some cs) (h7 : oB (parts.map (·.1)) 0 = true) (h8 : Nat.beq parts.length len = true) (h10 : Nat.ble (len * td.size) 16777216 = true)
    (hd : o.dst = some d) (hn : Nat.blt d n = true) (h : ∀ g, SL P l0 Q rest n w0 ((d, [], .slice (some ⟨g, 0, none⟩) len len) :: S) (.cl g e cs :: M)) : SL P l0 Q (o :: rest) n w0 S M := by
  have hdn : d < n := Nat.le_of_ble_eq_true hn
  refine cE hg (fun _ a w hS hM => ?_) (fun h => by rw [hL] at h; cases h)
  refine bF (ii hT h1 h2 h3 h4 h5 h6 h7 h8 h10 hS) ((h _).run _ _ ?_ (hM.new e cs))
  rw [hd]; exact hS.put hdn (by simp [aG])
end
def vq (u : KV) (x : Option Addr) : NV := ⟨{ xJ with ks := [u.k] }, x, 1, [u], none, 0, none, 0⟩
theorem qk {A : Nat → Prop} {w : World} {u : KV} {x : Option Addr} (h1 : Rws A w 22 KC x [u]) (h2 : KOk A w u) : NOk A w (vq u x) := ⟨h1, dr, dr, rfl, fun q hq => by obtain rfl := List.mem_singleton.1 hq; exact h2⟩
theorem vt {u : KV} {x : Option Addr} (h : wt u.k) : pS (vq u x) := ⟨(show 1 ≤ 606626243774 by decide), (show 0 ≤ 3518437208882 by decide), (show 0 ≤ 17592186044415 by decide), fun q hq => by obtain rfl := List.mem_singleton.1 hq; exact h⟩
attribute [local irreducible] Calls
theorem yq {A : Nat → Prop} (v : NV) (w : World) (hN : NOk A w v) (hz : pS v) (hgd : vf v) (hzv : xj v) : Calls Tryz.prog 9 #[.agg #[.int .i64 v.c.sd, .int .i64 v.c.nx, .int .i64 v.c.la, .int .i64 v.c.aw, .int .i64 v.c.sz, .int .i64 v.c.sw.size, .int .i64 v.c.sw.left, .int .i64 v.c.sw.held, .int .i64 v.c.rw.size, .int .i64 v.c.rw.left, .int .i64 v.c.rw.held, .slice v.x v.kv.length v.xc, .slice v.o v.c.ou.length v.oc, .slice v.p v.c.pg.length v.pc, .bool v.c.cl]] w fun e w' => e = .returned (.bool (fi v.c)) ∧ Below w.heap.size w w' := (ro v w hN hz hgd hzv).mono fun e w' h => ⟨by rw [h.1, ← tM], h.2⟩
set_option maxRecDepth 100000 in
set_option maxHeartbeats 16000000 in
theorem yA (v : NV) (id : Int) (w : World) (hN : NOk (fun _ => True) w v) (hz : pS v) (hgd : vf v) (hzv : xj v) (hg : MLen w) : Calls Tryz.prog 3 #[.agg #[.int .i64 v.c.sd, .int .i64 v.c.nx, .int .i64 v.c.la, .int .i64 v.c.aw, .int .i64 v.c.sz, .int .i64 v.c.sw.size, .int .i64 v.c.sw.left, .int .i64 v.c.sw.held, .int .i64 v.c.rw.size, .int .i64 v.c.rw.left, .int .i64 v.c.rw.held, .slice v.x v.kv.length v.xc, .slice v.o v.c.ou.length v.oc, .slice v.p v.c.pg.length v.pc, .bool v.c.cl], .int .i64 id] w fun e w' => e = .returned (.bool true) ∧ Below w.heap.size w w' := by
  refine aI Tryz.func3 rfl Tryz.ntmps3 J J ?_
  repeat' (first | refine ah ?_ | refine aa ?_ | refine ab ?_ | refine aX aQ rfl (by kernel_rfl) ?_ | refine ae ?_ | refine bG ?_ | (refine aW J J J J J J ?_; intro g1) | ((first | refine' am rfl ?_ J J ?_ | refine' dD rfl ?_ J J J ?_); rotate_left; first | exact ai af J J J J | exact ap af J J J J J J | exact ag af 0 J J J J J) | refine bk rfl (av J J J J ⟨J, trivial⟩ rfl (by kernel_rfl)) rfl (fun w hm => od v w (hN.below hm.below) hz hgd hzv (hg.below hm.below)) J J ?_ | refine bk rfl (av J J J J ⟨J, trivial⟩ rfl (by kernel_rfl)) rfl (fun w hm => yq v w (hN.below hm.below) hz hgd hzv) J J ?_)
  refine bI rfl (fun h => ?_) (fun _ => ?_)
  · exact absurd h (by simp)
  repeat' (first | refine ah ?_ | refine aa ?_ | refine ab ?_ | refine ar ?_ | ((refine' am rfl ?_ J J ?_); rotate_left; first | exact ai af J J J J | exact ag af 0 J J J J J))
  refine nC (σ := KV) (fun s => s.k = (dI v.c id).1) (fun s => .tuple ⟨[.agg ⟨KC s⟩, .bool (dI v.c id).2]⟩) (fun s F w => KOk F w s) rfl (av J J J J ⟨J, J, trivial⟩ rfl (by kernel_rfl)) (fun w1 hm => (mb v id w1 (hN.below hm.below) hz).mono fun e w2 ⟨u, h1, h2, h3, h4⟩ => ⟨u, _, h1, h2, Mem.out hm (A := fun _ => False) (fun b hb => hb.elim) h4 (fun F w => KOk F w u) ((h3.mono fun _ => .inr).lt) (fun F w3 w4 hk h => h.agree hk)⟩) J J ?_
  rintro u1 F1 hu1
  repeat' (first | refine ah ?_ | refine aa ?_ | refine ab ?_ | refine ae ?_ | (refine aN af J J J J J J ?_; intro g4) | ((refine' am rfl ?_ J J ?_); rotate_left; first | exact ai af J J J J | exact ag af 2 J J J J J) | refine aq af 0 J J J J J J J J J J J J ?_)
  refine nB (σ := KV) (fun s => s.k = (dI v.c id).1 ∧ (s = yd ∨ s ∈ v.kv)) (fun s => .tuple ⟨[.agg ⟨KC s⟩, .bool (dI v.c id).2]⟩) rfl (av J J J J ⟨J, J, trivial⟩ rfl (by kernel_rfl)) (fun w1 hm => pu v id w1 (hN.below hm.below) hz.ks) J J ?_
  rintro u2 ⟨hu2, hu3⟩
  have hk : u2.k = u1.k := by rw [hu1, hu2]
  have hz1 : wt u1.k := by
    rw [← hk]
    rcases hu3 with rfl | hu3
    · exact ⟨by decide, by decide, by decide⟩
    · exact hz.ok u2 hu3
  have huk : ∀ w', Below w.heap.size w w' → KOk (fun _ => True) w' u2 := fun w' hb => by
    rcases hu3 with rfl | hu3
    · exact tq
    · exact (hN.ok u2 hu3).below hb
  repeat' (first | refine ah ?_ | refine aa ?_ | refine ab ?_ | refine ae ?_ | (refine aN af J J J J J J ?_; intro g5) | ((refine' am rfl ?_ J J ?_); rotate_left; first | exact ai af J J J J | exact ap af J J J J J J | exact ag af 1 J J J J J) | refine aq af 0 J J J J J J J J J J J J ?_)
  refine qj 30 rfl (by simp [aG]) ?_
  refine k5 af J J (by simp [aG]) rfl ⟨J, trivial⟩ J J J J J J J J ?_
  intro g2
  repeat' (((refine' am rfl ?_ J J ?_); rotate_left; first | exact ag af 1 J J J J J | exact aT af J J ⟨J, trivial⟩ J J J))
  refine qj 33 rfl (by simp [aG]) ?_
  refine k5 af J J (by simp [aG]) rfl ⟨J, trivial⟩ J J J J J J J J ?_
  intro g7
  repeat' (first | refine ab ?_ | refine az ?_ | refine ae ?_ | ((refine' am rfl ?_ J J ?_); rotate_left; first | exact ai af J J J J | exact bJ J J J J J | exact aT af J J ⟨J, trivial⟩ J J J) | refine aH rfl (av J J J J ⟨J, J, trivial⟩ rfl (by kernel_rfl)) (fun w hm => ru (vq u1 (some ⟨g2, 0, none⟩)) (vq u2 (some ⟨g7, 0, none⟩)) (by show ({ xJ with ks := [u2.k] } : NL) = { xJ with ks := [u1.k] }; rw [hk]) w (qk (A := fun _ => True) (sr 1 bN hm rfl trivial) ((hm.2.get (i := 4) rfl).2.1.mono fun _ _ => trivial)) (qk (A := fun _ => True) (sr 0 bN hm rfl trivial) (huk w hm.below)) (vt hz1)) J J ?_ | refine aH rfl (av J J J J trivial rfl (by kernel_rfl)) (fun w hm => vp w (hg.below hm.below)) J J ?_)
  refine ay af (fun _ => 0) J J trivial rfl fun w hm => ⟨?_, hm.below⟩
  simp
end Go.Proofs.YthiocbcokfondaaGreatDoor.Y
