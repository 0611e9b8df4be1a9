/- Texts of this claim merged into one: R10, R11, R12, R13. -/
import Derived.Test.YtmdkfbmpenohiaaGreatDoorBunR7
import Derived.Test.YtmdkfbmpenohiaaGreatDoorBunI
namespace Go.Proofs.YtmdkfbmpenohiaaGreatDoor.Y
open Go.RowKit
theorem rn {A : Nat → Prop} (v : QV) (e : Int) (w : World) (hm : Rws A w 2 mC v.m v.q.ms) (hz : dH v.q.hd) (he : bH v.q.hd = e) : Calls Tryz.prog 62 #[.agg ⟨[.string v.q.sv, .string v.q.mt, .int .i64 v.q.late, .slice v.m v.q.ms.length v.mc]⟩] w fun r w' => r = .returned (.tuple ⟨[.string ⟨(gN v.q.hd).bytes.toArray⟩, .int .i64 e]⟩) ∧ Below w.heap.size w w' := by
  have h := r3 v.q.hd (.slice v.m v.q.ms.length v.mc) w (wF hm v.mc) hz
  rw [mE, he] at h
  exact h
theorem qx {A : Nat → Prop} (x : Option Addr) (l : List ByteArray) (cap : Nat) (b : Bool) (w : World) (hR : Rws A w 1 sC x l) (hlen : l.length ≤ 9000000000000000000) (h : cL l = b) : Calls Tryz.prog 63 #[.slice x l.length cap] w fun e w' => e = .returned (.bool b) ∧ Below w.heap.size w w' := by subst h; exact sj x l cap w hR hlen
theorem ro (q : QR) : (q.id != 0 || q.att != 0 || !(q.bk.toList == (⟨#[]⟩ : ByteArray).toList) || q.st != 0 || q.nx != 0 || decide ((q.an.length : Int) > 0) || q.dn || q.cd != 0 || !(q.tx.toList == (⟨#[]⟩ : ByteArray).toList)) = eB q := by
  unfold eB
  rw [cI, cI]
  simp only [Bool.not_and, bne, Bool.beq_eq_decide_eq, Bool.not_not]
  have h1 : decide ((q.an.length : Int) > 0) = !decide (q.an.length = 0) := by rw [← decide_not]; congr 1; exact propext ⟨fun h => by omega, fun h => by omega⟩
  rw [h1]
theorem qy (sh n : Int) : iP sh n = false ↔ (c2 sh = 0 ∨ iL n (c1 sh) (c2 sh) = false) := by
  have h0 : c2 sh = 0 ↔ kC sh = false := by
    unfold c2
    cases kC sh with
    | false => simp
    | true => simp; split <;> decide
  rw [h0]
  unfold iP iL kC
  cases h1 : decide (1 ≤ sh) <;> cases h2 : decide (sh ≤ 4) <;> simp
theorem zR {b : ByteArray} (h : b.size = 0) : b = aZ := by
  obtain ⟨d⟩ := b
  have : d = #[] := Array.eq_empty_of_size_eq_zero h
  subst this; rfl
def bh (c : CL) (now : Int) (q : QR) : QR := ⟨c.nx, q.sv, q.mt, q.late, q.ms, q.sh, q.mg, 0, aZ, 0, bI now, [], false, 0, aZ⟩
theorem wh {c : CL} {now : Int} {q : QR} (h : eB q = false) : { q with id := c.nx, nx := bI now } = bh c now q := by
  unfold eB at h
  simp only [Bool.not_eq_false', Bool.and_eq_true, decide_eq_true_eq, Bool.not_eq_true'] at h
  obtain ⟨⟨⟨⟨⟨⟨⟨⟨h1, h2⟩, h3⟩, h4⟩, h5⟩, h6⟩, h7⟩, h8⟩, h9⟩ := h
  have e3 := zR h3
  have e6 := List.eq_nil_of_length_eq_zero h6
  have e9 := zR h9
  obtain ⟨id, sv, mt, late, ms, sh, mg, att, bk, st, nx, an, dn, cd, tx⟩ := q
  dsimp only at h1 h2 e3 h4 h5 e6 h7 h8 e9 ⊢
  subst h2 e3 h4 e6 h7 h8 e9
  rfl
set_option maxRecDepth 100000 in
set_option maxHeartbeats 16000000 in
theorem sr {A : Nat → Prop} (v : CV) (now : Int) (q : QV) (w : World) (hC : COk A w v) (hw : eE v) (hzq : v.qv.length ≤ 703687441775) (hV : VC v.c) (hQ : QOk A w q) (hsz : eP q.q) (hhd : dH q.q.hd) : Calls Tryz.prog 33 #[.agg #[.slice v.b v.c.bs.length v.bc, .int .i64 v.c.ra, .int .i64 v.c.rb, .int .i64 v.c.rc, .int .i64 v.c.rk, .int .i64 v.c.tk, .int .i64 v.c.mo, .int .i64 v.c.gn, .slice v.x v.qv.length v.xc, .int .i64 v.c.nx], .int .i64 now, .agg #[.int .i64 q.q.id, .string q.q.sv, .string q.q.mt, .int .i64 q.q.late, .slice q.m q.q.ms.length q.mc, .int .i64 q.q.sh, .slice q.s q.q.mg.length q.sc, .int .i64 q.q.att, .string q.q.bk, .int .i64 q.q.st, .int .i64 q.q.nx, .slice q.a q.q.an.length q.ac, .bool q.q.dn, .int .i64 q.q.cd, .string q.q.tx]] w fun e w' => ∃ v' : CV, v'.c = (ci v.c now q.q).1 ∧ e = .returned (.tuple #[.agg ⟨CC v'⟩, .int .i64 (ci v.c now q.q).2.1, .int .i64 (ci v.c now q.q).2.2]) ∧ OutR A w w' v' := by
  obtain ⟨hz1, hz2, hz3⟩ := hsz
  obtain ⟨eh, heh⟩ : ∃ e, bH q.q.hd = e := ⟨_, rfl⟩
  obtain ⟨lg, hlg⟩ : ∃ b, cL q.q.mg = b := ⟨_, rfl⟩
  have hnx := hV.nx
  have hnil : v.x = none → v.qv = [] := fun h => by
    by_cases h0 : 0 < v.qv.length
    · obtain ⟨_, _, h1, _⟩ := hC.qs h0
      rw [h] at h1; cases h1
    · exact List.eq_nil_of_length_eq_zero (by omega)
  refine aD Tryz.func33 rfl Tryz.ntmps33 J J ?_
  refine ag ?_
  refine aa ?_
  (refine aT J J J J J J ?_; intro g3)
  (refine aT J J J J J J ?_; intro g5)
  (refine aF af J J J J J J ?_; intro g6)
  repeat' (first | refine ag ?_ | refine aa ?_ | refine ab ?_ | refine ae ?_ | ((refine' ak rfl ?_ J J ?_); rotate_left; first | exact ai af J J J J | exact aq af J J J J J J | exact bp J J J J J | exact ah af 1 J J J J J | exact aO af J J J J J J J) | refine aG rfl (ay J J J J ⟨J, J, trivial⟩ rfl (by kernel_rfl)) (fun w hm => mX _ _ w) J J ?_)
  by_cases hA : eB q.q = true ∨ c2 q.q.sh = 0 ∨ iL q.q.mg.length (c1 q.q.sh) (c2 q.q.sh) = false
  · have hst : ci v.c now q.q = (v.c, 0, 1) := by
      have hf : dv v.c q.q = 1 := by unfold dv; rw [if_pos hA]
      unfold ci; rw [hf, if_pos (by decide)]
    refine aw rfl (by rw [ro]; exact hA.elim (fun h => by rw [h]; rfl) (fun h => by rw [(qy _ _).2 h]; simp)) ?_
    repeat' (first | refine ag ?_ | refine aa ?_ | refine ab ?_ | refine aA ?_ | refine ar ?_ | refine ae ?_ | ((refine' ak rfl ?_ J J ?_); rotate_left; first | exact ai af J J J J | exact ah af 2 J J J J J) | refine aj af 0 J J J J J J J J J J J J ?_)
    (refine aB af (fun _ => 0) J J ⟨J, trivial⟩ rfl fun w1 hm => ⟨v, ?_, ?_, OutR.same hC hw hm.below⟩)
    · rw [hst]
    · rw [hst]; rfl
  · have hf1 : dv v.c q.q = if bH q.q.hd ≠ 0 then bH q.q.hd else if cL q.q.mg = true then 3 else if 64 ≤ (bQ v.c.qs).length ∨ 2147483647 < v.c.nx then 22 else 0 := if_neg hA
    have ho0 : eB q.q = false := eq_false_of_ne_true fun h => hA (.inl h)
    have hp0 : iP q.q.sh q.q.mg.length = true := by
      cases h : iP q.q.sh q.q.mg.length with
      | true => rfl
      | false => exact absurd (.inr ((qy _ _).1 h)) hA
    refine am rfl (by rw [ro, ho0, hp0]; rfl) ?_
    repeat' (first | refine ag ?_ | refine aa ?_ | refine ab ?_ | refine au ?_ | refine ae ?_ | ((refine' ak rfl ?_ J J ?_); rotate_left; first | exact ai af J J J J | exact aq af J J J J J J | exact ah af 1 J J J J J) | refine aG rfl (ay J J J J ⟨J, trivial⟩ rfl (by kernel_rfl)) (fun w hm => rn q eh w (hQ.1.below hm.below) hhd heh) J J ?_)
    by_cases he0 : eh = 0
    · refine am rfl (by simpa using he0) ?_
      rw [heh, if_neg (by simpa using he0)] at hf1
      repeat' (first | refine ag ?_ | refine aa ?_ | refine ab ?_ | refine au ?_ | refine ae ?_ | ((refine' ak rfl ?_ J J ?_); rotate_left; first | exact ai af J J J J | exact ah af 1 J J J J J) | refine aG rfl (ay J J J J ⟨J, trivial⟩ rfl (by kernel_rfl)) (fun w hm => qx q.s q.q.mg q.sc lg w (hQ.2.1.below hm.below) (by omega) hlg) J J ?_)
      cases lg with
      | true =>
        rw [if_pos hlg] at hf1
        have hst : ci v.c now q.q = (v.c, 0, 3) := by unfold ci; rw [hf1, if_pos (by decide)]
        refine aw J J ?_
        repeat' (first | refine ag ?_ | refine aa ?_ | refine ab ?_ | refine aA ?_ | refine ar ?_ | refine ae ?_ | ((refine' ak rfl ?_ J J ?_); rotate_left; first | exact ai af J J J J | exact ah af 2 J J J J J) | refine aj af 0 J J J J J J J J J J J J ?_)
        (refine aB af (fun _ => 0) J J ⟨J, trivial⟩ rfl fun w1 hm => ⟨v, ?_, ?_, OutR.same hC hw hm.below⟩)
        · rw [hst]
        · rw [hst]; rfl
      | false =>
        rw [if_neg (by rw [hlg]; decide)] at hf1
        refine am J J ?_
        repeat' (first | refine ag ?_ | refine aa ?_ | refine ab ?_ | refine au ?_ | ((refine' ak rfl ?_ J J ?_); rotate_left; exact ah af 2 J J J J J))
        refine bf (σ := Option Addr × Nat) (fun _ => True) (fun p => .slice p.1 (bQ v.c.qs).length p.2) (fun p => [.own p.1 p.2 3 1 (bQ v.c.qs).length ((bQ v.c.qs).flatMap iC)]) rfl (ay J J J J ⟨J, trivial⟩ rfl (by kernel_rfl)) (fun w1 hm => lM v w1 (hC.below hm.below) (by omega)) J J ?_
        rintro ⟨ap, ac⟩ -
        dsimp only [List.cons_append, List.nil_append]
        repeat' (first | refine ab ?_ | refine ae ?_ | ((refine' ak rfl ?_ J J ?_); rotate_left; first | exact ai af J J J J | exact aq af J J J J J J | exact bp J J J J J | exact ah af 3 J J J J J | exact aO af J J J J J J J))
        by_cases hfl : 64 ≤ (bQ v.c.qs).length ∨ 2147483647 < v.c.nx
        · rw [if_pos hfl] at hf1
          have hst : ci v.c now q.q = (v.c, 0, 22) := by unfold ci; rw [hf1, if_pos (by decide)]
          refine aw rfl (by simp; omega) ?_
          repeat' (first | refine ag ?_ | refine aa ?_ | refine ab ?_ | refine aA ?_ | refine ar ?_ | refine ae ?_ | ((refine' ak rfl ?_ J J ?_); rotate_left; first | exact ai af J J J J | exact ah af 3 J J J J J) | refine aj af 1 J J J J J J J J J J J J ?_)
          (refine aB af (fun _ => 1) J J ⟨J, trivial⟩ rfl fun w1 hm => ⟨v, ?_, ?_, OutR.same hC hw hm.below⟩)
          · rw [hst]
          · rw [hst]; rfl
        · rw [if_neg hfl] at hf1
          have hcl : ci v.c now q.q = ({ v.c with qs := v.c.qs ++ [dD v.c now q.q], nx := v.c.nx + 1 }, v.c.nx, 0) := by unfold ci; rw [hf1, if_neg (by decide)]
          refine am rfl (by simp; omega) ?_
          have hput := wh (c := v.c) (now := now) ho0
          have hnx2 : v.c.nx ≤ 2147483647 := by omega
          repeat' (first | refine ag ?_ | refine aa ?_ | refine ab ?_ | refine au ?_ | refine ae ?_ | ((refine' ak rfl ?_ J J ?_); rotate_left; first | exact ai af J J J J | exact ah af 3 J J J J J))
          refine fN 11 [12] aK rfl (by kernel_rfl) ?_
          iterate 8 (((refine' jp rfl ?_ J J ?_); rotate_left; first | exact ai af J J J J | exact ah af 2 J J J J J))
          refine tg rfl (ay J J J J ⟨J, trivial⟩ rfl (by kernel_rfl)) (fun w hm => fE now w) J J ?_
          ((refine' jp rfl ?_ J J ?_); rotate_left; exact aC af J J ⟨J, J, J, J, J, trivial⟩ J J J)
          refine rL af J J J J J J J ?_
          refine kD ?_
          rintro g12 -
          dsimp only [List.cons_append, List.nil_append]
          repeat' (first | refine ag ?_ | refine ab ?_ | refine aY aK rfl (by kernel_rfl) ?_ | refine ae ?_ | refine bz ?_ | ((refine' dm rfl ?_ J J J ?_); rotate_left; first | exact ai af J J J J | exact ah af 0 J J J J J) | refine bY rfl (ay J J J J ⟨J, trivial⟩ rfl (by kernel_rfl)) rfl (fun w hm => fE now w) J J ?_ | refine bY rfl (ay J J J J ⟨J, J, trivial⟩ rfl (by kernel_rfl)) rfl (fun w hm => mW (⟨bh v.c now q.q, q.m, q.mc, q.s, q.sc, none, 0⟩ : QV) (bI now) w) J J ?_ | refine aj af 0 J J J J J J J J J J J J ?_)
          cases hp : dC (bh v.c now q.q) (bI now) with
          | true =>
            refine aw rfl (by first | rfl | exact hp) ?_
            cases hvx : v.x with
            | none =>
              have hz0 : v.qv = [] := hnil hvx
              have hsl : Value.slice none v.qv.length v.xc = .slice none 0 0 := by rw [hw.nil hvx, hz0]; rfl
              repeat' (first | refine ag ?_ | refine aa ?_ | refine ab ?_ | refine ae ?_ | ((refine' ak rfl ?_ J J ?_); rotate_left; first | exact dg (v := .slice none 0 0) (ah af 4 J J J J J) hsl | exact ai af J J J J | exact aC af J J ⟨J, trivial⟩ J J J) | refine aj af 0 J J J J J J J J J J J J ?_)
              refine iU 50 15 ?_
              refine nr af 0 J J J J J J J J J ?_
              repeat' (first | refine ag ?_ | refine aa ?_ | refine ab ?_ | refine aA ?_ | refine ae ?_ | (refine bq af J J J ⟨J, trivial⟩ J J J J J J J J ?_; intro g) | (refine bK af 1 0 J J J J J J J J J (fun _ _ => rfl) eR J J (by unfold maxLen; omega) (by omega) J J ?_; intro sb sd) | ((refine' ak rfl ?_ J J ?_); rotate_left; first | exact dg (v := .int .i64 (v.c.nx + 1)) (aq af J J J J J J) (congrArg (Value.int .i64) (IntWalk.i64_in _ (by omega))) | exact ai af J J J J | exact ah af 1 J J J J J | exact ah af 6 J J J J J) | refine aj af 4 J J J J J J J J J J J J ?_ | refine aj af 6 J J J J J J J J J J J J ?_)
              have hlq : (v.qv ++ [(⟨{ bh v.c now q.q with dn := true, cd := 3, tx := aZ }, q.m, q.mc, q.s, q.sc, none, 0⟩ : QV)]).length = 0 + 1 := by simp [hz0]
              have hfl : (v.qv ++ [(⟨{ bh v.c now q.q with dn := true, cd := 3, tx := aZ }, q.m, q.mc, q.s, q.sc, none, 0⟩ : QV)]).flatMap QC = [] ++ QC (⟨{ bh v.c now q.q with dn := true, cd := 3, tx := aZ }, q.m, q.mc, q.s, q.sc, none, 0⟩ : QV) := by simp [hz0]
              (refine aB af (fun _ => 4) J J ⟨J, trivial⟩ rfl fun w1 hm => ⟨⟨{ v.c with qs := v.c.qs ++ [{ bh v.c now q.q with dn := true, cd := 3, tx := aZ }], nx := v.c.nx + 1 }, v.b, v.bc, sb, sd, v.qv ++ [(⟨{ bh v.c now q.q with dn := true, cd := 3, tx := aZ }, q.m, q.mc, q.s, q.sc, none, 0⟩ : QV)]⟩, ?_, ?_, ?_⟩)
              · rw [hcl]; unfold dD; rw [hput, if_pos hp]
              · rw [hcl]; simp only [CC, hlq]
              · have hown : w1.ownsRow w.heap.size 50 15 (.slice sb (0 + 1) sd) (0 + 1) ([] ++ QC (⟨{ bh v.c now q.q with dn := true, cd := 3, tx := aZ }, q.m, q.mc, q.s, q.sc, none, 0⟩ : QV)) := hm.2.get (i := 1) rfl
                rw [← hlq, ← hfl] at hown
                refine ⟨⟨⟨(hC.bk.below hm.below).mono fun _ => .inl, (Rws.own bj hown).mono fun _ => .inr, by simp [hC.eq], fun y hy => ?_⟩, hm.below⟩, jA hown, gJ hown, fun y hy => ?_⟩
                · rcases List.mem_append.1 hy with h1 | h1
                  · exact ((hC.ok y h1).below hm.below).mono fun _ => .inl
                  · obtain rfl := List.mem_singleton.1 h1
                    exact ⟨(hQ.1.below hm.below).mono fun _ => .inl, (hQ.2.1.below hm.below).mono fun _ => .inl, dA⟩
                · rcases List.mem_append.1 hy with h1 | h1
                  · exact hw.ans y h1
                  · obtain rfl := List.mem_singleton.1 h1
                    exact fun _ => rfl
            | some ad =>
              have hans : ∀ j y, (v.qv.flatMap QC)[j]? = some y → w.cell? (ad.add j) = some y := fun j y hy => by
                obtain ⟨z, h1, h2⟩ := jB bj (by decide) hy
                obtain ⟨b9, o9, h3, _, _, h4⟩ := hC.qs (by have := (List.getElem?_eq_some_iff.1 h1).1; omega)
                rw [hvx] at h3
                obtain rfl := Option.some.inj h3
                exact jC h4 hy
              repeat' (first | refine ag ?_ | refine aa ?_ | refine ab ?_ | refine ae ?_ | ((refine' ak rfl ?_ J J ?_); rotate_left; first | exact ai af J J J J | exact ah af 4 J J J J J | exact aC af J J ⟨J, trivial⟩ J J J) | refine aj af 0 J J J J J J J J J J J J ?_)
              refine iU 50 15 ?_
              (refine fZ af 0 (news := v.qv.flatMap QC) J J J J J J J J (fun _ _ => rfl) eR (fun w1 hm j y hy => (hm.below.cell (block_lt_of_cell (hans j y hy))).trans (hans j y hy)) (.inr (lu _)) (by rw [cH bj]; rfl) (by unfold maxLen; omega) (by omega) J J ?_; intro sa sc)
              repeat' (first | refine ag ?_ | refine aa ?_ | refine ab ?_ | refine aA ?_ | refine ae ?_ | (refine bq af J J J ⟨J, trivial⟩ J J J J J J J J ?_; intro g) | (refine bK af 1 0 J J J J J J J J J (fun _ _ => rfl) eR J J (by unfold maxLen; omega) (by omega) J J ?_; intro sb sd) | ((refine' ak rfl ?_ J J ?_); rotate_left; first | exact dg (v := .int .i64 (v.c.nx + 1)) (aq af J J J J J J) (congrArg (Value.int .i64) (IntWalk.i64_in _ (by omega))) | exact ai af J J J J | exact ah af 1 J J J J J | exact ah af 6 J J J J J) | refine aj af 4 J J J J J J J J J J J J ?_ | refine aj af 6 J J J J J J J J J J J J ?_)
              have hlq : (v.qv ++ [(⟨{ bh v.c now q.q with dn := true, cd := 3, tx := aZ }, q.m, q.mc, q.s, q.sc, none, 0⟩ : QV)]).length = 0 + v.qv.length + 1 := by simp []
              have hfl : (v.qv ++ [(⟨{ bh v.c now q.q with dn := true, cd := 3, tx := aZ }, q.m, q.mc, q.s, q.sc, none, 0⟩ : QV)]).flatMap QC = ([] ++ v.qv.flatMap QC) ++ QC (⟨{ bh v.c now q.q with dn := true, cd := 3, tx := aZ }, q.m, q.mc, q.s, q.sc, none, 0⟩ : QV) := by simp []
              (refine aB af (fun _ => 4) J J ⟨J, trivial⟩ rfl fun w1 hm => ⟨⟨{ v.c with qs := v.c.qs ++ [{ bh v.c now q.q with dn := true, cd := 3, tx := aZ }], nx := v.c.nx + 1 }, v.b, v.bc, sb, sd, v.qv ++ [(⟨{ bh v.c now q.q with dn := true, cd := 3, tx := aZ }, q.m, q.mc, q.s, q.sc, none, 0⟩ : QV)]⟩, ?_, ?_, ?_⟩)
              · rw [hcl]; unfold dD; rw [hput, if_pos hp]
              · rw [hcl]; simp only [CC, hlq]
              · have hown : w1.ownsRow w.heap.size 50 15 (.slice sb (0 + v.qv.length + 1) sd) (0 + v.qv.length + 1) (([] ++ v.qv.flatMap QC) ++ QC (⟨{ bh v.c now q.q with dn := true, cd := 3, tx := aZ }, q.m, q.mc, q.s, q.sc, none, 0⟩ : QV)) := hm.2.get (i := 1) rfl
                rw [← hlq, ← hfl] at hown
                refine ⟨⟨⟨(hC.bk.below hm.below).mono fun _ => .inl, (Rws.own bj hown).mono fun _ => .inr, by simp [hC.eq], fun y hy => ?_⟩, hm.below⟩, jA hown, gJ hown, fun y hy => ?_⟩
                · rcases List.mem_append.1 hy with h1 | h1
                  · exact ((hC.ok y h1).below hm.below).mono fun _ => .inl
                  · obtain rfl := List.mem_singleton.1 h1
                    exact ⟨(hQ.1.below hm.below).mono fun _ => .inl, (hQ.2.1.below hm.below).mono fun _ => .inl, dA⟩
                · rcases List.mem_append.1 hy with h1 | h1
                  · exact hw.ans y h1
                  · obtain rfl := List.mem_singleton.1 h1
                    exact fun _ => rfl
          | false =>
            refine am rfl (by first | rfl | exact hp) ?_
            cases hvx : v.x with
            | none =>
              have hz0 : v.qv = [] := hnil hvx
              have hsl : Value.slice none v.qv.length v.xc = .slice none 0 0 := by rw [hw.nil hvx, hz0]; rfl
              repeat' (first | refine ag ?_ | refine aa ?_ | refine ab ?_ | refine au ?_ | refine ae ?_ | ((refine' ak rfl ?_ J J ?_); rotate_left; first | exact dg (v := .slice none 0 0) (ah af 4 J J J J J) hsl | exact ai af J J J J))
              refine iU 50 15 ?_
              refine nr af 0 J J J J J J J J J ?_
              repeat' (first | refine ag ?_ | refine aa ?_ | refine ab ?_ | refine aA ?_ | refine ae ?_ | (refine bq af J J J ⟨J, trivial⟩ J J J J J J J J ?_; intro g) | (refine bK af 1 0 J J J J J J J J J (fun _ _ => rfl) eR J J (by unfold maxLen; omega) (by omega) J J ?_; intro sb sd) | ((refine' ak rfl ?_ J J ?_); rotate_left; first | exact dg (v := .int .i64 (v.c.nx + 1)) (aq af J J J J J J) (congrArg (Value.int .i64) (IntWalk.i64_in _ (by omega))) | exact ai af J J J J | exact ah af 1 J J J J J | exact ah af 6 J J J J J) | refine aj af 4 J J J J J J J J J J J J ?_ | refine aj af 6 J J J J J J J J J J J J ?_)
              have hlq : (v.qv ++ [(⟨bh v.c now q.q, q.m, q.mc, q.s, q.sc, none, 0⟩ : QV)]).length = 0 + 1 := by simp [hz0]
              have hfl : (v.qv ++ [(⟨bh v.c now q.q, q.m, q.mc, q.s, q.sc, none, 0⟩ : QV)]).flatMap QC = [] ++ QC (⟨bh v.c now q.q, q.m, q.mc, q.s, q.sc, none, 0⟩ : QV) := by simp [hz0]
              (refine aB af (fun _ => 4) J J ⟨J, trivial⟩ rfl fun w1 hm => ⟨⟨{ v.c with qs := v.c.qs ++ [bh v.c now q.q], nx := v.c.nx + 1 }, v.b, v.bc, sb, sd, v.qv ++ [(⟨bh v.c now q.q, q.m, q.mc, q.s, q.sc, none, 0⟩ : QV)]⟩, ?_, ?_, ?_⟩)
              · rw [hcl]; unfold dD; rw [hput, if_neg (by rw [hp]; decide)]
              · rw [hcl]; simp only [CC, hlq]
              · have hown : w1.ownsRow w.heap.size 50 15 (.slice sb (0 + 1) sd) (0 + 1) ([] ++ QC (⟨bh v.c now q.q, q.m, q.mc, q.s, q.sc, none, 0⟩ : QV)) := hm.2.get (i := 1) rfl
                rw [← hlq, ← hfl] at hown
                refine ⟨⟨⟨(hC.bk.below hm.below).mono fun _ => .inl, (Rws.own bj hown).mono fun _ => .inr, by simp [hC.eq], fun y hy => ?_⟩, hm.below⟩, jA hown, gJ hown, fun y hy => ?_⟩
                · rcases List.mem_append.1 hy with h1 | h1
                  · exact ((hC.ok y h1).below hm.below).mono fun _ => .inl
                  · obtain rfl := List.mem_singleton.1 h1
                    exact ⟨(hQ.1.below hm.below).mono fun _ => .inl, (hQ.2.1.below hm.below).mono fun _ => .inl, dA⟩
                · rcases List.mem_append.1 hy with h1 | h1
                  · exact hw.ans y h1
                  · obtain rfl := List.mem_singleton.1 h1
                    exact fun _ => rfl
            | some ad =>
              have hans : ∀ j y, (v.qv.flatMap QC)[j]? = some y → w.cell? (ad.add j) = some y := fun j y hy => by
                obtain ⟨z, h1, h2⟩ := jB bj (by decide) hy
                obtain ⟨b9, o9, h3, _, _, h4⟩ := hC.qs (by have := (List.getElem?_eq_some_iff.1 h1).1; omega)
                rw [hvx] at h3
                obtain rfl := Option.some.inj h3
                exact jC h4 hy
              repeat' (first | refine ag ?_ | refine aa ?_ | refine ab ?_ | refine au ?_ | refine ae ?_ | ((refine' ak rfl ?_ J J ?_); rotate_left; first | exact ai af J J J J | exact ah af 4 J J J J J))
              refine iU 50 15 ?_
              (refine fZ af 0 (news := v.qv.flatMap QC) J J J J J J J J (fun _ _ => rfl) eR (fun w1 hm j y hy => (hm.below.cell (block_lt_of_cell (hans j y hy))).trans (hans j y hy)) (.inr (lu _)) (by rw [cH bj]; rfl) (by unfold maxLen; omega) (by omega) J J ?_; intro sa sc)
              repeat' (first | refine ag ?_ | refine aa ?_ | refine ab ?_ | refine aA ?_ | refine ae ?_ | (refine bq af J J J ⟨J, trivial⟩ J J J J J J J J ?_; intro g) | (refine bK af 1 0 J J J J J J J J J (fun _ _ => rfl) eR J J (by unfold maxLen; omega) (by omega) J J ?_; intro sb sd) | ((refine' ak rfl ?_ J J ?_); rotate_left; first | exact dg (v := .int .i64 (v.c.nx + 1)) (aq af J J J J J J) (congrArg (Value.int .i64) (IntWalk.i64_in _ (by omega))) | exact ai af J J J J | exact ah af 1 J J J J J | exact ah af 6 J J J J J) | refine aj af 4 J J J J J J J J J J J J ?_ | refine aj af 6 J J J J J J J J J J J J ?_)
              have hlq : (v.qv ++ [(⟨bh v.c now q.q, q.m, q.mc, q.s, q.sc, none, 0⟩ : QV)]).length = 0 + v.qv.length + 1 := by simp []
              have hfl : (v.qv ++ [(⟨bh v.c now q.q, q.m, q.mc, q.s, q.sc, none, 0⟩ : QV)]).flatMap QC = ([] ++ v.qv.flatMap QC) ++ QC (⟨bh v.c now q.q, q.m, q.mc, q.s, q.sc, none, 0⟩ : QV) := by simp []
              (refine aB af (fun _ => 4) J J ⟨J, trivial⟩ rfl fun w1 hm => ⟨⟨{ v.c with qs := v.c.qs ++ [bh v.c now q.q], nx := v.c.nx + 1 }, v.b, v.bc, sb, sd, v.qv ++ [(⟨bh v.c now q.q, q.m, q.mc, q.s, q.sc, none, 0⟩ : QV)]⟩, ?_, ?_, ?_⟩)
              · rw [hcl]; unfold dD; rw [hput, if_neg (by rw [hp]; decide)]
              · rw [hcl]; simp only [CC, hlq]
              · have hown : w1.ownsRow w.heap.size 50 15 (.slice sb (0 + v.qv.length + 1) sd) (0 + v.qv.length + 1) (([] ++ v.qv.flatMap QC) ++ QC (⟨bh v.c now q.q, q.m, q.mc, q.s, q.sc, none, 0⟩ : QV)) := hm.2.get (i := 1) rfl
                rw [← hlq, ← hfl] at hown
                refine ⟨⟨⟨(hC.bk.below hm.below).mono fun _ => .inl, (Rws.own bj hown).mono fun _ => .inr, by simp [hC.eq], fun y hy => ?_⟩, hm.below⟩, jA hown, gJ hown, fun y hy => ?_⟩
                · rcases List.mem_append.1 hy with h1 | h1
                  · exact ((hC.ok y h1).below hm.below).mono fun _ => .inl
                  · obtain rfl := List.mem_singleton.1 h1
                    exact ⟨(hQ.1.below hm.below).mono fun _ => .inl, (hQ.2.1.below hm.below).mono fun _ => .inl, dA⟩
                · rcases List.mem_append.1 hy with h1 | h1
                  · exact hw.ans y h1
                  · obtain rfl := List.mem_singleton.1 h1
                    exact fun _ => rfl
    · have hst : ci v.c now q.q = (v.c, 0, eh) := by
        have hf : dv v.c q.q = eh := by rw [hf1, heh, if_pos he0]
        unfold ci; rw [hf, if_pos he0]
      refine aw rfl (by simpa using he0) ?_
      repeat' (first | refine ag ?_ | refine aa ?_ | refine ab ?_ | refine aA ?_ | refine ar ?_ | refine ae ?_ | ((refine' ak rfl ?_ J J ?_); rotate_left; first | exact ai af J J J J | exact ah af 2 J J J J J) | refine aj af 0 J J J J J J J J J J J J ?_)
      (refine aB af (fun _ => 0) J J ⟨J, trivial⟩ rfl fun w1 hm => ⟨v, ?_, ?_, OutR.same hC hw hm.below⟩)
      · rw [hst]
      · rw [hst]; rfl
end Go.Proofs.YtmdkfbmpenohiaaGreatDoor.Y
namespace Go.Proofs.YtmdkfbmpenohiaaGreatDoor.Y
open Go.RowKit
def wL (q : QR) : Bool := bH q.hd != 0 || !iP q.sh q.mg.length || cL q.mg || cL q.an || !si q.sh q.an.length
def xY (ra : Int) (q : QR) : Bool := decide (q.att < 0) || decide (q.att > ra) || decide (q.st < 0) || decide (q.st ≥ 2147483648) || decide (q.nx < 0) || decide (q.nx > 1099511627776)
def wM (bs : List BV) (q : QR) : Bool := ((q.bk.toList == (⟨#[]⟩ : ByteArray).toList) && (q.st != 0)) || ((!(q.bk.toList == (⟨#[]⟩ : ByteArray).toList)) && (!(eA q.bk bs 0).isSome || decide (q.att < 1) || q.dn))
def wN (ra : Int) (q : QR) : Bool := (q.bk.toList == (⟨#[]⟩ : ByteArray).toList) && (decide ((q.an.length : Int) > 0) || decide (q.att ≥ ra))
def xZ (q : QR) : Bool := (q.cd == 0) && (q.tx.toList == (⟨#[]⟩ : ByteArray).toList)
def nO (ra : Int) (bs : List BV) (q : QR) : Bool := if wL q then false else if xY ra q then false else if wM bs q then false else if q.dn then (be q.cd q.tx == 0) else if wN ra q then false else xZ q
theorem xI {A : Nat → Prop} (x : Option Addr) (l : List BV) (cap : Nat) (nm : ByteArray) (i : Nat) (s : Bool) (w : World) (hR : Rws A w 6 bC x l) (hlen : l.length ≤ 2513169434916) (h1 : (eA nm l 0).getD 0 = i) (h2 : (eA nm l 0).isSome = s) : Calls Tryz.prog 79 #[.slice x l.length cap, .string nm] w fun e w' => e = .returned (.tuple ⟨[.int .i64 ((i : Nat) : Int), .bool s]⟩) ∧ Below w.heap.size w w' := by subst h1 h2; exact my x l cap nm w hR hlen
attribute [local irreducible] Calls
set_option maxRecDepth 100000 in
set_option maxHeartbeats 16000000 in
theorem wi {A : Nat → Prop} (v : CV) (q : QV) (w : World) (hB : Rws A w 6 bC v.b v.c.bs) (hbl : v.c.bs.length ≤ 2513169434916) (hQ : QOk A w q) (hsz : eP q.q) (hhd : dH q.q.hd) (htx : q.q.tx.size ≤ 4611686018427387900) : Calls Tryz.prog 40 #[.agg #[.slice v.b v.c.bs.length v.bc, .int .i64 v.c.ra, .int .i64 v.c.rb, .int .i64 v.c.rc, .int .i64 v.c.rk, .int .i64 v.c.tk, .int .i64 v.c.mo, .int .i64 v.c.gn, .slice v.x v.qv.length v.xc, .int .i64 v.c.nx], .agg #[.int .i64 q.q.id, .string q.q.sv, .string q.q.mt, .int .i64 q.q.late, .slice q.m q.q.ms.length q.mc, .int .i64 q.q.sh, .slice q.s q.q.mg.length q.sc, .int .i64 q.q.att, .string q.q.bk, .int .i64 q.q.st, .int .i64 q.q.nx, .slice q.a q.q.an.length q.ac, .bool q.q.dn, .int .i64 q.q.cd, .string q.q.tx]] w fun e w' => e = .returned (.bool (nO v.c.ra v.c.bs q.q)) ∧ Below w.heap.size w w' := by
  obtain ⟨hz1, hz2, hz3⟩ := hsz
  obtain ⟨eh, heh⟩ : ∃ e, bH q.q.hd = e := ⟨_, rfl⟩
  obtain ⟨l1, hl1⟩ : ∃ b, cL q.q.mg = b := ⟨_, rfl⟩
  obtain ⟨l2, hl2⟩ : ∃ b, cL q.q.an = b := ⟨_, rfl⟩
  obtain ⟨fi, hfi⟩ : ∃ b, (eA q.q.bk v.c.bs 0).getD 0 = b := ⟨_, rfl⟩
  obtain ⟨fs, hfs⟩ : ∃ b, (eA q.q.bk v.c.bs 0).isSome = b := ⟨_, rfl⟩
  obtain ⟨es, hes⟩ : ∃ e, be q.q.cd q.q.tx = e := ⟨_, rfl⟩
  refine aD Tryz.func40 rfl Tryz.ntmps40 J J ?_
  repeat' (first | refine ag ?_ | refine aa ?_ | refine ab ?_ | refine ae ?_ | ((refine' ak rfl ?_ J J ?_); rotate_left; first | exact ai af J J J J | exact aq af J J J J J J | exact bp J J J J J | exact ah af 0 J J J J J | exact aO af J J J J J J J) | refine aG rfl (ay J J J J ⟨J, trivial⟩ rfl (by kernel_rfl)) (fun w hm => rn q eh w (hQ.1.below hm.below) hhd heh) J J ?_ | refine aG rfl (ay J J J J ⟨J, J, trivial⟩ rfl (by kernel_rfl)) (fun w hm => mX _ _ w) J J ?_ | refine aG rfl (ay J J J J ⟨J, J, trivial⟩ rfl (by kernel_rfl)) (fun w hm => pk _ _ w) J J ?_ | refine aG rfl (ay J J J J ⟨J, trivial⟩ rfl (by kernel_rfl)) (fun w hm => qx q.s q.q.mg q.sc l1 w (hQ.2.1.below hm.below) (by omega) hl1) J J ?_ | refine aG rfl (ay J J J J ⟨J, trivial⟩ rfl (by kernel_rfl)) (fun w hm => qx q.a q.q.an q.ac l2 w (hQ.2.2.below hm.below) (by omega) hl2) J J ?_ | (refine aT J J J J J J ?_; intro g))
  cases h1 : wL q.q with
  | true =>
    refine aw rfl (by rw [← h1]; unfold wL; rw [heh, hl1, hl2]) ?_
    repeat' (first | refine ag ?_ | refine aa ?_ | refine ab ?_ | refine aA ?_ | refine ar ?_ | refine ae ?_ | ((refine' ak rfl ?_ J J ?_); rotate_left; exact ai af J J J J))
    refine aB af (fun _ => 0) J J trivial rfl fun w hm => ⟨?_, hm.below⟩
    refine bi ?_
    unfold nO
    rw [h1]; rfl
  | false =>
    refine am rfl (by rw [← h1]; unfold wL; rw [heh, hl1, hl2]) ?_
    repeat' (first | refine ag ?_ | refine aa ?_ | refine ab ?_ | refine au ?_ | refine ae ?_ | ((refine' ak rfl ?_ J J ?_); rotate_left; first | exact ai af J J J J | exact aq af J J J J J J | exact bp J J J J J | exact ah af 0 J J J J J | exact ah af 1 J J J J J))
    cases h2 : xY v.c.ra q.q with
    | true =>
      refine aw rfl (by rw [← h2]; rfl) ?_
      repeat' (first | refine ag ?_ | refine aa ?_ | refine ab ?_ | refine aA ?_ | refine ar ?_ | refine ae ?_ | ((refine' ak rfl ?_ J J ?_); rotate_left; exact ai af J J J J))
      refine aB af (fun _ => 0) J J trivial rfl fun w hm => ⟨?_, hm.below⟩
      refine bi ?_
      unfold nO
      rw [h1, h2]; rfl
    | false =>
      refine am rfl (by rw [← h2]; rfl) ?_
      repeat' (first | refine ag ?_ | refine aa ?_ | refine ab ?_ | refine au ?_ | refine ae ?_ | ((refine' ak rfl ?_ J J ?_); rotate_left; first | exact ai af J J J J | exact aq af J J J J J J | exact bp J J J J J | exact bx J J J J J | exact ah af 0 J J J J J | exact ah af 1 J J J J J) | refine aG rfl (ay J J J J ⟨J, J, trivial⟩ rfl (by kernel_rfl)) (fun w hm => xI v.b v.c.bs v.bc q.q.bk fi fs w (hB.below hm.below) (by omega) hfi hfs) J J ?_)
      cases h3 : wM v.c.bs q.q with
      | true =>
        refine aw rfl (by rw [← h3]; unfold wM; rw [hfs]) ?_
        repeat' (first | refine ag ?_ | refine aa ?_ | refine ab ?_ | refine aA ?_ | refine ar ?_ | refine ae ?_ | ((refine' ak rfl ?_ J J ?_); rotate_left; exact ai af J J J J))
        refine aB af (fun _ => 0) J J trivial rfl fun w hm => ⟨?_, hm.below⟩
        refine bi ?_
        unfold nO
        rw [h1, h2, h3]; rfl
      | false =>
        refine am rfl (by rw [← h3]; unfold wM; rw [hfs]) ?_
        repeat' (first | refine ag ?_ | refine aa ?_ | refine ab ?_ | refine au ?_ | refine ae ?_ | ((refine' ak rfl ?_ J J ?_); rotate_left; first | exact ai af J J J J | exact ah af 0 J J J J J))
        cases hdn : q.q.dn with
        | true =>
          refine aw J J ?_
          repeat' (first | refine ag ?_ | refine aa ?_ | refine ab ?_ | refine aA ?_ | refine ar ?_ | refine ae ?_ | ((refine' ak rfl ?_ J J ?_); rotate_left; first | exact ai af J J J J | exact aq af J J J J J J | exact ah af 0 J J J J J) | refine aG rfl (ay J J J J ⟨J, trivial⟩ rfl (by kernel_rfl)) (fun w hm => uq q.q.cd es q.q.tx w htx hes) J J ?_)
          refine aB af (fun _ => 0) J J trivial rfl fun w hm => ⟨?_, hm.below⟩
          refine bi ?_
          unfold nO
          rw [h1, h2, h3, hdn, hes]; rfl
        | false =>
          refine am J J ?_
          repeat' (first | refine ag ?_ | refine aa ?_ | refine ab ?_ | refine au ?_ | refine ae ?_ | ((refine' ak rfl ?_ J J ?_); rotate_left; first | exact ai af J J J J | exact aq af J J J J J J | exact bp J J J J J | exact bx J J J J J | exact ah af 0 J J J J J | exact ah af 1 J J J J J | exact aO af J J J J J J J))
          cases h4 : wN v.c.ra q.q with
          | true =>
            refine aw rfl (by rw [← h4]; rfl) ?_
            repeat' (first | refine ag ?_ | refine aa ?_ | refine ab ?_ | refine aA ?_ | refine ar ?_ | refine ae ?_ | ((refine' ak rfl ?_ J J ?_); rotate_left; exact ai af J J J J))
            refine aB af (fun _ => 0) J J trivial rfl fun w hm => ⟨?_, hm.below⟩
            refine bi ?_
            unfold nO
            rw [h1, h2, h3, hdn, h4]; rfl
          | false =>
            refine am rfl (by rw [← h4]; rfl) ?_
            repeat' (first | refine ag ?_ | refine aa ?_ | refine ab ?_ | refine aA ?_ | refine au ?_ | refine ae ?_ | ((refine' ak rfl ?_ J J ?_); rotate_left; first | exact ai af J J J J | exact aq af J J J J J J | exact bx J J J J J | exact ah af 0 J J J J J))
            refine aB af (fun _ => 0) J J trivial rfl fun w hm => ⟨?_, hm.below⟩
            refine bi ?_
            unfold nO
            rw [h1, h2, h3, hdn, h4]; rfl
theorem yO {A : Nat → Prop} (v : CV) (q : QV) (b : Bool) (w : World) (hB : Rws A w 6 bC v.b v.c.bs) (hbl : v.c.bs.length ≤ 2513169434916) (hQ : QOk A w q) (hsz : eP q.q) (hhd : dH q.q.hd) (htx : q.q.tx.size ≤ 4611686018427387900) (h : nO v.c.ra v.c.bs q.q = b) : Calls Tryz.prog 40 #[.agg ⟨[.slice v.b v.c.bs.length v.bc, .int .i64 v.c.ra, .int .i64 v.c.rb, .int .i64 v.c.rc, .int .i64 v.c.rk, .int .i64 v.c.tk, .int .i64 v.c.mo, .int .i64 v.c.gn, .slice v.x v.qv.length v.xc, .int .i64 v.c.nx]⟩, .agg ⟨[.int .i64 q.q.id, .string q.q.sv, .string q.q.mt, .int .i64 q.q.late, .slice q.m q.q.ms.length q.mc, .int .i64 q.q.sh, .slice q.s q.q.mg.length q.sc, .int .i64 q.q.att, .string q.q.bk, .int .i64 q.q.st, .int .i64 q.q.nx, .slice q.a q.q.an.length q.ac, .bool q.q.dn, .int .i64 q.q.cd, .string q.q.tx]⟩] w fun r w' => r = .returned (.bool b) ∧ Below w.heap.size w w' := by subst h; exact wi v q w hB hbl hQ hsz hhd htx
theorem wj {A A2 : Nat → Prop} (x x2 : Option Addr) (l l2 : List BV) (cap cap2 : Nat) (w : World) (hR : Rws A w 6 bC x l) (hR2 : Rws A2 w 6 bC x2 l2) (hlen : l.length ≤ 2513169434916) (h : l = l2) : Calls Tryz.prog 23 #[.slice x l.length cap, .slice x2 l2.length cap2] w fun e w' => e = .returned (.bool true) ∧ Below w.heap.size w w' := by subst h; exact qg x x2 l cap cap2 w hR hR2 hlen
set_option maxRecDepth 100000 in
set_option maxHeartbeats 16000000 in
theorem ss {A A2 : Nat → Prop} (v u : CV) (w : World) (hC : COk A w v) (hD : COk A2 w u) (he : v.c = u.c) (hbl : v.c.bs.length ≤ 2513169434916) (hzq : v.qv.length ≤ 703687441775) (hz : ∀ x ∈ v.qv, eP x.q) : Calls Tryz.prog 7 #[.agg #[.slice v.b v.c.bs.length v.bc, .int .i64 v.c.ra, .int .i64 v.c.rb, .int .i64 v.c.rc, .int .i64 v.c.rk, .int .i64 v.c.tk, .int .i64 v.c.mo, .int .i64 v.c.gn, .slice v.x v.qv.length v.xc, .int .i64 v.c.nx], .agg #[.slice u.b u.c.bs.length u.bc, .int .i64 u.c.ra, .int .i64 u.c.rb, .int .i64 u.c.rc, .int .i64 u.c.rk, .int .i64 u.c.tk, .int .i64 u.c.mo, .int .i64 u.c.gn, .slice u.x u.qv.length u.xc, .int .i64 u.c.nx]] w fun e w' => e = .returned (.bool true) ∧ Below w.heap.size w w' := by
  have hqq : v.qv.map (·.q) = u.qv.map (·.q) := by rw [← hC.eq, ← hD.eq, he]
  have hql := eW hqq
  obtain ⟨c1, b1, bc1, x1, xc1, qv1⟩ := v
  obtain ⟨c2, b2, bc2, x2, xc2, qv2⟩ := u
  dsimp only at he
  subst he
  dsimp only at hbl hzq hz hqq hql ⊢
  refine aD Tryz.func7 rfl Tryz.ntmps7 J J ?_
  repeat' (first | refine ag ?_ | refine aa ?_ | refine ab ?_ | refine aA ?_ | refine ae ?_ | ((refine' ak rfl ?_ J J ?_); rotate_left; first | exact ai af J J J J | exact aq af J J J J J J | exact bx J J J J J | exact ah af 0 J J J J J | exact ah af 1 J J J J J | exact fX af fm J J J J J J (by kernel_rfl)) | refine aG rfl (ay J J J J ⟨J, J, trivial⟩ rfl (by kernel_rfl)) (fun w hm => wj b1 b2 c1.bs c1.bs bc1 bc2 w (hC.bk.below hm.below) (hD.bk.below hm.below) hbl rfl) J J ?_ | refine aG rfl (ay J J J J ⟨J, J, trivial⟩ rfl (by kernel_rfl)) (fun w hm => j9 x1 x2 xc1 xc2 qv1 qv2 w (hC.qs.below hm.below) (hD.qs.below hm.below) hqq (fun y hy => (hC.ok y hy).below hm.below) (fun y hy => (hD.ok y hy).below hm.below) hz (by omega)) J J ?_ | (refine aT J J J J J J ?_; intro g))
  refine aB af (fun _ => 0) J J trivial rfl fun w hm => ⟨?_, hm.below⟩
  refine bi ?_
  simp
end Go.Proofs.YtmdkfbmpenohiaaGreatDoor.Y
namespace Go.Proofs.YtmdkfbmpenohiaaGreatDoor.Y
open Go.RowKit
def vcGo (c : CL) : Option Int → List QR → Bool
  | _, [] => true
  | p, q :: r => if decide (q.id < 1) || decide (q.id ≥ c.nx) || (match p with | none => false | some x => decide (x ≥ q.id)) || !nO c.ra c.bs q then false else vcGo c (some q.id) r
def wO (c : CL) : Bool := fu c.bs != 0 || ((c.bs.length : Int) == 0) || eV c.ra c.rb c.rc c.rk != 0 || da c.tk c.mo c.gn != 0
def wP (c : CL) : Bool := decide (c.nx < 1) || decide (c.nx > 2147483648) || decide (((bQ c.qs).length : Int) > 64)
def sE (c : CL) : Bool := if wO c then false else if wP c then false else vcGo c none c.qs
theorem nP {c : CL} {p : Option Int} {q : QR} {r : List QR} (h : (decide (q.id < 1) || decide (q.id ≥ c.nx) || (match p with | none => false | some x => decide (x ≥ q.id)) || !nO c.ra c.bs q) = true) : vcGo c p (q :: r) = false := by rw [vcGo.eq_def]; dsimp only; rw [h]; rfl
theorem ii {c : CL} {p : Option Int} {q : QR} {r : List QR} (h : (decide (q.id < 1) || decide (q.id ≥ c.nx) || (match p with | none => false | some x => decide (x ≥ q.id)) || !nO c.ra c.bs q) = false) : vcGo c p (q :: r) = vcGo c (some q.id) r := by rw [vcGo.eq_def]; dsimp only; rw [h]; rfl
theorem wk {P : Program} {w0 : World} {S : bM} {M : List Ent} {o : Oper} {b : Bool} (v : Value) (h : b = true) : VO P w0 S M [(b, false)] o v := kX v (by rw [h]; rfl)
theorem wl {P : Program} {w0 : World} {S : bM} {M : List Ent} {o : Oper} {b : Bool} {c : Bool × Bool} (v : Value) (h : b = false) : VO P w0 S M [(b, true), c] o v := kX v (by rw [h]; rfl)
attribute [local irreducible] Calls
theorem wm (i : Nat) (h : i < 9000000000000000000) : IntKind.i64.wrap (((i + 1 : Nat) : Int) - 1) = (i : Int) := by
  rw [IntWalk.i64_in _ (by omega)]; omega
set_option maxRecDepth 100000 in
set_option maxHeartbeats 16000000 in
theorem lO {A : Nat → Prop} (v : CV) (w : World) (hC : COk A w v) (hbl : v.c.bs.length ≤ 2513169434916) (hzq : v.qv.length ≤ 703687441775) (hz : ∀ x ∈ v.qv, eP x.q) (hh : ∀ x ∈ v.qv, dH x.q.hd) (ht : ∀ x ∈ v.qv, x.q.tx.size ≤ 4611686018427387900) : Calls Tryz.prog 12 #[.agg #[.slice v.b v.c.bs.length v.bc, .int .i64 v.c.ra, .int .i64 v.c.rb, .int .i64 v.c.rc, .int .i64 v.c.rk, .int .i64 v.c.tk, .int .i64 v.c.mo, .int .i64 v.c.gn, .slice v.x v.qv.length v.xc, .int .i64 v.c.nx]] w fun e w' => e = .returned (.bool (sE v.c)) ∧ Below w.heap.size w w' := by
  obtain ⟨e1, he1⟩ : ∃ e, fu v.c.bs = e := ⟨_, rfl⟩
  obtain ⟨e2, he2⟩ : ∃ e, eV v.c.ra v.c.rb v.c.rc v.c.rk = e := ⟨_, rfl⟩
  obtain ⟨e3, he3⟩ : ∃ e, da v.c.tk v.c.mo v.c.gn = e := ⟨_, rfl⟩
  refine aD Tryz.func12 rfl Tryz.ntmps12 J J ?_
  repeat' (first | refine ag ?_ | refine aa ?_ | refine ab ?_ | refine ae ?_ | (refine aT J J J J J J ?_; intro g1) | ((refine' ak rfl ?_ J J ?_); rotate_left; first | exact ai af J J J J | exact aq af J J J J J J | exact bp J J J J J | exact ah af 0 J J J J J | exact aO af J J J J J J J) | refine aG rfl (ay J J J J ⟨J, trivial⟩ rfl (by kernel_rfl)) (fun w hm => um v.b v.c.bs v.bc e1 he1 w (hC.bk.below hm.below) hbl) J J ?_ | refine aG rfl (ay J J J J ⟨J, trivial⟩ rfl (by kernel_rfl)) (fun w hm => fP _ _ _ _ e2 he2 w) J J ?_ | refine aG rfl (ay J J J J ⟨J, trivial⟩ rfl (by kernel_rfl)) (fun w hm => fp _ _ _ e3 he3 w) J J ?_)
  cases h1 : wO v.c with
  | true =>
    refine aw rfl (by rw [← h1]; unfold wO; rw [he1, he2, he3]) ?_
    repeat' (first | refine ag ?_ | refine aa ?_ | refine ab ?_ | refine aA ?_ | refine ar ?_ | refine ae ?_ | ((refine' ak rfl ?_ J J ?_); rotate_left; exact ai af J J J J))
    refine aB af (fun _ => 0) J J trivial rfl fun w hm => ⟨?_, hm.below⟩
    refine bi ?_
    unfold sE; rw [h1]; rfl
  | false =>
    refine am rfl (by rw [← h1]; unfold wO; rw [he1, he2, he3]) ?_
    by_cases hn : v.c.nx < 1 ∨ v.c.nx > 2147483648
    · have h2 : wP v.c = true := by unfold wP; rcases hn with h | h <;> simp [h]
      have hnb : (decide (v.c.nx < 1) || decide (v.c.nx > 2147483648)) = true := by rcases hn with h | h <;> simp [h]
      repeat' (first | refine ag ?_ | refine aa ?_ | refine ab ?_ | refine au ?_ | refine ae ?_ | ((refine' ak rfl ?_ J J ?_); rotate_left; first | exact ai af J J J J | exact aq af J J J J J J | exact bp J J J J J | exact ah af 0 J J J J J | exact aO af J J J J J J J) | ((refine' ak rfl ?_ J J ?_); rotate_left; exact wk (.slice none 0 0) hnb))
      refine aw rfl (by rcases hn with h | h <;> simp [h]) ?_
      repeat' (first | refine ag ?_ | refine aa ?_ | refine ab ?_ | refine aA ?_ | refine ar ?_ | refine ae ?_ | ((refine' ak rfl ?_ J J ?_); rotate_left; exact ai af J J J J))
      refine aB af (fun _ => 0) J J trivial rfl fun w hm => ⟨?_, hm.below⟩
      refine bi ?_
      unfold sE; rw [h1, h2]; rfl
    · have hn1 : decide (v.c.nx < 1) = false := decide_eq_false (by omega)
      have hn2 : decide (v.c.nx > 2147483648) = false := decide_eq_false (by omega)
      repeat' (first | refine ag ?_ | refine aa ?_ | refine ab ?_ | refine au ?_ | ((refine' ak rfl ?_ J J ?_); rotate_left; first | exact ai af J J J J | exact aq af J J J J J J | exact bp J J J J J | exact ah af 0 J J J J J))
      refine mV (σ := Option Addr × Nat) (fun _ => True) (fun p => .slice p.1 (bQ v.c.qs).length p.2) (fun p => [.own p.1 p.2 3 1 (bQ v.c.qs).length ((bQ v.c.qs).flatMap iC)]) rfl (by simp [aL]; omega) (ay J J J J ⟨J, trivial⟩ rfl (by kernel_rfl)) (fun w1 hm => lM v w1 (hC.below hm.below) (by omega)) J J ?_
      rintro ⟨ap, ac⟩ -
      dsimp only [List.cons_append, List.nil_append]
      repeat' (first | refine ab ?_ | refine ae ?_ | ((refine' ak rfl ?_ J J ?_); rotate_left; first | exact aq af J J J J J J | exact bp J J J J J | exact aO af J J J J J J J))
      cases h2 : wP v.c with
      | true =>
        refine aw rfl (by rw [← h2]; rfl) ?_
        repeat' (first | refine ag ?_ | refine aa ?_ | refine ab ?_ | refine aA ?_ | refine ar ?_ | refine ae ?_ | ((refine' ak rfl ?_ J J ?_); rotate_left; exact ai af J J J J))
        refine aB af (fun _ => 0) J J trivial rfl fun w hm => ⟨?_, hm.below⟩
        refine bi ?_
        unfold sE; rw [h1, h2]; rfl
      | false =>
        refine am rfl (by rw [← h2]; rfl) ?_
        have hv0 : sE v.c = vcGo v.c none v.c.qs := by unfold sE; rw [h1, h2]; rfl
        repeat' (first | refine ag ?_ | refine aa ?_ | refine ab ?_ | refine au ?_ | refine aE ?_ | refine ae ?_ | ((refine' ak rfl ?_ J J ?_); rotate_left; exact ai af J J J J))
        refine bF (σ := Nat × Unit) (fun p => p.1 ≤ v.qv.length ∧ vcGo v.c none v.c.qs = vcGo v.c (match p.1 with | 0 => none | i + 1 => (v.qv[i]?).map (fun x => x.q.id)) (v.c.qs.drop p.1)) (fun p => [(3, [], .int .i64 ((p.1 : Nat) : Int)), (1, [], .pointer (some ⟨g1, 0, none⟩))]) (fun p => [.cl g1 32 (CC v)]) (fun p => v.qv.length - p.1) (0, ()) [false, true] ⟨Nat.zero_le _, rfl⟩ ⟨J, J, trivial⟩ rfl ?_
        rintro ⟨j, ⟨⟩⟩ ⟨hj0, hr⟩
        dsimp only at hj0 hr ⊢
        by_cases hj : j < v.qv.length
        · obtain ⟨u, hu⟩ : ∃ u, v.qv[j]? = some u := ⟨_, List.getElem?_eq_getElem hj⟩
          have hum := List.mem_of_getElem? hu
          obtain ⟨bb, off, hx, _, _, hrows⟩ := hC.qs (by omega)
          have hrow : w.rangeAt bb (off + j * 15) (QC u) := hrows j u hu
          have hqj : v.c.qs[j]? = some u.q := by rw [hC.eq, List.getElem?_map, hu]; rfl
          obtain ⟨vb, hvb⟩ : ∃ b, nO v.c.ra v.c.bs u.q = b := ⟨_, rfl⟩
          rw [cn hqj] at hr
          repeat' (first | refine ag ?_ | refine aa ?_ | refine ab ?_ | refine ae ?_ | ((refine' ak rfl ?_ J J ?_); rotate_left; first | exact ai af J J J J | exact aq af J J J J J J | exact ah af 0 J J J J J | exact aO af J J J J J J J))
          refine aw rfl (by simp; omega) ?_
          repeat' (first | refine ag ?_ | refine aa ?_ | refine ab ?_ | refine au ?_ | refine aE ?_ | refine aY aK rfl (by kernel_rfl) ?_ | refine ae ?_ | (refine aF af J J J J J J ?_; intro g4) | ((first | refine' ak rfl ?_ J J ?_ | refine' dm rfl ?_ J J J ?_); rotate_left; first | exact b7 af (m := 15) j rfl hx J J J J J J J (fun _ => rfl) (fun _ => hj) | exact a7 af (cs := QC u) J J J J J (fun _ => hrow) | exact ai af J J J J | exact aq af J J J J J J | exact bp J J J J J | exact ah af 0 J J J J J | exact ah af 1 J J J J J) | refine aj af 0 J J J J J J J J J J J J ?_)
          cases j with
          | zero =>
            dsimp only at hr
            repeat' (first | refine ab ?_ | refine ae ?_ | refine bz ?_ | ((refine' dm rfl ?_ J J J ?_); rotate_left; first | exact ai af J J J J | exact aq af J J J J J J | exact bp J J J J J | exact bx J J J J J | exact ah af 0 J J J J J | exact ah af 1 J J J J J) | refine bY rfl (ay J J J J ⟨J, J, trivial⟩ rfl (by kernel_rfl)) rfl (fun w hm => yO v u vb w (hC.bk.below hm.below) hbl ((hC.ok u hum).below hm.below) (hz u hum) (hh u hum) (ht u hum) hvb) J J ?_ | ((refine' dm rfl ?_ J J J ?_); rotate_left; exact wl (.pointer (some ⟨g1, 1, none⟩)) rfl))
            cases hb : (decide (u.q.id < 1) || decide (u.q.id ≥ v.c.nx) || (match (none : Option Int) with | none => false | some x => decide (x ≥ u.q.id)) || !nO v.c.ra v.c.bs u.q) with
            | true =>
              rw [nP hb] at hr
              refine aw rfl (by rw [← hb, hvb]; first | rfl | (rw [hpos]; rfl)) ?_
              repeat' (first | refine ag ?_ | refine aa ?_ | refine ab ?_ | refine aA ?_ | refine ar ?_ | refine aQ ?_ | refine ae ?_ | ((refine' ak rfl ?_ J J ?_); rotate_left; exact ai af J J J J))
              refine aB af (fun _ => 0) J J trivial rfl fun w hm => ⟨?_, hm.below⟩
              refine bi ?_
              rw [hv0, hr]
            | false =>
              rw [ii hb] at hr
              refine am rfl (by rw [← hb, hvb]; first | rfl | (rw [hpos]; rfl)) ?_
              repeat' (first | refine aa ?_ | refine ab ?_ | refine au ?_ | refine ax ?_ | refine ae ?_ | ((refine' ak rfl ?_ J J ?_); rotate_left; first | exact a6 J J J J J (by omega) | exact ai af J J J J))
              refine aR (1, ()) [false, true] ⟨hj, by dsimp only; rw [hr, hu]; rfl⟩ (show v.qv.length - 1 < v.qv.length - 0 by omega) ⟨J, J, trivial⟩ rfl
          | succ i =>
            have hi1 : i < v.qv.length := by omega
            have hsub := wm i (by omega)
            have hpos : decide (((i + 1 : Nat) : Int) > 0) = true := decide_eq_true (by omega)
            obtain ⟨u0, hu0⟩ : ∃ u, v.qv[i]? = some u := ⟨_, List.getElem?_eq_getElem hi1⟩
            have hrow0 : w.rangeAt bb (off + i * 15) (QC u0) := hrows i u0 hu0
            dsimp only at hr
            rw [hu0] at hr
            dsimp only [Option.map] at hr
            repeat' (first | refine ab ?_ | refine ae ?_ | refine bz ?_ | ((refine' dm rfl ?_ J J J ?_); rotate_left; first | exact b7 af (m := 15) i rfl hx J J J J J J J (fun _ => hsub) (fun _ => hi1) | exact bT af (v := .int .i64 u0.q.id) J J J J J (fun _ => hrow0 0 _ rfl) | exact ai af J J J J | exact aq af J J J J J J | exact bp J J J J J | exact bx J J J J J | exact ah af 0 J J J J J | exact ah af 1 J J J J J) | refine bY rfl (ay J J J J ⟨J, J, trivial⟩ rfl (by kernel_rfl)) rfl (fun w hm => yO v u vb w (hC.bk.below hm.below) hbl ((hC.ok u hum).below hm.below) (hz u hum) (hh u hum) (ht u hum) hvb) J J ?_)
            cases hb : (decide (u.q.id < 1) || decide (u.q.id ≥ v.c.nx) || (match (some u0.q.id : Option Int) with | none => false | some x => decide (x ≥ u.q.id)) || !nO v.c.ra v.c.bs u.q) with
            | true =>
              rw [nP hb] at hr
              refine aw rfl (by rw [← hb, hvb]; first | rfl | (rw [hpos]; rfl)) ?_
              repeat' (first | refine ag ?_ | refine aa ?_ | refine ab ?_ | refine aA ?_ | refine ar ?_ | refine aQ ?_ | refine ae ?_ | ((refine' ak rfl ?_ J J ?_); rotate_left; exact ai af J J J J))
              refine aB af (fun _ => 0) J J trivial rfl fun w hm => ⟨?_, hm.below⟩
              refine bi ?_
              rw [hv0, hr]
            | false =>
              rw [ii hb] at hr
              refine am rfl (by rw [← hb, hvb]; first | rfl | (rw [hpos]; rfl)) ?_
              repeat' (first | refine aa ?_ | refine ab ?_ | refine au ?_ | refine ax ?_ | refine ae ?_ | ((refine' ak rfl ?_ J J ?_); rotate_left; first | exact a6 J J J J J (by omega) | exact ai af J J J J))
              refine aR (i + 1 + 1, ()) [false, true] ⟨hj, by dsimp only; rw [hr, hu]; rfl⟩ (show v.qv.length - (i + 1 + 1) < v.qv.length - (i + 1) by omega) ⟨J, J, trivial⟩ rfl
        · rw [List.drop_eq_nil_of_le (by rw [hC.eq, List.length_map]; omega)] at hr
          repeat' (first | refine ag ?_ | refine aa ?_ | refine ab ?_ | refine ae ?_ | ((refine' ak rfl ?_ J J ?_); rotate_left; first | exact ai af J J J J | exact aq af J J J J J J | exact ah af 0 J J J J J | exact aO af J J J J J J J))
          refine am rfl (by simp; omega) ?_
          repeat' (first | refine ag ?_ | refine aa ?_ | refine ab ?_ | refine aA ?_ | refine a8 ?_ | refine aH ?_ | refine aN ?_ | refine ae ?_ | ((refine' ak rfl ?_ J J ?_); rotate_left; exact ai af J J J J))
          refine aB af (fun _ => 0) J J trivial rfl fun w hm => ⟨?_, hm.below⟩
          refine bi ?_
          rw [hv0, hr]; rfl
end Go.Proofs.YtmdkfbmpenohiaaGreatDoor.Y
namespace Go.Proofs.YtmdkfbmpenohiaaGreatDoor.Y
open Go.RowKit
set_option maxRecDepth 100000 in
set_option maxHeartbeats 32000000 in
theorem mZ {A : Nat → Prop} (v : CV) (o : OV) (w : World) (hC : COk A w v) (hw : eE v) (hQ : QOk A w o.q) (hV : VC v.c) (hzq : v.qv.length ≤ 703687441775) (han : ∀ q ∈ v.c.qs, q.an.length < 8796093022208) (hsz : eP o.q.q) (hhd : dH o.q.q.hd) (htx : o.tx.size ≤ 4611686018427387900) : Calls Tryz.prog 10 #[.agg #[.slice v.b v.c.bs.length v.bc, .int .i64 v.c.ra, .int .i64 v.c.rb, .int .i64 v.c.rc, .int .i64 v.c.rk, .int .i64 v.c.tk, .int .i64 v.c.mo, .int .i64 v.c.gn, .slice v.x v.qv.length v.xc, .int .i64 v.c.nx], .agg #[.int .i64 o.kd, .int .i64 o.id, .int .i64 o.n, .int .i64 o.now, .int .i64 o.q.q.id, .string o.q.q.sv, .string o.q.q.mt, .int .i64 o.q.q.late, .slice o.q.m o.q.q.ms.length o.q.mc, .int .i64 o.q.q.sh, .slice o.q.s o.q.q.mg.length o.q.sc, .int .i64 o.q.q.att, .string o.q.q.bk, .int .i64 o.q.q.st, .int .i64 o.q.q.nx, .slice o.q.a o.q.q.an.length o.q.ac, .bool o.q.q.dn, .int .i64 o.q.q.cd, .string o.q.q.tx, .string o.msg, .int .i64 o.cd, .string o.tx, .bool o.safe]] w fun e w' => ∃ s : SV, ∃ F : Nat → Prop, ((∀ b, F b → A b ∨ w.heap.size ≤ b) ∧ eE s.c) ∧ (s.c.c = (aX v.c o.d).1 ∧ s.l.map (·.q) = (aX v.c o.d).2.qs) ∧ e = .returned (.tuple #[.agg ⟨CC s.c⟩, .agg ⟨RC s (aX v.c o.d).2⟩]) ∧ StOk F w' s (aX v.c o.d).2.ids ∧ Below w.heap.size w w' := by
  have hC' := hC.lt
  have hQ' := hQ.lt
  refine aD Tryz.func10 rfl Tryz.ntmps10 J J ?_
  refine ag ?_
  refine aa ?_
  (refine aT J J J J J J ?_; intro g2)
  (refine aT J J J J J J ?_; intro g3)
  (refine aF af J J J J J J ?_; intro g4)
  (refine aF af J J J J J J ?_; intro g5)
  repeat' (first | refine ag ?_ | refine aa ?_ | refine ab ?_ | refine aE ?_ | refine ae ?_ | ((refine' ak rfl ?_ J J ?_); rotate_left; first | exact ai af J J J J | exact aq af J J J J J J | exact ah af 2 J J J J J))
  by_cases h0 : o.kd = 0
  · have hst : aX v.c o.d = ((ci v.c o.now o.q.q).1, ⟨(ci v.c o.now o.q.q).2.2, (ci v.c o.now o.q.q).2.1, [], []⟩) := by unfold aX; rw [if_pos (show o.d.kd = 0 from h0)]; rfl
    refine aw rfl (by simpa using h0) ?_
    repeat' (first | refine ag ?_ | refine aa ?_ | ((refine' ak rfl ?_ J J ?_); rotate_left; first | exact ai af J J J J | exact ah af 2 J J J J J | exact ah af 3 J J J J J))
    refine bE (σ := SV) (fun s F => ((∀ b, F b → A b ∨ w.heap.size ≤ b) ∧ eE s.c) ∧ s.c.c = (ci v.c o.now o.q.q).1 ∧ s.l = [] ∧ s.la = none ∧ s.lc = 0 ∧ s.ia = none ∧ s.ic = 0) (fun s => .tuple ⟨[.agg ⟨CC s.c⟩, .int .i64 (ci v.c o.now o.q.q).2.1, .int .i64 (ci v.c o.now o.q.q).2.2]⟩) (fun s F w => StOk F w s []) rfl (ay J J J J ⟨J, J, J, trivial⟩ rfl (by kernel_rfl)) (fun w1 hm => (sr (A := fun b => A b ∧ b < w.heap.size) v o.now o.q w1 (hC'.below hm.below) hw hzq hV (hQ'.below hm.below) hsz hhd).mono fun e w2 ⟨v', h1, h2, h3⟩ => by obtain ⟨F, hF, hM⟩ := b8 hm ⟨v', [], none, 0, none, 0⟩ [] (StOk.cli h3.1.1) h3.1.2; exact ⟨_, F, ⟨⟨hF, h3.2⟩, h1, rfl, rfl, rfl, rfl, rfl⟩, h2, hM⟩) J J ?_
    rintro ⟨⟨c1, b1, bc1, x1, xc1, qv1⟩, l1, la1, lc1, ia1, ic1⟩ F ⟨⟨hF, hwf⟩, hp⟩
    obtain ⟨hc1, rfl, rfl, rfl, rfl, rfl⟩ := hp
    repeat' (first | refine ag ?_ | refine aa ?_ | refine ab ?_ | refine aA ?_ | refine ar ?_ | refine aQ ?_ | refine ae ?_ | (refine aF af J J J J J J ?_; intro g7) | ((refine' ak rfl ?_ J J ?_); rotate_left; first | exact ai af J J J J | exact ah af 0 J J J J J | exact aC af J J ⟨J, J, trivial⟩ J J J) | refine aj af 0 J J J J J J J J J J J J ?_ | refine aj af 2 J J J J J J J J J J J J ?_ | refine aj af 3 J J J J J J J J J J J J ?_)
    (first | refine aB af (fun t => cond (Nat.beq t 4) 3 2) J J ⟨J, J, trivial⟩ rfl fun w1 hm => by rw [hst]; exact ⟨⟨⟨c1, b1, bc1, x1, xc1, qv1⟩, [], none, 0, none, 0⟩, F, ⟨hF, hwf⟩, ⟨hc1, rfl⟩, rfl, (hm.2.get (i := 1) rfl).2.1, hm.below⟩)
  refine am rfl (by simpa using h0) ?_
  repeat' (first | refine ag ?_ | refine aa ?_ | refine ab ?_ | refine ae ?_ | ((refine' ak rfl ?_ J J ?_); rotate_left; first | exact ai af J J J J | exact aq af J J J J J J))
  by_cases h1 : o.kd = 1
  · have hst : aX v.c o.d = ((cD v.c o.now).1, ⟨0, 0, (cD v.c o.now).2, []⟩) := by unfold aX; rw [if_neg (show ¬ o.d.kd = 0 from h0), if_pos (show o.d.kd = 1 from h1)]; rfl
    refine aw rfl (by simpa using h1) ?_
    repeat' (first | refine ag ?_ | refine aa ?_ | ((refine' ak rfl ?_ J J ?_); rotate_left; first | exact ai af J J J J | exact ah af 2 J J J J J | exact ah af 3 J J J J J))
    refine bE (σ := SV) (fun s F => ((∀ b, F b → A b ∨ w.heap.size ≤ b) ∧ eE s.c) ∧ s.c.c = (cD v.c o.now).1 ∧ s.l.map (·.q) = (cD v.c o.now).2 ∧ s.ia = none ∧ s.ic = 0) (fun s => .tuple ⟨[.agg ⟨CC s.c⟩, .slice s.la s.l.length s.lc]⟩) (fun s F w => StOk F w s []) rfl (ay J J J J ⟨J, J, trivial⟩ rfl (by kernel_rfl)) (fun w1 hm => (qw (A := fun b => A b ∧ b < w.heap.size) v o.now w1 (hC'.below hm.below) hw hzq hV).mono fun e w2 ⟨⟨c1, l1, p1⟩, ⟨h1, h2⟩, h3, h4, h5, h6⟩ => by obtain ⟨F, hF, hM⟩ := b8 hm ⟨c1, l1, p1.1, p1.2, none, 0⟩ [] ⟨h4.1.1, h5.mono fun _ => .inr, h6, dA⟩ h4.1.2; exact ⟨_, F, ⟨⟨hF, h4.2⟩, h1, h2, rfl, rfl⟩, h3, hM⟩) J J ?_
    rintro ⟨⟨c1, b1, bc1, x1, xc1, qv1⟩, l1, la1, lc1, ia1, ic1⟩ F ⟨⟨hF, hwf⟩, hp⟩
    obtain ⟨hc1, hl1, rfl, rfl⟩ := hp
    repeat' (first | refine ag ?_ | refine aa ?_ | refine ab ?_ | refine aA ?_ | refine ar ?_ | refine aQ ?_ | refine ae ?_ | (refine aF af J J J J J J ?_; intro g7) | ((refine' ak rfl ?_ J J ?_); rotate_left; first | exact ai af J J J J | exact ah af 0 J J J J J | exact aC af J J ⟨J, trivial⟩ J J J) | refine aj af 0 J J J J J J J J J J J J ?_ | refine aj af 2 J J J J J J J J J J J J ?_ | refine aj af 3 J J J J J J J J J J J J ?_)
    (first | refine aB af (fun t => cond (Nat.beq t 4) 3 2) J J ⟨J, J, trivial⟩ rfl fun w1 hm => by rw [hst]; exact ⟨⟨⟨c1, b1, bc1, x1, xc1, qv1⟩, l1, la1, lc1, none, 0⟩, F, ⟨hF, hwf⟩, ⟨hc1, hl1⟩, rfl, (hm.2.get (i := 1) rfl).2.1, hm.below⟩)
  refine am rfl (by simpa using h1) ?_
  repeat' (first | refine ag ?_ | refine aa ?_ | refine ab ?_ | refine ae ?_ | ((refine' ak rfl ?_ J J ?_); rotate_left; first | exact ai af J J J J | exact aq af J J J J J J))
  by_cases h2 : o.kd = 2
  · have hst : aX v.c o.d = ((cC v.c o.id o.n).1, ⟨(cC v.c o.id o.n).2, 0, [], []⟩) := by unfold aX; rw [if_neg (show ¬ o.d.kd = 0 from h0), if_neg (show ¬ o.d.kd = 1 from h1), if_pos (show o.d.kd = 2 from h2)]; rfl
    refine aw rfl (by simpa using h2) ?_
    repeat' (first | refine aa ?_ | ((refine' ak rfl ?_ J J ?_); rotate_left; first | exact ai af J J J J | exact ah af 2 J J J J J | exact ah af 3 J J J J J))
    refine bE (σ := SV) (fun s F => ((∀ b, F b → A b ∨ w.heap.size ≤ b) ∧ eE s.c) ∧ s.c.c = (cC v.c o.id o.n).1 ∧ s.l = [] ∧ s.la = none ∧ s.lc = 0 ∧ s.ia = none ∧ s.ic = 0) (fun s => .tuple ⟨[.agg ⟨CC s.c⟩, .int .i64 (cC v.c o.id o.n).2]⟩) (fun s F w => StOk F w s []) rfl (ay J J J J ⟨J, J, J, trivial⟩ rfl (by kernel_rfl)) (fun w1 hm => (sl (A := fun b => A b ∧ b < w.heap.size) v o.id o.n w1 (hC'.below hm.below) hw hzq).mono fun e w2 ⟨v', h1, h2, h3⟩ => by obtain ⟨F, hF, hM⟩ := b8 hm ⟨v', [], none, 0, none, 0⟩ [] (StOk.cli h3.1.1) h3.1.2; exact ⟨_, F, ⟨⟨hF, h3.2⟩, h1, rfl, rfl, rfl, rfl, rfl⟩, h2, hM⟩) J J ?_
    rintro ⟨⟨c1, b1, bc1, x1, xc1, qv1⟩, l1, la1, lc1, ia1, ic1⟩ F ⟨⟨hF, hwf⟩, hp⟩
    obtain ⟨hc1, rfl, rfl, rfl, rfl, rfl⟩ := hp
    repeat' (first | refine ag ?_ | refine aa ?_ | refine ab ?_ | refine aA ?_ | refine ax ?_ | refine ae ?_ | ((refine' ak rfl ?_ J J ?_); rotate_left; first | exact ai af J J J J | exact ah af 4 J J J J J | exact aC af J J ⟨J, trivial⟩ J J J) | refine aj af 1 J J J J J J J J J J J J ?_ | refine aj af 2 J J J J J J J J J J J J ?_ | refine aj af 4 J J J J J J J J J J J J ?_)
    (first | refine aB af (fun t => cond (Nat.beq t 4) 2 1) J J ⟨J, J, trivial⟩ rfl fun w1 hm => by rw [hst]; exact ⟨⟨⟨c1, b1, bc1, x1, xc1, qv1⟩, [], none, 0, none, 0⟩, F, ⟨hF, hwf⟩, ⟨hc1, rfl⟩, rfl, (hm.2.get (i := 0) rfl).2.1, hm.below⟩)
  refine am rfl (by simpa using h2) ?_
  repeat' (first | refine ag ?_ | refine aa ?_ | refine ab ?_ | refine ae ?_ | ((refine' ak rfl ?_ J J ?_); rotate_left; first | exact ai af J J J J | exact aq af J J J J J J))
  by_cases h3 : o.kd = 3
  · have hst : aX v.c o.d = ((cy v.c o.id o.msg).1, ⟨(cy v.c o.id o.msg).2, 0, [], []⟩) := by unfold aX; rw [if_neg (show ¬ o.d.kd = 0 from h0), if_neg (show ¬ o.d.kd = 1 from h1), if_neg (show ¬ o.d.kd = 2 from h2), if_pos (show o.d.kd = 3 from h3)]; rfl
    refine aw rfl (by simpa using h3) ?_
    repeat' (first | refine aa ?_ | ((refine' ak rfl ?_ J J ?_); rotate_left; first | exact ai af J J J J | exact ah af 2 J J J J J | exact ah af 3 J J J J J))
    refine bE (σ := SV) (fun s F => ((∀ b, F b → A b ∨ w.heap.size ≤ b) ∧ eE s.c) ∧ s.c.c = (cy v.c o.id o.msg).1 ∧ s.l = [] ∧ s.la = none ∧ s.lc = 0 ∧ s.ia = none ∧ s.ic = 0) (fun s => .tuple ⟨[.agg ⟨CC s.c⟩, .int .i64 (cy v.c o.id o.msg).2]⟩) (fun s F w => StOk F w s []) rfl (ay J J J J ⟨J, J, J, trivial⟩ rfl (by kernel_rfl)) (fun w1 hm => (sm (A := fun b => A b ∧ b < w.heap.size) v o.id o.msg w1 (hC'.below hm.below) hw hzq han).mono fun e w2 ⟨v', h1, h2, h3⟩ => by obtain ⟨F, hF, hM⟩ := b8 hm ⟨v', [], none, 0, none, 0⟩ [] (StOk.cli h3.1.1) h3.1.2; exact ⟨_, F, ⟨⟨hF, h3.2⟩, h1, rfl, rfl, rfl, rfl, rfl⟩, h2, hM⟩) J J ?_
    rintro ⟨⟨c1, b1, bc1, x1, xc1, qv1⟩, l1, la1, lc1, ia1, ic1⟩ F ⟨⟨hF, hwf⟩, hp⟩
    obtain ⟨hc1, rfl, rfl, rfl, rfl, rfl⟩ := hp
    repeat' (first | refine ag ?_ | refine aa ?_ | refine ab ?_ | refine aA ?_ | refine ax ?_ | refine ae ?_ | ((refine' ak rfl ?_ J J ?_); rotate_left; first | exact ai af J J J J | exact ah af 4 J J J J J | exact aC af J J ⟨J, trivial⟩ J J J) | refine aj af 1 J J J J J J J J J J J J ?_ | refine aj af 2 J J J J J J J J J J J J ?_ | refine aj af 4 J J J J J J J J J J J J ?_)
    (first | refine aB af (fun t => cond (Nat.beq t 4) 2 1) J J ⟨J, J, trivial⟩ rfl fun w1 hm => by rw [hst]; exact ⟨⟨⟨c1, b1, bc1, x1, xc1, qv1⟩, [], none, 0, none, 0⟩, F, ⟨hF, hwf⟩, ⟨hc1, rfl⟩, rfl, (hm.2.get (i := 0) rfl).2.1, hm.below⟩)
  refine am rfl (by simpa using h3) ?_
  repeat' (first | refine ag ?_ | refine aa ?_ | refine ab ?_ | refine ae ?_ | ((refine' ak rfl ?_ J J ?_); rotate_left; first | exact ai af J J J J | exact aq af J J J J J J))
  by_cases h4 : o.kd = 4
  · have hst : aX v.c o.d = ((de v.c o.now o.id o.cd o.tx o.safe).1, ⟨(de v.c o.now o.id o.cd o.tx o.safe).2, 0, [], []⟩) := by unfold aX; rw [if_neg (show ¬ o.d.kd = 0 from h0), if_neg (show ¬ o.d.kd = 1 from h1), if_neg (show ¬ o.d.kd = 2 from h2), if_neg (show ¬ o.d.kd = 3 from h3), if_pos (show o.d.kd = 4 from h4)]; rfl
    refine aw rfl (by simpa using h4) ?_
    repeat' (first | refine aa ?_ | ((refine' ak rfl ?_ J J ?_); rotate_left; first | exact ai af J J J J | exact ah af 2 J J J J J | exact ah af 3 J J J J J))
    refine bE (σ := SV) (fun s F => ((∀ b, F b → A b ∨ w.heap.size ≤ b) ∧ eE s.c) ∧ s.c.c = (de v.c o.now o.id o.cd o.tx o.safe).1 ∧ s.l = [] ∧ s.la = none ∧ s.lc = 0 ∧ s.ia = none ∧ s.ic = 0) (fun s => .tuple ⟨[.agg ⟨CC s.c⟩, .int .i64 (de v.c o.now o.id o.cd o.tx o.safe).2]⟩) (fun s F w => StOk F w s []) rfl (ay J J J J ⟨J, J, J, J, J, trivial⟩ rfl (by kernel_rfl)) (fun w1 hm => (ut (A := fun b => A b ∧ b < w.heap.size) v o.now o.id o.cd o.tx o.safe w1 (hC'.below hm.below) hw hzq hV htx).mono fun e w2 ⟨v', h1, h2, h3⟩ => by obtain ⟨F, hF, hM⟩ := b8 hm ⟨v', [], none, 0, none, 0⟩ [] (StOk.cli h3.1.1) h3.1.2; exact ⟨_, F, ⟨⟨hF, h3.2⟩, h1, rfl, rfl, rfl, rfl, rfl⟩, h2, hM⟩) J J ?_
    rintro ⟨⟨c1, b1, bc1, x1, xc1, qv1⟩, l1, la1, lc1, ia1, ic1⟩ F ⟨⟨hF, hwf⟩, hp⟩
    obtain ⟨hc1, rfl, rfl, rfl, rfl, rfl⟩ := hp
    repeat' (first | refine ag ?_ | refine aa ?_ | refine ab ?_ | refine aA ?_ | refine ax ?_ | refine ae ?_ | ((refine' ak rfl ?_ J J ?_); rotate_left; first | exact ai af J J J J | exact ah af 4 J J J J J | exact aC af J J ⟨J, trivial⟩ J J J) | refine aj af 1 J J J J J J J J J J J J ?_ | refine aj af 2 J J J J J J J J J J J J ?_ | refine aj af 4 J J J J J J J J J J J J ?_)
    (first | refine aB af (fun t => cond (Nat.beq t 4) 2 1) J J ⟨J, J, trivial⟩ rfl fun w1 hm => by rw [hst]; exact ⟨⟨⟨c1, b1, bc1, x1, xc1, qv1⟩, [], none, 0, none, 0⟩, F, ⟨hF, hwf⟩, ⟨hc1, rfl⟩, rfl, (hm.2.get (i := 0) rfl).2.1, hm.below⟩)
  refine am rfl (by simpa using h4) ?_
  repeat' (first | refine ag ?_ | refine aa ?_ | refine ab ?_ | refine ae ?_ | ((refine' ak rfl ?_ J J ?_); rotate_left; first | exact ai af J J J J | exact aq af J J J J J J))
  by_cases h5 : o.kd = 5
  · have hst : aX v.c o.d = ((cR v.c o.now o.id).1, ⟨(cR v.c o.now o.id).2, 0, [], []⟩) := by unfold aX; rw [if_neg (show ¬ o.d.kd = 0 from h0), if_neg (show ¬ o.d.kd = 1 from h1), if_neg (show ¬ o.d.kd = 2 from h2), if_neg (show ¬ o.d.kd = 3 from h3), if_neg (show ¬ o.d.kd = 4 from h4), if_pos (show o.d.kd = 5 from h5)]; rfl
    refine aw rfl (by simpa using h5) ?_
    repeat' (first | refine aa ?_ | ((refine' ak rfl ?_ J J ?_); rotate_left; first | exact ai af J J J J | exact ah af 2 J J J J J | exact ah af 3 J J J J J))
    refine bE (σ := SV) (fun s F => ((∀ b, F b → A b ∨ w.heap.size ≤ b) ∧ eE s.c) ∧ s.c.c = (cR v.c o.now o.id).1 ∧ s.l = [] ∧ s.la = none ∧ s.lc = 0 ∧ s.ia = none ∧ s.ic = 0) (fun s => .tuple ⟨[.agg ⟨CC s.c⟩, .int .i64 (cR v.c o.now o.id).2]⟩) (fun s F w => StOk F w s []) rfl (ay J J J J ⟨J, J, J, trivial⟩ rfl (by kernel_rfl)) (fun w1 hm => (sn (A := fun b => A b ∧ b < w.heap.size) v o.now o.id w1 (hC'.below hm.below) hw hzq hV).mono fun e w2 ⟨v', h1, h2, h3⟩ => by obtain ⟨F, hF, hM⟩ := b8 hm ⟨v', [], none, 0, none, 0⟩ [] (StOk.cli h3.1.1) h3.1.2; exact ⟨_, F, ⟨⟨hF, h3.2⟩, h1, rfl, rfl, rfl, rfl, rfl⟩, h2, hM⟩) J J ?_
    rintro ⟨⟨c1, b1, bc1, x1, xc1, qv1⟩, l1, la1, lc1, ia1, ic1⟩ F ⟨⟨hF, hwf⟩, hp⟩
    obtain ⟨hc1, rfl, rfl, rfl, rfl, rfl⟩ := hp
    repeat' (first | refine ag ?_ | refine aa ?_ | refine ab ?_ | refine aA ?_ | refine ax ?_ | refine ae ?_ | ((refine' ak rfl ?_ J J ?_); rotate_left; first | exact ai af J J J J | exact ah af 4 J J J J J | exact aC af J J ⟨J, trivial⟩ J J J) | refine aj af 1 J J J J J J J J J J J J ?_ | refine aj af 2 J J J J J J J J J J J J ?_ | refine aj af 4 J J J J J J J J J J J J ?_)
    (first | refine aB af (fun t => cond (Nat.beq t 4) 2 1) J J ⟨J, J, trivial⟩ rfl fun w1 hm => by rw [hst]; exact ⟨⟨⟨c1, b1, bc1, x1, xc1, qv1⟩, [], none, 0, none, 0⟩, F, ⟨hF, hwf⟩, ⟨hc1, rfl⟩, rfl, (hm.2.get (i := 0) rfl).2.1, hm.below⟩)
  refine am rfl (by simpa using h5) ?_
  repeat' (first | refine ag ?_ | refine aa ?_ | refine ab ?_ | refine ae ?_ | ((refine' ak rfl ?_ J J ?_); rotate_left; first | exact ai af J J J J | exact aq af J J J J J J))
  by_cases h6 : o.kd = 6
  · have hst : aX v.c o.d = ((df v.c o.now).1, ⟨0, 0, [], (df v.c o.now).2⟩) := by unfold aX; rw [if_neg (show ¬ o.d.kd = 0 from h0), if_neg (show ¬ o.d.kd = 1 from h1), if_neg (show ¬ o.d.kd = 2 from h2), if_neg (show ¬ o.d.kd = 3 from h3), if_neg (show ¬ o.d.kd = 4 from h4), if_neg (show ¬ o.d.kd = 5 from h5), if_pos (show o.d.kd = 6 from h6)]; rfl
    refine aw rfl (by simpa using h6) ?_
    repeat' (first | refine ag ?_ | refine aa ?_ | ((refine' ak rfl ?_ J J ?_); rotate_left; first | exact ai af J J J J | exact ah af 2 J J J J J | exact ah af 3 J J J J J))
    refine bE (σ := SV) (fun s F => ((∀ b, F b → A b ∨ w.heap.size ≤ b) ∧ eE s.c) ∧ s.c.c = (df v.c o.now).1 ∧ s.l = [] ∧ s.la = none ∧ s.lc = 0) (fun s => .tuple ⟨[.agg ⟨CC s.c⟩, .slice s.ia (df v.c o.now).2.length s.ic]⟩) (fun s F w => StOk F w s (df v.c o.now).2) rfl (ay J J J J ⟨J, J, trivial⟩ rfl (by kernel_rfl)) (fun w1 hm => (so (A := fun b => A b ∧ b < w.heap.size) v o.now w1 (hC'.below hm.below) hw hzq hV).mono fun e w2 ⟨⟨c1, p1⟩, h1, h3, h4, h5⟩ => by obtain ⟨F, hF, hM⟩ := b8 hm ⟨c1, [], none, 0, p1.1, p1.2⟩ (df v.c o.now).2 ⟨h4.1.1, dA, fun _ hq => (by cases hq), h5.mono fun _ => .inr⟩ h4.1.2; exact ⟨_, F, ⟨⟨hF, h4.2⟩, h1, rfl, rfl, rfl⟩, h3, hM⟩) J J ?_
    rintro ⟨⟨c1, b1, bc1, x1, xc1, qv1⟩, l1, la1, lc1, ia1, ic1⟩ F ⟨⟨hF, hwf⟩, hp⟩
    obtain ⟨hc1, rfl, rfl, rfl⟩ := hp
    repeat' (first | refine ag ?_ | refine aa ?_ | refine ab ?_ | refine aA ?_ | refine ar ?_ | refine aQ ?_ | refine ae ?_ | (refine aF af J J J J J J ?_; intro g7) | ((refine' ak rfl ?_ J J ?_); rotate_left; first | exact ai af J J J J | exact ah af 0 J J J J J | exact aC af J J ⟨J, trivial⟩ J J J) | refine aj af 0 J J J J J J J J J J J J ?_ | refine aj af 2 J J J J J J J J J J J J ?_ | refine aj af 3 J J J J J J J J J J J J ?_)
    (first | refine aB af (fun t => cond (Nat.beq t 4) 3 2) J J ⟨J, J, trivial⟩ rfl fun w1 hm => by rw [hst]; exact ⟨⟨⟨c1, b1, bc1, x1, xc1, qv1⟩, [], none, 0, ia1, ic1⟩, F, ⟨hF, hwf⟩, ⟨hc1, rfl⟩, rfl, (hm.2.get (i := 1) rfl).2.1, hm.below⟩)
  refine am rfl (by simpa using h6) ?_
  repeat' (first | refine ag ?_ | refine aa ?_ | refine ab ?_ | refine aA ?_ | refine au ?_ | refine ax ?_ | refine ae ?_ | ((refine' ak rfl ?_ J J ?_); rotate_left; first | exact ai af J J J J | exact ah af 3 J J J J J | exact aC af J J ⟨J, trivial⟩ J J J) | refine aj af 0 J J J J J J J J J J J J ?_ | refine aj af 1 J J J J J J J J J J J J ?_)
  have hst : aX v.c o.d = (v.c, ⟨0, 0, [], []⟩) := by unfold aX; rw [if_neg (show ¬ o.d.kd = 0 from h0), if_neg (show ¬ o.d.kd = 1 from h1), if_neg (show ¬ o.d.kd = 2 from h2), if_neg (show ¬ o.d.kd = 3 from h3), if_neg (show ¬ o.d.kd = 4 from h4), if_neg (show ¬ o.d.kd = 5 from h5), if_neg (show ¬ o.d.kd = 6 from h6)]
  (first | refine aB af (fun t => cond (Nat.beq t 4) 1 0) J J ⟨J, J, trivial⟩ rfl fun w1 hm => by rw [hst]; exact ⟨⟨v, [], none, 0, none, 0⟩, A, ⟨fun _ h => .inl h, hw⟩, ⟨rfl, rfl⟩, rfl, StOk.cli (hC.below hm.below), hm.below⟩)
end Go.Proofs.YtmdkfbmpenohiaaGreatDoor.Y
