/- Texts of this claim merged into one: Cl4, Cl5, Cl6. -/
import Derived.Test.YtmdkfbmpenohiaaGreatDoorBunC1
import Derived.Test.YtmdkfbmpenohiaaGreatDoorBunI
import Derived.Test.YtmdkfbmpenohiaaGreatDoorBunE
namespace Go.Proofs.YtmdkfbmpenohiaaGreatDoor.Y
open Go.RowKit
theorem wF {A : Nat → Prop} {w : World} {x : Option Addr} {l : List (ByteArray × ByteArray)} (h : Rws A w 2 mC x l) (cap : Nat) : MsIn w (.slice x l.length cap) l := by
  refine ⟨x, cap, rfl, fun hne => ?_⟩
  obtain ⟨b, off, h1, _, h2, h3⟩ := h (List.length_pos_iff.2 hne)
  exact ⟨b, off, h1, h2, fun i hi => ⟨h3 i _ (List.getElem?_eq_getElem hi) 0 _ rfl, h3 i _ (List.getElem?_eq_getElem hi) 1 _ rfl⟩⟩
theorem mE (h : kB) : (gN h).err = bH h := by
  unfold gN
  split
  · rename_i h0; exact h0.symm
  · rfl
theorem xn {A : Nat → Prop} (v : QV) (e : Int) (w : World) (hg : MLen w) (hm : Rws A w 2 mC v.m v.q.ms) (hz : dH v.q.hd) (he : bH v.q.hd = e) : Calls Tryz.prog 81 #[.agg ⟨[.string v.q.sv, .string v.q.mt, .int .i64 v.q.late, .slice v.m v.q.ms.length v.mc]⟩] w fun r w' => r = .returned (.tuple ⟨[.string ⟨(gN v.q.hd).bytes.toArray⟩, .int .i64 e]⟩) ∧ Below w.heap.size w w' := by
  have h := tM v.q.hd (.slice v.m v.q.ms.length v.mc) w hg (wF hm v.mc) hz
  rw [mE, he] at h
  exact h
theorem qe (m : ByteArray) (l : List ByteArray) : cL (m :: l) = (decide (16384 < m.size) || cL l) := rfl
theorem tN (q : QR) : (q.id != 0 || q.att != 0 || !q.bk.toList == (⟨#[]⟩ : ByteArray).toList || q.st != 0 || q.nx != 0 || decide ((q.an.length : Int) > 0) || q.dn || !(q.cd == 0 && (q.tx.toList == (⟨#[]⟩ : ByteArray).toList && true))) = eB q := by
  unfold eB
  rw [cI, cI]
  simp only [Bool.and_true, Bool.not_and, bne, Bool.beq_eq_decide_eq, Bool.not_not]
  have h1 : decide ((q.an.length : Int) > 0) = !decide (q.an.length = 0) := by rw [← decide_not]; congr 1; exact propext ⟨fun h => by omega, fun h => by omega⟩
  rw [h1]
  simp only [Bool.or_assoc]
theorem qR (n a b : Int) : tE n a b = iL n a b := rfl
set_option maxRecDepth 100000 in
set_option maxHeartbeats 8000000 in
theorem r4 {A : Nat → Prop} (v : CV) (q : QV) (w : World) (hC : COk A w v) (hzq : v.qv.length ≤ 703687441776) (hQ : QOk A w q) (hsz : eP q.q) (hg : MLen w) (hhd : dH q.q.hd) : Calls Tryz.prog 46 #[.agg #[.slice v.b v.c.bs.length v.bc, .int .i64 v.c.ra, .int .i64 v.c.rb, .int .i64 v.c.rc, .int .i64 v.c.rk, .int .i64 v.c.tk, .int .i64 v.c.mo, .int .i64 v.c.gn, .slice v.x v.qv.length v.xc, .int .i64 v.c.nx], .agg #[.int .i64 q.q.id, .string q.q.sv, .string q.q.mt, .int .i64 q.q.late, .slice q.m q.q.ms.length q.mc, .int .i64 q.q.sh, .slice q.s q.q.mg.length q.sc, .int .i64 q.q.att, .string q.q.bk, .int .i64 q.q.st, .int .i64 q.q.nx, .slice q.a q.q.an.length q.ac, .bool q.q.dn, .int .i64 q.q.cd, .string q.q.tx]] w fun e w' => e = .returned (.int .i64 (dv v.c q.q)) ∧ Below w.heap.size w w' := by
  obtain ⟨hz1, hz2, hz3⟩ := hsz
  obtain ⟨eh, heh⟩ : ∃ e, bH q.q.hd = e := ⟨_, rfl⟩
  refine aD Tryz.func46 rfl Tryz.ntmps46 J J ?_
  refine ag ?_
  refine aa ?_
  (refine aT J J J J J J ?_; intro g2)
  (refine aT J J J J J J ?_; intro g3)
  repeat' (first | refine ag ?_ | refine aa ?_ | refine ab ?_ | refine ae ?_ | ((refine' ak rfl ?_ J J ?_); rotate_left; first | exact ai af J J J J | exact aq af J J J J J J | exact bp J J J J J | exact ah af 0 J J J J J | exact ew af fm J J J J J J (by kernel_rfl) | exact aO af J J J J J J J | exact aC af J J trivial J J J) | refine aG rfl (ay J J J J ⟨J, trivial⟩ rfl (by kernel_rfl)) (fun w hm => kz (counts q.q.sh w)) J J ?_ | refine aG rfl (ay J J J J ⟨J, J, J, trivial⟩ rfl (by kernel_rfl)) (fun w hm => tF _ _ _ w) J J ?_)
  by_cases hA : eB q.q = true ∨ c2 q.q.sh = 0 ∨ iL q.q.mg.length (c1 q.q.sh) (c2 q.q.sh) = false
  · refine aw rfl (by rw [tN, qR]; rcases hA with h | h | h <;> simp [h]) ?_
    repeat' (first | refine ag ?_ | refine aa ?_ | refine ab ?_ | refine aA ?_ | refine ar ?_ | refine ae ?_ | ((refine' ak rfl ?_ J J ?_); rotate_left; exact ai af J J J J))
    refine aB af (fun _ => 0) J J trivial rfl fun w hm => ⟨?_, hm.below⟩
    unfold dv; rw [if_pos hA]
  · have hf1 : dv v.c q.q = if bH q.q.hd ≠ 0 then bH q.q.hd else if cL q.q.mg = true then 3 else if 64 ≤ (bQ v.c.qs).length ∨ 2147483647 < v.c.nx then 22 else 0 := if_neg hA
    refine am rfl (by rw [tN, qR]; simp at hA; simp [hA]) ?_
    repeat' (first | refine ag ?_ | refine aa ?_ | refine ab ?_ | refine au ?_ | refine ae ?_ | ((refine' ak rfl ?_ J J ?_); rotate_left; first | exact ai af J J J J | exact aq af J J J J J J | exact ah af 0 J J J J J) | refine aG rfl (ay J J J J ⟨J, trivial⟩ rfl (by kernel_rfl)) (fun w hm => xn q eh w (hg.below hm.below) (hQ.1.below hm.below) hhd heh) J J ?_)
    by_cases he0 : eh = 0
    · refine am rfl (by simpa using he0) ?_
      rw [heh, if_neg (by simpa using he0)] at hf1
      repeat' (first | refine ag ?_ | refine aa ?_ | refine ab ?_ | refine au ?_ | refine aE ?_ | refine ae ?_ | ((refine' ak rfl ?_ J J ?_); rotate_left; first | exact ai af J J J J | exact ah af 0 J J J J J | exact aO af J J J J J J J))
      refine bF (σ := Nat) (fun p => p ≤ q.q.mg.length ∧ cL q.q.mg = cL (q.q.mg.drop p)) (fun p => [(87, [], .int .i64 ((p : Nat) : Int)), (86, [], .int .i64 ((q.q.mg.length : Nat) : Int)), (85, [], .slice q.s q.q.mg.length q.sc), (2, [], .pointer (some ⟨g2, 0, none⟩))]) (fun _ => [.cl g3 50 [.int .i64 q.q.id, .string q.q.sv, .string q.q.mt, .int .i64 q.q.late, .slice q.m q.q.ms.length q.mc, .int .i64 q.q.sh, .slice q.s q.q.mg.length q.sc, .int .i64 q.q.att, .string q.q.bk, .int .i64 q.q.st, .int .i64 q.q.nx, .slice q.a q.q.an.length q.ac, .bool q.q.dn, .int .i64 q.q.cd, .string q.q.tx], .cl g2 32 [.slice v.b v.c.bs.length v.bc, .int .i64 v.c.ra, .int .i64 v.c.rb, .int .i64 v.c.rc, .int .i64 v.c.rk, .int .i64 v.c.tk, .int .i64 v.c.mo, .int .i64 v.c.gn, .slice v.x v.qv.length v.xc, .int .i64 v.c.nx]]) (fun p => q.q.mg.length - p) 0 [true, true] ⟨Nat.zero_le _, rfl⟩ ⟨J, J, J, J, trivial⟩ rfl ?_
      rintro j ⟨hj0, hr⟩
      by_cases hj : j < q.q.mg.length
      · obtain ⟨s, hs⟩ : ∃ s, q.q.mg[j]? = some s := ⟨q.q.mg[j], List.getElem?_eq_getElem hj⟩
        obtain ⟨bb, off, hx, _, _, hrows⟩ := hQ.2.1 (by omega)
        have hrow : w.rangeAt bb (off + j * 1) (sC s) := hrows j s hs
        rw [hx]
        rw [cn hs, qe] at hr
        repeat' (first | refine ag ?_ | refine aa ?_ | refine ab ?_ | refine ae ?_ | ((refine' ak rfl ?_ J J ?_); rotate_left; exact aq af J J J J J J))
        refine aw rfl (by simp; omega) ?_
        repeat' (first | refine ag ?_ | refine aa ?_ | refine ab ?_ | refine au ?_ | refine aE ?_ | refine ae ?_ | ((refine' ak rfl ?_ J J ?_); rotate_left; first | exact bA af (m := 1) j J J J J J J J J (fun _ => rfl) (fun _ => hj) | exact bT af (v := .string s) J J J J J (fun _ => hrow 0 _ rfl) | exact ai af J J J J | exact aq af J J J J J J | exact aO af J J J J J J J))
        by_cases hl : 16384 < s.size
        · refine aw rfl (by simp; omega) ?_
          repeat' (first | refine ag ?_ | refine aa ?_ | refine ab ?_ | refine aA ?_ | refine ar ?_ | refine aQ ?_ | refine ae ?_ | ((refine' ak rfl ?_ J J ?_); rotate_left; exact ai af J J J J))
          refine aB af (fun _ => 0) J J trivial rfl fun w hm => ⟨?_, hm.below⟩
          rw [hf1, if_pos (by rw [hr]; simp [hl])]
        · refine am rfl (by simp; omega) ?_
          repeat' (first | refine aa ?_ | refine ab ?_ | refine au ?_ | refine ax ?_ | refine ae ?_ | ((refine' ak rfl ?_ J J ?_); rotate_left; first | exact a6 J J J J J (by omega) | exact ai af J J J J))
          refine aR (j + 1) [true, true] ⟨hj, by rw [hr]; simp [hl]⟩ (show q.q.mg.length - (j + 1) < q.q.mg.length - j by omega) ⟨J, J, J, J, trivial⟩ rfl
      · rw [List.drop_eq_nil_of_le (by omega)] at hr
        rw [if_neg (by rw [hr]; simp [cL])] at hf1
        repeat' (first | refine ag ?_ | refine aa ?_ | refine ab ?_ | refine ae ?_ | ((refine' ak rfl ?_ J J ?_); rotate_left; exact aq af J J J J J J))
        refine am rfl (by simp; omega) ?_
        repeat' (first | refine ag ?_ | refine aa ?_ | refine ab ?_ | refine a8 ?_ | refine aH ?_ | refine aN ?_ | ((refine' ak rfl ?_ J J ?_); rotate_left; exact ah af 1 J J J J J))
        refine bf (σ := Option Addr × Nat) (fun _ => True) (fun p => .slice p.1 (bQ v.c.qs).length p.2) (fun p => [.own p.1 p.2 3 1 (bQ v.c.qs).length ((bQ v.c.qs).flatMap iC)]) rfl (ay J J J J ⟨J, trivial⟩ rfl (by kernel_rfl)) (fun w1 hm => ny v w1 (hC.below hm.below) hzq) J J ?_
        rintro ⟨ap, ac⟩ -
        dsimp only [List.cons_append, List.nil_append]
        repeat' (first | refine ab ?_ | refine ae ?_ | ((refine' ak rfl ?_ J J ?_); rotate_left; first | exact ai af J J J J | exact aq af J J J J J J | exact bp J J J J J | exact ah af 2 J J J J J | exact aO af J J J J J J J))
        by_cases hfl : 64 ≤ (bQ v.c.qs).length ∨ 2147483647 < v.c.nx
        · rw [if_pos hfl] at hf1
          refine aw rfl (by simp; omega) ?_
          repeat' (first | refine ag ?_ | refine aa ?_ | refine ab ?_ | refine aA ?_ | refine ar ?_ | refine ae ?_ | ((refine' ak rfl ?_ J J ?_); rotate_left; exact ai af J J J J))
          refine aB af (fun _ => 0) J J trivial rfl fun w hm => ⟨?_, hm.below⟩
          rw [hf1]
        · rw [if_neg hfl] at hf1
          refine am rfl (by simp; omega) ?_
          repeat' (first | refine ag ?_ | refine aa ?_ | refine ab ?_ | refine aA ?_ | refine au ?_ | refine ae ?_ | ((refine' ak rfl ?_ J J ?_); rotate_left; exact ai af J J J J))
          refine aB af (fun _ => 0) J J trivial rfl fun w hm => ⟨?_, hm.below⟩
          rw [hf1]
    · refine aw rfl (by simpa using he0) ?_
      repeat' (first | refine ag ?_ | refine aa ?_ | refine ab ?_ | refine aA ?_ | refine ar ?_ | refine ae ?_ | ((refine' ak rfl ?_ J J ?_); rotate_left; exact ai af J J J J))
      refine aB af (fun _ => 0) J J trivial rfl fun w hm => ⟨?_, hm.below⟩
      rw [hf1, heh, if_pos he0]
end Go.Proofs.YtmdkfbmpenohiaaGreatDoor.Y
namespace Go.Proofs.YtmdkfbmpenohiaaGreatDoor.Y
open Go.RowKit
theorem qf (A T C : List Ent) : (A ++ (T ++ C)).Perm (A ++ (C ++ T)) := List.Perm.append_left A List.perm_append_comm
theorem eW {l1 l2 : List QV} (h : l1.map (·.q) = l2.map (·.q)) : l1.length = l2.length := by
  have := congrArg List.length h
  simpa using this
theorem wG {l1 l2 : List QV} (h : l1.map (·.q) = l2.map (·.q)) (hz : ∀ u ∈ l2, eP u.q) : ∀ u ∈ l1, eP u.q := fun u hu => by
  have h1 : u.q ∈ l1.map (·.q) := List.mem_map_of_mem hu
  rw [h] at h1
  obtain ⟨u2, h2, h3⟩ := List.mem_map.1 h1
  rw [← h3]; exact hz u2 h2
def Out (A : Nat → Prop) (w w' : World) (v' : CV) : Prop := COk (fun b => A b ∨ w.heap.size ≤ b) w' v' ∧ Below w.heap.size w w'
theorem Out.same {A : Nat → Prop} {w w' : World} {v : CV} (h : COk A w v) (hb : Below w.heap.size w w') : Out A w w' v := ⟨(h.below hb).mono fun _ => .inl, hb⟩
theorem Out.made {A : Nat → Prop} {w w' : World} {v : CV} (h : Mem w w' (EC v)) (he : v.c.qs = v.qv.map (·.q)) : Out A w w' v := ⟨(COk.own h.2 he).mono fun _ => .inr, h.1⟩
theorem xp {A : Nat → Prop} (v : CV) (q : QV) (e : Int) (w : World) (hC : COk A w v) (hzq : v.qv.length ≤ 703687441776) (hQ : QOk A w q) (hsz : eP q.q) (hg : MLen w) (hhd : dH q.q.hd) (he : dv v.c q.q = e) : Calls Tryz.prog 46 #[.agg ⟨[.slice v.b v.c.bs.length v.bc, .int .i64 v.c.ra, .int .i64 v.c.rb, .int .i64 v.c.rc, .int .i64 v.c.rk, .int .i64 v.c.tk, .int .i64 v.c.mo, .int .i64 v.c.gn, .slice v.x v.qv.length v.xc, .int .i64 v.c.nx]⟩, .agg ⟨[.int .i64 q.q.id, .string q.q.sv, .string q.q.mt, .int .i64 q.q.late, .slice q.m q.q.ms.length q.mc, .int .i64 q.q.sh, .slice q.s q.q.mg.length q.sc, .int .i64 q.q.att, .string q.q.bk, .int .i64 q.q.st, .int .i64 q.q.nx, .slice q.a q.q.an.length q.ac, .bool q.q.dn, .int .i64 q.q.cd, .string q.q.tx]⟩] w fun r w' => r = .returned (.int .i64 e) ∧ Below w.heap.size w w' := by subst he; exact r4 v q w hC hzq hQ hsz hg hhd
theorem tO {c : CL} {q : QR} (h : dv c q = 0) : c.nx ≤ 2147483647 := by
  unfold dv at h
  split at h
  · omega
  · split at h
    · omega
    · split at h
      · omega
      · split at h <;> omega
set_option maxRecDepth 100000 in
set_option maxHeartbeats 8000000 in
theorem oG {A : Nat → Prop} (v : CV) (now : Int) (q : QV) (w : World) (hC : COk A w v) (hzq : v.qv.length ≤ 703687441775) (hzb : v.c.bs.length ≤ 2513169434916) (hz : ∀ u ∈ v.qv, eP u.q) (hQ : QOk A w q) (hsz : eP q.q) (hg : MLen w) (hhd : dH q.q.hd) (hnx : 0 ≤ v.c.nx) : Calls Tryz.prog 25 #[.agg #[.slice v.b v.c.bs.length v.bc, .int .i64 v.c.ra, .int .i64 v.c.rb, .int .i64 v.c.rc, .int .i64 v.c.rk, .int .i64 v.c.tk, .int .i64 v.c.mo, .int .i64 v.c.gn, .slice v.x v.qv.length v.xc, .int .i64 v.c.nx], .int .i64 now, .agg #[.int .i64 q.q.id, .string q.q.sv, .string q.q.mt, .int .i64 q.q.late, .slice q.m q.q.ms.length q.mc, .int .i64 q.q.sh, .slice q.s q.q.mg.length q.sc, .int .i64 q.q.att, .string q.q.bk, .int .i64 q.q.st, .int .i64 q.q.nx, .slice q.a q.q.an.length q.ac, .bool q.q.dn, .int .i64 q.q.cd, .string q.q.tx]] w fun e w' => ∃ v' : CV, v'.c = (ci v.c now q.q).1 ∧ e = .returned (.tuple #[.agg ⟨CC v'⟩, .int .i64 (ci v.c now q.q).2.1, .int .i64 (ci v.c now q.q).2.2]) ∧ Out A w w' v' := by
  obtain ⟨ef, hef⟩ : ∃ e, dv v.c q.q = e := ⟨_, rfl⟩
  refine aD Tryz.func25 rfl Tryz.ntmps25 J J ?_
  refine ag ?_
  refine aa ?_
  (refine aT J J J J J J ?_; intro g3)
  (refine aT J J J J J J ?_; intro g5)
  (refine aF af J J J J J J ?_; intro g6)
  repeat' (first | refine ag ?_ | refine aa ?_ | refine ab ?_ | refine ae ?_ | ((refine' ak rfl ?_ J J ?_); rotate_left; first | exact ai af J J J J | exact aq af J J J J J J | exact ah af 1 J J J J J | exact ah af 2 J J J J J) | refine aG rfl (ay J J J J ⟨J, J, trivial⟩ rfl (by kernel_rfl)) (fun w hm => (xp v q ef w (hC.below hm.below) (by omega) (hQ.below hm.below) hsz (hg.below hm.below) hhd hef)) J J ?_)
  by_cases he0 : ef = 0
  · refine am rfl (by simpa using he0) ?_
    have hcl : ci v.c now q.q = ({ v.c with qs := v.c.qs ++ [dD v.c now q.q], nx := v.c.nx + 1 }, v.c.nx, 0) := by unfold ci; rw [if_neg (by rw [hef]; simpa using he0)]
    have hnx2 : v.c.nx ≤ 2147483647 := tO (hef.trans he0)
    repeat' (first | refine ag ?_ | refine aa ?_ | refine ab ?_ | refine au ?_ | refine ae ?_ | ((refine' ak rfl ?_ J J ?_); rotate_left; first | exact ai af J J J J | exact ah af 2 J J J J J) | refine aG rfl (ay J J J J ⟨J, trivial⟩ rfl (by kernel_rfl)) (fun w hm => gl now w) J J ?_)
    refine bf (σ := CV) (fun s => s.c = v.c ∧ s.qv.map (·.q) = v.qv.map (·.q)) (fun s => .agg ⟨CC s⟩) EC rfl (ay J J J J ⟨J, trivial⟩ rfl (by kernel_rfl)) (fun w1 hm => dR v w1 (hC.below hm.below) hzb (by omega) hz) J J ?_
    rintro ⟨c1, b1, bc1, x1, xc1, qv1⟩ ⟨hc1, hq1⟩
    dsimp only at hc1 hq1
    subst hc1
    have hln := eW hq1
    refine dN (fun w hM => hM.perm (qf [_, _] _ _)) ?_
    dsimp only [List.cons_append, List.nil_append]
    repeat' (first | refine ag ?_ | refine aa ?_ | refine ab ?_ | refine ae ?_ | (refine aF af J J J J J J ?_; intro g10) | ((refine' ak rfl ?_ J J ?_); rotate_left; exact ah af 4 J J J J J) | refine aj af 0 J J J J J J J J J J J J ?_)
    refine bf (σ := QV) (fun s => s.q = q.q) (fun s => .agg ⟨QC s⟩) EQ rfl (ay J J J J ⟨J, trivial⟩ rfl (by kernel_rfl)) (fun w1 hm => fB q w1 (hQ.below hm.below) hsz) J J ?_
    rintro ⟨qq, m1, mc1, s1, sc1, a1, ac1⟩ hqq
    dsimp only at hqq
    subst hqq
    dsimp only [EQ, List.cons_append, List.nil_append]
    repeat' (first | refine ag ?_ | refine aa ?_ | refine ab ?_ | refine ae ?_ | ((refine' ak rfl ?_ J J ?_); rotate_left; first | exact ai af J J J J | exact ah af 7 J J J J J | exact ah af 8 J J J J J) | refine aG rfl (ay J J J J ⟨J, J, trivial⟩ rfl (by kernel_rfl)) (fun w hm => lA (⟨{ q.q with id := v.c.nx, nx := bI now }, m1, mc1, s1, sc1, a1, ac1⟩ : QV) (bI now) w) J J ?_ | refine aj af 7 J J J J J J J J J J J J ?_)
    cases hp : dC (⟨{ q.q with id := v.c.nx, nx := bI now }, m1, mc1, s1, sc1, a1, ac1⟩ : QV).q (bI now) with
    | true =>
      refine aw rfl (by first | exact hp | rfl) ?_
      repeat' (first | refine ag ?_ | refine aa ?_ | refine ab ?_ | refine ae ?_ | (refine bq af J J J ⟨J, trivial⟩ J J J J J J J J ?_; intro g) | (refine bK af 5 0 J J J J J J J J J (fun _ _ => rfl) eR J J (by unfold maxLen; omega) (by omega) J J ?_; intro sa sc) | ((refine' ak rfl ?_ J J ?_); rotate_left; first | exact a6 J J J J J (by omega) | exact ai af J J J J | exact ah af 3 J J J J J | exact ah af 4 J J J J J | exact ah af 7 J J J J J | exact aC af J J ⟨J, trivial⟩ J J J) | refine aj af 4 J J J J J J J J J J J J ?_ | refine aj af 7 J J J J J J J J J J J J ?_)
      refine fw [true, true, true, true, true, true, true, false] aK (by kernel_rfl) ?_
      iterate 3 (((refine' lX J J ?_ J J ?_); rotate_left; first | exact ai af J J J J | exact ah af 4 J J J J J | exact ah af 7 J J J J J))
      refine lr af 7 J J J J J J J J J J J J (fun w h => h.mask [true, true, true, true, true, true, true, false] rfl) ?_
      iterate 2 (((refine' lX J J ?_ J J ?_); rotate_left; exact ai af J J J J))
      refine lp ?_
      repeat' (first | refine ab ?_ | refine aA ?_)
      (refine aB af (fun _ => 7) J J ⟨J, trivial⟩ rfl fun w1 hm => ⟨⟨{ v.c with qs := v.c.qs ++ [(⟨{ q.q with id := v.c.nx, nx := bI now, dn := true, cd := 3, tx := aZ }, m1, mc1, s1, sc1, a1, ac1⟩ : QV).q], nx := v.c.nx + 1 }, b1, bc1, sa, sc, qv1 ++ [(⟨{ q.q with id := v.c.nx, nx := bI now, dn := true, cd := 3, tx := aZ }, m1, mc1, s1, sc1, a1, ac1⟩ : QV)]⟩, ?_, ?_, ?_⟩)
      · rw [hcl]; unfold dD; rw [if_pos hp]
      · rw [hcl]; simp [CC]
      · refine Out.made ?_ (by simp [hC.eq, hq1])
        have h9 := (hm.mask [false, true, true, true, false, true, true, false, false, false] rfl).perm (yv [_, _, _] [_, _] (qv1.flatMap EQ))
        unfold EC
        simp only [List.flatMap_append, List.flatMap_singleton, List.length_append, List.length_singleton]
        exact h9
    | false =>
      refine am rfl (by first | exact hp | rfl) ?_
      repeat' (first | refine ag ?_ | refine aa ?_ | refine ab ?_ | refine au ?_ | refine ae ?_ | (refine bq af J J J ⟨J, trivial⟩ J J J J J J J J ?_; intro g) | (refine bK af 5 0 J J J J J J J J J (fun _ _ => rfl) eR J J (by unfold maxLen; omega) (by omega) J J ?_; intro sa sc) | ((refine' ak rfl ?_ J J ?_); rotate_left; first | exact a6 J J J J J (by omega) | exact ai af J J J J | exact ah af 3 J J J J J | exact ah af 4 J J J J J | exact ah af 7 J J J J J) | refine aj af 4 J J J J J J J J J J J J ?_)
      refine fw [true, true, true, true, true, true, true, false] aK (by kernel_rfl) ?_
      iterate 3 (((refine' lX J J ?_ J J ?_); rotate_left; first | exact ai af J J J J | exact ah af 4 J J J J J | exact ah af 7 J J J J J))
      refine lr af 7 J J J J J J J J J J J J (fun w h => h.mask [true, true, true, true, true, true, true, false] rfl) ?_
      iterate 2 (((refine' lX J J ?_ J J ?_); rotate_left; exact ai af J J J J))
      refine lp ?_
      repeat' (first | refine ab ?_ | refine aA ?_)
      (refine aB af (fun _ => 7) J J ⟨J, trivial⟩ rfl fun w1 hm => ⟨⟨{ v.c with qs := v.c.qs ++ [(⟨{ q.q with id := v.c.nx, nx := bI now }, m1, mc1, s1, sc1, a1, ac1⟩ : QV).q], nx := v.c.nx + 1 }, b1, bc1, sa, sc, qv1 ++ [(⟨{ q.q with id := v.c.nx, nx := bI now }, m1, mc1, s1, sc1, a1, ac1⟩ : QV)]⟩, ?_, ?_, ?_⟩)
      · rw [hcl]; unfold dD; rw [if_neg (by rw [hp]; decide)]
      · rw [hcl]; simp [CC]
      · refine Out.made ?_ (by simp [hC.eq, hq1])
        have h9 := (hm.mask [false, true, true, true, false, true, true, false, false, false] rfl).perm (yv [_, _, _] [_, _] (qv1.flatMap EQ))
        unfold EC
        simp only [List.flatMap_append, List.flatMap_singleton, List.length_append, List.length_singleton]
        exact h9
  · refine aw rfl (by simpa using he0) ?_
    have hcl : ci v.c now q.q = (v.c, 0, ef) := by unfold ci; rw [if_pos (by rw [hef]; exact he0), hef]
    repeat' (first | refine ag ?_ | refine aa ?_ | refine ab ?_ | refine aA ?_ | refine ar ?_ | refine ae ?_ | ((refine' ak rfl ?_ J J ?_); rotate_left; first | exact ai af J J J J | exact ah af 2 J J J J J) | refine aj af 0 J J J J J J J J J J J J ?_)
    (refine aB af (fun _ => 0) J J ⟨J, trivial⟩ rfl fun w1 hm => ⟨v, ?_, ?_, Out.same hC hm.below⟩)
    · rw [hcl]
    · rw [hcl]; rfl
end Go.Proofs.YtmdkfbmpenohiaaGreatDoor.Y
namespace Go.Proofs.YtmdkfbmpenohiaaGreatDoor.Y
open Go.RowKit
def tP : CV := ⟨jT, none, 0, none, 0, []⟩
theorem kF {A : Nat → Prop} {w w' : World} (hb : Below w.heap.size w w') : Out A w w' tP := ⟨⟨fun h => absurd h (Nat.lt_irrefl _), fun h => absurd h (Nat.lt_irrefl _), rfl, fun _ hq => by cases hq⟩, hb⟩
theorem yw {A : Nat → Prop} (x : Option Addr) (l : List BV) (cap : Nat) (e : Int) (w : World) (hR : Rws A w 6 bC x l) (hlen : l.length ≤ 2513169434916) (he : fu l = e) : Calls Tryz.prog 16 #[.slice x l.length cap] w fun r w' => r = .returned (.int .i64 e) ∧ Below w.heap.size w w' := by subst he; exact tt x l cap w hR hlen
set_option maxRecDepth 100000 in
set_option maxHeartbeats 8000000 in
theorem qS {A : Nat → Prop} (x : Option Addr) (l : List BV) (cap : Nat) (a b c k t m g1 : Int) (w : World) (hR : Rws A w 6 bC x l) (hlen : l.length ≤ 2513169434916) : Calls Tryz.prog 5 #[.slice x l.length cap, .agg #[.int .i64 a, .int .i64 b, .int .i64 c, .int .i64 k], .agg #[.int .i64 t, .int .i64 m, .int .i64 g1]] w fun e w' => ∃ v' : CV, v'.c = (dQ l a b c k t m g1).1 ∧ v'.qv = [] ∧ e = .returned (.tuple #[.agg ⟨CC v'⟩, .int .i64 (dQ l a b c k t m g1).2]) ∧ Out A w w' v' := by
  obtain ⟨e1, h1⟩ : ∃ e, fu l = e := ⟨_, rfl⟩
  obtain ⟨e2, h2⟩ : ∃ e, eV a b c k = e := ⟨_, rfl⟩
  obtain ⟨e3, h3⟩ : ∃ e, da t m g1 = e := ⟨_, rfl⟩
  refine aD Tryz.func5 rfl Tryz.ntmps5 J J ?_
  refine ag ?_
  refine aa ?_
  (refine aT J J J J J J ?_; intro g4)
  (refine aT J J J J J J ?_; intro g5)
  (refine aF af J J J J J J ?_; intro g6)
  repeat' (first | refine ag ?_ | refine aa ?_ | refine ab ?_ | refine ae ?_ | ((refine' ak rfl ?_ J J ?_); rotate_left; first | exact ai af J J J J | exact aq af J J J J J J) | refine aG rfl (ay J J J J ⟨J, trivial⟩ rfl (by kernel_rfl)) (fun w hm => yw x l cap e1 w (hR.below hm.below) hlen h1) J J ?_)
  by_cases hz1 : e1 = 0
  · refine am rfl (by simpa using hz1) ?_
    repeat' (first | refine ag ?_ | refine aa ?_ | refine ab ?_ | refine au ?_ | refine ae ?_ | ((refine' ak rfl ?_ J J ?_); rotate_left; first | exact ai af J J J J | exact aq af J J J J J J | exact aO af J J J J J J J))
    by_cases hz0 : l.length = 0
    · have hn : dQ l a b c k t m g1 = (jT, 1) := by unfold dQ; rw [h1, if_neg (by simpa using hz1), if_pos hz0]
      refine aw rfl (by rw [hz0]; rfl) ?_
      repeat' (first | refine ag ?_ | refine aa ?_ | refine ab ?_ | refine aA ?_ | refine ar ?_ | refine ae ?_ | ((refine' ak rfl ?_ J J ?_); rotate_left; first | exact ai af J J J J | exact aC af J J trivial J J J) | refine aj af 0 J J J J J J J J J J J J ?_)
      (refine aB af (fun _ => 0) J J ⟨J, trivial⟩ rfl fun w1 hm => ⟨tP, ?_, rfl, ?_, kF hm.below⟩)
      · rw [hn]; rfl
      · rw [hn]; rfl
    · refine am rfl (by simp only [beq_eq_false_iff_ne]; omega) ?_
      repeat' (first | refine ag ?_ | refine aa ?_ | refine ab ?_ | refine au ?_ | refine ae ?_ | ((refine' ak rfl ?_ J J ?_); rotate_left; first | exact ai af J J J J | exact aq af J J J J J J | exact ah af 2 J J J J J) | refine aG rfl (ay J J J J ⟨J, trivial⟩ rfl (by kernel_rfl)) (fun w hm => iE a b c k e2 h2 w) J J ?_)
      by_cases hz2 : e2 = 0
      · refine am rfl (by simpa using hz2) ?_
        repeat' (first | refine ag ?_ | refine aa ?_ | refine ab ?_ | refine au ?_ | refine ae ?_ | ((refine' ak rfl ?_ J J ?_); rotate_left; first | exact ai af J J J J | exact aq af J J J J J J | exact ah af 1 J J J J J) | refine aG rfl (ay J J J J ⟨J, trivial⟩ rfl (by kernel_rfl)) (fun w hm => gk t m g1 e3 h3 w) J J ?_)
        by_cases hz3 : e3 = 0
        · refine am rfl (by simpa using hz3) ?_
          have hn : dQ l a b c k t m g1 = (⟨l, a, b, c, k, t, m, g1, [], 1⟩, 0) := by unfold dQ; rw [h1, if_neg (by simpa using hz1), if_neg hz0, h2, if_neg (by simpa using hz2), h3, if_neg (by simpa using hz3)]
          repeat' (first | refine ag ?_ | refine ab ?_ | refine au ?_)
          refine fN 4 [34] aK rfl (by kernel_rfl) ?_
          ((refine' jp rfl ?_ J J ?_); rotate_left; exact ai af J J J J)
          refine iB (σ := Option Addr × Nat) (fun _ => True) (fun s => .slice s.1 l.length s.2) (fun s => [.own s.1 s.2 64 6 l.length (l.flatMap bC)]) rfl (ay J J J J ⟨J, trivial⟩ rfl (by kernel_rfl)) (fun w hm => (gD x l cap w (hR.below hm.below) (by omega)).mono fun e w1 h => lz h) J J J J ?_
          iterate 2 (((refine' jp rfl ?_ J J ?_); rotate_left; first | exact ah af 1 J J J J J | exact ah af 2 J J J J J))
          refine kD ?_
          rintro ⟨pa, pc⟩ -
          dsimp only [List.cons_append, List.nil_append]
          repeat' (first | refine ab ?_ | refine aA ?_ | refine ae ?_ | ((refine' ak rfl ?_ J J ?_); rotate_left; first | exact ai af J J J J | exact aC af J J ⟨J, J, J, J, trivial⟩ J J J) | refine aj af 1 J J J J J J J J J J J J ?_)
          (refine aB af (fun _ => 1) J J ⟨J, trivial⟩ rfl fun w1 hm => ⟨⟨(dQ l a b c k t m g1).1, pa, pc, none, 0, []⟩, rfl, rfl, ?_, ?_⟩)
          · rw [hn]; rfl
          · refine Out.made ?_ (by rw [hn]; rfl)
            rw [hn]
            have h9 := ir w 50 15 (hm.mask [true, false, false, false] rfl)
            exact h9
        · have hn : dQ l a b c k t m g1 = (jT, e3) := by unfold dQ; rw [h1, if_neg (by simpa using hz1), if_neg hz0, h2, if_neg (by simpa using hz2), h3, if_pos hz3]
          refine aw rfl (by simpa using hz3) ?_
          repeat' (first | refine ag ?_ | refine aa ?_ | refine ab ?_ | refine aA ?_ | refine ar ?_ | refine ae ?_ | ((refine' ak rfl ?_ J J ?_); rotate_left; first | exact ai af J J J J | exact aC af J J trivial J J J) | refine aj af 0 J J J J J J J J J J J J ?_)
          (refine aB af (fun _ => 0) J J ⟨J, trivial⟩ rfl fun w1 hm => ⟨tP, ?_, rfl, ?_, kF hm.below⟩)
          · rw [hn]; rfl
          · rw [hn]; rfl
      · have hn : dQ l a b c k t m g1 = (jT, e2) := by unfold dQ; rw [h1, if_neg (by simpa using hz1), if_neg hz0, h2, if_pos hz2]
        refine aw rfl (by simpa using hz2) ?_
        repeat' (first | refine ag ?_ | refine aa ?_ | refine ab ?_ | refine aA ?_ | refine ar ?_ | refine ae ?_ | ((refine' ak rfl ?_ J J ?_); rotate_left; first | exact ai af J J J J | exact aC af J J trivial J J J) | refine aj af 0 J J J J J J J J J J J J ?_)
        (refine aB af (fun _ => 0) J J ⟨J, trivial⟩ rfl fun w1 hm => ⟨tP, ?_, rfl, ?_, kF hm.below⟩)
        · rw [hn]; rfl
        · rw [hn]; rfl
  · have hn : dQ l a b c k t m g1 = (jT, e1) := by unfold dQ; rw [h1, if_pos hz1]
    refine aw rfl (by simpa using hz1) ?_
    repeat' (first | refine ag ?_ | refine aa ?_ | refine ab ?_ | refine aA ?_ | refine ar ?_ | refine ae ?_ | ((refine' ak rfl ?_ J J ?_); rotate_left; first | exact ai af J J J J | exact aC af J J trivial J J J) | refine aj af 0 J J J J J J J J J J J J ?_)
    (refine aB af (fun _ => 0) J J ⟨J, trivial⟩ rfl fun w1 hm => ⟨tP, ?_, rfl, ?_, kF hm.below⟩)
    · rw [hn]; rfl
    · rw [hn]; rfl
end Go.Proofs.YtmdkfbmpenohiaaGreatDoor.Y
