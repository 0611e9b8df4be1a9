/- Streams: package stream and its reference, walked. -/
import Derived.Test.YthiocbcokfondaaGreatDoorBBunT
import Derived.Test.YthiocbcokfondaaGreatDoorBBunD
import Derived.Test.YthiocbcokfondaaGreatDoorBFlow
import Derived.Test.YthiocbcokfondaaGreatDoorBBunR
namespace Go.Proofs.YthiocbcokfondaaGreatDoor.Y
open Go.RowKit
theorem uT (s : ByteArray) : (s.toList == (⟨#[]⟩ : ByteArray).toList) = decide (s.size = 0) := by
 rw [ByteArray.toList_eq, ByteArray.toList_eq, Bool.eq_iff_iff, beq_iff_eq, decide_eq_true_eq]
 obtain ⟨⟨l⟩⟩ := s
 show l = [] ↔ l.length = 0
 cases l <;> simp
set_option maxRecDepth 100000 in
set_option maxHeartbeats 4000000 in
theorem s6 (id sd sh st gt : Int) (se ge dn : Bool) (c : Int) (tx : ByteArray) (wa wb wc ra rb rc : Int) (w : World) : Calls Tryz.prog 133 #[.agg #[.int .i64 id, .int .i64 sd, .int .i64 sh, .int .i64 st, .int .i64 gt, .bool se, .bool ge, .bool dn, .int .i64 c, .string tx, .int .i64 wa, .int .i64 wb, .int .i64 wc, .int .i64 ra, .int .i64 rb, .int .i64 rc]] w fun e w' => e = .returned (.agg #[.int .i64 id, .int .i64 sd, .int .i64 sh, .int .i64 st, .int .i64 gt, .bool se, .bool ge, .bool dn, .int .i64 c, .string tx, .int .i64 wa, .int .i64 wb, .int .i64 wc, .int .i64 ra, .int .i64 rb, .int .i64 rc, .int .i64 (c1 sh), .int .i64 (ke (c2 sh)), .int .i64 (c3 sh), .int .i64 (ke (c4 sh))]) ∧ Below w.heap.size w w' := by
 refine aI Tryz.func133 rfl Tryz.ntmps133 J J ?_
 repeat' (first | refine ai ?_ | refine aa ?_ | refine ab ?_ | refine az ?_ | refine ay ?_ | refine ag ?_ | ((refine' ap rfl ?_ J J ?_); rotate_left; first | exact ak af J J J J | exact aq af J J J J J J | exact ae af 0 J J J J J | exact ae af 1 J J J J J | exact ae af 2 J J J J J | exact au af J J ⟨J, trivial⟩ J J J) | refine aH rfl (av J J J J ⟨J, trivial⟩ rfl (by kernel_rfl)) (fun w hm => y5 (counts _ w)) J J ?_ | (refine aR J J J J J J ?_; intro g) | (refine aD af J J J J J J ?_; intro g) | refine aj af 0 J J J J J J J J J J J J ?_ | refine aj af 1 J J J J J J J J J J J J ?_ | refine dm rfl (fun h => ?_) (fun h => ?_))
 all_goals
  (refine aA af (fun _ => 1) J J ⟨J, trivial⟩ rfl fun w hm => ⟨?_, hm.below⟩)
  simp only [decide_eq_true_eq, decide_eq_false_iff_not] at *
  simp [ke, *]
set_option maxRecDepth 100000 in
set_option maxHeartbeats 4000000 in
theorem ek (id sd sh st gt : Int) (se ge dn : Bool) (c : Int) (tx : ByteArray) (wa wb wc ra rb rc : Int) (e1 e2 e3 e4 : Int) (w : World) : Calls Tryz.prog 165 #[.agg #[.int .i64 id, .int .i64 sd, .int .i64 sh, .int .i64 st, .int .i64 gt, .bool se, .bool ge, .bool dn, .int .i64 c, .string tx, .int .i64 wa, .int .i64 wb, .int .i64 wc, .int .i64 ra, .int .i64 rb, .int .i64 rc, .int .i64 e1, .int .i64 e2, .int .i64 e3, .int .i64 e4]] w fun e w' => e = .returned (.bool (sd == 1)) ∧ Below w.heap.size w w' := by
 refine aI Tryz.func165 rfl Tryz.ntmps165 J J ?_
 repeat' (first | refine ai ?_ | refine aa ?_ | refine ab ?_ | refine az ?_ | refine ag ?_ | ((refine' ap rfl ?_ J J ?_); rotate_left; first | exact ak af J J J J | exact aq af J J J J J J | exact ae af 0 J J J J J) | (refine aR J J J J J J ?_; intro g))
 all_goals
  refine aA af (fun _ => 0) J J trivial rfl fun w hm => ⟨?_, hm.below⟩
  rfl
set_option maxRecDepth 100000 in
set_option maxHeartbeats 4000000 in
theorem lu (id sd sh st gt : Int) (se ge dn : Bool) (c : Int) (tx : ByteArray) (wa wb wc ra rb rc : Int) (e1 e2 e3 e4 : Int) (w : World) : Calls Tryz.prog 135 #[.agg #[.int .i64 id, .int .i64 sd, .int .i64 sh, .int .i64 st, .int .i64 gt, .bool se, .bool ge, .bool dn, .int .i64 c, .string tx, .int .i64 wa, .int .i64 wb, .int .i64 wc, .int .i64 ra, .int .i64 rb, .int .i64 rc, .int .i64 e1, .int .i64 e2, .int .i64 e3, .int .i64 e4]] w fun e w' => e = .returned (.int .i64 (i7 (⟨id, sd, sh, st, gt, se, ge, dn, c, tx, ⟨wa, wb, wc⟩, ⟨ra, rb, rc⟩⟩ : cJ))) ∧ Below w.heap.size w w' := by
 refine aI Tryz.func135 rfl Tryz.ntmps135 J J ?_
 repeat' (first | refine ai ?_ | refine aa ?_ | refine ab ?_ | refine az ?_ | refine ay ?_ | refine ar ?_ | refine ag ?_ | ((refine' ap rfl ?_ J J ?_); rotate_left; first | exact ak af J J J J | exact ae af 0 J J J J J) | refine aH rfl (av J J J J ⟨J, trivial⟩ rfl (by kernel_rfl)) (fun w hm => ek _ _ _ _ _ _ _ _ _ _ _ _ _ _ _ _ _ _ _ _ w) J J ?_ | (refine aR J J J J J J ?_; intro g) | refine dm rfl (fun h => ?_) (fun h => ?_))
 all_goals
  refine aA af (fun _ => 0) J J trivial rfl fun w hm => ⟨?_, hm.below⟩
  simp_all [i7]
set_option maxRecDepth 100000 in
set_option maxHeartbeats 4000000 in
theorem kq (id sd sh st gt : Int) (se ge dn : Bool) (c : Int) (tx : ByteArray) (wa wb wc ra rb rc : Int) (e1 e2 e3 e4 : Int) (w : World) : Calls Tryz.prog 136 #[.agg #[.int .i64 id, .int .i64 sd, .int .i64 sh, .int .i64 st, .int .i64 gt, .bool se, .bool ge, .bool dn, .int .i64 c, .string tx, .int .i64 wa, .int .i64 wb, .int .i64 wc, .int .i64 ra, .int .i64 rb, .int .i64 rc, .int .i64 e1, .int .i64 e2, .int .i64 e3, .int .i64 e4]] w fun e w' => e = .returned (.int .i64 (lU (⟨id, sd, sh, st, gt, se, ge, dn, c, tx, ⟨wa, wb, wc⟩, ⟨ra, rb, rc⟩⟩ : cJ))) ∧ Below w.heap.size w w' := by
 refine aI Tryz.func136 rfl Tryz.ntmps136 J J ?_
 repeat' (first | refine ai ?_ | refine aa ?_ | refine ab ?_ | refine az ?_ | refine ay ?_ | refine ar ?_ | refine ag ?_ | ((refine' ap rfl ?_ J J ?_); rotate_left; first | exact ak af J J J J | exact ae af 0 J J J J J) | refine aH rfl (av J J J J ⟨J, trivial⟩ rfl (by kernel_rfl)) (fun w hm => ek _ _ _ _ _ _ _ _ _ _ _ _ _ _ _ _ _ _ _ _ w) J J ?_ | (refine aR J J J J J J ?_; intro g) | refine dm rfl (fun h => ?_) (fun h => ?_))
 all_goals
  refine aA af (fun _ => 0) J J trivial rfl fun w hm => ⟨?_, hm.below⟩
  simp_all [lU]
set_option maxRecDepth 100000 in
set_option maxHeartbeats 4000000 in
theorem o9 (id sd sh st gt : Int) (se ge dn : Bool) (c : Int) (tx : ByteArray) (wa wb wc ra rb rc : Int) (e1 e2 e3 e4 : Int) (w : World) : Calls Tryz.prog 138 #[.agg #[.int .i64 id, .int .i64 sd, .int .i64 sh, .int .i64 st, .int .i64 gt, .bool se, .bool ge, .bool dn, .int .i64 c, .string tx, .int .i64 wa, .int .i64 wb, .int .i64 wc, .int .i64 ra, .int .i64 rb, .int .i64 rc, .int .i64 e1, .int .i64 e2, .int .i64 e3, .int .i64 e4]] w fun e w' => e = .returned (.bool (pM (⟨id, sd, sh, st, gt, se, ge, dn, c, tx, ⟨wa, wb, wc⟩, ⟨ra, rb, rc⟩⟩ : cJ))) ∧ Below w.heap.size w w' := by
 refine aI Tryz.func138 rfl Tryz.ntmps138 J J ?_
 repeat' (first | refine ai ?_ | refine aa ?_ | refine ab ?_ | refine az ?_ | refine ay ?_ | refine ar ?_ | refine ag ?_ | ((refine' ap rfl ?_ J J ?_); rotate_left; first | exact ak af J J J J | exact ae af 0 J J J J J) | refine aH rfl (av J J J J ⟨J, trivial⟩ rfl (by kernel_rfl)) (fun w hm => ek _ _ _ _ _ _ _ _ _ _ _ _ _ _ _ _ _ _ _ _ w) J J ?_ | (refine aR J J J J J J ?_; intro g) | refine dm rfl (fun h => ?_) (fun h => ?_))
 all_goals
  refine aA af (fun _ => 0) J J trivial rfl fun w hm => ⟨?_, hm.below⟩
  simp_all [pM]
set_option maxRecDepth 100000 in
set_option maxHeartbeats 4000000 in
theorem qb (id sd sh st gt : Int) (se ge dn : Bool) (c : Int) (tx : ByteArray) (wa wb wc ra rb rc : Int) (e1 e2 e3 e4 : Int) (w : World) : Calls Tryz.prog 137 #[.agg #[.int .i64 id, .int .i64 sd, .int .i64 sh, .int .i64 st, .int .i64 gt, .bool se, .bool ge, .bool dn, .int .i64 c, .string tx, .int .i64 wa, .int .i64 wb, .int .i64 wc, .int .i64 ra, .int .i64 rb, .int .i64 rc, .int .i64 e1, .int .i64 e2, .int .i64 e3, .int .i64 e4]] w fun e w' => e = .returned (.bool (sN (⟨id, sd, sh, st, gt, se, ge, dn, c, tx, ⟨wa, wb, wc⟩, ⟨ra, rb, rc⟩⟩ : cJ))) ∧ Below w.heap.size w w' := by
 refine aI Tryz.func137 rfl Tryz.ntmps137 J J ?_
 repeat' (first | refine ai ?_ | refine aa ?_ | refine ab ?_ | refine az ?_ | refine ay ?_ | refine ar ?_ | refine ag ?_ | ((refine' ap rfl ?_ J J ?_); rotate_left; first | exact ak af J J J J | exact ae af 0 J J J J J) | refine aH rfl (av J J J J ⟨J, trivial⟩ rfl (by kernel_rfl)) (fun w hm => ek _ _ _ _ _ _ _ _ _ _ _ _ _ _ _ _ _ _ _ _ w) J J ?_ | (refine aR J J J J J J ?_; intro g) | refine dm rfl (fun h => ?_) (fun h => ?_))
 all_goals
  refine aA af (fun _ => 0) J J trivial rfl fun w hm => ⟨?_, hm.below⟩
  simp_all [sN]
set_option maxRecDepth 100000 in
set_option maxHeartbeats 4000000 in
theorem ro (id sd sh st gt : Int) (se ge dn : Bool) (c : Int) (tx : ByteArray) (wa wb wc ra rb rc : Int) (e1 e2 e3 e4 : Int) (b : Bool) (w : World) : Calls Tryz.prog 164 #[.agg #[.int .i64 id, .int .i64 sd, .int .i64 sh, .int .i64 st, .int .i64 gt, .bool se, .bool ge, .bool dn, .int .i64 c, .string tx, .int .i64 wa, .int .i64 wb, .int .i64 wc, .int .i64 ra, .int .i64 rb, .int .i64 rc, .int .i64 e1, .int .i64 e2, .int .i64 e3, .int .i64 e4], .bool b] w fun e w' => e = .returned (.int .i64 (if b = true then e2 else e4)) ∧ Below w.heap.size w w' := by
 refine aI Tryz.func164 rfl Tryz.ntmps164 J J ?_
 repeat' (first | refine ai ?_ | refine aa ?_ | refine ab ?_ | refine az ?_ | refine ay ?_ | refine ar ?_ | refine ag ?_ | ((refine' ap rfl ?_ J J ?_); rotate_left; first | exact ak af J J J J | exact ae af 0 J J J J J) | (refine aR J J J J J J ?_; intro g) | refine dm rfl (fun h => ?_) (fun h => ?_))
 all_goals
  refine aA af (fun _ => 0) J J trivial rfl fun w hm => ⟨?_, hm.below⟩
  simp_all
set_option maxRecDepth 100000 in
set_option maxHeartbeats 4000000 in
theorem s7 (n m : Int) (w : World) : Calls Tryz.prog 134 #[.int .i64 n, .int .i64 m] w fun e w' => e = .returned (.bool (decide (0 ≤ n ∧ n ≤ m))) ∧ Below w.heap.size w w' := by
 refine aI Tryz.func134 rfl Tryz.ntmps134 J J ?_
 repeat' (first | refine ai ?_ | refine aa ?_ | refine ab ?_ | refine az ?_ | refine ag ?_ | ((refine' ap rfl ?_ J J ?_); rotate_left; first | exact ak af J J J J | exact aq af J J J J J J | exact bV J J J J J))
 all_goals
  refine aA af (fun _ => 0) J J trivial rfl fun w hm => ⟨?_, hm.below⟩
  congr 2
  rw [Bool.eq_iff_iff]
  simp
set_option maxRecDepth 100000 in
set_option maxHeartbeats 4000000 in
theorem gH (d : ByteArray) (w : World) : Calls Tryz.prog 25 #[.string d] w fun e w' => e = .returned (.int .i64 (aT d)) ∧ Below w.heap.size w w' := by
 refine aI Tryz.func25 rfl Tryz.ntmps25 J J ?_
 repeat' (first | refine ai ?_ | refine aa ?_ | refine ab ?_ | refine az ?_ | refine ag ?_ | ((refine' ap rfl ?_ J J ?_); rotate_left; first | exact ak af J J J J | exact bo af J J J J J J J | exact fc J J J J J))
 all_goals
  refine aA af (fun _ => 0) J J trivial rfl fun w hm => ⟨?_, hm.below⟩
  congr 2
  unfold aT
  split <;> split <;> omega
set_option maxRecDepth 100000 in
set_option maxHeartbeats 4000000 in
theorem j5 (id sd sh st gt : Int) (se ge dn : Bool) (c : Int) (tx : ByteArray) (wa wb wc ra rb rc : Int) (w : World) (htx : tx.size ≤ 4611686018427387900) : Calls Tryz.prog 71 #[.agg #[.int .i64 id, .int .i64 sd, .int .i64 sh, .int .i64 st, .int .i64 gt, .bool se, .bool ge, .bool dn, .int .i64 c, .string tx, .int .i64 wa, .int .i64 wb, .int .i64 wc, .int .i64 ra, .int .i64 rb, .int .i64 rc]] w fun e w' => e = .returned (.bool (dY (⟨id, sd, sh, st, gt, se, ge, dn, c, tx, ⟨wa, wb, wc⟩, ⟨ra, rb, rc⟩⟩ : cJ))) ∧ Below w.heap.size w w' := by
 refine aI Tryz.func71 rfl Tryz.ntmps71 J J ?_
 repeat' (first | refine ai ?_ | refine aa ?_ | refine ab ?_ | refine az ?_ | refine ay ?_ | refine ar ?_ | refine aU aC rfl (by kernel_rfl) ?_ | refine ag ?_ | refine bP ?_ | ((first | refine' ap rfl ?_ J J ?_ | refine' dJ rfl ?_ J J J ?_); rotate_left; first | exact ak af J J J J | exact aq af J J J J J J | exact bN J J J J J | exact bV J J J J J | exact ae af 0 J J J J J | exact ae af 1 J J J J J | exact ff af fN J J J J J J (by kernel_rfl) | exact au af J J trivial J J J) | refine aH rfl (av J J J J ⟨J, trivial⟩ rfl (by kernel_rfl)) (fun w hm => s6 _ _ _ _ _ _ _ _ _ _ _ _ _ _ _ _ w) J J ?_ | refine bu rfl (av J J J J ⟨J, trivial⟩ rfl (by kernel_rfl)) rfl (fun w hm => lu _ _ _ _ _ _ _ _ _ _ _ _ _ _ _ _ _ _ _ _ w) J J ?_ | refine bu rfl (av J J J J ⟨J, trivial⟩ rfl (by kernel_rfl)) rfl (fun w hm => kq _ _ _ _ _ _ _ _ _ _ _ _ _ _ _ _ _ _ _ _ w) J J ?_ | refine bu rfl (av J J J J ⟨J, trivial⟩ rfl (by kernel_rfl)) rfl (fun w hm => o9 _ _ _ _ _ _ _ _ _ _ _ _ _ _ _ _ _ _ _ _ w) J J ?_ | refine bu rfl (av J J J J ⟨J, trivial⟩ rfl (by kernel_rfl)) rfl (fun w hm => qb _ _ _ _ _ _ _ _ _ _ _ _ _ _ _ _ _ _ _ _ w) J J ?_ | refine bu rfl (av J J J J ⟨J, J, trivial⟩ rfl (by kernel_rfl)) rfl (fun w hm => s7 _ _ w) J J ?_ | refine bu rfl (av J J J J ⟨J, trivial⟩ rfl (by kernel_rfl)) rfl (fun w hm => fB ⟨_, _, _⟩ w) J J ?_ | refine aH rfl (av J J J J ⟨J, trivial⟩ rfl (by kernel_rfl)) (fun w hm => fw _ _ w htx) J J ?_ | (refine aR J J J J J J ?_; intro g) | (refine aD af J J J J J J ?_; intro g) | refine aj af 0 J J J J J J J J J J J J ?_ | refine dm rfl (fun h => ?_) (fun h => ?_))
 all_goals
  refine aA af (fun _ => 0) J J trivial rfl fun w hm => ⟨?_, hm.below⟩
  refine congrArg (fun b => Ending.returned (Value.bool b)) ?_
  clear htx hm
  unfold dY sO pN wF qs
  try rw [uT]
  grind
def qd (s : cJ) (e1 e3 : Int) (d : ByteArray) : Int := if (bA d).err ≠ 0 then 1 else if (bA d).code ≠ 0 then 0 else if (decide (i7 s < e1) || decide (lU s < e3) || ((s.shape == 1 || s.shape == 3) && !pM s)) = true then 11 else 0
def qe (f : bd) : Int := if f.kind = 5 then f.num else (bA f.data).code
def qf (f : bd) : ByteArray := if f.kind = 5 then ⟨#[]⟩ else (bA f.data).text
theorem w5 {a b : Int} (h : a = b) : Ending.returned (.int .i64 a) = Ending.returned (.int .i64 b) := by rw [h]
abbrev l7 (s : cJ) : Array Value := #[.int .i64 s.id, .int .i64 s.side, .int .i64 s.shape, .int .i64 s.sent, .int .i64 s.got, .bool s.se, .bool s.ge, .bool s.done, .int .i64 s.code, .string s.text, .int .i64 s.snd.size, .int .i64 s.snd.left, .int .i64 s.snd.held, .int .i64 s.rcv.size, .int .i64 s.rcv.left, .int .i64 s.rcv.held]
theorem s8 (id sd sh st gt : Int) (se ge dn : Bool) (c : Int) (tx : ByteArray) (wa wb wc ra rb rc : Int) (e : Int) {r : yV} (h : r = ⟨(⟨id, sd, sh, st, gt, se, ge, dn, c, tx, ⟨wa, wb, wc⟩, ⟨ra, rb, rc⟩⟩ : cJ), e⟩) : Ending.returned (.tuple #[.agg #[.int .i64 id, .int .i64 sd, .int .i64 sh, .int .i64 st, .int .i64 gt, .bool se, .bool ge, .bool dn, .int .i64 c, .string tx, .int .i64 wa, .int .i64 wb, .int .i64 wc, .int .i64 ra, .int .i64 rb, .int .i64 rc], .int .i64 e]) = Ending.returned (.tuple #[.agg (l7 r.st), .int .i64 r.err]) := by rw [h]
theorem zh (s : Int) : ke (c2 s) ≤ 4611686018427387904 ∧ ke (c4 s) ≤ 4611686018427387904 := by
 unfold ke c2 c4
 constructor <;> (repeat' split) <;> omega
theorem nE {s : cJ} (h : dY s = true) : 0 ≤ s.sent ∧ 0 ≤ s.got ∧ s.sent ≤ 4611686018427387904 ∧ s.got ≤ 4611686018427387904 := by
 have ht := zh s.shape
 unfold dY pN i7 lU at h
 simp only [Bool.and_eq_true, decide_eq_true_eq] at h
 have := h.1.2.2
 split at this <;> omega
theorem pb {f : bd} (h : aQ f = 0) (hk : f.kind = 4) : (bA f.data).err = 0 := by
 unfold aQ at h
 split at h
 · cases h
 split at h
 · cases h
 split at h
 · omega
 · first | exact h | (rw [if_pos hk] at h; exact h)
theorem mF {n : Int} (h : 0 ≤ n ∧ n ≤ 4611686018427387904) : IntKind.i64.wrap (n + 1) = n + 1 := IntWalk.i64_in _ (by omega)
theorem Ay (id sd sh st gt : Int) (se ge dn : Bool) (c : Int) (tx : ByteArray) (wa wb wc ra rb rc : Int) {r : cJ} (h : r = (⟨id, sd, sh, st, gt, se, ge, dn, c, tx, ⟨wa, wb, wc⟩, ⟨ra, rb, rc⟩⟩ : cJ)) : Ending.returned (.agg #[.int .i64 id, .int .i64 sd, .int .i64 sh, .int .i64 st, .int .i64 gt, .bool se, .bool ge, .bool dn, .int .i64 c, .string tx, .int .i64 wa, .int .i64 wb, .int .i64 wc, .int .i64 ra, .int .i64 rb, .int .i64 rc]) = Ending.returned (.agg (l7 r)) := by rw [h]
set_option maxRecDepth 100000 in
set_option maxHeartbeats 4000000 in
theorem pe (id sd sh st gt : Int) (se ge dn : Bool) (c : Int) (tx : ByteArray) (wa wb wc ra rb rc : Int) (e1 e2 e3 e4 : Int) (fk fs fn : Int) (fd : ByteArray) (w : World) (hfd : fd.size < 4294967281) : Calls Tryz.prog 167 #[.agg #[.int .i64 id, .int .i64 sd, .int .i64 sh, .int .i64 st, .int .i64 gt, .bool se, .bool ge, .bool dn, .int .i64 c, .string tx, .int .i64 wa, .int .i64 wb, .int .i64 wc, .int .i64 ra, .int .i64 rb, .int .i64 rc, .int .i64 e1, .int .i64 e2, .int .i64 e3, .int .i64 e4], .agg #[.int .i64 fk, .int .i64 fs, .int .i64 fn, .string fd]] w fun e w' => e = .returned (.int .i64 (qd (⟨id, sd, sh, st, gt, se, ge, dn, c, tx, ⟨wa, wb, wc⟩, ⟨ra, rb, rc⟩⟩ : cJ) e1 e3 fd)) ∧ Below w.heap.size w w' := by
 refine aI Tryz.func167 rfl Tryz.ntmps167 J J ?_
 repeat' (first | refine ai ?_ | refine aa ?_ | refine ab ?_ | refine az ?_ | refine ay ?_ | refine ar ?_ | refine aU aC rfl (by kernel_rfl) ?_ | refine ag ?_ | refine bP ?_ | ((first | refine' ap rfl ?_ J J ?_ | refine' dJ rfl ?_ J J J ?_); rotate_left; first | exact ak af J J J J | exact aq af J J J J J J | exact bN J J J J J | exact bV J J J J J | exact ae af 0 J J J J J | exact ae af 2 J J J J J) | refine aH rfl (av J J J J ⟨J, trivial⟩ rfl (by kernel_rfl)) (fun w hm => kE _ w (by omega)) J J ?_ | refine bu rfl (av J J J J ⟨J, trivial⟩ rfl (by kernel_rfl)) rfl (fun w hm => lu _ _ _ _ _ _ _ _ _ _ _ _ _ _ _ _ _ _ _ _ w) J J ?_ | refine bu rfl (av J J J J ⟨J, trivial⟩ rfl (by kernel_rfl)) rfl (fun w hm => kq _ _ _ _ _ _ _ _ _ _ _ _ _ _ _ _ _ _ _ _ w) J J ?_ | refine bu rfl (av J J J J ⟨J, trivial⟩ rfl (by kernel_rfl)) rfl (fun w hm => o9 _ _ _ _ _ _ _ _ _ _ _ _ _ _ _ _ _ _ _ _ w) J J ?_ | (refine aR J J J J J J ?_; intro g) | (refine aD af J J J J J J ?_; intro g) | refine aj af 0 J J J J J J J J J J J J ?_ | refine dm rfl (fun h => ?_) (fun h => ?_))
 all_goals
  refine aA af (fun _ => 0) J J trivial rfl fun w hm => ⟨?_, hm.below⟩
  refine w5 ?_
  clear hfd hm
  unfold qd
  grind
set_option maxRecDepth 100000 in
set_option maxHeartbeats 4000000 in
theorem rt (id sd sh st gt : Int) (se ge dn : Bool) (c : Int) (tx : ByteArray) (wa wb wc ra rb rc : Int) (tc : Int) (tt : ByteArray) (w : World) : Calls Tryz.prog 178 #[.agg #[.int .i64 id, .int .i64 sd, .int .i64 sh, .int .i64 st, .int .i64 gt, .bool se, .bool ge, .bool dn, .int .i64 c, .string tx, .int .i64 wa, .int .i64 wb, .int .i64 wc, .int .i64 ra, .int .i64 rb, .int .i64 rc], .agg #[.int .i64 tc, .string tt]] w fun e w' => e = .returned (.agg #[.int .i64 id, .int .i64 sd, .int .i64 sh, .int .i64 st, .int .i64 gt, .bool true, .bool true, .bool true, .int .i64 tc, .string tt, .int .i64 wa, .int .i64 wb, .int .i64 wc, .int .i64 ra, .int .i64 rb, .int .i64 rc]) ∧ Below w.heap.size w w' := by
 refine aI Tryz.func178 rfl Tryz.ntmps178 J J ?_
 repeat' (first | refine ai ?_ | refine aa ?_ | refine ab ?_ | refine az ?_ | refine ag ?_ | ((refine' ap rfl ?_ J J ?_); rotate_left; first | exact ak af J J J J | exact ae af 1 J J J J J | exact ae af 2 J J J J J) | (refine aR J J J J J J ?_; intro g) | (refine aD af J J J J J J ?_; intro g) | refine aj af 0 J J J J J J J J J J J J ?_ | refine aj af 2 J J J J J J J J J J J J ?_)
 all_goals
  (refine aA af (fun _ => 0) J J ⟨J, trivial⟩ rfl fun w hm => ⟨?_, hm.below⟩)
  rfl
set_option maxRecDepth 100000 in
set_option maxHeartbeats 4000000 in
theorem mx (id sd sh st gt : Int) (se ge dn : Bool) (c : Int) (tx : ByteArray) (wa wb wc ra rb rc : Int) (fk fs fn : Int) (fd : ByteArray) (w : World) (hfd : fd.size < 4294967281) : Calls Tryz.prog 168 #[.agg #[.int .i64 id, .int .i64 sd, .int .i64 sh, .int .i64 st, .int .i64 gt, .bool se, .bool ge, .bool dn, .int .i64 c, .string tx, .int .i64 wa, .int .i64 wb, .int .i64 wc, .int .i64 ra, .int .i64 rb, .int .i64 rc], .agg #[.int .i64 fk, .int .i64 fs, .int .i64 fn, .string fd]] w fun e w' => e = .returned (.agg #[.int .i64 id, .int .i64 sd, .int .i64 sh, .int .i64 st, .int .i64 gt, .bool true, .bool true, .bool true, .int .i64 (qe (⟨fk, fs, fn, fd⟩ : bd)), .string (qf (⟨fk, fs, fn, fd⟩ : bd)), .int .i64 wa, .int .i64 wb, .int .i64 wc, .int .i64 ra, .int .i64 rb, .int .i64 rc]) ∧ Below w.heap.size w w' := by
 refine aI Tryz.func168 rfl Tryz.ntmps168 J J ?_
 repeat' (first | refine ai ?_ | refine aa ?_ | refine ab ?_ | refine az ?_ | refine ay ?_ | refine ar ?_ | refine ag ?_ | ((refine' ap rfl ?_ J J ?_); rotate_left; first | exact ak af J J J J | exact aq af J J J J J J | exact ae af 0 J J J J J | exact ae af 1 J J J J J | exact ae af 2 J J J J J | exact ae af 3 J J J J J | exact au af J J ⟨J, trivial⟩ J J J) | refine aH rfl (av J J J J ⟨J, trivial⟩ rfl (by kernel_rfl)) (fun w hm => kE _ w (by omega)) J J ?_ | refine aH rfl (av J J J J ⟨J, J, trivial⟩ rfl (by kernel_rfl)) (fun w hm => rt _ _ _ _ _ _ _ _ _ _ _ _ _ _ _ _ _ _ w) J J ?_ | (refine aR J J J J J J ?_; intro g) | (refine aD af J J J J J J ?_; intro g) | refine aj af 0 J J J J J J J J J J J J ?_ | refine aj af 1 J J J J J J J J J J J J ?_ | refine dm rfl (fun h => ?_) (fun h => ?_))
 all_goals
  (first | refine aA af (fun _ => 0) J J ⟨J, trivial⟩ rfl fun w hm => ⟨?_, hm.below⟩ | refine aA af (fun _ => 1) J J ⟨J, trivial⟩ rfl fun w hm => ⟨?_, hm.below⟩)
  unfold qe qf
  simp_all
set_option maxRecDepth 100000 in
set_option maxHeartbeats 4000000 in
theorem w7 (id sd sh st gt : Int) (se ge dn : Bool) (c : Int) (tx : ByteArray) (wa wb wc ra rb rc : Int) (fk fs fn : Int) (fd : ByteArray) (w : World) (htx : tx.size ≤ 4611686018427387900) (hfd : fd.size < 4294967281) (hl : MLen w) : Calls Tryz.prog 107 #[.agg #[.int .i64 id, .int .i64 sd, .int .i64 sh, .int .i64 st, .int .i64 gt, .bool se, .bool ge, .bool dn, .int .i64 c, .string tx, .int .i64 wa, .int .i64 wb, .int .i64 wc, .int .i64 ra, .int .i64 rb, .int .i64 rc], .agg #[.int .i64 fk, .int .i64 fs, .int .i64 fn, .string fd]] w fun e w' => e = .returned (.tuple #[.agg (l7 (bE (⟨id, sd, sh, st, gt, se, ge, dn, c, tx, ⟨wa, wb, wc⟩, ⟨ra, rb, rc⟩⟩ : cJ) (⟨fk, fs, fn, fd⟩ : bd)).st), .int .i64 (bE (⟨id, sd, sh, st, gt, se, ge, dn, c, tx, ⟨wa, wb, wc⟩, ⟨ra, rb, rc⟩⟩ : cJ) (⟨fk, fs, fn, fd⟩ : bd)).err]) ∧ Below w.heap.size w w' := by
 refine aI Tryz.func107 rfl Tryz.ntmps107 J J ?_
 repeat' (first | refine ai ?_ | refine aa ?_ | refine ab ?_ | refine az ?_ | refine ay ?_ | refine aM ?_ | refine ar ?_ | refine ax ?_ | refine aW ?_ | refine aU aC rfl (by kernel_rfl) ?_ | refine ag ?_ | refine bP ?_ | (refine cO ?_; intro g) | ((first | refine' ap rfl ?_ J J ?_ | refine' dJ rfl ?_ J J J ?_); rotate_left; first | exact ak af J J J J | exact aq af J J J J J J | exact bN J J J J J | exact ae af 0 J J J J J | exact ae af 1 J J J J J | exact ae af 2 J J J J J | exact ae af 3 J J J J J | exact ae af 4 J J J J J) | refine aH rfl (av J J J J ⟨J, trivial⟩ rfl (by kernel_rfl)) (fun w hm => j5 _ _ _ _ _ _ _ _ _ _ _ _ _ _ _ _ w (by omega)) J J ?_ | refine aH rfl (av J J J J ⟨J, trivial⟩ rfl (by kernel_rfl)) (fun w hm => kF ⟨_, _, _, _⟩ w (hl.below hm.below) (by assumption)) J J ?_ | refine aH rfl (av J J J J ⟨J, trivial⟩ rfl (by kernel_rfl)) (fun w hm => s6 _ _ _ _ _ _ _ _ _ _ _ _ _ _ _ _ w) J J ?_ | refine aH rfl (av J J J J ⟨J, trivial⟩ rfl (by kernel_rfl)) (fun w hm => ek _ _ _ _ _ _ _ _ _ _ _ _ _ _ _ _ _ _ _ _ w) J J ?_ | refine bu rfl (av J J J J ⟨J, trivial⟩ rfl (by kernel_rfl)) rfl (fun w hm => ek _ _ _ _ _ _ _ _ _ _ _ _ _ _ _ _ _ _ _ _ w) J J ?_ | refine bu rfl (av J J J J ⟨J, J, trivial⟩ rfl (by kernel_rfl)) rfl (fun w hm => ro _ _ _ _ _ _ _ _ _ _ _ _ _ _ _ _ _ _ _ _ _ w) J J ?_ | refine bu rfl (av J J J J ⟨J, trivial⟩ rfl (by kernel_rfl)) rfl (fun w hm => gH _ w) J J ?_ | refine bu rfl (av J J J J ⟨J, J, trivial⟩ rfl (by kernel_rfl)) rfl (fun w hm => nC ⟨_, _, _⟩ _ w) J J ?_ | refine aH rfl (av J J J J ⟨J, J, trivial⟩ rfl (by kernel_rfl)) (fun w hm => pe _ _ _ _ _ _ _ _ _ _ _ _ _ _ _ _ _ _ _ _ _ _ _ _ w (by assumption)) J J ?_ | refine aH rfl (av J J J J ⟨J, J, trivial⟩ rfl (by kernel_rfl)) (fun w hm => mx _ _ _ _ _ _ _ _ _ _ _ _ _ _ _ _ _ _ _ _ w (by assumption)) J J ?_ | (refine aR J J J J J J ?_; intro g) | (refine aD af J J J J J J ?_; intro g) | refine ci af J J J J J J ?_ | refine aj af 0 J J J J J J J J J J J J ?_ | refine aj af 1 J J J J J J J J J J J J ?_ | refine aj af 2 J J J J J J J J J J J J ?_ | refine aj af 3 J J J J J J J J J J J J ?_ | refine aj af 4 J J J J J J J J J J J J ?_ | refine dm rfl (fun h => ?_) (fun h => ?_))
 all_goals
  (first | refine aA af (fun _ => 0) J J ⟨J, trivial⟩ rfl fun w hm => ⟨?_, hm.below⟩ | refine aA af (fun _ => 1) J J ⟨J, trivial⟩ rfl fun w hm => ⟨?_, hm.below⟩ | refine aA af (fun _ => 2) J J ⟨J, trivial⟩ rfl fun w hm => ⟨?_, hm.below⟩)
 all_goals
  refine s8 _ _ _ _ _ _ _ _ _ _ _ _ _ _ _ _ _ ?_
  clear htx hfd hm hl
  have hv := fun h => nE (s := (⟨id, sd, sh, st, gt, se, ge, dn, c, tx, ⟨wa, wb, wc⟩, ⟨ra, rb, rc⟩⟩ : cJ)) h
  have hw1 := fun h => mF (n := st) h
  have hw2 := fun h => mF (n := gt) h
  have hfu := fun h => pb (f := (⟨fk, fs, fn, fd⟩ : bd)) h
  unfold bE jC eC ea im
  try unfold qe qf
  try unfold qd at *
  try (generalize dE ⟨wa, wb, wc⟩ (aT fd) = r at *; obtain ⟨⟨r1, r2, r3⟩, r4⟩ := r)
  try (generalize cb ⟨ra, rb, rc⟩ (aT fd) = r at *; obtain ⟨⟨r1, r2, r3⟩, r4⟩ := r)
  try (generalize cW ⟨wa, wb, wc⟩ fn = r at *; obtain ⟨⟨r1, r2, r3⟩, r4⟩ := r)
  by_cases hsd : sd = 1 <;> first | grind | (clear hw1 hw2 hv hfu; grind (splits := 40)) | (clear hw1 hw2 hv hfu; simp_all; have hh := ‹((_ ∧ _) ∧ fs = id) ∧ _›; obtain ⟨⟨⟨_, ha⟩, rfl⟩, hb⟩ := hh; exact ⟨ha, by omega, by omega⟩)
set_option maxRecDepth 100000 in
set_option maxHeartbeats 4000000 in
theorem w8 (id sd sh st gt : Int) (se ge dn : Bool) (c : Int) (tx : ByteArray) (wa wb wc ra rb rc : Int) (fk fs fn : Int) (fd : ByteArray) (w : World) (htx : tx.size ≤ 4611686018427387900) (hfd : fd.size < 4294967281) (hl : MLen w) : Calls Tryz.prog 204 #[.agg #[.int .i64 id, .int .i64 sd, .int .i64 sh, .int .i64 st, .int .i64 gt, .bool se, .bool ge, .bool dn, .int .i64 c, .string tx, .int .i64 wa, .int .i64 wb, .int .i64 wc, .int .i64 ra, .int .i64 rb, .int .i64 rc], .agg #[.int .i64 fk, .int .i64 fs, .int .i64 fn, .string fd]] w fun e w' => e = .returned (.tuple #[.agg (l7 (bY (⟨id, sd, sh, st, gt, se, ge, dn, c, tx, ⟨wa, wb, wc⟩, ⟨ra, rb, rc⟩⟩ : cJ) (⟨fk, fs, fn, fd⟩ : bd)).st), .int .i64 (bY (⟨id, sd, sh, st, gt, se, ge, dn, c, tx, ⟨wa, wb, wc⟩, ⟨ra, rb, rc⟩⟩ : cJ) (⟨fk, fs, fn, fd⟩ : bd)).err]) ∧ Below w.heap.size w w' := by
 refine aI Tryz.func204 rfl Tryz.ntmps204 J J ?_
 repeat' (first | refine ai ?_ | refine aa ?_ | refine ab ?_ | refine az ?_ | refine ay ?_ | refine aM ?_ | refine ar ?_ | refine ax ?_ | refine aW ?_ | refine aU aC rfl (by kernel_rfl) ?_ | refine ag ?_ | refine bP ?_ | (refine cO ?_; intro g) | ((first | refine' ap rfl ?_ J J ?_ | refine' dJ rfl ?_ J J J ?_); rotate_left; first | exact ak af J J J J | exact aq af J J J J J J | exact bN J J J J J | exact ae af 0 J J J J J | exact ae af 1 J J J J J | exact ae af 2 J J J J J | exact ae af 3 J J J J J | exact ae af 4 J J J J J) | refine aH rfl (av J J J J ⟨J, trivial⟩ rfl (by kernel_rfl)) (fun w hm => j5 _ _ _ _ _ _ _ _ _ _ _ _ _ _ _ _ w (by omega)) J J ?_ | refine aH rfl (av J J J J ⟨J, trivial⟩ rfl (by kernel_rfl)) (fun w hm => kF ⟨_, _, _, _⟩ w (hl.below hm.below) (by assumption)) J J ?_ | refine aH rfl (av J J J J ⟨J, trivial⟩ rfl (by kernel_rfl)) (fun w hm => s6 _ _ _ _ _ _ _ _ _ _ _ _ _ _ _ _ w) J J ?_ | refine aH rfl (av J J J J ⟨J, trivial⟩ rfl (by kernel_rfl)) (fun w hm => ek _ _ _ _ _ _ _ _ _ _ _ _ _ _ _ _ _ _ _ _ w) J J ?_ | refine bu rfl (av J J J J ⟨J, trivial⟩ rfl (by kernel_rfl)) rfl (fun w hm => ek _ _ _ _ _ _ _ _ _ _ _ _ _ _ _ _ _ _ _ _ w) J J ?_ | refine bu rfl (av J J J J ⟨J, J, trivial⟩ rfl (by kernel_rfl)) rfl (fun w hm => ro _ _ _ _ _ _ _ _ _ _ _ _ _ _ _ _ _ _ _ _ _ w) J J ?_ | refine bu rfl (av J J J J ⟨J, trivial⟩ rfl (by kernel_rfl)) rfl (fun w hm => gH _ w) J J ?_ | refine bu rfl (av J J J J ⟨J, J, trivial⟩ rfl (by kernel_rfl)) rfl (fun w hm => ls ⟨_, _, _⟩ _ w) J J ?_ | refine aH rfl (av J J J J ⟨J, J, trivial⟩ rfl (by kernel_rfl)) (fun w hm => nD ⟨_, _, _⟩ _ w) J J ?_ | refine aH rfl (av J J J J ⟨J, J, trivial⟩ rfl (by kernel_rfl)) (fun w hm => pe _ _ _ _ _ _ _ _ _ _ _ _ _ _ _ _ _ _ _ _ _ _ _ _ w (by assumption)) J J ?_ | refine aH rfl (av J J J J ⟨J, J, trivial⟩ rfl (by kernel_rfl)) (fun w hm => mx _ _ _ _ _ _ _ _ _ _ _ _ _ _ _ _ _ _ _ _ w (by assumption)) J J ?_ | (refine aR J J J J J J ?_; intro g) | (refine aD af J J J J J J ?_; intro g) | refine ci af J J J J J J ?_ | refine aj af 0 J J J J J J J J J J J J ?_ | refine aj af 1 J J J J J J J J J J J J ?_ | refine aj af 2 J J J J J J J J J J J J ?_ | refine aj af 3 J J J J J J J J J J J J ?_ | refine aj af 4 J J J J J J J J J J J J ?_ | refine dm rfl (fun h => ?_) (fun h => ?_))
 all_goals
  (first | refine aA af (fun _ => 0) J J ⟨J, trivial⟩ rfl fun w hm => ⟨?_, hm.below⟩ | refine aA af (fun _ => 1) J J ⟨J, trivial⟩ rfl fun w hm => ⟨?_, hm.below⟩ | refine aA af (fun _ => 2) J J ⟨J, trivial⟩ rfl fun w hm => ⟨?_, hm.below⟩)
 all_goals
  refine s8 _ _ _ _ _ _ _ _ _ _ _ _ _ _ _ _ _ ?_
  clear htx hfd hm hl
  have hv := fun h => nE (s := (⟨id, sd, sh, st, gt, se, ge, dn, c, tx, ⟨wa, wb, wc⟩, ⟨ra, rb, rc⟩⟩ : cJ)) h
  have hw1 := fun h => mF (n := st) h
  have hw2 := fun h => mF (n := gt) h
  have hfu := fun h => pb (f := (⟨fk, fs, fn, fd⟩ : bd)) h
  unfold bY jC eC ea im
  try unfold qe qf
  try unfold qd at *
  try (generalize dE ⟨wa, wb, wc⟩ (aT fd) = r at *; obtain ⟨⟨r1, r2, r3⟩, r4⟩ := r)
  try (generalize cb ⟨ra, rb, rc⟩ (aT fd) = r at *; obtain ⟨⟨r1, r2, r3⟩, r4⟩ := r)
  try (generalize cW ⟨wa, wb, wc⟩ fn = r at *; obtain ⟨⟨r1, r2, r3⟩, r4⟩ := r)
  by_cases hsd : sd = 1 <;> first | grind | (clear hw1 hw2 hv hfu; grind (splits := 40)) | (clear hw1 hw2 hv hfu; simp_all; have hh := ‹((_ ∧ _) ∧ fs = id) ∧ _›; obtain ⟨⟨⟨_, ha⟩, rfl⟩, hb⟩ := hh; exact ⟨ha, by omega, by omega⟩)
set_option maxRecDepth 100000 in
set_option maxHeartbeats 4000000 in
theorem zi (id sd sh st gt : Int) (se ge dn : Bool) (c : Int) (tx : ByteArray) (wa wb wc ra rb rc : Int) (tc : Int) (tt : ByteArray) (w : World) (htx : tx.size ≤ 4611686018427387900) (htt : tt.size ≤ 4611686018427387900) : Calls Tryz.prog 127 #[.agg #[.int .i64 id, .int .i64 sd, .int .i64 sh, .int .i64 st, .int .i64 gt, .bool se, .bool ge, .bool dn, .int .i64 c, .string tx, .int .i64 wa, .int .i64 wb, .int .i64 wc, .int .i64 ra, .int .i64 rb, .int .i64 rc], .agg #[.int .i64 tc, .string tt]] w fun e w' => e = .returned (.agg (l7 (qQ (⟨id, sd, sh, st, gt, se, ge, dn, c, tx, ⟨wa, wb, wc⟩, ⟨ra, rb, rc⟩⟩ : cJ) tc tt))) ∧ Below w.heap.size w w' := by
 refine aI Tryz.func127 rfl Tryz.ntmps127 J J ?_
 repeat' (first | refine ai ?_ | refine aa ?_ | refine ab ?_ | refine az ?_ | refine ay ?_ | refine ar ?_ | refine ag ?_ | ((refine' ap rfl ?_ J J ?_); rotate_left; first | exact ak af J J J J | exact aq af J J J J J J | exact bN J J J J J | exact ae af 1 J J J J J | exact ae af 2 J J J J J) | refine aH rfl (av J J J J ⟨J, trivial⟩ rfl (by kernel_rfl)) (fun w hm => j5 _ _ _ _ _ _ _ _ _ _ _ _ _ _ _ _ w (by omega)) J J ?_ | refine aH rfl (av J J J J ⟨J, trivial⟩ rfl (by kernel_rfl)) (fun w hm => fw _ _ w (by omega)) J J ?_ | refine aH rfl (av J J J J ⟨J, J, trivial⟩ rfl (by kernel_rfl)) (fun w hm => rt _ _ _ _ _ _ _ _ _ _ _ _ _ _ _ _ _ _ w) J J ?_ | (refine aR J J J J J J ?_; intro g) | (refine aD af J J J J J J ?_; intro g) | refine aj af 0 J J J J J J J J J J J J ?_ | refine dm rfl (fun h => ?_) (fun h => ?_))
 all_goals
  (refine aA af (fun _ => 0) J J ⟨J, trivial⟩ rfl fun w hm => ⟨?_, hm.below⟩)
  refine Ay _ _ _ _ _ _ _ _ _ _ _ _ _ _ _ _ ?_
  clear htx htt hm
  unfold qQ ea
  grind
set_option maxRecDepth 100000 in
set_option maxHeartbeats 4000000 in
theorem ru (n : Int) (w : World) : Calls Tryz.prog 43 #[.int .i64 n] w fun e w' => e = .returned (.tuple #[.agg (cB (iE n).win), .int .i64 (iE n).err]) ∧ Below w.heap.size w w' := by
 refine aI Tryz.func43 rfl Tryz.ntmps43 J J ?_
 repeat' (first | refine ai ?_ | refine aa ?_ | refine ab ?_ | refine az ?_ | refine ay ?_ | refine ar ?_ | refine ag ?_ | ((refine' ap rfl ?_ J J ?_); rotate_left; first | exact ak af J J J J | exact aq af J J J J J J | exact bN J J J J J | exact au af J J trivial J J J | exact au af J J ⟨J, J, trivial⟩ J J J) | (refine aD af J J J J J J ?_; intro g) | refine aj af 0 J J J J J J J J J J J J ?_ | refine dm rfl (fun h => ?_) (fun h => ?_))
 all_goals
  (refine aA af (fun _ => 0) J J ⟨J, trivial⟩ rfl fun w hm => ⟨?_, hm.below⟩)
  unfold iE
  split <;> simp_all <;> omega
set_option maxRecDepth 100000 in
set_option maxHeartbeats 4000000 in
theorem w9 (id sd sh n : Int) (w : World) : Calls Tryz.prog 45 #[.int .i64 id, .int .i64 sd, .int .i64 sh, .int .i64 n] w fun e w' => e = .returned (.tuple #[.agg (l7 (dv id sd sh n).st), .int .i64 (dv id sd sh n).err]) ∧ Below w.heap.size w w' := by
 refine aI Tryz.func45 rfl Tryz.ntmps45 J J ?_
 repeat' (first | refine ai ?_ | refine aa ?_ | refine ab ?_ | refine az ?_ | refine ay ?_ | refine ar ?_ | refine ag ?_ | ((refine' ap rfl ?_ J J ?_); rotate_left; first | exact ak af J J J J | exact aq af J J J J J J | exact bN J J J J J | exact bV J J J J J | exact ae af 0 J J J J J | exact au af J J trivial J J J | exact au af J J ⟨J, J, J, J, J, trivial⟩ J J J) | refine aH rfl (av J J J J ⟨J, trivial⟩ rfl (by kernel_rfl)) (fun w hm => ru _ w) J J ?_ | (refine aD af J J J J J J ?_; intro g) | refine aj af 0 J J J J J J J J J J J J ?_ | refine aj af 1 J J J J J J J J J J J J ?_ | refine dm rfl (fun h => ?_) (fun h => ?_))
 all_goals
  (refine aA af (fun _ => 1) J J ⟨J, trivial⟩ rfl fun w hm => ⟨?_, hm.below⟩)
  refine s8 _ _ _ _ _ _ _ _ _ _ _ _ _ _ _ _ _ ?_
  clear hm
  unfold dv wG qs iE at *
  grind
end Go.Proofs.YthiocbcokfondaaGreatDoor.Y
