/- Streams: package stream and its reference, walked. -/
import Derived.Test.YthiocbcokfondaaGreatDoorQBunT
import Derived.Test.YthiocbcokfondaaGreatDoorQBunD
import Derived.Test.YthiocbcokfondaaGreatDoorQFlow
import Derived.Test.YthiocbcokfondaaGreatDoorQBunR
namespace Go.Proofs.YthiocbcokfondaaGreatDoor.Y
open Go.RowKit
theorem xm (s : ByteArray) : (s.toList == (⟨#[]⟩ : ByteArray).toList) = decide (s.size = 0) := by
  rw [ByteArray.toList_eq, ByteArray.toList_eq, Bool.eq_iff_iff, beq_iff_eq, decide_eq_true_eq]
  obtain ⟨⟨l⟩⟩ := s
  show l = [] ↔ l.length = 0
  cases l <;> simp
set_option maxRecDepth 100000 in
set_option maxHeartbeats 4000000 in
theorem uV (id sd sh st gt : Int) (se ge dn : Bool) (c : Int) (tx : ByteArray) (wa wb wc ra rb rc : Int) (w : World) : Calls Tryz.prog 133 #[.agg #[.int .i64 id, .int .i64 sd, .int .i64 sh, .int .i64 st, .int .i64 gt, .bool se, .bool ge, .bool dn, .int .i64 c, .string tx, .int .i64 wa, .int .i64 wb, .int .i64 wc, .int .i64 ra, .int .i64 rb, .int .i64 rc]] w fun e w' => e = .returned (.agg #[.int .i64 id, .int .i64 sd, .int .i64 sh, .int .i64 st, .int .i64 gt, .bool se, .bool ge, .bool dn, .int .i64 c, .string tx, .int .i64 wa, .int .i64 wb, .int .i64 wc, .int .i64 ra, .int .i64 rb, .int .i64 rc, .int .i64 (c1 sh), .int .i64 (jK (c2 sh)), .int .i64 (c3 sh), .int .i64 (jK (c4 sh))]) ∧ Below w.heap.size w w' := by
  refine aQ Tryz.func133 rfl Tryz.ntmps133 J J ?_
  repeat' (first | refine ai ?_ | refine aa ?_ | refine ab ?_ | refine aA ?_ | refine ay ?_ | refine ag ?_ | ((refine' am rfl ?_ J J ?_); rotate_left; first | exact ak af J J J J | exact aq af J J J J J J | exact ae af 0 J J J J J | exact ae af 1 J J J J J | exact ae af 2 J J J J J | exact ap af J J ⟨J, trivial⟩ J J J) | refine aK rfl (av J J J J ⟨J, trivial⟩ rfl (by kernel_rfl)) (fun w hm => AL (counts _ w)) J J ?_ | (refine aV J J J J J J ?_; intro g) | (refine aG af J J J J J J ?_; intro g) | refine aj af 0 J J J J J J J J J J J J ?_ | refine aj af 1 J J J J J J J J J J J J ?_ | refine dd rfl (fun h => ?_) (fun h => ?_))
  all_goals
    (refine aC af (fun _ => 1) J J ⟨J, trivial⟩ rfl fun w hm => ⟨?_, hm.below⟩)
    simp only [decide_eq_true_eq, decide_eq_false_iff_not] at *
    simp [jK, *]
set_option maxRecDepth 100000 in
set_option maxHeartbeats 4000000 in
theorem eD (id sd sh st gt : Int) (se ge dn : Bool) (c : Int) (tx : ByteArray) (wa wb wc ra rb rc : Int) (e1 e2 e3 e4 : Int) (w : World) : Calls Tryz.prog 165 #[.agg #[.int .i64 id, .int .i64 sd, .int .i64 sh, .int .i64 st, .int .i64 gt, .bool se, .bool ge, .bool dn, .int .i64 c, .string tx, .int .i64 wa, .int .i64 wb, .int .i64 wc, .int .i64 ra, .int .i64 rb, .int .i64 rc, .int .i64 e1, .int .i64 e2, .int .i64 e3, .int .i64 e4]] w fun e w' => e = .returned (.bool (sd == 1)) ∧ Below w.heap.size w w' := by
  refine aQ Tryz.func165 rfl Tryz.ntmps165 J J ?_
  repeat' (first | refine ai ?_ | refine aa ?_ | refine ab ?_ | refine aA ?_ | refine ag ?_ | ((refine' am rfl ?_ J J ?_); rotate_left; first | exact ak af J J J J | exact aq af J J J J J J | exact ae af 0 J J J J J) | (refine aV J J J J J J ?_; intro g))
  all_goals
    refine aC af (fun _ => 0) J J trivial rfl fun w hm => ⟨?_, hm.below⟩
    rfl
set_option maxRecDepth 100000 in
set_option maxHeartbeats 4000000 in
theorem lW (id sd sh st gt : Int) (se ge dn : Bool) (c : Int) (tx : ByteArray) (wa wb wc ra rb rc : Int) (e1 e2 e3 e4 : Int) (w : World) : Calls Tryz.prog 135 #[.agg #[.int .i64 id, .int .i64 sd, .int .i64 sh, .int .i64 st, .int .i64 gt, .bool se, .bool ge, .bool dn, .int .i64 c, .string tx, .int .i64 wa, .int .i64 wb, .int .i64 wc, .int .i64 ra, .int .i64 rb, .int .i64 rc, .int .i64 e1, .int .i64 e2, .int .i64 e3, .int .i64 e4]] w fun e w' => e = .returned (.int .i64 (ju (⟨id, sd, sh, st, gt, se, ge, dn, c, tx, ⟨wa, wb, wc⟩, ⟨ra, rb, rc⟩⟩ : cx))) ∧ Below w.heap.size w w' := by
  refine aQ Tryz.func135 rfl Tryz.ntmps135 J J ?_
  repeat' (first | refine ai ?_ | refine aa ?_ | refine ab ?_ | refine aA ?_ | refine ay ?_ | refine au ?_ | refine ag ?_ | ((refine' am rfl ?_ J J ?_); rotate_left; first | exact ak af J J J J | exact ae af 0 J J J J J) | refine aK rfl (av J J J J ⟨J, trivial⟩ rfl (by kernel_rfl)) (fun w hm => eD _ _ _ _ _ _ _ _ _ _ _ _ _ _ _ _ _ _ _ _ w) J J ?_ | (refine aV J J J J J J ?_; intro g) | refine dd rfl (fun h => ?_) (fun h => ?_))
  all_goals
    refine aC af (fun _ => 0) J J trivial rfl fun w hm => ⟨?_, hm.below⟩
    simp_all [ju]
set_option maxRecDepth 100000 in
set_option maxHeartbeats 4000000 in
theorem kU (id sd sh st gt : Int) (se ge dn : Bool) (c : Int) (tx : ByteArray) (wa wb wc ra rb rc : Int) (e1 e2 e3 e4 : Int) (w : World) : Calls Tryz.prog 136 #[.agg #[.int .i64 id, .int .i64 sd, .int .i64 sh, .int .i64 st, .int .i64 gt, .bool se, .bool ge, .bool dn, .int .i64 c, .string tx, .int .i64 wa, .int .i64 wb, .int .i64 wc, .int .i64 ra, .int .i64 rb, .int .i64 rc, .int .i64 e1, .int .i64 e2, .int .i64 e3, .int .i64 e4]] w fun e w' => e = .returned (.int .i64 (mF (⟨id, sd, sh, st, gt, se, ge, dn, c, tx, ⟨wa, wb, wc⟩, ⟨ra, rb, rc⟩⟩ : cx))) ∧ Below w.heap.size w w' := by
  refine aQ Tryz.func136 rfl Tryz.ntmps136 J J ?_
  repeat' (first | refine ai ?_ | refine aa ?_ | refine ab ?_ | refine aA ?_ | refine ay ?_ | refine au ?_ | refine ag ?_ | ((refine' am rfl ?_ J J ?_); rotate_left; first | exact ak af J J J J | exact ae af 0 J J J J J) | refine aK rfl (av J J J J ⟨J, trivial⟩ rfl (by kernel_rfl)) (fun w hm => eD _ _ _ _ _ _ _ _ _ _ _ _ _ _ _ _ _ _ _ _ w) J J ?_ | (refine aV J J J J J J ?_; intro g) | refine dd rfl (fun h => ?_) (fun h => ?_))
  all_goals
    refine aC af (fun _ => 0) J J trivial rfl fun w hm => ⟨?_, hm.below⟩
    simp_all [mF]
set_option maxRecDepth 100000 in
set_option maxHeartbeats 4000000 in
theorem qE (id sd sh st gt : Int) (se ge dn : Bool) (c : Int) (tx : ByteArray) (wa wb wc ra rb rc : Int) (e1 e2 e3 e4 : Int) (w : World) : Calls Tryz.prog 138 #[.agg #[.int .i64 id, .int .i64 sd, .int .i64 sh, .int .i64 st, .int .i64 gt, .bool se, .bool ge, .bool dn, .int .i64 c, .string tx, .int .i64 wa, .int .i64 wb, .int .i64 wc, .int .i64 ra, .int .i64 rb, .int .i64 rc, .int .i64 e1, .int .i64 e2, .int .i64 e3, .int .i64 e4]] w fun e w' => e = .returned (.bool (rB (⟨id, sd, sh, st, gt, se, ge, dn, c, tx, ⟨wa, wb, wc⟩, ⟨ra, rb, rc⟩⟩ : cx))) ∧ Below w.heap.size w w' := by
  refine aQ Tryz.func138 rfl Tryz.ntmps138 J J ?_
  repeat' (first | refine ai ?_ | refine aa ?_ | refine ab ?_ | refine aA ?_ | refine ay ?_ | refine au ?_ | refine ag ?_ | ((refine' am rfl ?_ J J ?_); rotate_left; first | exact ak af J J J J | exact ae af 0 J J J J J) | refine aK rfl (av J J J J ⟨J, trivial⟩ rfl (by kernel_rfl)) (fun w hm => eD _ _ _ _ _ _ _ _ _ _ _ _ _ _ _ _ _ _ _ _ w) J J ?_ | (refine aV J J J J J J ?_; intro g) | refine dd rfl (fun h => ?_) (fun h => ?_))
  all_goals
    refine aC af (fun _ => 0) J J trivial rfl fun w hm => ⟨?_, hm.below⟩
    simp_all [rB]
set_option maxRecDepth 100000 in
set_option maxHeartbeats 4000000 in
theorem rL (id sd sh st gt : Int) (se ge dn : Bool) (c : Int) (tx : ByteArray) (wa wb wc ra rb rc : Int) (e1 e2 e3 e4 : Int) (w : World) : Calls Tryz.prog 137 #[.agg #[.int .i64 id, .int .i64 sd, .int .i64 sh, .int .i64 st, .int .i64 gt, .bool se, .bool ge, .bool dn, .int .i64 c, .string tx, .int .i64 wa, .int .i64 wb, .int .i64 wc, .int .i64 ra, .int .i64 rb, .int .i64 rc, .int .i64 e1, .int .i64 e2, .int .i64 e3, .int .i64 e4]] w fun e w' => e = .returned (.bool (uK (⟨id, sd, sh, st, gt, se, ge, dn, c, tx, ⟨wa, wb, wc⟩, ⟨ra, rb, rc⟩⟩ : cx))) ∧ Below w.heap.size w w' := by
  refine aQ Tryz.func137 rfl Tryz.ntmps137 J J ?_
  repeat' (first | refine ai ?_ | refine aa ?_ | refine ab ?_ | refine aA ?_ | refine ay ?_ | refine au ?_ | refine ag ?_ | ((refine' am rfl ?_ J J ?_); rotate_left; first | exact ak af J J J J | exact ae af 0 J J J J J) | refine aK rfl (av J J J J ⟨J, trivial⟩ rfl (by kernel_rfl)) (fun w hm => eD _ _ _ _ _ _ _ _ _ _ _ _ _ _ _ _ _ _ _ _ w) J J ?_ | (refine aV J J J J J J ?_; intro g) | refine dd rfl (fun h => ?_) (fun h => ?_))
  all_goals
    refine aC af (fun _ => 0) J J trivial rfl fun w hm => ⟨?_, hm.below⟩
    simp_all [uK]
set_option maxRecDepth 100000 in
set_option maxHeartbeats 4000000 in
theorem tD (id sd sh st gt : Int) (se ge dn : Bool) (c : Int) (tx : ByteArray) (wa wb wc ra rb rc : Int) (e1 e2 e3 e4 : Int) (b : Bool) (w : World) : Calls Tryz.prog 164 #[.agg #[.int .i64 id, .int .i64 sd, .int .i64 sh, .int .i64 st, .int .i64 gt, .bool se, .bool ge, .bool dn, .int .i64 c, .string tx, .int .i64 wa, .int .i64 wb, .int .i64 wc, .int .i64 ra, .int .i64 rb, .int .i64 rc, .int .i64 e1, .int .i64 e2, .int .i64 e3, .int .i64 e4], .bool b] w fun e w' => e = .returned (.int .i64 (if b = true then e2 else e4)) ∧ Below w.heap.size w w' := by
  refine aQ Tryz.func164 rfl Tryz.ntmps164 J J ?_
  repeat' (first | refine ai ?_ | refine aa ?_ | refine ab ?_ | refine aA ?_ | refine ay ?_ | refine au ?_ | refine ag ?_ | ((refine' am rfl ?_ J J ?_); rotate_left; first | exact ak af J J J J | exact ae af 0 J J J J J) | (refine aV J J J J J J ?_; intro g) | refine dd rfl (fun h => ?_) (fun h => ?_))
  all_goals
    refine aC af (fun _ => 0) J J trivial rfl fun w hm => ⟨?_, hm.below⟩
    simp_all
set_option maxRecDepth 100000 in
set_option maxHeartbeats 4000000 in
theorem uW (n m : Int) (w : World) : Calls Tryz.prog 134 #[.int .i64 n, .int .i64 m] w fun e w' => e = .returned (.bool (decide (0 ≤ n ∧ n ≤ m))) ∧ Below w.heap.size w w' := by
  refine aQ Tryz.func134 rfl Tryz.ntmps134 J J ?_
  repeat' (first | refine ai ?_ | refine aa ?_ | refine ab ?_ | refine aA ?_ | refine ag ?_ | ((refine' am rfl ?_ J J ?_); rotate_left; first | exact ak af J J J J | exact aq af J J J J J J | exact bK J J J J J))
  all_goals
    refine aC af (fun _ => 0) J J trivial rfl fun w hm => ⟨?_, hm.below⟩
    congr 2
    rw [Bool.eq_iff_iff]
    simp
set_option maxRecDepth 100000 in
set_option maxHeartbeats 4000000 in
theorem hJ (d : ByteArray) (w : World) : Calls Tryz.prog 25 #[.string d] w fun e w' => e = .returned (.int .i64 (aI d)) ∧ Below w.heap.size w w' := by
  refine aQ Tryz.func25 rfl Tryz.ntmps25 J J ?_
  repeat' (first | refine ai ?_ | refine aa ?_ | refine ab ?_ | refine aA ?_ | refine ag ?_ | ((refine' am rfl ?_ J J ?_); rotate_left; first | exact ak af J J J J | exact bh af J J J J J J J | exact eZ J J J J J))
  all_goals
    refine aC af (fun _ => 0) J J trivial rfl fun w hm => ⟨?_, hm.below⟩
    congr 2
    unfold aI
    split <;> split <;> omega
set_option maxRecDepth 100000 in
set_option maxHeartbeats 4000000 in
theorem kE (id sd sh st gt : Int) (se ge dn : Bool) (c : Int) (tx : ByteArray) (wa wb wc ra rb rc : Int) (w : World) (htx : tx.size ≤ 4611686018427387900) : Calls Tryz.prog 71 #[.agg #[.int .i64 id, .int .i64 sd, .int .i64 sh, .int .i64 st, .int .i64 gt, .bool se, .bool ge, .bool dn, .int .i64 c, .string tx, .int .i64 wa, .int .i64 wb, .int .i64 wc, .int .i64 ra, .int .i64 rb, .int .i64 rc]] w fun e w' => e = .returned (.bool (ei (⟨id, sd, sh, st, gt, se, ge, dn, c, tx, ⟨wa, wb, wc⟩, ⟨ra, rb, rc⟩⟩ : cx))) ∧ Below w.heap.size w w' := by
  refine aQ Tryz.func71 rfl Tryz.ntmps71 J J ?_
  repeat' (first | refine ai ?_ | refine aa ?_ | refine ab ?_ | refine aA ?_ | refine ay ?_ | refine au ?_ | refine aU aD rfl (by kernel_rfl) ?_ | refine ag ?_ | refine bH ?_ | ((first | refine' am rfl ?_ J J ?_ | refine' dg rfl ?_ J J J ?_); rotate_left; first | exact ak af J J J J | exact aq af J J J J J J | exact bL J J J J J | exact bK J J J J J | exact ae af 0 J J J J J | exact ae af 1 J J J J J | exact fb af fE J J J J J J (by kernel_rfl) | exact ap af J J trivial J J J) | refine aK rfl (av J J J J ⟨J, trivial⟩ rfl (by kernel_rfl)) (fun w hm => uV _ _ _ _ _ _ _ _ _ _ _ _ _ _ _ _ w) J J ?_ | refine br rfl (av J J J J ⟨J, trivial⟩ rfl (by kernel_rfl)) rfl (fun w hm => lW _ _ _ _ _ _ _ _ _ _ _ _ _ _ _ _ _ _ _ _ w) J J ?_ | refine br rfl (av J J J J ⟨J, trivial⟩ rfl (by kernel_rfl)) rfl (fun w hm => kU _ _ _ _ _ _ _ _ _ _ _ _ _ _ _ _ _ _ _ _ w) J J ?_ | refine br rfl (av J J J J ⟨J, trivial⟩ rfl (by kernel_rfl)) rfl (fun w hm => qE _ _ _ _ _ _ _ _ _ _ _ _ _ _ _ _ _ _ _ _ w) J J ?_ | refine br rfl (av J J J J ⟨J, trivial⟩ rfl (by kernel_rfl)) rfl (fun w hm => rL _ _ _ _ _ _ _ _ _ _ _ _ _ _ _ _ _ _ _ _ w) J J ?_ | refine br rfl (av J J J J ⟨J, J, trivial⟩ rfl (by kernel_rfl)) rfl (fun w hm => uW _ _ w) J J ?_ | refine br rfl (av J J J J ⟨J, trivial⟩ rfl (by kernel_rfl)) rfl (fun w hm => fQ ⟨_, _, _⟩ w) J J ?_ | refine aK rfl (av J J J J ⟨J, trivial⟩ rfl (by kernel_rfl)) (fun w hm => kB _ _ w htx) J J ?_ | (refine aV J J J J J J ?_; intro g) | (refine aG af J J J J J J ?_; intro g) | refine aj af 0 J J J J J J J J J J J J ?_ | refine dd rfl (fun h => ?_) (fun h => ?_))
  all_goals
    refine aC af (fun _ => 0) J J trivial rfl fun w hm => ⟨?_, hm.below⟩
    refine congrArg (fun b => Ending.returned (Value.bool b)) ?_
    clear htx hm
    unfold ei uL rC yM rA
    try rw [xm]
    grind
def rM (s : cx) (e1 e3 : Int) (d : ByteArray) : Int := if (bu d).err ≠ 0 then 1 else if (bu d).code ≠ 0 then 0 else if (decide (ju s < e1) || decide (mF s < e3) || ((s.shape == 1 || s.shape == 3) && !rB s)) = true then 11 else 0
def rN (f : aY) : Int := if f.kind = 5 then f.num else (bu f.data).code
def rO (f : aY) : ByteArray := if f.kind = 5 then ⟨#[]⟩ else (bu f.data).text
theorem yZ {a b : Int} (h : a = b) : Ending.returned (.int .i64 a) = Ending.returned (.int .i64 b) := by rw [h]
abbrev mN (s : cx) : Array Value := #[.int .i64 s.id, .int .i64 s.side, .int .i64 s.shape, .int .i64 s.sent, .int .i64 s.got, .bool s.se, .bool s.ge, .bool s.done, .int .i64 s.code, .string s.text, .int .i64 s.snd.size, .int .i64 s.snd.left, .int .i64 s.snd.held, .int .i64 s.rcv.size, .int .i64 s.rcv.left, .int .i64 s.rcv.held]
theorem uX (id sd sh st gt : Int) (se ge dn : Bool) (c : Int) (tx : ByteArray) (wa wb wc ra rb rc : Int) (e : Int) {r : Bf} (h : r = ⟨(⟨id, sd, sh, st, gt, se, ge, dn, c, tx, ⟨wa, wb, wc⟩, ⟨ra, rb, rc⟩⟩ : cx), e⟩) : Ending.returned (.tuple #[.agg #[.int .i64 id, .int .i64 sd, .int .i64 sh, .int .i64 st, .int .i64 gt, .bool se, .bool ge, .bool dn, .int .i64 c, .string tx, .int .i64 wa, .int .i64 wb, .int .i64 wc, .int .i64 ra, .int .i64 rb, .int .i64 rc], .int .i64 e]) = Ending.returned (.tuple #[.agg (mN r.st), .int .i64 r.err]) := by rw [h]
theorem Bw (s : Int) : jK (c2 s) ≤ 4611686018427387904 ∧ jK (c4 s) ≤ 4611686018427387904 := by
  unfold jK c2 c4
  constructor <;> (repeat' split) <;> omega
theorem oW {s : cx} (h : ei s = true) : 0 ≤ s.sent ∧ 0 ≤ s.got ∧ s.sent ≤ 4611686018427387904 ∧ s.got ≤ 4611686018427387904 := by
  have ht := Bw s.shape
  unfold ei rC ju mF at h
  simp only [Bool.and_eq_true, decide_eq_true_eq] at h
  have := h.1.2.2
  split at this <;> omega
theorem qF {f : aY} (h : aR f = 0) (hk : f.kind = 4) : (bu f.data).err = 0 := by
  unfold aR at h
  split at h
  · cases h
  split at h
  · cases h
  split at h
  · omega
  · first | exact h | (rw [if_pos hk] at h; exact h)
theorem ny {n : Int} (h : 0 ≤ n ∧ n ≤ 4611686018427387904) : IntKind.i64.wrap (n + 1) = n + 1 := IntWalk.i64_in _ (by omega)
theorem CJ (id sd sh st gt : Int) (se ge dn : Bool) (c : Int) (tx : ByteArray) (wa wb wc ra rb rc : Int) {r : cx} (h : r = (⟨id, sd, sh, st, gt, se, ge, dn, c, tx, ⟨wa, wb, wc⟩, ⟨ra, rb, rc⟩⟩ : cx)) : Ending.returned (.agg #[.int .i64 id, .int .i64 sd, .int .i64 sh, .int .i64 st, .int .i64 gt, .bool se, .bool ge, .bool dn, .int .i64 c, .string tx, .int .i64 wa, .int .i64 wb, .int .i64 wc, .int .i64 ra, .int .i64 rb, .int .i64 rc]) = Ending.returned (.agg (mN r)) := by rw [h]
set_option maxRecDepth 100000 in
set_option maxHeartbeats 4000000 in
theorem qG (id sd sh st gt : Int) (se ge dn : Bool) (c : Int) (tx : ByteArray) (wa wb wc ra rb rc : Int) (e1 e2 e3 e4 : Int) (fk fs fn : Int) (fd : ByteArray) (w : World) (hfd : fd.size < 4294967281) : Calls Tryz.prog 167 #[.agg #[.int .i64 id, .int .i64 sd, .int .i64 sh, .int .i64 st, .int .i64 gt, .bool se, .bool ge, .bool dn, .int .i64 c, .string tx, .int .i64 wa, .int .i64 wb, .int .i64 wc, .int .i64 ra, .int .i64 rb, .int .i64 rc, .int .i64 e1, .int .i64 e2, .int .i64 e3, .int .i64 e4], .agg #[.int .i64 fk, .int .i64 fs, .int .i64 fn, .string fd]] w fun e w' => e = .returned (.int .i64 (rM (⟨id, sd, sh, st, gt, se, ge, dn, c, tx, ⟨wa, wb, wc⟩, ⟨ra, rb, rc⟩⟩ : cx) e1 e3 fd)) ∧ Below w.heap.size w w' := by
  refine aQ Tryz.func167 rfl Tryz.ntmps167 J J ?_
  repeat' (first | refine ai ?_ | refine aa ?_ | refine ab ?_ | refine aA ?_ | refine ay ?_ | refine au ?_ | refine aU aD rfl (by kernel_rfl) ?_ | refine ag ?_ | refine bH ?_ | ((first | refine' am rfl ?_ J J ?_ | refine' dg rfl ?_ J J J ?_); rotate_left; first | exact ak af J J J J | exact aq af J J J J J J | exact bL J J J J J | exact bK J J J J J | exact ae af 0 J J J J J | exact ae af 2 J J J J J) | refine aK rfl (av J J J J ⟨J, trivial⟩ rfl (by kernel_rfl)) (fun w hm => lm _ w (by omega)) J J ?_ | refine br rfl (av J J J J ⟨J, trivial⟩ rfl (by kernel_rfl)) rfl (fun w hm => lW _ _ _ _ _ _ _ _ _ _ _ _ _ _ _ _ _ _ _ _ w) J J ?_ | refine br rfl (av J J J J ⟨J, trivial⟩ rfl (by kernel_rfl)) rfl (fun w hm => kU _ _ _ _ _ _ _ _ _ _ _ _ _ _ _ _ _ _ _ _ w) J J ?_ | refine br rfl (av J J J J ⟨J, trivial⟩ rfl (by kernel_rfl)) rfl (fun w hm => qE _ _ _ _ _ _ _ _ _ _ _ _ _ _ _ _ _ _ _ _ w) J J ?_ | (refine aV J J J J J J ?_; intro g) | (refine aG af J J J J J J ?_; intro g) | refine aj af 0 J J J J J J J J J J J J ?_ | refine dd rfl (fun h => ?_) (fun h => ?_))
  all_goals
    refine aC af (fun _ => 0) J J trivial rfl fun w hm => ⟨?_, hm.below⟩
    refine yZ ?_
    clear hfd hm
    unfold rM
    grind
set_option maxRecDepth 100000 in
set_option maxHeartbeats 4000000 in
theorem tE (id sd sh st gt : Int) (se ge dn : Bool) (c : Int) (tx : ByteArray) (wa wb wc ra rb rc : Int) (tc : Int) (tt : ByteArray) (w : World) : Calls Tryz.prog 178 #[.agg #[.int .i64 id, .int .i64 sd, .int .i64 sh, .int .i64 st, .int .i64 gt, .bool se, .bool ge, .bool dn, .int .i64 c, .string tx, .int .i64 wa, .int .i64 wb, .int .i64 wc, .int .i64 ra, .int .i64 rb, .int .i64 rc], .agg #[.int .i64 tc, .string tt]] w fun e w' => e = .returned (.agg #[.int .i64 id, .int .i64 sd, .int .i64 sh, .int .i64 st, .int .i64 gt, .bool true, .bool true, .bool true, .int .i64 tc, .string tt, .int .i64 wa, .int .i64 wb, .int .i64 wc, .int .i64 ra, .int .i64 rb, .int .i64 rc]) ∧ Below w.heap.size w w' := by
  refine aQ Tryz.func178 rfl Tryz.ntmps178 J J ?_
  repeat' (first | refine ai ?_ | refine aa ?_ | refine ab ?_ | refine aA ?_ | refine ag ?_ | ((refine' am rfl ?_ J J ?_); rotate_left; first | exact ak af J J J J | exact ae af 1 J J J J J | exact ae af 2 J J J J J) | (refine aV J J J J J J ?_; intro g) | (refine aG af J J J J J J ?_; intro g) | refine aj af 0 J J J J J J J J J J J J ?_ | refine aj af 2 J J J J J J J J J J J J ?_)
  all_goals
    (refine aC af (fun _ => 0) J J ⟨J, trivial⟩ rfl fun w hm => ⟨?_, hm.below⟩)
    rfl
set_option maxRecDepth 100000 in
set_option maxHeartbeats 4000000 in
theorem nm (id sd sh st gt : Int) (se ge dn : Bool) (c : Int) (tx : ByteArray) (wa wb wc ra rb rc : Int) (fk fs fn : Int) (fd : ByteArray) (w : World) (hfd : fd.size < 4294967281) : Calls Tryz.prog 168 #[.agg #[.int .i64 id, .int .i64 sd, .int .i64 sh, .int .i64 st, .int .i64 gt, .bool se, .bool ge, .bool dn, .int .i64 c, .string tx, .int .i64 wa, .int .i64 wb, .int .i64 wc, .int .i64 ra, .int .i64 rb, .int .i64 rc], .agg #[.int .i64 fk, .int .i64 fs, .int .i64 fn, .string fd]] w fun e w' => e = .returned (.agg #[.int .i64 id, .int .i64 sd, .int .i64 sh, .int .i64 st, .int .i64 gt, .bool true, .bool true, .bool true, .int .i64 (rN (⟨fk, fs, fn, fd⟩ : aY)), .string (rO (⟨fk, fs, fn, fd⟩ : aY)), .int .i64 wa, .int .i64 wb, .int .i64 wc, .int .i64 ra, .int .i64 rb, .int .i64 rc]) ∧ Below w.heap.size w w' := by
  refine aQ Tryz.func168 rfl Tryz.ntmps168 J J ?_
  repeat' (first | refine ai ?_ | refine aa ?_ | refine ab ?_ | refine aA ?_ | refine ay ?_ | refine au ?_ | refine ag ?_ | ((refine' am rfl ?_ J J ?_); rotate_left; first | exact ak af J J J J | exact aq af J J J J J J | exact ae af 0 J J J J J | exact ae af 1 J J J J J | exact ae af 2 J J J J J | exact ae af 3 J J J J J | exact ap af J J ⟨J, trivial⟩ J J J) | refine aK rfl (av J J J J ⟨J, trivial⟩ rfl (by kernel_rfl)) (fun w hm => lm _ w (by omega)) J J ?_ | refine aK rfl (av J J J J ⟨J, J, trivial⟩ rfl (by kernel_rfl)) (fun w hm => tE _ _ _ _ _ _ _ _ _ _ _ _ _ _ _ _ _ _ w) J J ?_ | (refine aV J J J J J J ?_; intro g) | (refine aG af J J J J J J ?_; intro g) | refine aj af 0 J J J J J J J J J J J J ?_ | refine aj af 1 J J J J J J J J J J J J ?_ | refine dd rfl (fun h => ?_) (fun h => ?_))
  all_goals
    (first | refine aC af (fun _ => 0) J J ⟨J, trivial⟩ rfl fun w hm => ⟨?_, hm.below⟩ | refine aC af (fun _ => 1) J J ⟨J, trivial⟩ rfl fun w hm => ⟨?_, hm.below⟩)
    unfold rN rO
    simp_all
set_option maxRecDepth 100000 in
set_option maxHeartbeats 4000000 in
theorem zd (id sd sh st gt : Int) (se ge dn : Bool) (c : Int) (tx : ByteArray) (wa wb wc ra rb rc : Int) (fk fs fn : Int) (fd : ByteArray) (w : World) (htx : tx.size ≤ 4611686018427387900) (hfd : fd.size < 4294967281) (hl : MLen w) : Calls Tryz.prog 107 #[.agg #[.int .i64 id, .int .i64 sd, .int .i64 sh, .int .i64 st, .int .i64 gt, .bool se, .bool ge, .bool dn, .int .i64 c, .string tx, .int .i64 wa, .int .i64 wb, .int .i64 wc, .int .i64 ra, .int .i64 rb, .int .i64 rc], .agg #[.int .i64 fk, .int .i64 fs, .int .i64 fn, .string fd]] w fun e w' => e = .returned (.tuple #[.agg (mN (bD (⟨id, sd, sh, st, gt, se, ge, dn, c, tx, ⟨wa, wb, wc⟩, ⟨ra, rb, rc⟩⟩ : cx) (⟨fk, fs, fn, fd⟩ : aY)).st), .int .i64 (bD (⟨id, sd, sh, st, gt, se, ge, dn, c, tx, ⟨wa, wb, wc⟩, ⟨ra, rb, rc⟩⟩ : cx) (⟨fk, fs, fn, fd⟩ : aY)).err]) ∧ Below w.heap.size w w' := by
  refine aQ Tryz.func107 rfl Tryz.ntmps107 J J ?_
  repeat' (first | refine ai ?_ | refine aa ?_ | refine ab ?_ | refine aA ?_ | refine ay ?_ | refine aJ ?_ | refine au ?_ | refine ax ?_ | refine ba ?_ | refine aU aD rfl (by kernel_rfl) ?_ | refine ag ?_ | refine bH ?_ | (refine cJ ?_; intro g) | ((first | refine' am rfl ?_ J J ?_ | refine' dg rfl ?_ J J J ?_); rotate_left; first | exact ak af J J J J | exact aq af J J J J J J | exact bL J J J J J | exact ae af 0 J J J J J | exact ae af 1 J J J J J | exact ae af 2 J J J J J | exact ae af 3 J J J J J | exact ae af 4 J J J J J) | refine aK rfl (av J J J J ⟨J, trivial⟩ rfl (by kernel_rfl)) (fun w hm => kE _ _ _ _ _ _ _ _ _ _ _ _ _ _ _ _ w (by omega)) J J ?_ | refine aK rfl (av J J J J ⟨J, trivial⟩ rfl (by kernel_rfl)) (fun w hm => lp ⟨_, _, _, _⟩ w (hl.below hm.below) (by assumption)) J J ?_ | refine aK rfl (av J J J J ⟨J, trivial⟩ rfl (by kernel_rfl)) (fun w hm => uV _ _ _ _ _ _ _ _ _ _ _ _ _ _ _ _ w) J J ?_ | refine aK rfl (av J J J J ⟨J, trivial⟩ rfl (by kernel_rfl)) (fun w hm => eD _ _ _ _ _ _ _ _ _ _ _ _ _ _ _ _ _ _ _ _ w) J J ?_ | refine br rfl (av J J J J ⟨J, trivial⟩ rfl (by kernel_rfl)) rfl (fun w hm => eD _ _ _ _ _ _ _ _ _ _ _ _ _ _ _ _ _ _ _ _ w) J J ?_ | refine br rfl (av J J J J ⟨J, J, trivial⟩ rfl (by kernel_rfl)) rfl (fun w hm => tD _ _ _ _ _ _ _ _ _ _ _ _ _ _ _ _ _ _ _ _ _ w) J J ?_ | refine br rfl (av J J J J ⟨J, trivial⟩ rfl (by kernel_rfl)) rfl (fun w hm => hJ _ w) J J ?_ | refine br rfl (av J J J J ⟨J, J, trivial⟩ rfl (by kernel_rfl)) rfl (fun w hm => oU ⟨_, _, _⟩ _ w) J J ?_ | refine aK rfl (av J J J J ⟨J, J, trivial⟩ rfl (by kernel_rfl)) (fun w hm => qG _ _ _ _ _ _ _ _ _ _ _ _ _ _ _ _ _ _ _ _ _ _ _ _ w (by assumption)) J J ?_ | refine aK rfl (av J J J J ⟨J, J, trivial⟩ rfl (by kernel_rfl)) (fun w hm => nm _ _ _ _ _ _ _ _ _ _ _ _ _ _ _ _ _ _ _ _ w (by assumption)) J J ?_ | (refine aV J J J J J J ?_; intro g) | (refine aG af J J J J J J ?_; intro g) | refine bW af J J J J J J ?_ | refine aj af 0 J J J J J J J J J J J J ?_ | refine aj af 1 J J J J J J J J J J J J ?_ | refine aj af 2 J J J J J J J J J J J J ?_ | refine aj af 3 J J J J J J J J J J J J ?_ | refine aj af 4 J J J J J J J J J J J J ?_ | refine dd rfl (fun h => ?_) (fun h => ?_))
  all_goals
    (first | refine aC af (fun _ => 0) J J ⟨J, trivial⟩ rfl fun w hm => ⟨?_, hm.below⟩ | refine aC af (fun _ => 1) J J ⟨J, trivial⟩ rfl fun w hm => ⟨?_, hm.below⟩ | refine aC af (fun _ => 2) J J ⟨J, trivial⟩ rfl fun w hm => ⟨?_, hm.below⟩)
  all_goals
    refine uX _ _ _ _ _ _ _ _ _ _ _ _ _ _ _ _ _ ?_
    clear htx hfd hm hl
    have hv := fun h => oW (s := (⟨id, sd, sh, st, gt, se, ge, dn, c, tx, ⟨wa, wb, wc⟩, ⟨ra, rb, rc⟩⟩ : cx)) h
    have hw1 := fun h => ny (n := st) h
    have hw2 := fun h => ny (n := gt) h
    have hfu := fun h => qF (f := (⟨fk, fs, fn, fd⟩ : aY)) h
    unfold bD iV eO eA iH
    try unfold rN rO
    try unfold rM at *
    try (generalize dG ⟨wa, wb, wc⟩ (aI fd) = r at *; obtain ⟨⟨r1, r2, r3⟩, r4⟩ := r)
    try (generalize bV ⟨ra, rb, rc⟩ (aI fd) = r at *; obtain ⟨⟨r1, r2, r3⟩, r4⟩ := r)
    try (generalize cS ⟨wa, wb, wc⟩ fn = r at *; obtain ⟨⟨r1, r2, r3⟩, r4⟩ := r)
    by_cases hsd : sd = 1 <;> first | grind | (clear hw1 hw2 hv hfu; grind (splits := 40)) | (clear hw1 hw2 hv hfu; simp_all; have hh := ‹((_ ∧ _) ∧ fs = id) ∧ _›; obtain ⟨⟨⟨_, ha⟩, rfl⟩, hb⟩ := hh; exact ⟨ha, by omega, by omega⟩)
set_option maxRecDepth 100000 in
set_option maxHeartbeats 4000000 in
theorem ze (id sd sh st gt : Int) (se ge dn : Bool) (c : Int) (tx : ByteArray) (wa wb wc ra rb rc : Int) (fk fs fn : Int) (fd : ByteArray) (w : World) (htx : tx.size ≤ 4611686018427387900) (hfd : fd.size < 4294967281) (hl : MLen w) : Calls Tryz.prog 204 #[.agg #[.int .i64 id, .int .i64 sd, .int .i64 sh, .int .i64 st, .int .i64 gt, .bool se, .bool ge, .bool dn, .int .i64 c, .string tx, .int .i64 wa, .int .i64 wb, .int .i64 wc, .int .i64 ra, .int .i64 rb, .int .i64 rc], .agg #[.int .i64 fk, .int .i64 fs, .int .i64 fn, .string fd]] w fun e w' => e = .returned (.tuple #[.agg (mN (bQ (⟨id, sd, sh, st, gt, se, ge, dn, c, tx, ⟨wa, wb, wc⟩, ⟨ra, rb, rc⟩⟩ : cx) (⟨fk, fs, fn, fd⟩ : aY)).st), .int .i64 (bQ (⟨id, sd, sh, st, gt, se, ge, dn, c, tx, ⟨wa, wb, wc⟩, ⟨ra, rb, rc⟩⟩ : cx) (⟨fk, fs, fn, fd⟩ : aY)).err]) ∧ Below w.heap.size w w' := by
  refine aQ Tryz.func204 rfl Tryz.ntmps204 J J ?_
  repeat' (first | refine ai ?_ | refine aa ?_ | refine ab ?_ | refine aA ?_ | refine ay ?_ | refine aJ ?_ | refine au ?_ | refine ax ?_ | refine ba ?_ | refine aU aD rfl (by kernel_rfl) ?_ | refine ag ?_ | refine bH ?_ | (refine cJ ?_; intro g) | ((first | refine' am rfl ?_ J J ?_ | refine' dg rfl ?_ J J J ?_); rotate_left; first | exact ak af J J J J | exact aq af J J J J J J | exact bL J J J J J | exact ae af 0 J J J J J | exact ae af 1 J J J J J | exact ae af 2 J J J J J | exact ae af 3 J J J J J | exact ae af 4 J J J J J) | refine aK rfl (av J J J J ⟨J, trivial⟩ rfl (by kernel_rfl)) (fun w hm => kE _ _ _ _ _ _ _ _ _ _ _ _ _ _ _ _ w (by omega)) J J ?_ | refine aK rfl (av J J J J ⟨J, trivial⟩ rfl (by kernel_rfl)) (fun w hm => lp ⟨_, _, _, _⟩ w (hl.below hm.below) (by assumption)) J J ?_ | refine aK rfl (av J J J J ⟨J, trivial⟩ rfl (by kernel_rfl)) (fun w hm => uV _ _ _ _ _ _ _ _ _ _ _ _ _ _ _ _ w) J J ?_ | refine aK rfl (av J J J J ⟨J, trivial⟩ rfl (by kernel_rfl)) (fun w hm => eD _ _ _ _ _ _ _ _ _ _ _ _ _ _ _ _ _ _ _ _ w) J J ?_ | refine br rfl (av J J J J ⟨J, trivial⟩ rfl (by kernel_rfl)) rfl (fun w hm => eD _ _ _ _ _ _ _ _ _ _ _ _ _ _ _ _ _ _ _ _ w) J J ?_ | refine br rfl (av J J J J ⟨J, J, trivial⟩ rfl (by kernel_rfl)) rfl (fun w hm => tD _ _ _ _ _ _ _ _ _ _ _ _ _ _ _ _ _ _ _ _ _ w) J J ?_ | refine br rfl (av J J J J ⟨J, trivial⟩ rfl (by kernel_rfl)) rfl (fun w hm => hJ _ w) J J ?_ | refine br rfl (av J J J J ⟨J, J, trivial⟩ rfl (by kernel_rfl)) rfl (fun w hm => lV ⟨_, _, _⟩ _ w) J J ?_ | refine aK rfl (av J J J J ⟨J, J, trivial⟩ rfl (by kernel_rfl)) (fun w hm => oV ⟨_, _, _⟩ _ w) J J ?_ | refine aK rfl (av J J J J ⟨J, J, trivial⟩ rfl (by kernel_rfl)) (fun w hm => qG _ _ _ _ _ _ _ _ _ _ _ _ _ _ _ _ _ _ _ _ _ _ _ _ w (by assumption)) J J ?_ | refine aK rfl (av J J J J ⟨J, J, trivial⟩ rfl (by kernel_rfl)) (fun w hm => nm _ _ _ _ _ _ _ _ _ _ _ _ _ _ _ _ _ _ _ _ w (by assumption)) J J ?_ | (refine aV J J J J J J ?_; intro g) | (refine aG af J J J J J J ?_; intro g) | refine bW af J J J J J J ?_ | refine aj af 0 J J J J J J J J J J J J ?_ | refine aj af 1 J J J J J J J J J J J J ?_ | refine aj af 2 J J J J J J J J J J J J ?_ | refine aj af 3 J J J J J J J J J J J J ?_ | refine aj af 4 J J J J J J J J J J J J ?_ | refine dd rfl (fun h => ?_) (fun h => ?_))
  all_goals
    (first | refine aC af (fun _ => 0) J J ⟨J, trivial⟩ rfl fun w hm => ⟨?_, hm.below⟩ | refine aC af (fun _ => 1) J J ⟨J, trivial⟩ rfl fun w hm => ⟨?_, hm.below⟩ | refine aC af (fun _ => 2) J J ⟨J, trivial⟩ rfl fun w hm => ⟨?_, hm.below⟩)
  all_goals
    refine uX _ _ _ _ _ _ _ _ _ _ _ _ _ _ _ _ _ ?_
    clear htx hfd hm hl
    have hv := fun h => oW (s := (⟨id, sd, sh, st, gt, se, ge, dn, c, tx, ⟨wa, wb, wc⟩, ⟨ra, rb, rc⟩⟩ : cx)) h
    have hw1 := fun h => ny (n := st) h
    have hw2 := fun h => ny (n := gt) h
    have hfu := fun h => qF (f := (⟨fk, fs, fn, fd⟩ : aY)) h
    unfold bQ iV eO eA iH
    try unfold rN rO
    try unfold rM at *
    try (generalize dG ⟨wa, wb, wc⟩ (aI fd) = r at *; obtain ⟨⟨r1, r2, r3⟩, r4⟩ := r)
    try (generalize bV ⟨ra, rb, rc⟩ (aI fd) = r at *; obtain ⟨⟨r1, r2, r3⟩, r4⟩ := r)
    try (generalize cS ⟨wa, wb, wc⟩ fn = r at *; obtain ⟨⟨r1, r2, r3⟩, r4⟩ := r)
    by_cases hsd : sd = 1 <;> first | grind | (clear hw1 hw2 hv hfu; grind (splits := 40)) | (clear hw1 hw2 hv hfu; simp_all; have hh := ‹((_ ∧ _) ∧ fs = id) ∧ _›; obtain ⟨⟨⟨_, ha⟩, rfl⟩, hb⟩ := hh; exact ⟨ha, by omega, by omega⟩)
set_option maxRecDepth 100000 in
set_option maxHeartbeats 4000000 in
theorem Bx (id sd sh st gt : Int) (se ge dn : Bool) (c : Int) (tx : ByteArray) (wa wb wc ra rb rc : Int) (tc : Int) (tt : ByteArray) (w : World) (htx : tx.size ≤ 4611686018427387900) (htt : tt.size ≤ 4611686018427387900) : Calls Tryz.prog 127 #[.agg #[.int .i64 id, .int .i64 sd, .int .i64 sh, .int .i64 st, .int .i64 gt, .bool se, .bool ge, .bool dn, .int .i64 c, .string tx, .int .i64 wa, .int .i64 wb, .int .i64 wc, .int .i64 ra, .int .i64 rb, .int .i64 rc], .agg #[.int .i64 tc, .string tt]] w fun e w' => e = .returned (.agg (mN (ti (⟨id, sd, sh, st, gt, se, ge, dn, c, tx, ⟨wa, wb, wc⟩, ⟨ra, rb, rc⟩⟩ : cx) tc tt))) ∧ Below w.heap.size w w' := by
  refine aQ Tryz.func127 rfl Tryz.ntmps127 J J ?_
  repeat' (first | refine ai ?_ | refine aa ?_ | refine ab ?_ | refine aA ?_ | refine ay ?_ | refine au ?_ | refine ag ?_ | ((refine' am rfl ?_ J J ?_); rotate_left; first | exact ak af J J J J | exact aq af J J J J J J | exact bL J J J J J | exact ae af 1 J J J J J | exact ae af 2 J J J J J) | refine aK rfl (av J J J J ⟨J, trivial⟩ rfl (by kernel_rfl)) (fun w hm => kE _ _ _ _ _ _ _ _ _ _ _ _ _ _ _ _ w (by omega)) J J ?_ | refine aK rfl (av J J J J ⟨J, trivial⟩ rfl (by kernel_rfl)) (fun w hm => kB _ _ w (by omega)) J J ?_ | refine aK rfl (av J J J J ⟨J, J, trivial⟩ rfl (by kernel_rfl)) (fun w hm => tE _ _ _ _ _ _ _ _ _ _ _ _ _ _ _ _ _ _ w) J J ?_ | (refine aV J J J J J J ?_; intro g) | (refine aG af J J J J J J ?_; intro g) | refine aj af 0 J J J J J J J J J J J J ?_ | refine dd rfl (fun h => ?_) (fun h => ?_))
  all_goals
    (refine aC af (fun _ => 0) J J ⟨J, trivial⟩ rfl fun w hm => ⟨?_, hm.below⟩)
    refine CJ _ _ _ _ _ _ _ _ _ _ _ _ _ _ _ _ ?_
    clear htx htt hm
    unfold ti eA
    grind
set_option maxRecDepth 100000 in
set_option maxHeartbeats 4000000 in
theorem tF (n : Int) (w : World) : Calls Tryz.prog 43 #[.int .i64 n] w fun e w' => e = .returned (.tuple #[.agg (cr (ig n).win), .int .i64 (ig n).err]) ∧ Below w.heap.size w w' := by
  refine aQ Tryz.func43 rfl Tryz.ntmps43 J J ?_
  repeat' (first | refine ai ?_ | refine aa ?_ | refine ab ?_ | refine aA ?_ | refine ay ?_ | refine au ?_ | refine ag ?_ | ((refine' am rfl ?_ J J ?_); rotate_left; first | exact ak af J J J J | exact aq af J J J J J J | exact bL J J J J J | exact ap af J J trivial J J J | exact ap af J J ⟨J, J, trivial⟩ J J J) | (refine aG af J J J J J J ?_; intro g) | refine aj af 0 J J J J J J J J J J J J ?_ | refine dd rfl (fun h => ?_) (fun h => ?_))
  all_goals
    (refine aC af (fun _ => 0) J J ⟨J, trivial⟩ rfl fun w hm => ⟨?_, hm.below⟩)
    unfold ig
    split <;> simp_all <;> omega
set_option maxRecDepth 100000 in
set_option maxHeartbeats 4000000 in
theorem zf (id sd sh n : Int) (w : World) : Calls Tryz.prog 45 #[.int .i64 id, .int .i64 sd, .int .i64 sh, .int .i64 n] w fun e w' => e = .returned (.tuple #[.agg (mN (dH id sd sh n).st), .int .i64 (dH id sd sh n).err]) ∧ Below w.heap.size w w' := by
  refine aQ Tryz.func45 rfl Tryz.ntmps45 J J ?_
  repeat' (first | refine ai ?_ | refine aa ?_ | refine ab ?_ | refine aA ?_ | refine ay ?_ | refine au ?_ | refine ag ?_ | ((refine' am rfl ?_ J J ?_); rotate_left; first | exact ak af J J J J | exact aq af J J J J J J | exact bL J J J J J | exact bK J J J J J | exact ae af 0 J J J J J | exact ap af J J trivial J J J | exact ap af J J ⟨J, J, J, J, J, trivial⟩ J J J) | refine aK rfl (av J J J J ⟨J, trivial⟩ rfl (by kernel_rfl)) (fun w hm => tF _ w) J J ?_ | (refine aG af J J J J J J ?_; intro g) | refine aj af 0 J J J J J J J J J J J J ?_ | refine aj af 1 J J J J J J J J J J J J ?_ | refine dd rfl (fun h => ?_) (fun h => ?_))
  all_goals
    (refine aC af (fun _ => 1) J J ⟨J, trivial⟩ rfl fun w hm => ⟨?_, hm.below⟩)
    refine uX _ _ _ _ _ _ _ _ _ _ _ _ _ _ _ _ _ ?_
    clear hm
    unfold dH yN rA ig at *
    grind
end Go.Proofs.YthiocbcokfondaaGreatDoor.Y
