/- Streams: package stream and its reference, walked. -/
import Derived.Test.YthiocbcokfondaaGreatDoorOBunT
import Derived.Test.YthiocbcokfondaaGreatDoorOBunD
import Derived.Test.YthiocbcokfondaaGreatDoorOFlow
import Derived.Test.YthiocbcokfondaaGreatDoorOBunR
namespace Go.Proofs.YthiocbcokfondaaGreatDoor.Y
open Go.RowKit
theorem uK (s : ByteArray) : (s.toList == (⟨#[]⟩ : ByteArray).toList) = decide (s.size = 0) := by
 rw [ByteArray.toList_eq, ByteArray.toList_eq, Bool.eq_iff_iff, beq_iff_eq, decide_eq_true_eq]
 obtain ⟨⟨l⟩⟩ := s
 show l = [] ↔ l.length = 0
 cases l <;> simp
set_option maxRecDepth 100000 in
set_option maxHeartbeats 4000000 in
theorem sR (id sd sh st gt : Int) (se ge dn : Bool) (c : Int) (tx : ByteArray) (wa wb wc ra rb rc : Int) (w : World) : Calls Tryz.prog 133 #[.agg #[.int .i64 id, .int .i64 sd, .int .i64 sh, .int .i64 st, .int .i64 gt, .bool se, .bool ge, .bool dn, .int .i64 c, .string tx, .int .i64 wa, .int .i64 wb, .int .i64 wc, .int .i64 ra, .int .i64 rb, .int .i64 rc]] w fun e w' => e = .returned (.agg #[.int .i64 id, .int .i64 sd, .int .i64 sh, .int .i64 st, .int .i64 gt, .bool se, .bool ge, .bool dn, .int .i64 c, .string tx, .int .i64 wa, .int .i64 wb, .int .i64 wc, .int .i64 ra, .int .i64 rb, .int .i64 rc, .int .i64 (c1 sh), .int .i64 (j6 (c2 sh)), .int .i64 (c3 sh), .int .i64 (j6 (c4 sh))]) ∧ Below w.heap.size w w' := by
 refine aI Tryz.func133 rfl Tryz.ntmps133 J J ?_
 repeat' (first | refine ai ?_ | refine aa ?_ | refine ab ?_ | refine ax ?_ | refine az ?_ | refine ag ?_ | ((refine' ap rfl ?_ J J ?_); rotate_left; first | exact ak af J J J J | exact aq af J J J J J J | exact ae af 0 J J J J J | exact ae af 1 J J J J J | exact ae af 2 J J J J J | exact av af J J ⟨J, trivial⟩ J J J) | refine aH rfl (au J J J J ⟨J, trivial⟩ rfl (by kernel_rfl)) (fun w hm => yU (counts _ w)) J J ?_ | (refine aR J J J J J J ?_; intro g) | (refine aD af J J J J J J ?_; intro g) | refine aj af 0 J J J J J J J J J J J J ?_ | refine aj af 1 J J J J J J J J J J J J ?_ | refine df rfl (fun h => ?_) (fun h => ?_))
 all_goals
  (refine ay af (fun _ => 1) J J ⟨J, trivial⟩ rfl fun w hm => ⟨?_, hm.below⟩)
  simp only [decide_eq_true_eq, decide_eq_false_iff_not] at *
  simp [j6, *]
set_option maxRecDepth 100000 in
set_option maxHeartbeats 4000000 in
theorem ec (id sd sh st gt : Int) (se ge dn : Bool) (c : Int) (tx : ByteArray) (wa wb wc ra rb rc : Int) (e1 e2 e3 e4 : Int) (w : World) : Calls Tryz.prog 165 #[.agg #[.int .i64 id, .int .i64 sd, .int .i64 sh, .int .i64 st, .int .i64 gt, .bool se, .bool ge, .bool dn, .int .i64 c, .string tx, .int .i64 wa, .int .i64 wb, .int .i64 wc, .int .i64 ra, .int .i64 rb, .int .i64 rc, .int .i64 e1, .int .i64 e2, .int .i64 e3, .int .i64 e4]] w fun e w' => e = .returned (.bool (sd == 1)) ∧ Below w.heap.size w w' := by
 refine aI Tryz.func165 rfl Tryz.ntmps165 J J ?_
 repeat' (first | refine ai ?_ | refine aa ?_ | refine ab ?_ | refine ax ?_ | refine ag ?_ | ((refine' ap rfl ?_ J J ?_); rotate_left; first | exact ak af J J J J | exact aq af J J J J J J | exact ae af 0 J J J J J) | (refine aR J J J J J J ?_; intro g))
 all_goals
  refine ay af (fun _ => 0) J J trivial rfl fun w hm => ⟨?_, hm.below⟩
  rfl
set_option maxRecDepth 100000 in
set_option maxHeartbeats 4000000 in
theorem lg (id sd sh st gt : Int) (se ge dn : Bool) (c : Int) (tx : ByteArray) (wa wb wc ra rb rc : Int) (e1 e2 e3 e4 : Int) (w : World) : Calls Tryz.prog 135 #[.agg #[.int .i64 id, .int .i64 sd, .int .i64 sh, .int .i64 st, .int .i64 gt, .bool se, .bool ge, .bool dn, .int .i64 c, .string tx, .int .i64 wa, .int .i64 wb, .int .i64 wc, .int .i64 ra, .int .i64 rb, .int .i64 rc, .int .i64 e1, .int .i64 e2, .int .i64 e3, .int .i64 e4]] w fun e w' => e = .returned (.int .i64 (iR (⟨id, sd, sh, st, gt, se, ge, dn, c, tx, ⟨wa, wb, wc⟩, ⟨ra, rb, rc⟩⟩ : cE))) ∧ Below w.heap.size w w' := by
 refine aI Tryz.func135 rfl Tryz.ntmps135 J J ?_
 repeat' (first | refine ai ?_ | refine aa ?_ | refine ab ?_ | refine ax ?_ | refine az ?_ | refine ar ?_ | refine ag ?_ | ((refine' ap rfl ?_ J J ?_); rotate_left; first | exact ak af J J J J | exact ae af 0 J J J J J) | refine aH rfl (au J J J J ⟨J, trivial⟩ rfl (by kernel_rfl)) (fun w hm => ec _ _ _ _ _ _ _ _ _ _ _ _ _ _ _ _ _ _ _ _ w) J J ?_ | (refine aR J J J J J J ?_; intro g) | refine df rfl (fun h => ?_) (fun h => ?_))
 all_goals
  refine ay af (fun _ => 0) J J trivial rfl fun w hm => ⟨?_, hm.below⟩
  simp_all [iR]
set_option maxRecDepth 100000 in
set_option maxHeartbeats 4000000 in
theorem kj (id sd sh st gt : Int) (se ge dn : Bool) (c : Int) (tx : ByteArray) (wa wb wc ra rb rc : Int) (e1 e2 e3 e4 : Int) (w : World) : Calls Tryz.prog 136 #[.agg #[.int .i64 id, .int .i64 sd, .int .i64 sh, .int .i64 st, .int .i64 gt, .bool se, .bool ge, .bool dn, .int .i64 c, .string tx, .int .i64 wa, .int .i64 wb, .int .i64 wc, .int .i64 ra, .int .i64 rb, .int .i64 rc, .int .i64 e1, .int .i64 e2, .int .i64 e3, .int .i64 e4]] w fun e w' => e = .returned (.int .i64 (lL (⟨id, sd, sh, st, gt, se, ge, dn, c, tx, ⟨wa, wb, wc⟩, ⟨ra, rb, rc⟩⟩ : cE))) ∧ Below w.heap.size w w' := by
 refine aI Tryz.func136 rfl Tryz.ntmps136 J J ?_
 repeat' (first | refine ai ?_ | refine aa ?_ | refine ab ?_ | refine ax ?_ | refine az ?_ | refine ar ?_ | refine ag ?_ | ((refine' ap rfl ?_ J J ?_); rotate_left; first | exact ak af J J J J | exact ae af 0 J J J J J) | refine aH rfl (au J J J J ⟨J, trivial⟩ rfl (by kernel_rfl)) (fun w hm => ec _ _ _ _ _ _ _ _ _ _ _ _ _ _ _ _ _ _ _ _ w) J J ?_ | (refine aR J J J J J J ?_; intro g) | refine df rfl (fun h => ?_) (fun h => ?_))
 all_goals
  refine ay af (fun _ => 0) J J trivial rfl fun w hm => ⟨?_, hm.below⟩
  simp_all [lL]
set_option maxRecDepth 100000 in
set_option maxHeartbeats 4000000 in
theorem oR (id sd sh st gt : Int) (se ge dn : Bool) (c : Int) (tx : ByteArray) (wa wb wc ra rb rc : Int) (e1 e2 e3 e4 : Int) (w : World) : Calls Tryz.prog 138 #[.agg #[.int .i64 id, .int .i64 sd, .int .i64 sh, .int .i64 st, .int .i64 gt, .bool se, .bool ge, .bool dn, .int .i64 c, .string tx, .int .i64 wa, .int .i64 wb, .int .i64 wc, .int .i64 ra, .int .i64 rb, .int .i64 rc, .int .i64 e1, .int .i64 e2, .int .i64 e3, .int .i64 e4]] w fun e w' => e = .returned (.bool (pD (⟨id, sd, sh, st, gt, se, ge, dn, c, tx, ⟨wa, wb, wc⟩, ⟨ra, rb, rc⟩⟩ : cE))) ∧ Below w.heap.size w w' := by
 refine aI Tryz.func138 rfl Tryz.ntmps138 J J ?_
 repeat' (first | refine ai ?_ | refine aa ?_ | refine ab ?_ | refine ax ?_ | refine az ?_ | refine ar ?_ | refine ag ?_ | ((refine' ap rfl ?_ J J ?_); rotate_left; first | exact ak af J J J J | exact ae af 0 J J J J J) | refine aH rfl (au J J J J ⟨J, trivial⟩ rfl (by kernel_rfl)) (fun w hm => ec _ _ _ _ _ _ _ _ _ _ _ _ _ _ _ _ _ _ _ _ w) J J ?_ | (refine aR J J J J J J ?_; intro g) | refine df rfl (fun h => ?_) (fun h => ?_))
 all_goals
  refine ay af (fun _ => 0) J J trivial rfl fun w hm => ⟨?_, hm.below⟩
  simp_all [pD]
set_option maxRecDepth 100000 in
set_option maxHeartbeats 4000000 in
theorem pV (id sd sh st gt : Int) (se ge dn : Bool) (c : Int) (tx : ByteArray) (wa wb wc ra rb rc : Int) (e1 e2 e3 e4 : Int) (w : World) : Calls Tryz.prog 137 #[.agg #[.int .i64 id, .int .i64 sd, .int .i64 sh, .int .i64 st, .int .i64 gt, .bool se, .bool ge, .bool dn, .int .i64 c, .string tx, .int .i64 wa, .int .i64 wb, .int .i64 wc, .int .i64 ra, .int .i64 rb, .int .i64 rc, .int .i64 e1, .int .i64 e2, .int .i64 e3, .int .i64 e4]] w fun e w' => e = .returned (.bool (sD (⟨id, sd, sh, st, gt, se, ge, dn, c, tx, ⟨wa, wb, wc⟩, ⟨ra, rb, rc⟩⟩ : cE))) ∧ Below w.heap.size w w' := by
 refine aI Tryz.func137 rfl Tryz.ntmps137 J J ?_
 repeat' (first | refine ai ?_ | refine aa ?_ | refine ab ?_ | refine ax ?_ | refine az ?_ | refine ar ?_ | refine ag ?_ | ((refine' ap rfl ?_ J J ?_); rotate_left; first | exact ak af J J J J | exact ae af 0 J J J J J) | refine aH rfl (au J J J J ⟨J, trivial⟩ rfl (by kernel_rfl)) (fun w hm => ec _ _ _ _ _ _ _ _ _ _ _ _ _ _ _ _ _ _ _ _ w) J J ?_ | (refine aR J J J J J J ?_; intro g) | refine df rfl (fun h => ?_) (fun h => ?_))
 all_goals
  refine ay af (fun _ => 0) J J trivial rfl fun w hm => ⟨?_, hm.below⟩
  simp_all [sD]
set_option maxRecDepth 100000 in
set_option maxHeartbeats 4000000 in
theorem q7 (id sd sh st gt : Int) (se ge dn : Bool) (c : Int) (tx : ByteArray) (wa wb wc ra rb rc : Int) (e1 e2 e3 e4 : Int) (b : Bool) (w : World) : Calls Tryz.prog 164 #[.agg #[.int .i64 id, .int .i64 sd, .int .i64 sh, .int .i64 st, .int .i64 gt, .bool se, .bool ge, .bool dn, .int .i64 c, .string tx, .int .i64 wa, .int .i64 wb, .int .i64 wc, .int .i64 ra, .int .i64 rb, .int .i64 rc, .int .i64 e1, .int .i64 e2, .int .i64 e3, .int .i64 e4], .bool b] w fun e w' => e = .returned (.int .i64 (if b = true then e2 else e4)) ∧ Below w.heap.size w w' := by
 refine aI Tryz.func164 rfl Tryz.ntmps164 J J ?_
 repeat' (first | refine ai ?_ | refine aa ?_ | refine ab ?_ | refine ax ?_ | refine az ?_ | refine ar ?_ | refine ag ?_ | ((refine' ap rfl ?_ J J ?_); rotate_left; first | exact ak af J J J J | exact ae af 0 J J J J J) | (refine aR J J J J J J ?_; intro g) | refine df rfl (fun h => ?_) (fun h => ?_))
 all_goals
  refine ay af (fun _ => 0) J J trivial rfl fun w hm => ⟨?_, hm.below⟩
  simp_all
set_option maxRecDepth 100000 in
set_option maxHeartbeats 4000000 in
theorem sS (n m : Int) (w : World) : Calls Tryz.prog 134 #[.int .i64 n, .int .i64 m] w fun e w' => e = .returned (.bool (decide (0 ≤ n ∧ n ≤ m))) ∧ Below w.heap.size w w' := by
 refine aI Tryz.func134 rfl Tryz.ntmps134 J J ?_
 repeat' (first | refine ai ?_ | refine aa ?_ | refine ab ?_ | refine ax ?_ | refine ag ?_ | ((refine' ap rfl ?_ J J ?_); rotate_left; first | exact ak af J J J J | exact aq af J J J J J J | exact bY J J J J J))
 all_goals
  refine ay af (fun _ => 0) J J trivial rfl fun w hm => ⟨?_, hm.below⟩
  congr 2
  rw [Bool.eq_iff_iff]
  simp
set_option maxRecDepth 100000 in
set_option maxHeartbeats 4000000 in
theorem gz (d : ByteArray) (w : World) : Calls Tryz.prog 25 #[.string d] w fun e w' => e = .returned (.int .i64 (aT d)) ∧ Below w.heap.size w w' := by
 refine aI Tryz.func25 rfl Tryz.ntmps25 J J ?_
 repeat' (first | refine ai ?_ | refine aa ?_ | refine ab ?_ | refine ax ?_ | refine ag ?_ | ((refine' ap rfl ?_ J J ?_); rotate_left; first | exact ak af J J J J | exact bp af J J J J J J J | exact fo J J J J J))
 all_goals
  refine ay af (fun _ => 0) J J trivial rfl fun w hm => ⟨?_, hm.below⟩
  congr 2
  unfold aT
  split <;> split <;> omega
set_option maxRecDepth 100000 in
set_option maxHeartbeats 4000000 in
theorem jX (id sd sh st gt : Int) (se ge dn : Bool) (c : Int) (tx : ByteArray) (wa wb wc ra rb rc : Int) (w : World) (htx : tx.size ≤ 4611686018427387900) : Calls Tryz.prog 71 #[.agg #[.int .i64 id, .int .i64 sd, .int .i64 sh, .int .i64 st, .int .i64 gt, .bool se, .bool ge, .bool dn, .int .i64 c, .string tx, .int .i64 wa, .int .i64 wb, .int .i64 wc, .int .i64 ra, .int .i64 rb, .int .i64 rc]] w fun e w' => e = .returned (.bool (dV (⟨id, sd, sh, st, gt, se, ge, dn, c, tx, ⟨wa, wb, wc⟩, ⟨ra, rb, rc⟩⟩ : cE))) ∧ Below w.heap.size w w' := by
 refine aI Tryz.func71 rfl Tryz.ntmps71 J J ?_
 repeat' (first | refine ai ?_ | refine aa ?_ | refine ab ?_ | refine ax ?_ | refine az ?_ | refine ar ?_ | refine aV aC rfl (by kernel_rfl) ?_ | refine ag ?_ | refine bO ?_ | ((first | refine' ap rfl ?_ J J ?_ | refine' dL rfl ?_ J J J ?_); rotate_left; first | exact ak af J J J J | exact aq af J J J J J J | exact bN J J J J J | exact bY J J J J J | exact ae af 0 J J J J J | exact ae af 1 J J J J J | exact fp af fO J J J J J J (by kernel_rfl) | exact av af J J trivial J J J) | refine aH rfl (au J J J J ⟨J, trivial⟩ rfl (by kernel_rfl)) (fun w hm => sR _ _ _ _ _ _ _ _ _ _ _ _ _ _ _ _ w) J J ?_ | refine bq rfl (au J J J J ⟨J, trivial⟩ rfl (by kernel_rfl)) rfl (fun w hm => lg _ _ _ _ _ _ _ _ _ _ _ _ _ _ _ _ _ _ _ _ w) J J ?_ | refine bq rfl (au J J J J ⟨J, trivial⟩ rfl (by kernel_rfl)) rfl (fun w hm => kj _ _ _ _ _ _ _ _ _ _ _ _ _ _ _ _ _ _ _ _ w) J J ?_ | refine bq rfl (au J J J J ⟨J, trivial⟩ rfl (by kernel_rfl)) rfl (fun w hm => oR _ _ _ _ _ _ _ _ _ _ _ _ _ _ _ _ _ _ _ _ w) J J ?_ | refine bq rfl (au J J J J ⟨J, trivial⟩ rfl (by kernel_rfl)) rfl (fun w hm => pV _ _ _ _ _ _ _ _ _ _ _ _ _ _ _ _ _ _ _ _ w) J J ?_ | refine bq rfl (au J J J J ⟨J, J, trivial⟩ rfl (by kernel_rfl)) rfl (fun w hm => sS _ _ w) J J ?_ | refine bq rfl (au J J J J ⟨J, trivial⟩ rfl (by kernel_rfl)) rfl (fun w hm => ft ⟨_, _, _⟩ w) J J ?_ | refine aH rfl (au J J J J ⟨J, trivial⟩ rfl (by kernel_rfl)) (fun w hm => fj _ _ w htx) J J ?_ | (refine aR J J J J J J ?_; intro g) | (refine aD af J J J J J J ?_; intro g) | refine aj af 0 J J J J J J J J J J J J ?_ | refine df rfl (fun h => ?_) (fun h => ?_))
 all_goals
  refine ay af (fun _ => 0) J J trivial rfl fun w hm => ⟨?_, hm.below⟩
  refine congrArg (fun b => Ending.returned (Value.bool b)) ?_
  clear htx hm
  unfold dV sE pE wt qk
  try rw [uK]
  grind
def pW (s : cE) (e1 e3 : Int) (d : ByteArray) : Int := if (bx d).err ≠ 0 then 1 else if (bx d).code ≠ 0 then 0 else if (decide (iR s < e1) || decide (lL s < e3) || ((s.shape == 1 || s.shape == 3) && !pD s)) = true then 11 else 0
def pX (f : bc) : Int := if f.kind = 5 then f.num else (bx f.data).code
def pY (f : bc) : ByteArray := if f.kind = 5 then ⟨#[]⟩ else (bx f.data).text
theorem wR {a b : Int} (h : a = b) : Ending.returned (.int .i64 a) = Ending.returned (.int .i64 b) := by rw [h]
abbrev lV (s : cE) : Array Value := #[.int .i64 s.id, .int .i64 s.side, .int .i64 s.shape, .int .i64 s.sent, .int .i64 s.got, .bool s.se, .bool s.ge, .bool s.done, .int .i64 s.code, .string s.text, .int .i64 s.snd.size, .int .i64 s.snd.left, .int .i64 s.snd.held, .int .i64 s.rcv.size, .int .i64 s.rcv.left, .int .i64 s.rcv.held]
theorem sT (id sd sh st gt : Int) (se ge dn : Bool) (c : Int) (tx : ByteArray) (wa wb wc ra rb rc : Int) (e : Int) {r : yN} (h : r = ⟨(⟨id, sd, sh, st, gt, se, ge, dn, c, tx, ⟨wa, wb, wc⟩, ⟨ra, rb, rc⟩⟩ : cE), e⟩) : Ending.returned (.tuple #[.agg #[.int .i64 id, .int .i64 sd, .int .i64 sh, .int .i64 st, .int .i64 gt, .bool se, .bool ge, .bool dn, .int .i64 c, .string tx, .int .i64 wa, .int .i64 wb, .int .i64 wc, .int .i64 ra, .int .i64 rb, .int .i64 rc], .int .i64 e]) = Ending.returned (.tuple #[.agg (lV r.st), .int .i64 r.err]) := by rw [h]
theorem y6 (s : Int) : j6 (c2 s) ≤ 4611686018427387904 ∧ j6 (c4 s) ≤ 4611686018427387904 := by
 unfold j6 c2 c4
 constructor <;> (repeat' split) <;> omega
theorem nw {s : cE} (h : dV s = true) : 0 ≤ s.sent ∧ 0 ≤ s.got ∧ s.sent ≤ 4611686018427387904 ∧ s.got ≤ 4611686018427387904 := by
 have ht := y6 s.shape
 unfold dV pE iR lL at h
 simp only [Bool.and_eq_true, decide_eq_true_eq] at h
 have := h.1.2.2
 split at this <;> omega
theorem oS {f : bc} (h : aQ f = 0) (hk : f.kind = 4) : (bx f.data).err = 0 := by
 unfold aQ at h
 split at h
 · cases h
 split at h
 · cases h
 split at h
 · omega
 · first | exact h | (rw [if_pos hk] at h; exact h)
theorem mw {n : Int} (h : 0 ≤ n ∧ n ≤ 4611686018427387904) : IntKind.i64.wrap (n + 1) = n + 1 := IntWalk.i64_in _ (by omega)
theorem Aw (id sd sh st gt : Int) (se ge dn : Bool) (c : Int) (tx : ByteArray) (wa wb wc ra rb rc : Int) {r : cE} (h : r = (⟨id, sd, sh, st, gt, se, ge, dn, c, tx, ⟨wa, wb, wc⟩, ⟨ra, rb, rc⟩⟩ : cE)) : Ending.returned (.agg #[.int .i64 id, .int .i64 sd, .int .i64 sh, .int .i64 st, .int .i64 gt, .bool se, .bool ge, .bool dn, .int .i64 c, .string tx, .int .i64 wa, .int .i64 wb, .int .i64 wc, .int .i64 ra, .int .i64 rb, .int .i64 rc]) = Ending.returned (.agg (lV r)) := by rw [h]
set_option maxRecDepth 100000 in
set_option maxHeartbeats 4000000 in
theorem oT (id sd sh st gt : Int) (se ge dn : Bool) (c : Int) (tx : ByteArray) (wa wb wc ra rb rc : Int) (e1 e2 e3 e4 : Int) (fk fs fn : Int) (fd : ByteArray) (w : World) (hfd : fd.size < 4294967281) : Calls Tryz.prog 167 #[.agg #[.int .i64 id, .int .i64 sd, .int .i64 sh, .int .i64 st, .int .i64 gt, .bool se, .bool ge, .bool dn, .int .i64 c, .string tx, .int .i64 wa, .int .i64 wb, .int .i64 wc, .int .i64 ra, .int .i64 rb, .int .i64 rc, .int .i64 e1, .int .i64 e2, .int .i64 e3, .int .i64 e4], .agg #[.int .i64 fk, .int .i64 fs, .int .i64 fn, .string fd]] w fun e w' => e = .returned (.int .i64 (pW (⟨id, sd, sh, st, gt, se, ge, dn, c, tx, ⟨wa, wb, wc⟩, ⟨ra, rb, rc⟩⟩ : cE) e1 e3 fd)) ∧ Below w.heap.size w w' := by
 refine aI Tryz.func167 rfl Tryz.ntmps167 J J ?_
 repeat' (first | refine ai ?_ | refine aa ?_ | refine ab ?_ | refine ax ?_ | refine az ?_ | refine ar ?_ | refine aV aC rfl (by kernel_rfl) ?_ | refine ag ?_ | refine bO ?_ | ((first | refine' ap rfl ?_ J J ?_ | refine' dL rfl ?_ J J J ?_); rotate_left; first | exact ak af J J J J | exact aq af J J J J J J | exact bN J J J J J | exact bY J J J J J | exact ae af 0 J J J J J | exact ae af 2 J J J J J) | refine aH rfl (au J J J J ⟨J, trivial⟩ rfl (by kernel_rfl)) (fun w hm => kx _ w (by omega)) J J ?_ | refine bq rfl (au J J J J ⟨J, trivial⟩ rfl (by kernel_rfl)) rfl (fun w hm => lg _ _ _ _ _ _ _ _ _ _ _ _ _ _ _ _ _ _ _ _ w) J J ?_ | refine bq rfl (au J J J J ⟨J, trivial⟩ rfl (by kernel_rfl)) rfl (fun w hm => kj _ _ _ _ _ _ _ _ _ _ _ _ _ _ _ _ _ _ _ _ w) J J ?_ | refine bq rfl (au J J J J ⟨J, trivial⟩ rfl (by kernel_rfl)) rfl (fun w hm => oR _ _ _ _ _ _ _ _ _ _ _ _ _ _ _ _ _ _ _ _ w) J J ?_ | (refine aR J J J J J J ?_; intro g) | (refine aD af J J J J J J ?_; intro g) | refine aj af 0 J J J J J J J J J J J J ?_ | refine df rfl (fun h => ?_) (fun h => ?_))
 all_goals
  refine ay af (fun _ => 0) J J trivial rfl fun w hm => ⟨?_, hm.below⟩
  refine wR ?_
  clear hfd hm
  unfold pW
  grind
set_option maxRecDepth 100000 in
set_option maxHeartbeats 4000000 in
theorem q8 (id sd sh st gt : Int) (se ge dn : Bool) (c : Int) (tx : ByteArray) (wa wb wc ra rb rc : Int) (tc : Int) (tt : ByteArray) (w : World) : Calls Tryz.prog 178 #[.agg #[.int .i64 id, .int .i64 sd, .int .i64 sh, .int .i64 st, .int .i64 gt, .bool se, .bool ge, .bool dn, .int .i64 c, .string tx, .int .i64 wa, .int .i64 wb, .int .i64 wc, .int .i64 ra, .int .i64 rb, .int .i64 rc], .agg #[.int .i64 tc, .string tt]] w fun e w' => e = .returned (.agg #[.int .i64 id, .int .i64 sd, .int .i64 sh, .int .i64 st, .int .i64 gt, .bool true, .bool true, .bool true, .int .i64 tc, .string tt, .int .i64 wa, .int .i64 wb, .int .i64 wc, .int .i64 ra, .int .i64 rb, .int .i64 rc]) ∧ Below w.heap.size w w' := by
 refine aI Tryz.func178 rfl Tryz.ntmps178 J J ?_
 repeat' (first | refine ai ?_ | refine aa ?_ | refine ab ?_ | refine ax ?_ | refine ag ?_ | ((refine' ap rfl ?_ J J ?_); rotate_left; first | exact ak af J J J J | exact ae af 1 J J J J J | exact ae af 2 J J J J J) | (refine aR J J J J J J ?_; intro g) | (refine aD af J J J J J J ?_; intro g) | refine aj af 0 J J J J J J J J J J J J ?_ | refine aj af 2 J J J J J J J J J J J J ?_)
 all_goals
  (refine ay af (fun _ => 0) J J ⟨J, trivial⟩ rfl fun w hm => ⟨?_, hm.below⟩)
  rfl
set_option maxRecDepth 100000 in
set_option maxHeartbeats 4000000 in
theorem ml (id sd sh st gt : Int) (se ge dn : Bool) (c : Int) (tx : ByteArray) (wa wb wc ra rb rc : Int) (fk fs fn : Int) (fd : ByteArray) (w : World) (hfd : fd.size < 4294967281) : Calls Tryz.prog 168 #[.agg #[.int .i64 id, .int .i64 sd, .int .i64 sh, .int .i64 st, .int .i64 gt, .bool se, .bool ge, .bool dn, .int .i64 c, .string tx, .int .i64 wa, .int .i64 wb, .int .i64 wc, .int .i64 ra, .int .i64 rb, .int .i64 rc], .agg #[.int .i64 fk, .int .i64 fs, .int .i64 fn, .string fd]] w fun e w' => e = .returned (.agg #[.int .i64 id, .int .i64 sd, .int .i64 sh, .int .i64 st, .int .i64 gt, .bool true, .bool true, .bool true, .int .i64 (pX (⟨fk, fs, fn, fd⟩ : bc)), .string (pY (⟨fk, fs, fn, fd⟩ : bc)), .int .i64 wa, .int .i64 wb, .int .i64 wc, .int .i64 ra, .int .i64 rb, .int .i64 rc]) ∧ Below w.heap.size w w' := by
 refine aI Tryz.func168 rfl Tryz.ntmps168 J J ?_
 repeat' (first | refine ai ?_ | refine aa ?_ | refine ab ?_ | refine ax ?_ | refine az ?_ | refine ar ?_ | refine ag ?_ | ((refine' ap rfl ?_ J J ?_); rotate_left; first | exact ak af J J J J | exact aq af J J J J J J | exact ae af 0 J J J J J | exact ae af 1 J J J J J | exact ae af 2 J J J J J | exact ae af 3 J J J J J | exact av af J J ⟨J, trivial⟩ J J J) | refine aH rfl (au J J J J ⟨J, trivial⟩ rfl (by kernel_rfl)) (fun w hm => kx _ w (by omega)) J J ?_ | refine aH rfl (au J J J J ⟨J, J, trivial⟩ rfl (by kernel_rfl)) (fun w hm => q8 _ _ _ _ _ _ _ _ _ _ _ _ _ _ _ _ _ _ w) J J ?_ | (refine aR J J J J J J ?_; intro g) | (refine aD af J J J J J J ?_; intro g) | refine aj af 0 J J J J J J J J J J J J ?_ | refine aj af 1 J J J J J J J J J J J J ?_ | refine df rfl (fun h => ?_) (fun h => ?_))
 all_goals
  (first | refine ay af (fun _ => 0) J J ⟨J, trivial⟩ rfl fun w hm => ⟨?_, hm.below⟩ | refine ay af (fun _ => 1) J J ⟨J, trivial⟩ rfl fun w hm => ⟨?_, hm.below⟩)
  unfold pX pY
  simp_all
set_option maxRecDepth 100000 in
set_option maxHeartbeats 4000000 in
theorem wS (id sd sh st gt : Int) (se ge dn : Bool) (c : Int) (tx : ByteArray) (wa wb wc ra rb rc : Int) (fk fs fn : Int) (fd : ByteArray) (w : World) (htx : tx.size ≤ 4611686018427387900) (hfd : fd.size < 4294967281) (hl : MLen w) : Calls Tryz.prog 107 #[.agg #[.int .i64 id, .int .i64 sd, .int .i64 sh, .int .i64 st, .int .i64 gt, .bool se, .bool ge, .bool dn, .int .i64 c, .string tx, .int .i64 wa, .int .i64 wb, .int .i64 wc, .int .i64 ra, .int .i64 rb, .int .i64 rc], .agg #[.int .i64 fk, .int .i64 fs, .int .i64 fn, .string fd]] w fun e w' => e = .returned (.tuple #[.agg (lV (bB (⟨id, sd, sh, st, gt, se, ge, dn, c, tx, ⟨wa, wb, wc⟩, ⟨ra, rb, rc⟩⟩ : cE) (⟨fk, fs, fn, fd⟩ : bc)).st), .int .i64 (bB (⟨id, sd, sh, st, gt, se, ge, dn, c, tx, ⟨wa, wb, wc⟩, ⟨ra, rb, rc⟩⟩ : cE) (⟨fk, fs, fn, fd⟩ : bc)).err]) ∧ Below w.heap.size w w' := by
 refine aI Tryz.func107 rfl Tryz.ntmps107 J J ?_
 repeat' (first | refine ai ?_ | refine aa ?_ | refine ab ?_ | refine ax ?_ | refine az ?_ | refine aM ?_ | refine ar ?_ | refine aB ?_ | refine aW ?_ | refine aV aC rfl (by kernel_rfl) ?_ | refine ag ?_ | refine bO ?_ | (refine cN ?_; intro g) | ((first | refine' ap rfl ?_ J J ?_ | refine' dL rfl ?_ J J J ?_); rotate_left; first | exact ak af J J J J | exact aq af J J J J J J | exact bN J J J J J | exact ae af 0 J J J J J | exact ae af 1 J J J J J | exact ae af 2 J J J J J | exact ae af 3 J J J J J | exact ae af 4 J J J J J) | refine aH rfl (au J J J J ⟨J, trivial⟩ rfl (by kernel_rfl)) (fun w hm => jX _ _ _ _ _ _ _ _ _ _ _ _ _ _ _ _ w (by omega)) J J ?_ | refine aH rfl (au J J J J ⟨J, trivial⟩ rfl (by kernel_rfl)) (fun w hm => kz ⟨_, _, _, _⟩ w (hl.below hm.below) (by assumption)) J J ?_ | refine aH rfl (au J J J J ⟨J, trivial⟩ rfl (by kernel_rfl)) (fun w hm => sR _ _ _ _ _ _ _ _ _ _ _ _ _ _ _ _ w) J J ?_ | refine aH rfl (au J J J J ⟨J, trivial⟩ rfl (by kernel_rfl)) (fun w hm => ec _ _ _ _ _ _ _ _ _ _ _ _ _ _ _ _ _ _ _ _ w) J J ?_ | refine bq rfl (au J J J J ⟨J, trivial⟩ rfl (by kernel_rfl)) rfl (fun w hm => ec _ _ _ _ _ _ _ _ _ _ _ _ _ _ _ _ _ _ _ _ w) J J ?_ | refine bq rfl (au J J J J ⟨J, J, trivial⟩ rfl (by kernel_rfl)) rfl (fun w hm => q7 _ _ _ _ _ _ _ _ _ _ _ _ _ _ _ _ _ _ _ _ _ w) J J ?_ | refine bq rfl (au J J J J ⟨J, trivial⟩ rfl (by kernel_rfl)) rfl (fun w hm => gz _ w) J J ?_ | refine bq rfl (au J J J J ⟨J, J, trivial⟩ rfl (by kernel_rfl)) rfl (fun w hm => nu ⟨_, _, _⟩ _ w) J J ?_ | refine aH rfl (au J J J J ⟨J, J, trivial⟩ rfl (by kernel_rfl)) (fun w hm => oT _ _ _ _ _ _ _ _ _ _ _ _ _ _ _ _ _ _ _ _ _ _ _ _ w (by assumption)) J J ?_ | refine aH rfl (au J J J J ⟨J, J, trivial⟩ rfl (by kernel_rfl)) (fun w hm => ml _ _ _ _ _ _ _ _ _ _ _ _ _ _ _ _ _ _ _ _ w (by assumption)) J J ?_ | (refine aR J J J J J J ?_; intro g) | (refine aD af J J J J J J ?_; intro g) | refine cj af J J J J J J ?_ | refine aj af 0 J J J J J J J J J J J J ?_ | refine aj af 1 J J J J J J J J J J J J ?_ | refine aj af 2 J J J J J J J J J J J J ?_ | refine aj af 3 J J J J J J J J J J J J ?_ | refine aj af 4 J J J J J J J J J J J J ?_ | refine df rfl (fun h => ?_) (fun h => ?_))
 all_goals
  (first | refine ay af (fun _ => 0) J J ⟨J, trivial⟩ rfl fun w hm => ⟨?_, hm.below⟩ | refine ay af (fun _ => 1) J J ⟨J, trivial⟩ rfl fun w hm => ⟨?_, hm.below⟩ | refine ay af (fun _ => 2) J J ⟨J, trivial⟩ rfl fun w hm => ⟨?_, hm.below⟩)
 all_goals
  refine sT _ _ _ _ _ _ _ _ _ _ _ _ _ _ _ _ _ ?_
  clear htx hfd hm hl
  have hv := fun h => nw (s := (⟨id, sd, sh, st, gt, se, ge, dn, c, tx, ⟨wa, wb, wc⟩, ⟨ra, rb, rc⟩⟩ : cE)) h
  have hw1 := fun h => mw (n := st) h
  have hw2 := fun h => mw (n := gt) h
  have hfu := fun h => oS (f := (⟨fk, fs, fn, fd⟩ : bc)) h
  unfold bB jr en dY ia
  try unfold pX pY
  try unfold pW at *
  try (generalize dA ⟨wa, wb, wc⟩ (aT fd) = r at *; obtain ⟨⟨r1, r2, r3⟩, r4⟩ := r)
  try (generalize b8 ⟨ra, rb, rc⟩ (aT fd) = r at *; obtain ⟨⟨r1, r2, r3⟩, r4⟩ := r)
  try (generalize cR ⟨wa, wb, wc⟩ fn = r at *; obtain ⟨⟨r1, r2, r3⟩, r4⟩ := r)
  by_cases hsd : sd = 1 <;> first | grind | (clear hw1 hw2 hv hfu; grind (splits := 40)) | (clear hw1 hw2 hv hfu; simp_all; have hh := ‹((_ ∧ _) ∧ fs = id) ∧ _›; obtain ⟨⟨⟨_, ha⟩, rfl⟩, hb⟩ := hh; exact ⟨ha, by omega, by omega⟩)
set_option maxRecDepth 100000 in
set_option maxHeartbeats 4000000 in
theorem wT (id sd sh st gt : Int) (se ge dn : Bool) (c : Int) (tx : ByteArray) (wa wb wc ra rb rc : Int) (fk fs fn : Int) (fd : ByteArray) (w : World) (htx : tx.size ≤ 4611686018427387900) (hfd : fd.size < 4294967281) (hl : MLen w) : Calls Tryz.prog 204 #[.agg #[.int .i64 id, .int .i64 sd, .int .i64 sh, .int .i64 st, .int .i64 gt, .bool se, .bool ge, .bool dn, .int .i64 c, .string tx, .int .i64 wa, .int .i64 wb, .int .i64 wc, .int .i64 ra, .int .i64 rb, .int .i64 rc], .agg #[.int .i64 fk, .int .i64 fs, .int .i64 fn, .string fd]] w fun e w' => e = .returned (.tuple #[.agg (lV (bT (⟨id, sd, sh, st, gt, se, ge, dn, c, tx, ⟨wa, wb, wc⟩, ⟨ra, rb, rc⟩⟩ : cE) (⟨fk, fs, fn, fd⟩ : bc)).st), .int .i64 (bT (⟨id, sd, sh, st, gt, se, ge, dn, c, tx, ⟨wa, wb, wc⟩, ⟨ra, rb, rc⟩⟩ : cE) (⟨fk, fs, fn, fd⟩ : bc)).err]) ∧ Below w.heap.size w w' := by
 refine aI Tryz.func204 rfl Tryz.ntmps204 J J ?_
 repeat' (first | refine ai ?_ | refine aa ?_ | refine ab ?_ | refine ax ?_ | refine az ?_ | refine aM ?_ | refine ar ?_ | refine aB ?_ | refine aW ?_ | refine aV aC rfl (by kernel_rfl) ?_ | refine ag ?_ | refine bO ?_ | (refine cN ?_; intro g) | ((first | refine' ap rfl ?_ J J ?_ | refine' dL rfl ?_ J J J ?_); rotate_left; first | exact ak af J J J J | exact aq af J J J J J J | exact bN J J J J J | exact ae af 0 J J J J J | exact ae af 1 J J J J J | exact ae af 2 J J J J J | exact ae af 3 J J J J J | exact ae af 4 J J J J J) | refine aH rfl (au J J J J ⟨J, trivial⟩ rfl (by kernel_rfl)) (fun w hm => jX _ _ _ _ _ _ _ _ _ _ _ _ _ _ _ _ w (by omega)) J J ?_ | refine aH rfl (au J J J J ⟨J, trivial⟩ rfl (by kernel_rfl)) (fun w hm => kz ⟨_, _, _, _⟩ w (hl.below hm.below) (by assumption)) J J ?_ | refine aH rfl (au J J J J ⟨J, trivial⟩ rfl (by kernel_rfl)) (fun w hm => sR _ _ _ _ _ _ _ _ _ _ _ _ _ _ _ _ w) J J ?_ | refine aH rfl (au J J J J ⟨J, trivial⟩ rfl (by kernel_rfl)) (fun w hm => ec _ _ _ _ _ _ _ _ _ _ _ _ _ _ _ _ _ _ _ _ w) J J ?_ | refine bq rfl (au J J J J ⟨J, trivial⟩ rfl (by kernel_rfl)) rfl (fun w hm => ec _ _ _ _ _ _ _ _ _ _ _ _ _ _ _ _ _ _ _ _ w) J J ?_ | refine bq rfl (au J J J J ⟨J, J, trivial⟩ rfl (by kernel_rfl)) rfl (fun w hm => q7 _ _ _ _ _ _ _ _ _ _ _ _ _ _ _ _ _ _ _ _ _ w) J J ?_ | refine bq rfl (au J J J J ⟨J, trivial⟩ rfl (by kernel_rfl)) rfl (fun w hm => gz _ w) J J ?_ | refine bq rfl (au J J J J ⟨J, J, trivial⟩ rfl (by kernel_rfl)) rfl (fun w hm => lf ⟨_, _, _⟩ _ w) J J ?_ | refine aH rfl (au J J J J ⟨J, J, trivial⟩ rfl (by kernel_rfl)) (fun w hm => nv ⟨_, _, _⟩ _ w) J J ?_ | refine aH rfl (au J J J J ⟨J, J, trivial⟩ rfl (by kernel_rfl)) (fun w hm => oT _ _ _ _ _ _ _ _ _ _ _ _ _ _ _ _ _ _ _ _ _ _ _ _ w (by assumption)) J J ?_ | refine aH rfl (au J J J J ⟨J, J, trivial⟩ rfl (by kernel_rfl)) (fun w hm => ml _ _ _ _ _ _ _ _ _ _ _ _ _ _ _ _ _ _ _ _ w (by assumption)) J J ?_ | (refine aR J J J J J J ?_; intro g) | (refine aD af J J J J J J ?_; intro g) | refine cj af J J J J J J ?_ | refine aj af 0 J J J J J J J J J J J J ?_ | refine aj af 1 J J J J J J J J J J J J ?_ | refine aj af 2 J J J J J J J J J J J J ?_ | refine aj af 3 J J J J J J J J J J J J ?_ | refine aj af 4 J J J J J J J J J J J J ?_ | refine df rfl (fun h => ?_) (fun h => ?_))
 all_goals
  (first | refine ay af (fun _ => 0) J J ⟨J, trivial⟩ rfl fun w hm => ⟨?_, hm.below⟩ | refine ay af (fun _ => 1) J J ⟨J, trivial⟩ rfl fun w hm => ⟨?_, hm.below⟩ | refine ay af (fun _ => 2) J J ⟨J, trivial⟩ rfl fun w hm => ⟨?_, hm.below⟩)
 all_goals
  refine sT _ _ _ _ _ _ _ _ _ _ _ _ _ _ _ _ _ ?_
  clear htx hfd hm hl
  have hv := fun h => nw (s := (⟨id, sd, sh, st, gt, se, ge, dn, c, tx, ⟨wa, wb, wc⟩, ⟨ra, rb, rc⟩⟩ : cE)) h
  have hw1 := fun h => mw (n := st) h
  have hw2 := fun h => mw (n := gt) h
  have hfu := fun h => oS (f := (⟨fk, fs, fn, fd⟩ : bc)) h
  unfold bT jr en dY ia
  try unfold pX pY
  try unfold pW at *
  try (generalize dA ⟨wa, wb, wc⟩ (aT fd) = r at *; obtain ⟨⟨r1, r2, r3⟩, r4⟩ := r)
  try (generalize b8 ⟨ra, rb, rc⟩ (aT fd) = r at *; obtain ⟨⟨r1, r2, r3⟩, r4⟩ := r)
  try (generalize cR ⟨wa, wb, wc⟩ fn = r at *; obtain ⟨⟨r1, r2, r3⟩, r4⟩ := r)
  by_cases hsd : sd = 1 <;> first | grind | (clear hw1 hw2 hv hfu; grind (splits := 40)) | (clear hw1 hw2 hv hfu; simp_all; have hh := ‹((_ ∧ _) ∧ fs = id) ∧ _›; obtain ⟨⟨⟨_, ha⟩, rfl⟩, hb⟩ := hh; exact ⟨ha, by omega, by omega⟩)
set_option maxRecDepth 100000 in
set_option maxHeartbeats 4000000 in
theorem za (id sd sh st gt : Int) (se ge dn : Bool) (c : Int) (tx : ByteArray) (wa wb wc ra rb rc : Int) (tc : Int) (tt : ByteArray) (w : World) (htx : tx.size ≤ 4611686018427387900) (htt : tt.size ≤ 4611686018427387900) : Calls Tryz.prog 127 #[.agg #[.int .i64 id, .int .i64 sd, .int .i64 sh, .int .i64 st, .int .i64 gt, .bool se, .bool ge, .bool dn, .int .i64 c, .string tx, .int .i64 wa, .int .i64 wb, .int .i64 wc, .int .i64 ra, .int .i64 rb, .int .i64 rc], .agg #[.int .i64 tc, .string tt]] w fun e w' => e = .returned (.agg (lV (nb (⟨id, sd, sh, st, gt, se, ge, dn, c, tx, ⟨wa, wb, wc⟩, ⟨ra, rb, rc⟩⟩ : cE) tc tt))) ∧ Below w.heap.size w w' := by
 refine aI Tryz.func127 rfl Tryz.ntmps127 J J ?_
 repeat' (first | refine ai ?_ | refine aa ?_ | refine ab ?_ | refine ax ?_ | refine az ?_ | refine ar ?_ | refine ag ?_ | ((refine' ap rfl ?_ J J ?_); rotate_left; first | exact ak af J J J J | exact aq af J J J J J J | exact bN J J J J J | exact ae af 1 J J J J J | exact ae af 2 J J J J J) | refine aH rfl (au J J J J ⟨J, trivial⟩ rfl (by kernel_rfl)) (fun w hm => jX _ _ _ _ _ _ _ _ _ _ _ _ _ _ _ _ w (by omega)) J J ?_ | refine aH rfl (au J J J J ⟨J, trivial⟩ rfl (by kernel_rfl)) (fun w hm => fj _ _ w (by omega)) J J ?_ | refine aH rfl (au J J J J ⟨J, J, trivial⟩ rfl (by kernel_rfl)) (fun w hm => q8 _ _ _ _ _ _ _ _ _ _ _ _ _ _ _ _ _ _ w) J J ?_ | (refine aR J J J J J J ?_; intro g) | (refine aD af J J J J J J ?_; intro g) | refine aj af 0 J J J J J J J J J J J J ?_ | refine df rfl (fun h => ?_) (fun h => ?_))
 all_goals
  (refine ay af (fun _ => 0) J J ⟨J, trivial⟩ rfl fun w hm => ⟨?_, hm.below⟩)
  refine Aw _ _ _ _ _ _ _ _ _ _ _ _ _ _ _ _ ?_
  clear htx htt hm
  unfold nb dY
  grind
set_option maxRecDepth 100000 in
set_option maxHeartbeats 4000000 in
theorem q9 (n : Int) (w : World) : Calls Tryz.prog 43 #[.int .i64 n] w fun e w' => e = .returned (.tuple #[.agg (cy (ji n).win), .int .i64 (ji n).err]) ∧ Below w.heap.size w w' := by
 refine aI Tryz.func43 rfl Tryz.ntmps43 J J ?_
 repeat' (first | refine ai ?_ | refine aa ?_ | refine ab ?_ | refine ax ?_ | refine az ?_ | refine ar ?_ | refine ag ?_ | ((refine' ap rfl ?_ J J ?_); rotate_left; first | exact ak af J J J J | exact aq af J J J J J J | exact bN J J J J J | exact av af J J trivial J J J | exact av af J J ⟨J, J, trivial⟩ J J J) | (refine aD af J J J J J J ?_; intro g) | refine aj af 0 J J J J J J J J J J J J ?_ | refine df rfl (fun h => ?_) (fun h => ?_))
 all_goals
  (refine ay af (fun _ => 0) J J ⟨J, trivial⟩ rfl fun w hm => ⟨?_, hm.below⟩)
  unfold ji
  split <;> simp_all <;> omega
set_option maxRecDepth 100000 in
set_option maxHeartbeats 4000000 in
theorem wU (id sd sh n : Int) (w : World) : Calls Tryz.prog 45 #[.int .i64 id, .int .i64 sd, .int .i64 sh, .int .i64 n] w fun e w' => e = .returned (.tuple #[.agg (lV (dq id sd sh n).st), .int .i64 (dq id sd sh n).err]) ∧ Below w.heap.size w w' := by
 refine aI Tryz.func45 rfl Tryz.ntmps45 J J ?_
 repeat' (first | refine ai ?_ | refine aa ?_ | refine ab ?_ | refine ax ?_ | refine az ?_ | refine ar ?_ | refine ag ?_ | ((refine' ap rfl ?_ J J ?_); rotate_left; first | exact ak af J J J J | exact aq af J J J J J J | exact bN J J J J J | exact bY J J J J J | exact ae af 0 J J J J J | exact av af J J trivial J J J | exact av af J J ⟨J, J, J, J, J, trivial⟩ J J J) | refine aH rfl (au J J J J ⟨J, trivial⟩ rfl (by kernel_rfl)) (fun w hm => q9 _ w) J J ?_ | (refine aD af J J J J J J ?_; intro g) | refine aj af 0 J J J J J J J J J J J J ?_ | refine aj af 1 J J J J J J J J J J J J ?_ | refine df rfl (fun h => ?_) (fun h => ?_))
 all_goals
  (refine ay af (fun _ => 1) J J ⟨J, trivial⟩ rfl fun w hm => ⟨?_, hm.below⟩)
  refine sT _ _ _ _ _ _ _ _ _ _ _ _ _ _ _ _ _ ?_
  clear hm
  unfold dq wu qk ji at *
  grind
end Go.Proofs.YthiocbcokfondaaGreatDoor.Y
