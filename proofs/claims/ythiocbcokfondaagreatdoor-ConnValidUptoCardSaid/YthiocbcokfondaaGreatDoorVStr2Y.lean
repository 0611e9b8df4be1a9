/- Streams: package stream and its reference, walked. -/
import Derived.Test.YthiocbcokfondaaGreatDoorVBunT
import Derived.Test.YthiocbcokfondaaGreatDoorVBunD
import Derived.Test.YthiocbcokfondaaGreatDoorVFlow
import Derived.Test.YthiocbcokfondaaGreatDoorVBunR
namespace Go.Proofs.YthiocbcokfondaaGreatDoor.Y
open Go.RowKit
theorem lY (s : ByteArray) : (s.toList == (⟨#[]⟩ : ByteArray).toList) = decide (s.size = 0) := by
  rw [ByteArray.toList_eq, ByteArray.toList_eq, Bool.eq_iff_iff, beq_iff_eq, decide_eq_true_eq]
  obtain ⟨⟨l⟩⟩ := s
  show l = [] ↔ l.length = 0
  cases l <;> simp
set_option maxRecDepth 100000 in
set_option maxHeartbeats 4000000 in
theorem sM (id sd sh st gt : Int) (se ge dn : Bool) (c : Int) (tx : ByteArray) (wa wb wc ra rb rc : Int) (w : World) : Calls Tryz.prog 133 #[.agg #[.int .i64 id, .int .i64 sd, .int .i64 sh, .int .i64 st, .int .i64 gt, .bool se, .bool ge, .bool dn, .int .i64 c, .string tx, .int .i64 wa, .int .i64 wb, .int .i64 wc, .int .i64 ra, .int .i64 rb, .int .i64 rc]] w fun e w' => e = .returned (.agg #[.int .i64 id, .int .i64 sd, .int .i64 sh, .int .i64 st, .int .i64 gt, .bool se, .bool ge, .bool dn, .int .i64 c, .string tx, .int .i64 wa, .int .i64 wb, .int .i64 wc, .int .i64 ra, .int .i64 rb, .int .i64 rc, .int .i64 (c1 sh), .int .i64 (jV (c2 sh)), .int .i64 (c3 sh), .int .i64 (jV (c4 sh))]) ∧ Below w.heap.size w w' := by
  refine aI Tryz.func133 rfl Tryz.ntmps133 J J ?_
  repeat' (first | refine ah ?_ | refine aa ?_ | refine ab ?_ | refine az ?_ | refine ar ?_ | refine ae ?_ | ((refine' am rfl ?_ J J ?_); rotate_left; first | exact ai af J J J J | exact ap af J J J J J J | exact ag af 0 J J J J J | exact ag af 1 J J J J J | exact ag af 2 J J J J J | exact aT af J J ⟨J, trivial⟩ J J J) | refine aH rfl (av J J J J ⟨J, trivial⟩ rfl (by kernel_rfl)) (fun w hm => iG (counts _ w)) J J ?_ | (refine aW J J J J J J ?_; intro g) | (refine aN af J J J J J J ?_; intro g) | refine aq af 0 J J J J J J J J J J J J ?_ | refine aq af 1 J J J J J J J J J J J J ?_ | refine bI rfl (fun h => ?_) (fun h => ?_))
  all_goals
    (refine ay af (fun _ => 1) J J ⟨J, trivial⟩ rfl fun w hm => ⟨?_, hm.below⟩)
    simp only [decide_eq_true_eq, decide_eq_false_iff_not] at *
    simp [jV, *]
set_option maxRecDepth 100000 in
set_option maxHeartbeats 4000000 in
theorem dW (id sd sh st gt : Int) (se ge dn : Bool) (c : Int) (tx : ByteArray) (wa wb wc ra rb rc : Int) (e1 e2 e3 e4 : Int) (w : World) : Calls Tryz.prog 165 #[.agg #[.int .i64 id, .int .i64 sd, .int .i64 sh, .int .i64 st, .int .i64 gt, .bool se, .bool ge, .bool dn, .int .i64 c, .string tx, .int .i64 wa, .int .i64 wb, .int .i64 wc, .int .i64 ra, .int .i64 rb, .int .i64 rc, .int .i64 e1, .int .i64 e2, .int .i64 e3, .int .i64 e4]] w fun e w' => e = .returned (.bool (sd == 1)) ∧ Below w.heap.size w w' := by
  refine aI Tryz.func165 rfl Tryz.ntmps165 J J ?_
  repeat' (first | refine ah ?_ | refine aa ?_ | refine ab ?_ | refine az ?_ | refine ae ?_ | ((refine' am rfl ?_ J J ?_); rotate_left; first | exact ai af J J J J | exact ap af J J J J J J | exact ag af 0 J J J J J) | (refine aW J J J J J J ?_; intro g))
  all_goals
    refine ay af (fun _ => 0) J J trivial rfl fun w hm => ⟨?_, hm.below⟩
    rfl
set_option maxRecDepth 100000 in
set_option maxHeartbeats 4000000 in
theorem iU (id sd sh st gt : Int) (se ge dn : Bool) (c : Int) (tx : ByteArray) (wa wb wc ra rb rc : Int) (e1 e2 e3 e4 : Int) (w : World) : Calls Tryz.prog 135 #[.agg #[.int .i64 id, .int .i64 sd, .int .i64 sh, .int .i64 st, .int .i64 gt, .bool se, .bool ge, .bool dn, .int .i64 c, .string tx, .int .i64 wa, .int .i64 wb, .int .i64 wc, .int .i64 ra, .int .i64 rb, .int .i64 rc, .int .i64 e1, .int .i64 e2, .int .i64 e3, .int .i64 e4]] w fun e w' => e = .returned (.int .i64 (jW (⟨id, sd, sh, st, gt, se, ge, dn, c, tx, ⟨wa, wb, wc⟩, ⟨ra, rb, rc⟩⟩ : cP))) ∧ Below w.heap.size w w' := by
  refine aI Tryz.func135 rfl Tryz.ntmps135 J J ?_
  repeat' (first | refine ah ?_ | refine aa ?_ | refine ab ?_ | refine az ?_ | refine ar ?_ | refine ak ?_ | refine ae ?_ | ((refine' am rfl ?_ J J ?_); rotate_left; first | exact ai af J J J J | exact ag af 0 J J J J J) | refine aH rfl (av J J J J ⟨J, trivial⟩ rfl (by kernel_rfl)) (fun w hm => dW _ _ _ _ _ _ _ _ _ _ _ _ _ _ _ _ _ _ _ _ w) J J ?_ | (refine aW J J J J J J ?_; intro g) | refine bI rfl (fun h => ?_) (fun h => ?_))
  all_goals
    refine ay af (fun _ => 0) J J trivial rfl fun w hm => ⟨?_, hm.below⟩
    simp_all [jW]
set_option maxRecDepth 100000 in
set_option maxHeartbeats 4000000 in
theorem gZ (id sd sh st gt : Int) (se ge dn : Bool) (c : Int) (tx : ByteArray) (wa wb wc ra rb rc : Int) (e1 e2 e3 e4 : Int) (w : World) : Calls Tryz.prog 136 #[.agg #[.int .i64 id, .int .i64 sd, .int .i64 sh, .int .i64 st, .int .i64 gt, .bool se, .bool ge, .bool dn, .int .i64 c, .string tx, .int .i64 wa, .int .i64 wb, .int .i64 wc, .int .i64 ra, .int .i64 rb, .int .i64 rc, .int .i64 e1, .int .i64 e2, .int .i64 e3, .int .i64 e4]] w fun e w' => e = .returned (.int .i64 (kx (⟨id, sd, sh, st, gt, se, ge, dn, c, tx, ⟨wa, wb, wc⟩, ⟨ra, rb, rc⟩⟩ : cP))) ∧ Below w.heap.size w w' := by
  refine aI Tryz.func136 rfl Tryz.ntmps136 J J ?_
  repeat' (first | refine ah ?_ | refine aa ?_ | refine ab ?_ | refine az ?_ | refine ar ?_ | refine ak ?_ | refine ae ?_ | ((refine' am rfl ?_ J J ?_); rotate_left; first | exact ai af J J J J | exact ag af 0 J J J J J) | refine aH rfl (av J J J J ⟨J, trivial⟩ rfl (by kernel_rfl)) (fun w hm => dW _ _ _ _ _ _ _ _ _ _ _ _ _ _ _ _ _ _ _ _ w) J J ?_ | (refine aW J J J J J J ?_; intro g) | refine bI rfl (fun h => ?_) (fun h => ?_))
  all_goals
    refine ay af (fun _ => 0) J J trivial rfl fun w hm => ⟨?_, hm.below⟩
    simp_all [kx]
set_option maxRecDepth 100000 in
set_option maxHeartbeats 4000000 in
theorem lZ (id sd sh st gt : Int) (se ge dn : Bool) (c : Int) (tx : ByteArray) (wa wb wc ra rb rc : Int) (e1 e2 e3 e4 : Int) (w : World) : Calls Tryz.prog 138 #[.agg #[.int .i64 id, .int .i64 sd, .int .i64 sh, .int .i64 st, .int .i64 gt, .bool se, .bool ge, .bool dn, .int .i64 c, .string tx, .int .i64 wa, .int .i64 wb, .int .i64 wc, .int .i64 ra, .int .i64 rb, .int .i64 rc, .int .i64 e1, .int .i64 e2, .int .i64 e3, .int .i64 e4]] w fun e w' => e = .returned (.bool (lr (⟨id, sd, sh, st, gt, se, ge, dn, c, tx, ⟨wa, wb, wc⟩, ⟨ra, rb, rc⟩⟩ : cP))) ∧ Below w.heap.size w w' := by
  refine aI Tryz.func138 rfl Tryz.ntmps138 J J ?_
  repeat' (first | refine ah ?_ | refine aa ?_ | refine ab ?_ | refine az ?_ | refine ar ?_ | refine ak ?_ | refine ae ?_ | ((refine' am rfl ?_ J J ?_); rotate_left; first | exact ai af J J J J | exact ag af 0 J J J J J) | refine aH rfl (av J J J J ⟨J, trivial⟩ rfl (by kernel_rfl)) (fun w hm => dW _ _ _ _ _ _ _ _ _ _ _ _ _ _ _ _ _ _ _ _ w) J J ?_ | (refine aW J J J J J J ?_; intro g) | refine bI rfl (fun h => ?_) (fun h => ?_))
  all_goals
    refine ay af (fun _ => 0) J J trivial rfl fun w hm => ⟨?_, hm.below⟩
    simp_all [lr]
set_option maxRecDepth 100000 in
set_option maxHeartbeats 4000000 in
theorem mK (id sd sh st gt : Int) (se ge dn : Bool) (c : Int) (tx : ByteArray) (wa wb wc ra rb rc : Int) (e1 e2 e3 e4 : Int) (w : World) : Calls Tryz.prog 137 #[.agg #[.int .i64 id, .int .i64 sd, .int .i64 sh, .int .i64 st, .int .i64 gt, .bool se, .bool ge, .bool dn, .int .i64 c, .string tx, .int .i64 wa, .int .i64 wb, .int .i64 wc, .int .i64 ra, .int .i64 rb, .int .i64 rc, .int .i64 e1, .int .i64 e2, .int .i64 e3, .int .i64 e4]] w fun e w' => e = .returned (.bool (qB (⟨id, sd, sh, st, gt, se, ge, dn, c, tx, ⟨wa, wb, wc⟩, ⟨ra, rb, rc⟩⟩ : cP))) ∧ Below w.heap.size w w' := by
  refine aI Tryz.func137 rfl Tryz.ntmps137 J J ?_
  repeat' (first | refine ah ?_ | refine aa ?_ | refine ab ?_ | refine az ?_ | refine ar ?_ | refine ak ?_ | refine ae ?_ | ((refine' am rfl ?_ J J ?_); rotate_left; first | exact ai af J J J J | exact ag af 0 J J J J J) | refine aH rfl (av J J J J ⟨J, trivial⟩ rfl (by kernel_rfl)) (fun w hm => dW _ _ _ _ _ _ _ _ _ _ _ _ _ _ _ _ _ _ _ _ w) J J ?_ | (refine aW J J J J J J ?_; intro g) | refine bI rfl (fun h => ?_) (fun h => ?_))
  all_goals
    refine ay af (fun _ => 0) J J trivial rfl fun w hm => ⟨?_, hm.below⟩
    simp_all [qB]
set_option maxRecDepth 100000 in
set_option maxHeartbeats 4000000 in
theorem sN (id sd sh st gt : Int) (se ge dn : Bool) (c : Int) (tx : ByteArray) (wa wb wc ra rb rc : Int) (e1 e2 e3 e4 : Int) (b : Bool) (w : World) : Calls Tryz.prog 164 #[.agg #[.int .i64 id, .int .i64 sd, .int .i64 sh, .int .i64 st, .int .i64 gt, .bool se, .bool ge, .bool dn, .int .i64 c, .string tx, .int .i64 wa, .int .i64 wb, .int .i64 wc, .int .i64 ra, .int .i64 rb, .int .i64 rc, .int .i64 e1, .int .i64 e2, .int .i64 e3, .int .i64 e4], .bool b] w fun e w' => e = .returned (.int .i64 (if b = true then e2 else e4)) ∧ Below w.heap.size w w' := by
  refine aI Tryz.func164 rfl Tryz.ntmps164 J J ?_
  repeat' (first | refine ah ?_ | refine aa ?_ | refine ab ?_ | refine az ?_ | refine ar ?_ | refine ak ?_ | refine ae ?_ | ((refine' am rfl ?_ J J ?_); rotate_left; first | exact ai af J J J J | exact ag af 0 J J J J J) | (refine aW J J J J J J ?_; intro g) | refine bI rfl (fun h => ?_) (fun h => ?_))
  all_goals
    refine ay af (fun _ => 0) J J trivial rfl fun w hm => ⟨?_, hm.below⟩
    simp_all
set_option maxRecDepth 100000 in
set_option maxHeartbeats 4000000 in
theorem oX (n m : Int) (w : World) : Calls Tryz.prog 134 #[.int .i64 n, .int .i64 m] w fun e w' => e = .returned (.bool (decide (0 ≤ n ∧ n ≤ m))) ∧ Below w.heap.size w w' := by
  refine aI Tryz.func134 rfl Tryz.ntmps134 J J ?_
  repeat' (first | refine ah ?_ | refine aa ?_ | refine ab ?_ | refine az ?_ | refine ae ?_ | ((refine' am rfl ?_ J J ?_); rotate_left; first | exact ai af J J J J | exact ap af J J J J J J | exact bJ J J J J J))
  all_goals
    refine ay af (fun _ => 0) J J trivial rfl fun w hm => ⟨?_, hm.below⟩
    congr 2
    rw [Bool.eq_iff_iff]
    simp
set_option maxRecDepth 100000 in
set_option maxHeartbeats 4000000 in
theorem gz (d : ByteArray) (w : World) : Calls Tryz.prog 25 #[.string d] w fun e w' => e = .returned (.int .i64 (bE d)) ∧ Below w.heap.size w w' := by
  refine aI Tryz.func25 rfl Tryz.ntmps25 J J ?_
  repeat' (first | refine ah ?_ | refine aa ?_ | refine ab ?_ | refine az ?_ | refine ae ?_ | ((refine' am rfl ?_ J J ?_); rotate_left; first | exact ai af J J J J | exact aV af J J J J J J J | exact ka J J J J J))
  all_goals
    refine ay af (fun _ => 0) J J trivial rfl fun w hm => ⟨?_, hm.below⟩
    congr 2
    unfold bE
    split <;> split <;> omega
set_option maxRecDepth 100000 in
set_option maxHeartbeats 4000000 in
theorem l3 (id sd sh st gt : Int) (se ge dn : Bool) (c : Int) (tx : ByteArray) (wa wb wc ra rb rc : Int) (w : World) (htx : tx.size ≤ 4611686018427387900) : Calls Tryz.prog 71 #[.agg #[.int .i64 id, .int .i64 sd, .int .i64 sh, .int .i64 st, .int .i64 gt, .bool se, .bool ge, .bool dn, .int .i64 c, .string tx, .int .i64 wa, .int .i64 wb, .int .i64 wc, .int .i64 ra, .int .i64 rb, .int .i64 rc]] w fun e w' => e = .returned (.bool (cn (⟨id, sd, sh, st, gt, se, ge, dn, c, tx, ⟨wa, wb, wc⟩, ⟨ra, rb, rc⟩⟩ : cP))) ∧ Below w.heap.size w w' := by
  refine aI Tryz.func71 rfl Tryz.ntmps71 J J ?_
  repeat' (first | refine ah ?_ | refine aa ?_ | refine ab ?_ | refine az ?_ | refine ar ?_ | refine ak ?_ | refine aX aQ rfl (by kernel_rfl) ?_ | refine ae ?_ | refine bG ?_ | ((first | refine' am rfl ?_ J J ?_ | refine' dD rfl ?_ J J J ?_); rotate_left; first | exact ai af J J J J | exact ap af J J J J J J | exact bH J J J J J | exact bJ J J J J J | exact ag af 0 J J J J J | exact ag af 1 J J J J J | exact jb af jg J J J J J J (by kernel_rfl) | exact aT af J J trivial J J J) | refine aH rfl (av J J J J ⟨J, trivial⟩ rfl (by kernel_rfl)) (fun w hm => sM _ _ _ _ _ _ _ _ _ _ _ _ _ _ _ _ w) J J ?_ | refine bk rfl (av J J J J ⟨J, trivial⟩ rfl (by kernel_rfl)) rfl (fun w hm => iU _ _ _ _ _ _ _ _ _ _ _ _ _ _ _ _ _ _ _ _ w) J J ?_ | refine bk rfl (av J J J J ⟨J, trivial⟩ rfl (by kernel_rfl)) rfl (fun w hm => gZ _ _ _ _ _ _ _ _ _ _ _ _ _ _ _ _ _ _ _ _ w) J J ?_ | refine bk rfl (av J J J J ⟨J, trivial⟩ rfl (by kernel_rfl)) rfl (fun w hm => lZ _ _ _ _ _ _ _ _ _ _ _ _ _ _ _ _ _ _ _ _ w) J J ?_ | refine bk rfl (av J J J J ⟨J, trivial⟩ rfl (by kernel_rfl)) rfl (fun w hm => mK _ _ _ _ _ _ _ _ _ _ _ _ _ _ _ _ _ _ _ _ w) J J ?_ | refine bk rfl (av J J J J ⟨J, J, trivial⟩ rfl (by kernel_rfl)) rfl (fun w hm => oX _ _ w) J J ?_ | refine bk rfl (av J J J J ⟨J, trivial⟩ rfl (by kernel_rfl)) rfl (fun w hm => iv ⟨_, _, _⟩ w) J J ?_ | refine aH rfl (av J J J J ⟨J, trivial⟩ rfl (by kernel_rfl)) (fun w hm => jp _ _ w htx) J J ?_ | (refine aW J J J J J J ?_; intro g) | (refine aN af J J J J J J ?_; intro g) | refine aq af 0 J J J J J J J J J J J J ?_ | refine bI rfl (fun h => ?_) (fun h => ?_))
  all_goals
    refine ay af (fun _ => 0) J J trivial rfl fun w hm => ⟨?_, hm.below⟩
    refine congrArg (fun b => Ending.returned (Value.bool b)) ?_
    clear htx hm
    unfold cn mz mA si lq
    try rw [lY]
    grind
def oY (s : cP) (e1 e3 : Int) (d : ByteArray) : Int := if (bl d).err ≠ 0 then 1 else if (bl d).code ≠ 0 then 0 else if (decide (jW s < e1) || decide (kx s < e3) || ((s.shape == 1 || s.shape == 3) && !lr s)) = true then 11 else 0
def oZ (f : cO) : Int := if f.kind = 5 then f.num else (bl f.data).code
def o7 (f : cO) : ByteArray := if f.kind = 5 then ⟨#[]⟩ else (bl f.data).text
theorem kO {a b : Int} (h : a = b) : Ending.returned (.int .i64 a) = Ending.returned (.int .i64 b) := by rw [h]
theorem l4 {a b : Bool} (h : a = b) : Ending.returned (.bool a) = Ending.returned (.bool b) := by rw [h]
abbrev jw (s : cP) : Array Value := #[.int .i64 s.id, .int .i64 s.side, .int .i64 s.shape, .int .i64 s.sent, .int .i64 s.got, .bool s.se, .bool s.ge, .bool s.done, .int .i64 s.code, .string s.text, .int .i64 s.snd.size, .int .i64 s.snd.left, .int .i64 s.snd.held, .int .i64 s.rcv.size, .int .i64 s.rcv.left, .int .i64 s.rcv.held]
theorem o8 (id sd sh st gt : Int) (se ge dn : Bool) (c : Int) (tx : ByteArray) (wa wb wc ra rb rc : Int) (e : Int) {r : sk} (h : r = ⟨(⟨id, sd, sh, st, gt, se, ge, dn, c, tx, ⟨wa, wb, wc⟩, ⟨ra, rb, rc⟩⟩ : cP), e⟩) : Ending.returned (.tuple #[.agg #[.int .i64 id, .int .i64 sd, .int .i64 sh, .int .i64 st, .int .i64 gt, .bool se, .bool ge, .bool dn, .int .i64 c, .string tx, .int .i64 wa, .int .i64 wb, .int .i64 wc, .int .i64 ra, .int .i64 rb, .int .i64 rc], .int .i64 e]) = Ending.returned (.tuple #[.agg (jw r.st), .int .i64 r.err]) := by rw [h]
theorem u3 (s : Int) : jV (c2 s) ≤ 4611686018427387904 ∧ jV (c4 s) ≤ 4611686018427387904 := by
  unfold jV c2 c4
  constructor <;> (repeat' split) <;> omega
theorem kP {s : cP} (h : cn s = true) : 0 ≤ s.sent ∧ 0 ≤ s.got ∧ s.sent ≤ 4611686018427387904 ∧ s.got ≤ 4611686018427387904 := by
  have ht := u3 s.shape
  unfold cn mA jW kx at h
  simp only [Bool.and_eq_true, decide_eq_true_eq] at h
  have := h.1.2.2
  split at this <;> omega
theorem l5 {f : cO} (h : bC f = 0) (hk : f.kind = 4) : (bl f.data).err = 0 := by
  unfold bC at h
  split at h
  · cases h
  split at h
  · cases h
  split at h
  · omega
  · first | exact h | (rw [if_pos hk] at h; exact h)
theorem jY {n : Int} (h : 0 ≤ n ∧ n ≤ 4611686018427387904) : IntKind.i64.wrap (n + 1) = n + 1 := IntWalk.i64_in _ (by omega)
theorem wE (id sd sh st gt : Int) (se ge dn : Bool) (c : Int) (tx : ByteArray) (wa wb wc ra rb rc : Int) {r : cP} (h : r = (⟨id, sd, sh, st, gt, se, ge, dn, c, tx, ⟨wa, wb, wc⟩, ⟨ra, rb, rc⟩⟩ : cP)) : Ending.returned (.agg #[.int .i64 id, .int .i64 sd, .int .i64 sh, .int .i64 st, .int .i64 gt, .bool se, .bool ge, .bool dn, .int .i64 c, .string tx, .int .i64 wa, .int .i64 wb, .int .i64 wc, .int .i64 ra, .int .i64 rb, .int .i64 rc]) = Ending.returned (.agg (jw r)) := by rw [h]
set_option maxRecDepth 100000 in
set_option maxHeartbeats 4000000 in
theorem qO (id sd sh st gt : Int) (se ge dn : Bool) (c : Int) (tx : ByteArray) (wa wb wc ra rb rc : Int) (e1 e2 e3 e4 : Int) (fk fs fn : Int) (fd : ByteArray) (w : World) (hfd : fd.size < 4294967281) : Calls Tryz.prog 167 #[.agg #[.int .i64 id, .int .i64 sd, .int .i64 sh, .int .i64 st, .int .i64 gt, .bool se, .bool ge, .bool dn, .int .i64 c, .string tx, .int .i64 wa, .int .i64 wb, .int .i64 wc, .int .i64 ra, .int .i64 rb, .int .i64 rc, .int .i64 e1, .int .i64 e2, .int .i64 e3, .int .i64 e4], .agg #[.int .i64 fk, .int .i64 fs, .int .i64 fn, .string fd]] w fun e w' => e = .returned (.int .i64 (oY (⟨id, sd, sh, st, gt, se, ge, dn, c, tx, ⟨wa, wb, wc⟩, ⟨ra, rb, rc⟩⟩ : cP) e1 e3 fd)) ∧ Below w.heap.size w w' := by
  refine aI Tryz.func167 rfl Tryz.ntmps167 J J ?_
  repeat' (first | refine ah ?_ | refine aa ?_ | refine ab ?_ | refine az ?_ | refine ar ?_ | refine ak ?_ | refine aX aQ rfl (by kernel_rfl) ?_ | refine ae ?_ | refine bG ?_ | ((first | refine' am rfl ?_ J J ?_ | refine' dD rfl ?_ J J J ?_); rotate_left; first | exact ai af J J J J | exact ap af J J J J J J | exact bH J J J J J | exact bJ J J J J J | exact ag af 0 J J J J J | exact ag af 2 J J J J J) | refine aH rfl (av J J J J ⟨J, trivial⟩ rfl (by kernel_rfl)) (fun w hm => iw _ w (by omega)) J J ?_ | refine bk rfl (av J J J J ⟨J, trivial⟩ rfl (by kernel_rfl)) rfl (fun w hm => iU _ _ _ _ _ _ _ _ _ _ _ _ _ _ _ _ _ _ _ _ w) J J ?_ | refine bk rfl (av J J J J ⟨J, trivial⟩ rfl (by kernel_rfl)) rfl (fun w hm => gZ _ _ _ _ _ _ _ _ _ _ _ _ _ _ _ _ _ _ _ _ w) J J ?_ | refine bk rfl (av J J J J ⟨J, trivial⟩ rfl (by kernel_rfl)) rfl (fun w hm => lZ _ _ _ _ _ _ _ _ _ _ _ _ _ _ _ _ _ _ _ _ w) J J ?_ | (refine aW J J J J J J ?_; intro g) | (refine aN af J J J J J J ?_; intro g) | refine aq af 0 J J J J J J J J J J J J ?_ | refine bI rfl (fun h => ?_) (fun h => ?_))
  all_goals
    refine ay af (fun _ => 0) J J trivial rfl fun w hm => ⟨?_, hm.below⟩
    refine kO ?_
    clear hfd hm
    unfold oY
    grind
set_option maxRecDepth 100000 in
set_option maxHeartbeats 4000000 in
theorem sO (id sd sh st gt : Int) (se ge dn : Bool) (c : Int) (tx : ByteArray) (wa wb wc ra rb rc : Int) (tc : Int) (tt : ByteArray) (w : World) : Calls Tryz.prog 178 #[.agg #[.int .i64 id, .int .i64 sd, .int .i64 sh, .int .i64 st, .int .i64 gt, .bool se, .bool ge, .bool dn, .int .i64 c, .string tx, .int .i64 wa, .int .i64 wb, .int .i64 wc, .int .i64 ra, .int .i64 rb, .int .i64 rc], .agg #[.int .i64 tc, .string tt]] w fun e w' => e = .returned (.agg #[.int .i64 id, .int .i64 sd, .int .i64 sh, .int .i64 st, .int .i64 gt, .bool true, .bool true, .bool true, .int .i64 tc, .string tt, .int .i64 wa, .int .i64 wb, .int .i64 wc, .int .i64 ra, .int .i64 rb, .int .i64 rc]) ∧ Below w.heap.size w w' := by
  refine aI Tryz.func178 rfl Tryz.ntmps178 J J ?_
  repeat' (first | refine ah ?_ | refine aa ?_ | refine ab ?_ | refine az ?_ | refine ae ?_ | ((refine' am rfl ?_ J J ?_); rotate_left; first | exact ai af J J J J | exact ag af 1 J J J J J | exact ag af 2 J J J J J) | (refine aW J J J J J J ?_; intro g) | (refine aN af J J J J J J ?_; intro g) | refine aq af 0 J J J J J J J J J J J J ?_ | refine aq af 2 J J J J J J J J J J J J ?_)
  all_goals
    (refine ay af (fun _ => 0) J J ⟨J, trivial⟩ rfl fun w hm => ⟨?_, hm.below⟩)
    rfl
set_option maxRecDepth 100000 in
set_option maxHeartbeats 4000000 in
theorem nK (id sd sh st gt : Int) (se ge dn : Bool) (c : Int) (tx : ByteArray) (wa wb wc ra rb rc : Int) (fk fs fn : Int) (fd : ByteArray) (w : World) (hfd : fd.size < 4294967281) : Calls Tryz.prog 168 #[.agg #[.int .i64 id, .int .i64 sd, .int .i64 sh, .int .i64 st, .int .i64 gt, .bool se, .bool ge, .bool dn, .int .i64 c, .string tx, .int .i64 wa, .int .i64 wb, .int .i64 wc, .int .i64 ra, .int .i64 rb, .int .i64 rc], .agg #[.int .i64 fk, .int .i64 fs, .int .i64 fn, .string fd]] w fun e w' => e = .returned (.agg #[.int .i64 id, .int .i64 sd, .int .i64 sh, .int .i64 st, .int .i64 gt, .bool true, .bool true, .bool true, .int .i64 (oZ (⟨fk, fs, fn, fd⟩ : cO)), .string (o7 (⟨fk, fs, fn, fd⟩ : cO)), .int .i64 wa, .int .i64 wb, .int .i64 wc, .int .i64 ra, .int .i64 rb, .int .i64 rc]) ∧ Below w.heap.size w w' := by
  refine aI Tryz.func168 rfl Tryz.ntmps168 J J ?_
  repeat' (first | refine ah ?_ | refine aa ?_ | refine ab ?_ | refine az ?_ | refine ar ?_ | refine ak ?_ | refine ae ?_ | ((refine' am rfl ?_ J J ?_); rotate_left; first | exact ai af J J J J | exact ap af J J J J J J | exact ag af 0 J J J J J | exact ag af 1 J J J J J | exact ag af 2 J J J J J | exact ag af 3 J J J J J | exact aT af J J ⟨J, trivial⟩ J J J) | refine aH rfl (av J J J J ⟨J, trivial⟩ rfl (by kernel_rfl)) (fun w hm => iw _ w (by omega)) J J ?_ | refine aH rfl (av J J J J ⟨J, J, trivial⟩ rfl (by kernel_rfl)) (fun w hm => sO _ _ _ _ _ _ _ _ _ _ _ _ _ _ _ _ _ _ w) J J ?_ | (refine aW J J J J J J ?_; intro g) | (refine aN af J J J J J J ?_; intro g) | refine aq af 0 J J J J J J J J J J J J ?_ | refine aq af 1 J J J J J J J J J J J J ?_ | refine bI rfl (fun h => ?_) (fun h => ?_))
  all_goals
    (first | refine ay af (fun _ => 0) J J ⟨J, trivial⟩ rfl fun w hm => ⟨?_, hm.below⟩ | refine ay af (fun _ => 1) J J ⟨J, trivial⟩ rfl fun w hm => ⟨?_, hm.below⟩)
    unfold oZ o7
    simp_all
set_option maxRecDepth 100000 in
set_option maxHeartbeats 4000000 in
theorem sP (id sd sh st gt : Int) (se ge dn : Bool) (c : Int) (tx : ByteArray) (wa wb wc ra rb rc : Int) (fk fs fn : Int) (fd : ByteArray) (w : World) (htx : tx.size ≤ 4611686018427387900) (hfd : fd.size < 4294967281) (hl : MLen w) : Calls Tryz.prog 107 #[.agg #[.int .i64 id, .int .i64 sd, .int .i64 sh, .int .i64 st, .int .i64 gt, .bool se, .bool ge, .bool dn, .int .i64 c, .string tx, .int .i64 wa, .int .i64 wb, .int .i64 wc, .int .i64 ra, .int .i64 rb, .int .i64 rc], .agg #[.int .i64 fk, .int .i64 fs, .int .i64 fn, .string fd]] w fun e w' => e = .returned (.tuple #[.agg (jw (cD (⟨id, sd, sh, st, gt, se, ge, dn, c, tx, ⟨wa, wb, wc⟩, ⟨ra, rb, rc⟩⟩ : cP) (⟨fk, fs, fn, fd⟩ : cO)).st), .int .i64 (cD (⟨id, sd, sh, st, gt, se, ge, dn, c, tx, ⟨wa, wb, wc⟩, ⟨ra, rb, rc⟩⟩ : cP) (⟨fk, fs, fn, fd⟩ : cO)).err]) ∧ Below w.heap.size w w' := by
  refine aI Tryz.func107 rfl Tryz.ntmps107 J J ?_
  repeat' (first | refine ah ?_ | refine aa ?_ | refine ab ?_ | refine az ?_ | refine ar ?_ | refine aK ?_ | refine ak ?_ | refine aE ?_ | refine a7 ?_ | refine aX aQ rfl (by kernel_rfl) ?_ | refine ae ?_ | refine bG ?_ | (refine fK ?_; intro g) | ((first | refine' am rfl ?_ J J ?_ | refine' dD rfl ?_ J J J ?_); rotate_left; first | exact ai af J J J J | exact ap af J J J J J J | exact bH J J J J J | exact ag af 0 J J J J J | exact ag af 1 J J J J J | exact ag af 2 J J J J J | exact ag af 3 J J J J J | exact ag af 4 J J J J J) | refine aH rfl (av J J J J ⟨J, trivial⟩ rfl (by kernel_rfl)) (fun w hm => l3 _ _ _ _ _ _ _ _ _ _ _ _ _ _ _ _ w (by omega)) J J ?_ | refine aH rfl (av J J J J ⟨J, trivial⟩ rfl (by kernel_rfl)) (fun w hm => kN ⟨_, _, _, _⟩ w (hl.below hm.below) (by assumption)) J J ?_ | refine aH rfl (av J J J J ⟨J, trivial⟩ rfl (by kernel_rfl)) (fun w hm => sM _ _ _ _ _ _ _ _ _ _ _ _ _ _ _ _ w) J J ?_ | refine aH rfl (av J J J J ⟨J, trivial⟩ rfl (by kernel_rfl)) (fun w hm => dW _ _ _ _ _ _ _ _ _ _ _ _ _ _ _ _ _ _ _ _ w) J J ?_ | refine bk rfl (av J J J J ⟨J, trivial⟩ rfl (by kernel_rfl)) rfl (fun w hm => dW _ _ _ _ _ _ _ _ _ _ _ _ _ _ _ _ _ _ _ _ w) J J ?_ | refine bk rfl (av J J J J ⟨J, J, trivial⟩ rfl (by kernel_rfl)) rfl (fun w hm => sN _ _ _ _ _ _ _ _ _ _ _ _ _ _ _ _ _ _ _ _ _ w) J J ?_ | refine bk rfl (av J J J J ⟨J, trivial⟩ rfl (by kernel_rfl)) rfl (fun w hm => gz _ w) J J ?_ | refine bk rfl (av J J J J ⟨J, J, trivial⟩ rfl (by kernel_rfl)) rfl (fun w hm => kJ ⟨_, _, _⟩ _ w) J J ?_ | refine aH rfl (av J J J J ⟨J, J, trivial⟩ rfl (by kernel_rfl)) (fun w hm => qO _ _ _ _ _ _ _ _ _ _ _ _ _ _ _ _ _ _ _ _ _ _ _ _ w (by assumption)) J J ?_ | refine aH rfl (av J J J J ⟨J, J, trivial⟩ rfl (by kernel_rfl)) (fun w hm => nK _ _ _ _ _ _ _ _ _ _ _ _ _ _ _ _ _ _ _ _ w (by assumption)) J J ?_ | (refine aW J J J J J J ?_; intro g) | (refine aN af J J J J J J ?_; intro g) | refine eN af J J J J J J ?_ | refine aq af 0 J J J J J J J J J J J J ?_ | refine aq af 1 J J J J J J J J J J J J ?_ | refine aq af 2 J J J J J J J J J J J J ?_ | refine aq af 3 J J J J J J J J J J J J ?_ | refine aq af 4 J J J J J J J J J J J J ?_ | refine bI rfl (fun h => ?_) (fun h => ?_))
  all_goals
    (first | refine ay af (fun _ => 0) J J ⟨J, trivial⟩ rfl fun w hm => ⟨?_, hm.below⟩ | refine ay af (fun _ => 1) J J ⟨J, trivial⟩ rfl fun w hm => ⟨?_, hm.below⟩ | refine ay af (fun _ => 2) J J ⟨J, trivial⟩ rfl fun w hm => ⟨?_, hm.below⟩)
  all_goals
    refine o8 _ _ _ _ _ _ _ _ _ _ _ _ _ _ _ _ _ ?_
    clear htx hfd hm hl
    have hv := fun h => kP (s := (⟨id, sd, sh, st, gt, se, ge, dn, c, tx, ⟨wa, wb, wc⟩, ⟨ra, rb, rc⟩⟩ : cP)) h
    have hw1 := fun h => jY (n := st) h
    have hw2 := fun h => jY (n := gt) h
    have hfu := fun h => l5 (f := (⟨fk, fs, fn, fd⟩ : cO)) h
    unfold cD nv fO gW ek
    try unfold oZ o7
    try unfold oY at *
    try (generalize cK ⟨wa, wb, wc⟩ (bE fd) = r at *; obtain ⟨⟨r1, r2, r3⟩, r4⟩ := r)
    try (generalize eZ ⟨ra, rb, rc⟩ (bE fd) = r at *; obtain ⟨⟨r1, r2, r3⟩, r4⟩ := r)
    try (generalize iO ⟨wa, wb, wc⟩ fn = r at *; obtain ⟨⟨r1, r2, r3⟩, r4⟩ := r)
    by_cases hsd : sd = 1 <;> first | grind | (clear hw1 hw2 hv hfu; grind (splits := 40)) | (clear hw1 hw2 hv hfu; simp_all; have hh := ‹((_ ∧ _) ∧ fs = id) ∧ _›; obtain ⟨⟨⟨_, ha⟩, rfl⟩, hb⟩ := hh; exact ⟨ha, by omega, by omega⟩)
set_option maxRecDepth 100000 in
set_option maxHeartbeats 4000000 in
theorem nL (n : Int) (w : World) : Calls Tryz.prog 43 #[.int .i64 n] w fun e w' => e = .returned (.tuple #[.agg (dK (jU n).win), .int .i64 (jU n).err]) ∧ Below w.heap.size w w' := by
  refine aI Tryz.func43 rfl Tryz.ntmps43 J J ?_
  repeat' (first | refine ah ?_ | refine aa ?_ | refine ab ?_ | refine az ?_ | refine ar ?_ | refine ak ?_ | refine ae ?_ | ((refine' am rfl ?_ J J ?_); rotate_left; first | exact ai af J J J J | exact ap af J J J J J J | exact bH J J J J J | exact aT af J J trivial J J J | exact aT af J J ⟨J, J, trivial⟩ J J J) | (refine aN af J J J J J J ?_; intro g) | refine aq af 0 J J J J J J J J J J J J ?_ | refine bI rfl (fun h => ?_) (fun h => ?_))
  all_goals
    (refine ay af (fun _ => 0) J J ⟨J, trivial⟩ rfl fun w hm => ⟨?_, hm.below⟩)
    unfold jU
    split <;> simp_all <;> omega
set_option maxRecDepth 100000 in
set_option maxHeartbeats 4000000 in
theorem sQ (id sd sh n : Int) (w : World) : Calls Tryz.prog 45 #[.int .i64 id, .int .i64 sd, .int .i64 sh, .int .i64 n] w fun e w' => e = .returned (.tuple #[.agg (jw (gl id sd sh n).st), .int .i64 (gl id sd sh n).err]) ∧ Below w.heap.size w w' := by
  refine aI Tryz.func45 rfl Tryz.ntmps45 J J ?_
  repeat' (first | refine ah ?_ | refine aa ?_ | refine ab ?_ | refine az ?_ | refine ar ?_ | refine ak ?_ | refine ae ?_ | ((refine' am rfl ?_ J J ?_); rotate_left; first | exact ai af J J J J | exact ap af J J J J J J | exact bH J J J J J | exact bJ J J J J J | exact ag af 0 J J J J J | exact aT af J J trivial J J J | exact aT af J J ⟨J, J, J, J, J, trivial⟩ J J J) | refine aH rfl (av J J J J ⟨J, trivial⟩ rfl (by kernel_rfl)) (fun w hm => nL _ w) J J ?_ | (refine aN af J J J J J J ?_; intro g) | refine aq af 0 J J J J J J J J J J J J ?_ | refine aq af 1 J J J J J J J J J J J J ?_ | refine bI rfl (fun h => ?_) (fun h => ?_))
  all_goals
    (refine ay af (fun _ => 1) J J ⟨J, trivial⟩ rfl fun w hm => ⟨?_, hm.below⟩)
    refine o8 _ _ _ _ _ _ _ _ _ _ _ _ _ _ _ _ _ ?_
    clear hm
    unfold gl sj lq jU at *
    grind
set_option maxRecDepth 100000 in
set_option maxHeartbeats 4000000 in
theorem g0 (id sd sh st gt : Int) (se ge dn : Bool) (c : Int) (tx : ByteArray) (wa wb wc ra rb rc : Int) (w : World) : Calls Tryz.prog 149 #[.agg #[.int .i64 id, .int .i64 sd, .int .i64 sh, .int .i64 st, .int .i64 gt, .bool se, .bool ge, .bool dn, .int .i64 c, .string tx, .int .i64 wa, .int .i64 wb, .int .i64 wc, .int .i64 ra, .int .i64 rb, .int .i64 rc]] w fun e w' => e = .returned (.tuple #[.int .i64 (jW (⟨id, sd, sh, st, gt, se, ge, dn, c, tx, ⟨wa, wb, wc⟩, ⟨ra, rb, rc⟩⟩ : cP)), .bool (lr (⟨id, sd, sh, st, gt, se, ge, dn, c, tx, ⟨wa, wb, wc⟩, ⟨ra, rb, rc⟩⟩ : cP))]) ∧ Below w.heap.size w w' := by
  refine aI Tryz.func149 rfl Tryz.ntmps149 J J ?_
  repeat' (first | refine ah ?_ | refine aa ?_ | refine ab ?_ | refine az ?_ | refine ar ?_ | refine ak ?_ | refine aX aQ rfl (by kernel_rfl) ?_ | refine ae ?_ | refine bG ?_ | ((first | refine' am rfl ?_ J J ?_ | refine' dD rfl ?_ J J J ?_); rotate_left; first | exact ai af J J J J | exact ap af J J J J J J | exact ag af 0 J J J J J) | (refine aW J J J J J J ?_; intro g) | refine bI rfl (fun h => ?_) (fun h => ?_))
  all_goals
    refine ay af (fun _ => 0) J J trivial rfl fun w hm => ⟨?_, hm.below⟩
    simp_all [jW, lr]
set_option maxRecDepth 100000 in
set_option maxHeartbeats 4000000 in
theorem gA (id sd sh st gt : Int) (se ge dn : Bool) (c : Int) (tx : ByteArray) (wa wb wc ra rb rc : Int) (w : World) : Calls Tryz.prog 150 #[.agg #[.int .i64 id, .int .i64 sd, .int .i64 sh, .int .i64 st, .int .i64 gt, .bool se, .bool ge, .bool dn, .int .i64 c, .string tx, .int .i64 wa, .int .i64 wb, .int .i64 wc, .int .i64 ra, .int .i64 rb, .int .i64 rc]] w fun e w' => e = .returned (.tuple #[.int .i64 (kx (⟨id, sd, sh, st, gt, se, ge, dn, c, tx, ⟨wa, wb, wc⟩, ⟨ra, rb, rc⟩⟩ : cP)), .bool (qB (⟨id, sd, sh, st, gt, se, ge, dn, c, tx, ⟨wa, wb, wc⟩, ⟨ra, rb, rc⟩⟩ : cP))]) ∧ Below w.heap.size w w' := by
  refine aI Tryz.func150 rfl Tryz.ntmps150 J J ?_
  repeat' (first | refine ah ?_ | refine aa ?_ | refine ab ?_ | refine az ?_ | refine ar ?_ | refine ak ?_ | refine aX aQ rfl (by kernel_rfl) ?_ | refine ae ?_ | refine bG ?_ | ((first | refine' am rfl ?_ J J ?_ | refine' dD rfl ?_ J J J ?_); rotate_left; first | exact ai af J J J J | exact ap af J J J J J J | exact ag af 0 J J J J J) | (refine aW J J J J J J ?_; intro g) | refine bI rfl (fun h => ?_) (fun h => ?_))
  all_goals
    refine ay af (fun _ => 0) J J trivial rfl fun w hm => ⟨?_, hm.below⟩
    simp_all [kx, qB]
set_option maxRecDepth 100000 in
set_option maxHeartbeats 4000000 in
theorem nM (n : Int) (w : World) : Calls Tryz.prog 152 #[.int .i64 n] w fun e w' => e = .returned (.int .i64 (jV n)) ∧ Below w.heap.size w w' := by
  refine aI Tryz.func152 rfl Tryz.ntmps152 J J ?_
  repeat' (first | refine ah ?_ | refine aa ?_ | refine ab ?_ | refine az ?_ | refine ar ?_ | refine ak ?_ | refine ae ?_ | ((refine' am rfl ?_ J J ?_); rotate_left; first | exact ai af J J J J | exact ap af J J J J J J) | refine bI rfl (fun h => ?_) (fun h => ?_))
  all_goals
    refine ay af (fun _ => 0) J J trivial rfl fun w hm => ⟨?_, hm.below⟩
    refine kO ?_
    unfold jV
    split <;> simp_all <;> omega
set_option maxRecDepth 100000 in
set_option maxHeartbeats 4000000 in
theorem kQ (id sd sh st gt : Int) (se ge dn : Bool) (c : Int) (tx : ByteArray) (wa wb wc ra rb rc : Int) (w : World) (htx : tx.size ≤ 4611686018427387900) : Calls Tryz.prog 80 #[.agg #[.int .i64 id, .int .i64 sd, .int .i64 sh, .int .i64 st, .int .i64 gt, .bool se, .bool ge, .bool dn, .int .i64 c, .string tx, .int .i64 wa, .int .i64 wb, .int .i64 wc, .int .i64 ra, .int .i64 rb, .int .i64 rc]] w fun e w' => e = .returned (.bool (cn (⟨id, sd, sh, st, gt, se, ge, dn, c, tx, ⟨wa, wb, wc⟩, ⟨ra, rb, rc⟩⟩ : cP))) ∧ Below w.heap.size w w' := by
  refine aI Tryz.func80 rfl Tryz.ntmps80 J J ?_
  repeat' (first | refine ah ?_ | refine aa ?_ | refine ab ?_ | refine az ?_ | refine ar ?_ | refine ak ?_ | refine ae ?_ | ((refine' am rfl ?_ J J ?_); rotate_left; first | exact ai af J J J J | exact ap af J J J J J J | exact bH J J J J J | exact bJ J J J J J | exact ag af 0 J J J J J | exact jb af jg J J J J J J (by kernel_rfl) | exact aT af J J trivial J J J) | refine aH rfl (av J J J J ⟨J, trivial⟩ rfl (by kernel_rfl)) (fun w hm => gu ⟨_, _, _⟩ w) J J ?_ | refine aH rfl (av J J J J ⟨J, trivial⟩ rfl (by kernel_rfl)) (fun w hm => iG (vE _ w)) J J ?_ | refine aH rfl (av J J J J ⟨J, trivial⟩ rfl (by kernel_rfl)) (fun w hm => g0 _ _ _ _ _ _ _ _ _ _ _ _ _ _ _ _ w) J J ?_ | refine aH rfl (av J J J J ⟨J, trivial⟩ rfl (by kernel_rfl)) (fun w hm => gA _ _ _ _ _ _ _ _ _ _ _ _ _ _ _ _ w) J J ?_ | refine aH rfl (av J J J J ⟨J, trivial⟩ rfl (by kernel_rfl)) (fun w hm => iG (jq _ w)) J J ?_ | refine aH rfl (av J J J J ⟨J, trivial⟩ rfl (by kernel_rfl)) (fun w hm => nM _ w) J J ?_ | refine aH rfl (av J J J J ⟨J, trivial⟩ rfl (by kernel_rfl)) (fun w hm => fM _ _ w htx) J J ?_ | (refine aW J J J J J J ?_; intro g) | refine bI rfl (fun h => ?_) (fun h => ?_))
  all_goals
    refine ay af (fun _ => 0) J J trivial rfl fun w hm => ⟨?_, hm.below⟩
    refine congrArg (fun b => Ending.returned (Value.bool b)) ?_
    clear htx hm
    unfold cn mz mA si
    try rw [lY]
    unfold lr qB at *
    by_cases hsd : sd = 1 <;> grind
set_option maxRecDepth 100000 in
set_option maxHeartbeats 4000000 in
theorem qP (id sd sh st gt : Int) (se ge dn : Bool) (c : Int) (tx : ByteArray) (wa wb wc ra rb rc : Int) (tc : Int) (tt : ByteArray) (w : World) : Calls Tryz.prog 199 #[.agg #[.int .i64 id, .int .i64 sd, .int .i64 sh, .int .i64 st, .int .i64 gt, .bool se, .bool ge, .bool dn, .int .i64 c, .string tx, .int .i64 wa, .int .i64 wb, .int .i64 wc, .int .i64 ra, .int .i64 rb, .int .i64 rc], .agg #[.int .i64 tc, .string tt]] w fun e w' => e = .returned (.agg #[.int .i64 id, .int .i64 sd, .int .i64 sh, .int .i64 st, .int .i64 gt, .bool true, .bool true, .bool true, .int .i64 tc, .string tt, .int .i64 wa, .int .i64 wb, .int .i64 wc, .int .i64 ra, .int .i64 rb, .int .i64 rc]) ∧ Below w.heap.size w w' := by
  refine aI Tryz.func199 rfl Tryz.ntmps199 J J ?_
  repeat' (first | refine ah ?_ | refine aa ?_ | refine ab ?_ | refine az ?_ | refine ae ?_ | ((refine' am rfl ?_ J J ?_); rotate_left; first | exact ai af J J J J | exact ag af 1 J J J J J | exact ag af 2 J J J J J) | (refine aW J J J J J J ?_; intro g) | (refine aN af J J J J J J ?_; intro g) | refine aq af 0 J J J J J J J J J J J J ?_ | refine aq af 2 J J J J J J J J J J J J ?_)
  all_goals
    (refine ay af (fun _ => 0) J J ⟨J, trivial⟩ rfl fun w hm => ⟨?_, hm.below⟩)
    rfl
end Go.Proofs.YthiocbcokfondaaGreatDoor.Y
