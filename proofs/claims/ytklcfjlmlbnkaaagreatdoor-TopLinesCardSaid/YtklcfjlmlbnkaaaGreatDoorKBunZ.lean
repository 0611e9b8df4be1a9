/- Texts of this claim merged into one: KStr2Y, KStr3Y. -/
import Derived.Test.YtklcfjlmlbnkaaaGreatDoorKBunT
import Derived.Test.YtklcfjlmlbnkaaaGreatDoorKBunD
import Derived.Test.YtklcfjlmlbnkaaaGreatDoorKBunQ
import Derived.Test.YtklcfjlmlbnkaaaGreatDoorKBunR
namespace Go.Proofs.YtklcfjlmlbnkaaaGreatDoor.Y
open Go.RowKit
theorem zl (s : ByteArray) : (s.toList == (⟨#[]⟩ : ByteArray).toList) = decide (s.size = 0) := by
  rw [ByteArray.toList_eq, ByteArray.toList_eq, Bool.eq_iff_iff, beq_iff_eq, decide_eq_true_eq]
  obtain ⟨⟨l⟩⟩ := s
  show l = [] ↔ l.length = 0
  cases l <;> simp
set_option maxRecDepth 100000 in
set_option maxHeartbeats 4000000 in
theorem wD (id sd sh st gt : Int) (se ge dn : Bool) (c : Int) (tx : ByteArray) (wa wb wc ra rb rc : Int) (w : World) : Calls Tryz.prog 79 #[.agg #[.int .i64 id, .int .i64 sd, .int .i64 sh, .int .i64 st, .int .i64 gt, .bool se, .bool ge, .bool dn, .int .i64 c, .string tx, .int .i64 wa, .int .i64 wb, .int .i64 wc, .int .i64 ra, .int .i64 rb, .int .i64 rc]] w fun e w' => e = .returned (.agg #[.int .i64 id, .int .i64 sd, .int .i64 sh, .int .i64 st, .int .i64 gt, .bool se, .bool ge, .bool dn, .int .i64 c, .string tx, .int .i64 wa, .int .i64 wb, .int .i64 wc, .int .i64 ra, .int .i64 rb, .int .i64 rc, .int .i64 (c1 sh), .int .i64 (li (c2 sh)), .int .i64 (c3 sh), .int .i64 (li (c4 sh))]) ∧ Below w.heap.size w w' := by
  refine aA Tryz.func79 rfl Tryz.ntmps79 J J ?_
  repeat' (first | refine bc ?_ | refine aH ?_ | refine bB ?_ | refine cL ?_ | refine cJ ?_ | refine co ?_ | ((refine' dZ rfl ?_ J J ?_); rotate_left; first | exact aI af J J J J | exact bw af J J J J J J | exact ab af 0 J J J J J | exact ab af 1 J J J J J | exact ab af 2 J J J J J | exact aj af J J ⟨J, trivial⟩ J J J) | refine bg rfl (ap J J J J ⟨J, trivial⟩ rfl (by kernel_rfl)) (fun w hm => Dr (counts _ w)) J J ?_ | (refine eG J J J J J J ?_; intro g) | (refine dM af J J J J J J ?_; intro g) | refine aC af 0 J J J J J J J J J J J J ?_ | refine aC af 1 J J J J J J J J J J J J ?_ | refine cz rfl (fun h => ?_) (fun h => ?_))
  all_goals
    (refine aO af (fun _ => 1) J J ⟨J, trivial⟩ rfl fun w hm => ⟨?_, hm.below⟩)
    simp only [decide_eq_true_eq, decide_eq_false_iff_not] at *
    simp [li, *]
set_option maxRecDepth 100000 in
set_option maxHeartbeats 4000000 in
theorem dP (id sd sh st gt : Int) (se ge dn : Bool) (c : Int) (tx : ByteArray) (wa wb wc ra rb rc : Int) (e1 e2 e3 e4 : Int) (w : World) : Calls Tryz.prog 81 #[.agg #[.int .i64 id, .int .i64 sd, .int .i64 sh, .int .i64 st, .int .i64 gt, .bool se, .bool ge, .bool dn, .int .i64 c, .string tx, .int .i64 wa, .int .i64 wb, .int .i64 wc, .int .i64 ra, .int .i64 rb, .int .i64 rc, .int .i64 e1, .int .i64 e2, .int .i64 e3, .int .i64 e4]] w fun e w' => e = .returned (.bool (sd == 1)) ∧ Below w.heap.size w w' := by
  refine aA Tryz.func81 rfl Tryz.ntmps81 J J ?_
  repeat' (first | refine bc ?_ | refine aH ?_ | refine bB ?_ | refine cL ?_ | refine co ?_ | ((refine' dZ rfl ?_ J J ?_); rotate_left; first | exact aI af J J J J | exact bw af J J J J J J | exact ab af 0 J J J J J) | (refine eG J J J J J J ?_; intro g))
  all_goals
    refine aO af (fun _ => 0) J J trivial rfl fun w hm => ⟨?_, hm.below⟩
    rfl
set_option maxRecDepth 100000 in
set_option maxHeartbeats 4000000 in
theorem mz (id sd sh st gt : Int) (se ge dn : Bool) (c : Int) (tx : ByteArray) (wa wb wc ra rb rc : Int) (e1 e2 e3 e4 : Int) (w : World) : Calls Tryz.prog 104 #[.agg #[.int .i64 id, .int .i64 sd, .int .i64 sh, .int .i64 st, .int .i64 gt, .bool se, .bool ge, .bool dn, .int .i64 c, .string tx, .int .i64 wa, .int .i64 wb, .int .i64 wc, .int .i64 ra, .int .i64 rb, .int .i64 rc, .int .i64 e1, .int .i64 e2, .int .i64 e3, .int .i64 e4]] w fun e w' => e = .returned (.int .i64 (jA (⟨id, sd, sh, st, gt, se, ge, dn, c, tx, ⟨wa, wb, wc⟩, ⟨ra, rb, rc⟩⟩ : StV))) ∧ Below w.heap.size w w' := by
  refine aA Tryz.func104 rfl Tryz.ntmps104 J J ?_
  repeat' (first | refine bc ?_ | refine aH ?_ | refine bB ?_ | refine cL ?_ | refine cJ ?_ | refine bk ?_ | refine co ?_ | ((refine' dZ rfl ?_ J J ?_); rotate_left; first | exact aI af J J J J | exact ab af 0 J J J J J) | refine bg rfl (ap J J J J ⟨J, trivial⟩ rfl (by kernel_rfl)) (fun w hm => dP _ _ _ _ _ _ _ _ _ _ _ _ _ _ _ _ _ _ _ _ w) J J ?_ | (refine eG J J J J J J ?_; intro g) | refine cz rfl (fun h => ?_) (fun h => ?_))
  all_goals
    refine aO af (fun _ => 0) J J trivial rfl fun w hm => ⟨?_, hm.below⟩
    simp_all [jA]
set_option maxRecDepth 100000 in
set_option maxHeartbeats 4000000 in
theorem ly (id sd sh st gt : Int) (se ge dn : Bool) (c : Int) (tx : ByteArray) (wa wb wc ra rb rc : Int) (e1 e2 e3 e4 : Int) (w : World) : Calls Tryz.prog 105 #[.agg #[.int .i64 id, .int .i64 sd, .int .i64 sh, .int .i64 st, .int .i64 gt, .bool se, .bool ge, .bool dn, .int .i64 c, .string tx, .int .i64 wa, .int .i64 wb, .int .i64 wc, .int .i64 ra, .int .i64 rb, .int .i64 rc, .int .i64 e1, .int .i64 e2, .int .i64 e3, .int .i64 e4]] w fun e w' => e = .returned (.int .i64 (ng (⟨id, sd, sh, st, gt, se, ge, dn, c, tx, ⟨wa, wb, wc⟩, ⟨ra, rb, rc⟩⟩ : StV))) ∧ Below w.heap.size w w' := by
  refine aA Tryz.func105 rfl Tryz.ntmps105 J J ?_
  repeat' (first | refine bc ?_ | refine aH ?_ | refine bB ?_ | refine cL ?_ | refine cJ ?_ | refine bk ?_ | refine co ?_ | ((refine' dZ rfl ?_ J J ?_); rotate_left; first | exact aI af J J J J | exact ab af 0 J J J J J) | refine bg rfl (ap J J J J ⟨J, trivial⟩ rfl (by kernel_rfl)) (fun w hm => dP _ _ _ _ _ _ _ _ _ _ _ _ _ _ _ _ _ _ _ _ w) J J ?_ | (refine eG J J J J J J ?_; intro g) | refine cz rfl (fun h => ?_) (fun h => ?_))
  all_goals
    refine aO af (fun _ => 0) J J trivial rfl fun w hm => ⟨?_, hm.below⟩
    simp_all [ng]
set_option maxRecDepth 100000 in
set_option maxHeartbeats 4000000 in
theorem qX (id sd sh st gt : Int) (se ge dn : Bool) (c : Int) (tx : ByteArray) (wa wb wc ra rb rc : Int) (e1 e2 e3 e4 : Int) (w : World) : Calls Tryz.prog 107 #[.agg #[.int .i64 id, .int .i64 sd, .int .i64 sh, .int .i64 st, .int .i64 gt, .bool se, .bool ge, .bool dn, .int .i64 c, .string tx, .int .i64 wa, .int .i64 wb, .int .i64 wc, .int .i64 ra, .int .i64 rb, .int .i64 rc, .int .i64 e1, .int .i64 e2, .int .i64 e3, .int .i64 e4]] w fun e w' => e = .returned (.bool (rZ (⟨id, sd, sh, st, gt, se, ge, dn, c, tx, ⟨wa, wb, wc⟩, ⟨ra, rb, rc⟩⟩ : StV))) ∧ Below w.heap.size w w' := by
  refine aA Tryz.func107 rfl Tryz.ntmps107 J J ?_
  repeat' (first | refine bc ?_ | refine aH ?_ | refine bB ?_ | refine cL ?_ | refine cJ ?_ | refine bk ?_ | refine co ?_ | ((refine' dZ rfl ?_ J J ?_); rotate_left; first | exact aI af J J J J | exact ab af 0 J J J J J) | refine bg rfl (ap J J J J ⟨J, trivial⟩ rfl (by kernel_rfl)) (fun w hm => dP _ _ _ _ _ _ _ _ _ _ _ _ _ _ _ _ _ _ _ _ w) J J ?_ | (refine eG J J J J J J ?_; intro g) | refine cz rfl (fun h => ?_) (fun h => ?_))
  all_goals
    refine aO af (fun _ => 0) J J trivial rfl fun w hm => ⟨?_, hm.below⟩
    simp_all [rZ]
set_option maxRecDepth 100000 in
set_option maxHeartbeats 4000000 in
theorem su (id sd sh st gt : Int) (se ge dn : Bool) (c : Int) (tx : ByteArray) (wa wb wc ra rb rc : Int) (e1 e2 e3 e4 : Int) (w : World) : Calls Tryz.prog 106 #[.agg #[.int .i64 id, .int .i64 sd, .int .i64 sh, .int .i64 st, .int .i64 gt, .bool se, .bool ge, .bool dn, .int .i64 c, .string tx, .int .i64 wa, .int .i64 wb, .int .i64 wc, .int .i64 ra, .int .i64 rb, .int .i64 rc, .int .i64 e1, .int .i64 e2, .int .i64 e3, .int .i64 e4]] w fun e w' => e = .returned (.bool (uj (⟨id, sd, sh, st, gt, se, ge, dn, c, tx, ⟨wa, wb, wc⟩, ⟨ra, rb, rc⟩⟩ : StV))) ∧ Below w.heap.size w w' := by
  refine aA Tryz.func106 rfl Tryz.ntmps106 J J ?_
  repeat' (first | refine bc ?_ | refine aH ?_ | refine bB ?_ | refine cL ?_ | refine cJ ?_ | refine bk ?_ | refine co ?_ | ((refine' dZ rfl ?_ J J ?_); rotate_left; first | exact aI af J J J J | exact ab af 0 J J J J J) | refine bg rfl (ap J J J J ⟨J, trivial⟩ rfl (by kernel_rfl)) (fun w hm => dP _ _ _ _ _ _ _ _ _ _ _ _ _ _ _ _ _ _ _ _ w) J J ?_ | (refine eG J J J J J J ?_; intro g) | refine cz rfl (fun h => ?_) (fun h => ?_))
  all_goals
    refine aO af (fun _ => 0) J J trivial rfl fun w hm => ⟨?_, hm.below⟩
    simp_all [uj]
set_option maxRecDepth 100000 in
set_option maxHeartbeats 4000000 in
theorem uA (id sd sh st gt : Int) (se ge dn : Bool) (c : Int) (tx : ByteArray) (wa wb wc ra rb rc : Int) (e1 e2 e3 e4 : Int) (b : Bool) (w : World) : Calls Tryz.prog 80 #[.agg #[.int .i64 id, .int .i64 sd, .int .i64 sh, .int .i64 st, .int .i64 gt, .bool se, .bool ge, .bool dn, .int .i64 c, .string tx, .int .i64 wa, .int .i64 wb, .int .i64 wc, .int .i64 ra, .int .i64 rb, .int .i64 rc, .int .i64 e1, .int .i64 e2, .int .i64 e3, .int .i64 e4], .bool b] w fun e w' => e = .returned (.int .i64 (if b = true then e2 else e4)) ∧ Below w.heap.size w w' := by
  refine aA Tryz.func80 rfl Tryz.ntmps80 J J ?_
  repeat' (first | refine bc ?_ | refine aH ?_ | refine bB ?_ | refine cL ?_ | refine cJ ?_ | refine bk ?_ | refine co ?_ | ((refine' dZ rfl ?_ J J ?_); rotate_left; first | exact aI af J J J J | exact ab af 0 J J J J J) | (refine eG J J J J J J ?_; intro g) | refine cz rfl (fun h => ?_) (fun h => ?_))
  all_goals
    refine aO af (fun _ => 0) J J trivial rfl fun w hm => ⟨?_, hm.below⟩
    simp_all
set_option maxRecDepth 100000 in
set_option maxHeartbeats 4000000 in
theorem wE (n m : Int) (w : World) : Calls Tryz.prog 103 #[.int .i64 n, .int .i64 m] w fun e w' => e = .returned (.bool (decide (0 ≤ n ∧ n ≤ m))) ∧ Below w.heap.size w w' := by
  refine aA Tryz.func103 rfl Tryz.ntmps103 J J ?_
  repeat' (first | refine bc ?_ | refine aH ?_ | refine bB ?_ | refine cL ?_ | refine co ?_ | ((refine' dZ rfl ?_ J J ?_); rotate_left; first | exact aI af J J J J | exact bw af J J J J J J | exact eF J J J J J))
  all_goals
    refine aO af (fun _ => 0) J J trivial rfl fun w hm => ⟨?_, hm.below⟩
    congr 2
    rw [Bool.eq_iff_iff]
    simp
set_option maxRecDepth 100000 in
set_option maxHeartbeats 4000000 in
theorem ie (d : ByteArray) (w : World) : Calls Tryz.prog 5 #[.string d] w fun e w' => e = .returned (.int .i64 (au d)) ∧ Below w.heap.size w w' := by
  refine aA Tryz.func5 rfl Tryz.ntmps5 J J ?_
  repeat' (first | refine bc ?_ | refine aH ?_ | refine bB ?_ | refine cL ?_ | refine co ?_ | ((refine' dZ rfl ?_ J J ?_); rotate_left; first | exact aI af J J J J | exact fi af J J J J J J J | exact fO J J J J J))
  all_goals
    refine aO af (fun _ => 0) J J trivial rfl fun w hm => ⟨?_, hm.below⟩
    congr 2
    unfold au
    split <;> split <;> omega
set_option maxRecDepth 100000 in
set_option maxHeartbeats 4000000 in
theorem ni (id sd sh st gt : Int) (se ge dn : Bool) (c : Int) (tx : ByteArray) (wa wb wc ra rb rc : Int) (w : World) (htx : tx.size ≤ 4611686018427387900) : Calls Tryz.prog 78 #[.agg #[.int .i64 id, .int .i64 sd, .int .i64 sh, .int .i64 st, .int .i64 gt, .bool se, .bool ge, .bool dn, .int .i64 c, .string tx, .int .i64 wa, .int .i64 wb, .int .i64 wc, .int .i64 ra, .int .i64 rb, .int .i64 rc]] w fun e w' => e = .returned (.bool (df (⟨id, sd, sh, st, gt, se, ge, dn, c, tx, ⟨wa, wb, wc⟩, ⟨ra, rb, rc⟩⟩ : StV))) ∧ Below w.heap.size w w' := by
  refine aA Tryz.func78 rfl Tryz.ntmps78 J J ?_
  repeat' (first | refine bc ?_ | refine aH ?_ | refine bB ?_ | refine cL ?_ | refine cJ ?_ | refine bk ?_ | refine aL am rfl (by kernel_rfl) ?_ | refine co ?_ | refine bW ?_ | ((first | refine' dZ rfl ?_ J J ?_ | refine' di rfl ?_ J J J ?_); rotate_left; first | exact aI af J J J J | exact bw af J J J J J J | exact ew J J J J J | exact eF J J J J J | exact ab af 0 J J J J J | exact ab af 1 J J J J J | exact gQ af iI J J J J J J (by kernel_rfl) | exact aj af J J trivial J J J) | refine bg rfl (ap J J J J ⟨J, trivial⟩ rfl (by kernel_rfl)) (fun w hm => wD _ _ _ _ _ _ _ _ _ _ _ _ _ _ _ _ w) J J ?_ | refine bm rfl (ap J J J J ⟨J, trivial⟩ rfl (by kernel_rfl)) rfl (fun w hm => mz _ _ _ _ _ _ _ _ _ _ _ _ _ _ _ _ _ _ _ _ w) J J ?_ | refine bm rfl (ap J J J J ⟨J, trivial⟩ rfl (by kernel_rfl)) rfl (fun w hm => ly _ _ _ _ _ _ _ _ _ _ _ _ _ _ _ _ _ _ _ _ w) J J ?_ | refine bm rfl (ap J J J J ⟨J, trivial⟩ rfl (by kernel_rfl)) rfl (fun w hm => qX _ _ _ _ _ _ _ _ _ _ _ _ _ _ _ _ _ _ _ _ w) J J ?_ | refine bm rfl (ap J J J J ⟨J, trivial⟩ rfl (by kernel_rfl)) rfl (fun w hm => su _ _ _ _ _ _ _ _ _ _ _ _ _ _ _ _ _ _ _ _ w) J J ?_ | refine bm rfl (ap J J J J ⟨J, J, trivial⟩ rfl (by kernel_rfl)) rfl (fun w hm => wE _ _ w) J J ?_ | refine bm rfl (ap J J J J ⟨J, trivial⟩ rfl (by kernel_rfl)) rfl (fun w hm => gZ ⟨_, _, _⟩ w) J J ?_ | refine bg rfl (ap J J J J ⟨J, trivial⟩ rfl (by kernel_rfl)) (fun w hm => kR _ _ w htx) J J ?_ | (refine eG J J J J J J ?_; intro g) | (refine dM af J J J J J J ?_; intro g) | refine aC af 0 J J J J J J J J J J J J ?_ | refine cz rfl (fun h => ?_) (fun h => ?_))
  all_goals
    refine aO af (fun _ => 0) J J trivial rfl fun w hm => ⟨?_, hm.below⟩
    refine congrArg (fun b => Ending.returned (Value.bool b)) ?_
    clear htx hm
    unfold df wn sg Bl sU
    try rw [zl]
    grind
def sx (s : StV) (e1 e3 : Int) (d : ByteArray) : Int := if (aV d).err ≠ 0 then 1 else if (aV d).code ≠ 0 then 0 else if (decide (jA s < e1) || decide (ng s < e3) || ((s.shape == 1 || s.shape == 3) && !rZ s)) = true then 11 else 0
def sy (f : FrV) : Int := if f.kind = 5 then f.num else (aV f.data).code
def sA (f : FrV) : ByteArray := if f.kind = 5 then ⟨#[]⟩ else (aV f.data).text
theorem Bs {a b : Int} (h : a = b) : Ending.returned (.int .i64 a) = Ending.returned (.int .i64 b) := by rw [h]
abbrev nj (s : StV) : Array Value := #[.int .i64 s.id, .int .i64 s.side, .int .i64 s.shape, .int .i64 s.sent, .int .i64 s.got, .bool s.se, .bool s.ge, .bool s.done, .int .i64 s.code, .string s.text, .int .i64 s.snd.size, .int .i64 s.snd.left, .int .i64 s.snd.held, .int .i64 s.rcv.size, .int .i64 s.rcv.left, .int .i64 s.rcv.held]
theorem wF (id sd sh st gt : Int) (se ge dn : Bool) (c : Int) (tx : ByteArray) (wa wb wc ra rb rc : Int) (e : Int) {r : C9} (h : r = ⟨(⟨id, sd, sh, st, gt, se, ge, dn, c, tx, ⟨wa, wb, wc⟩, ⟨ra, rb, rc⟩⟩ : StV), e⟩) : Ending.returned (.tuple #[.agg #[.int .i64 id, .int .i64 sd, .int .i64 sh, .int .i64 st, .int .i64 gt, .bool se, .bool ge, .bool dn, .int .i64 c, .string tx, .int .i64 wa, .int .i64 wb, .int .i64 wc, .int .i64 ra, .int .i64 rb, .int .i64 rc], .int .i64 e]) = Ending.returned (.tuple #[.agg (nj r.st), .int .i64 r.err]) := by rw [h]
theorem DV (s : Int) : li (c2 s) ≤ 4611686018427387904 ∧ li (c4 s) ≤ 4611686018427387904 := by
  unfold li c2 c4
  constructor <;> (repeat' split) <;> omega
theorem pj {s : StV} (h : df s = true) : 0 ≤ s.sent ∧ 0 ≤ s.got ∧ s.sent ≤ 4611686018427387904 ∧ s.got ≤ 4611686018427387904 := by
  have ht := DV s.shape
  unfold df sg jA ng at h
  simp only [Bool.and_eq_true, decide_eq_true_eq] at h
  have := h.1.2.2
  split at this <;> omega
theorem qY {f : FrV} (h : ay f = 0) (hk : f.kind = 4) : (aV f.data).err = 0 := by
  unfold ay at h
  split at h
  · cases h
  split at h
  · cases h
  split at h
  · omega
  · first | exact h | (rw [if_pos hk] at h; exact h)
theorem nX {n : Int} (h : 0 ≤ n ∧ n ≤ 4611686018427387904) : IntKind.i64.wrap (n + 1) = n + 1 := IntWalk.i64_in _ (by omega)
theorem FG (id sd sh st gt : Int) (se ge dn : Bool) (c : Int) (tx : ByteArray) (wa wb wc ra rb rc : Int) {r : StV} (h : r = (⟨id, sd, sh, st, gt, se, ge, dn, c, tx, ⟨wa, wb, wc⟩, ⟨ra, rb, rc⟩⟩ : StV)) : Ending.returned (.agg #[.int .i64 id, .int .i64 sd, .int .i64 sh, .int .i64 st, .int .i64 gt, .bool se, .bool ge, .bool dn, .int .i64 c, .string tx, .int .i64 wa, .int .i64 wb, .int .i64 wc, .int .i64 ra, .int .i64 rb, .int .i64 rc]) = Ending.returned (.agg (nj r)) := by rw [h]
set_option maxRecDepth 100000 in
set_option maxHeartbeats 4000000 in
theorem qZ (id sd sh st gt : Int) (se ge dn : Bool) (c : Int) (tx : ByteArray) (wa wb wc ra rb rc : Int) (e1 e2 e3 e4 : Int) (fk fs fn : Int) (fd : ByteArray) (w : World) (hfd : fd.size < 4294967281) : Calls Tryz.prog 83 #[.agg #[.int .i64 id, .int .i64 sd, .int .i64 sh, .int .i64 st, .int .i64 gt, .bool se, .bool ge, .bool dn, .int .i64 c, .string tx, .int .i64 wa, .int .i64 wb, .int .i64 wc, .int .i64 ra, .int .i64 rb, .int .i64 rc, .int .i64 e1, .int .i64 e2, .int .i64 e3, .int .i64 e4], .agg #[.int .i64 fk, .int .i64 fs, .int .i64 fn, .string fd]] w fun e w' => e = .returned (.int .i64 (sx (⟨id, sd, sh, st, gt, se, ge, dn, c, tx, ⟨wa, wb, wc⟩, ⟨ra, rb, rc⟩⟩ : StV) e1 e3 fd)) ∧ Below w.heap.size w w' := by
  refine aA Tryz.func83 rfl Tryz.ntmps83 J J ?_
  repeat' (first | refine bc ?_ | refine aH ?_ | refine bB ?_ | refine cL ?_ | refine cJ ?_ | refine bk ?_ | refine aL am rfl (by kernel_rfl) ?_ | refine co ?_ | refine bW ?_ | ((first | refine' dZ rfl ?_ J J ?_ | refine' di rfl ?_ J J J ?_); rotate_left; first | exact aI af J J J J | exact bw af J J J J J J | exact ew J J J J J | exact eF J J J J J | exact ab af 0 J J J J J | exact ab af 2 J J J J J) | refine bg rfl (ap J J J J ⟨J, trivial⟩ rfl (by kernel_rfl)) (fun w hm => lH _ w (by omega)) J J ?_ | refine bm rfl (ap J J J J ⟨J, trivial⟩ rfl (by kernel_rfl)) rfl (fun w hm => mz _ _ _ _ _ _ _ _ _ _ _ _ _ _ _ _ _ _ _ _ w) J J ?_ | refine bm rfl (ap J J J J ⟨J, trivial⟩ rfl (by kernel_rfl)) rfl (fun w hm => ly _ _ _ _ _ _ _ _ _ _ _ _ _ _ _ _ _ _ _ _ w) J J ?_ | refine bm rfl (ap J J J J ⟨J, trivial⟩ rfl (by kernel_rfl)) rfl (fun w hm => qX _ _ _ _ _ _ _ _ _ _ _ _ _ _ _ _ _ _ _ _ w) J J ?_ | (refine eG J J J J J J ?_; intro g) | (refine dM af J J J J J J ?_; intro g) | refine aC af 0 J J J J J J J J J J J J ?_ | refine cz rfl (fun h => ?_) (fun h => ?_))
  all_goals
    refine aO af (fun _ => 0) J J trivial rfl fun w hm => ⟨?_, hm.below⟩
    refine Bs ?_
    clear hfd hm
    unfold sx
    grind
set_option maxRecDepth 100000 in
set_option maxHeartbeats 4000000 in
theorem uB (id sd sh st gt : Int) (se ge dn : Bool) (c : Int) (tx : ByteArray) (wa wb wc ra rb rc : Int) (tc : Int) (tt : ByteArray) (w : World) : Calls Tryz.prog 111 #[.agg #[.int .i64 id, .int .i64 sd, .int .i64 sh, .int .i64 st, .int .i64 gt, .bool se, .bool ge, .bool dn, .int .i64 c, .string tx, .int .i64 wa, .int .i64 wb, .int .i64 wc, .int .i64 ra, .int .i64 rb, .int .i64 rc], .agg #[.int .i64 tc, .string tt]] w fun e w' => e = .returned (.agg #[.int .i64 id, .int .i64 sd, .int .i64 sh, .int .i64 st, .int .i64 gt, .bool true, .bool true, .bool true, .int .i64 tc, .string tt, .int .i64 wa, .int .i64 wb, .int .i64 wc, .int .i64 ra, .int .i64 rb, .int .i64 rc]) ∧ Below w.heap.size w w' := by
  refine aA Tryz.func111 rfl Tryz.ntmps111 J J ?_
  repeat' (first | refine bc ?_ | refine aH ?_ | refine bB ?_ | refine cL ?_ | refine co ?_ | ((refine' dZ rfl ?_ J J ?_); rotate_left; first | exact aI af J J J J | exact ab af 1 J J J J J | exact ab af 2 J J J J J) | (refine eG J J J J J J ?_; intro g) | (refine dM af J J J J J J ?_; intro g) | refine aC af 0 J J J J J J J J J J J J ?_ | refine aC af 2 J J J J J J J J J J J J ?_)
  all_goals
    (refine aO af (fun _ => 0) J J ⟨J, trivial⟩ rfl fun w hm => ⟨?_, hm.below⟩)
    rfl
set_option maxRecDepth 100000 in
set_option maxHeartbeats 4000000 in
theorem nM (id sd sh st gt : Int) (se ge dn : Bool) (c : Int) (tx : ByteArray) (wa wb wc ra rb rc : Int) (fk fs fn : Int) (fd : ByteArray) (w : World) (hfd : fd.size < 4294967281) : Calls Tryz.prog 84 #[.agg #[.int .i64 id, .int .i64 sd, .int .i64 sh, .int .i64 st, .int .i64 gt, .bool se, .bool ge, .bool dn, .int .i64 c, .string tx, .int .i64 wa, .int .i64 wb, .int .i64 wc, .int .i64 ra, .int .i64 rb, .int .i64 rc], .agg #[.int .i64 fk, .int .i64 fs, .int .i64 fn, .string fd]] w fun e w' => e = .returned (.agg #[.int .i64 id, .int .i64 sd, .int .i64 sh, .int .i64 st, .int .i64 gt, .bool true, .bool true, .bool true, .int .i64 (sy (⟨fk, fs, fn, fd⟩ : FrV)), .string (sA (⟨fk, fs, fn, fd⟩ : FrV)), .int .i64 wa, .int .i64 wb, .int .i64 wc, .int .i64 ra, .int .i64 rb, .int .i64 rc]) ∧ Below w.heap.size w w' := by
  refine aA Tryz.func84 rfl Tryz.ntmps84 J J ?_
  repeat' (first | refine bc ?_ | refine aH ?_ | refine bB ?_ | refine cL ?_ | refine cJ ?_ | refine bk ?_ | refine co ?_ | ((refine' dZ rfl ?_ J J ?_); rotate_left; first | exact aI af J J J J | exact bw af J J J J J J | exact ab af 0 J J J J J | exact ab af 1 J J J J J | exact ab af 2 J J J J J | exact ab af 3 J J J J J | exact aj af J J ⟨J, trivial⟩ J J J) | refine bg rfl (ap J J J J ⟨J, trivial⟩ rfl (by kernel_rfl)) (fun w hm => lH _ w (by omega)) J J ?_ | refine bg rfl (ap J J J J ⟨J, J, trivial⟩ rfl (by kernel_rfl)) (fun w hm => uB _ _ _ _ _ _ _ _ _ _ _ _ _ _ _ _ _ _ w) J J ?_ | (refine eG J J J J J J ?_; intro g) | (refine dM af J J J J J J ?_; intro g) | refine aC af 0 J J J J J J J J J J J J ?_ | refine aC af 1 J J J J J J J J J J J J ?_ | refine cz rfl (fun h => ?_) (fun h => ?_))
  all_goals
    (first | refine aO af (fun _ => 0) J J ⟨J, trivial⟩ rfl fun w hm => ⟨?_, hm.below⟩ | refine aO af (fun _ => 1) J J ⟨J, trivial⟩ rfl fun w hm => ⟨?_, hm.below⟩)
    unfold sy sA
    simp_all
set_option maxRecDepth 100000 in
set_option maxHeartbeats 4000000 in
theorem Bt (id sd sh st gt : Int) (se ge dn : Bool) (c : Int) (tx : ByteArray) (wa wb wc ra rb rc : Int) (fk fs fn : Int) (fd : ByteArray) (w : World) (htx : tx.size ≤ 4611686018427387900) (hfd : fd.size < 4294967281) (hl : MLen w) : Calls Tryz.prog 54 #[.agg #[.int .i64 id, .int .i64 sd, .int .i64 sh, .int .i64 st, .int .i64 gt, .bool se, .bool ge, .bool dn, .int .i64 c, .string tx, .int .i64 wa, .int .i64 wb, .int .i64 wc, .int .i64 ra, .int .i64 rb, .int .i64 rc], .agg #[.int .i64 fk, .int .i64 fs, .int .i64 fn, .string fd]] w fun e w' => e = .returned (.tuple #[.agg (nj (bh (⟨id, sd, sh, st, gt, se, ge, dn, c, tx, ⟨wa, wb, wc⟩, ⟨ra, rb, rc⟩⟩ : StV) (⟨fk, fs, fn, fd⟩ : FrV)).st), .int .i64 (bh (⟨id, sd, sh, st, gt, se, ge, dn, c, tx, ⟨wa, wb, wc⟩, ⟨ra, rb, rc⟩⟩ : StV) (⟨fk, fs, fn, fd⟩ : FrV)).err]) ∧ Below w.heap.size w w' := by
  refine aA Tryz.func54 rfl Tryz.ntmps54 J J ?_
  repeat' (first | refine bc ?_ | refine aH ?_ | refine bB ?_ | refine cL ?_ | refine cJ ?_ | refine lZ ?_ | refine bk ?_ | refine fu ?_ | refine jx ?_ | refine aL am rfl (by kernel_rfl) ?_ | refine co ?_ | refine bW ?_ | (refine bC ?_; intro g) | ((first | refine' dZ rfl ?_ J J ?_ | refine' di rfl ?_ J J J ?_); rotate_left; first | exact aI af J J J J | exact bw af J J J J J J | exact ew J J J J J | exact ab af 0 J J J J J | exact ab af 1 J J J J J | exact ab af 2 J J J J J | exact ab af 3 J J J J J | exact ab af 4 J J J J J) | refine bg rfl (ap J J J J ⟨J, trivial⟩ rfl (by kernel_rfl)) (fun w hm => ni _ _ _ _ _ _ _ _ _ _ _ _ _ _ _ _ w (by omega)) J J ?_ | refine bg rfl (ap J J J J ⟨J, trivial⟩ rfl (by kernel_rfl)) (fun w hm => hJ ⟨_, _, _, _⟩ w (hl.below hm.below) (by assumption)) J J ?_ | refine bg rfl (ap J J J J ⟨J, trivial⟩ rfl (by kernel_rfl)) (fun w hm => wD _ _ _ _ _ _ _ _ _ _ _ _ _ _ _ _ w) J J ?_ | refine bg rfl (ap J J J J ⟨J, trivial⟩ rfl (by kernel_rfl)) (fun w hm => dP _ _ _ _ _ _ _ _ _ _ _ _ _ _ _ _ _ _ _ _ w) J J ?_ | refine bm rfl (ap J J J J ⟨J, trivial⟩ rfl (by kernel_rfl)) rfl (fun w hm => dP _ _ _ _ _ _ _ _ _ _ _ _ _ _ _ _ _ _ _ _ w) J J ?_ | refine bm rfl (ap J J J J ⟨J, J, trivial⟩ rfl (by kernel_rfl)) rfl (fun w hm => uA _ _ _ _ _ _ _ _ _ _ _ _ _ _ _ _ _ _ _ _ _ w) J J ?_ | refine bm rfl (ap J J J J ⟨J, trivial⟩ rfl (by kernel_rfl)) rfl (fun w hm => ie _ w) J J ?_ | refine bm rfl (ap J J J J ⟨J, J, trivial⟩ rfl (by kernel_rfl)) rfl (fun w hm => pf ⟨_, _, _⟩ _ w) J J ?_ | refine bg rfl (ap J J J J ⟨J, J, trivial⟩ rfl (by kernel_rfl)) (fun w hm => qZ _ _ _ _ _ _ _ _ _ _ _ _ _ _ _ _ _ _ _ _ _ _ _ _ w (by assumption)) J J ?_ | refine bg rfl (ap J J J J ⟨J, J, trivial⟩ rfl (by kernel_rfl)) (fun w hm => nM _ _ _ _ _ _ _ _ _ _ _ _ _ _ _ _ _ _ _ _ w (by assumption)) J J ?_ | (refine eG J J J J J J ?_; intro g) | (refine dM af J J J J J J ?_; intro g) | refine bY af J J J J J J ?_ | refine aC af 0 J J J J J J J J J J J J ?_ | refine aC af 1 J J J J J J J J J J J J ?_ | refine aC af 2 J J J J J J J J J J J J ?_ | refine aC af 3 J J J J J J J J J J J J ?_ | refine aC af 4 J J J J J J J J J J J J ?_ | refine cz rfl (fun h => ?_) (fun h => ?_))
  all_goals
    (first | refine aO af (fun _ => 0) J J ⟨J, trivial⟩ rfl fun w hm => ⟨?_, hm.below⟩ | refine aO af (fun _ => 1) J J ⟨J, trivial⟩ rfl fun w hm => ⟨?_, hm.below⟩ | refine aO af (fun _ => 2) J J ⟨J, trivial⟩ rfl fun w hm => ⟨?_, hm.below⟩)
  all_goals
    refine wF _ _ _ _ _ _ _ _ _ _ _ _ _ _ _ _ _ ?_
    clear htx hfd hm hl
    have hv := fun h => pj (s := (⟨id, sd, sh, st, gt, se, ge, dn, c, tx, ⟨wa, wb, wc⟩, ⟨ra, rb, rc⟩⟩ : StV)) h
    have hw1 := fun h => nX (n := st) h
    have hw2 := fun h => nX (n := gt) h
    have hfu := fun h => qY (f := (⟨fk, fs, fn, fd⟩ : FrV)) h
    unfold bh jb eg dN iL
    try unfold sy sA
    try unfold sx at *
    try (generalize cS ⟨wa, wb, wc⟩ (au fd) = r at *; obtain ⟨⟨r1, r2, r3⟩, r4⟩ := r)
    try (generalize bo ⟨ra, rb, rc⟩ (au fd) = r at *; obtain ⟨⟨r1, r2, r3⟩, r4⟩ := r)
    try (generalize cC ⟨wa, wb, wc⟩ fn = r at *; obtain ⟨⟨r1, r2, r3⟩, r4⟩ := r)
    by_cases hsd : sd = 1 <;> first | grind | (clear hw1 hw2 hv hfu; grind (splits := 40)) | (clear hw1 hw2 hv hfu; simp_all; have hh := ‹((_ ∧ _) ∧ fs = id) ∧ _›; obtain ⟨⟨⟨_, ha⟩, rfl⟩, hb⟩ := hh; exact ⟨ha, by omega, by omega⟩)
set_option maxRecDepth 100000 in
set_option maxHeartbeats 4000000 in
theorem Bu (id sd sh st gt : Int) (se ge dn : Bool) (c : Int) (tx : ByteArray) (wa wb wc ra rb rc : Int) (fk fs fn : Int) (fd : ByteArray) (w : World) (htx : tx.size ≤ 4611686018427387900) (hfd : fd.size < 4294967281) (hl : MLen w) : Calls Tryz.prog 127 #[.agg #[.int .i64 id, .int .i64 sd, .int .i64 sh, .int .i64 st, .int .i64 gt, .bool se, .bool ge, .bool dn, .int .i64 c, .string tx, .int .i64 wa, .int .i64 wb, .int .i64 wc, .int .i64 ra, .int .i64 rb, .int .i64 rc], .agg #[.int .i64 fk, .int .i64 fs, .int .i64 fn, .string fd]] w fun e w' => e = .returned (.tuple #[.agg (nj (bp (⟨id, sd, sh, st, gt, se, ge, dn, c, tx, ⟨wa, wb, wc⟩, ⟨ra, rb, rc⟩⟩ : StV) (⟨fk, fs, fn, fd⟩ : FrV)).st), .int .i64 (bp (⟨id, sd, sh, st, gt, se, ge, dn, c, tx, ⟨wa, wb, wc⟩, ⟨ra, rb, rc⟩⟩ : StV) (⟨fk, fs, fn, fd⟩ : FrV)).err]) ∧ Below w.heap.size w w' := by
  refine aA Tryz.func127 rfl Tryz.ntmps127 J J ?_
  repeat' (first | refine bc ?_ | refine aH ?_ | refine bB ?_ | refine cL ?_ | refine cJ ?_ | refine lZ ?_ | refine bk ?_ | refine fu ?_ | refine jx ?_ | refine aL am rfl (by kernel_rfl) ?_ | refine co ?_ | refine bW ?_ | (refine bC ?_; intro g) | ((first | refine' dZ rfl ?_ J J ?_ | refine' di rfl ?_ J J J ?_); rotate_left; first | exact aI af J J J J | exact bw af J J J J J J | exact ew J J J J J | exact ab af 0 J J J J J | exact ab af 1 J J J J J | exact ab af 2 J J J J J | exact ab af 3 J J J J J | exact ab af 4 J J J J J) | refine bg rfl (ap J J J J ⟨J, trivial⟩ rfl (by kernel_rfl)) (fun w hm => ni _ _ _ _ _ _ _ _ _ _ _ _ _ _ _ _ w (by omega)) J J ?_ | refine bg rfl (ap J J J J ⟨J, trivial⟩ rfl (by kernel_rfl)) (fun w hm => hJ ⟨_, _, _, _⟩ w (hl.below hm.below) (by assumption)) J J ?_ | refine bg rfl (ap J J J J ⟨J, trivial⟩ rfl (by kernel_rfl)) (fun w hm => wD _ _ _ _ _ _ _ _ _ _ _ _ _ _ _ _ w) J J ?_ | refine bg rfl (ap J J J J ⟨J, trivial⟩ rfl (by kernel_rfl)) (fun w hm => dP _ _ _ _ _ _ _ _ _ _ _ _ _ _ _ _ _ _ _ _ w) J J ?_ | refine bm rfl (ap J J J J ⟨J, trivial⟩ rfl (by kernel_rfl)) rfl (fun w hm => dP _ _ _ _ _ _ _ _ _ _ _ _ _ _ _ _ _ _ _ _ w) J J ?_ | refine bm rfl (ap J J J J ⟨J, J, trivial⟩ rfl (by kernel_rfl)) rfl (fun w hm => uA _ _ _ _ _ _ _ _ _ _ _ _ _ _ _ _ _ _ _ _ _ w) J J ?_ | refine bm rfl (ap J J J J ⟨J, trivial⟩ rfl (by kernel_rfl)) rfl (fun w hm => ie _ w) J J ?_ | refine bm rfl (ap J J J J ⟨J, J, trivial⟩ rfl (by kernel_rfl)) rfl (fun w hm => my ⟨_, _, _⟩ _ w) J J ?_ | refine bg rfl (ap J J J J ⟨J, J, trivial⟩ rfl (by kernel_rfl)) (fun w hm => ph ⟨_, _, _⟩ _ w) J J ?_ | refine bg rfl (ap J J J J ⟨J, J, trivial⟩ rfl (by kernel_rfl)) (fun w hm => qZ _ _ _ _ _ _ _ _ _ _ _ _ _ _ _ _ _ _ _ _ _ _ _ _ w (by assumption)) J J ?_ | refine bg rfl (ap J J J J ⟨J, J, trivial⟩ rfl (by kernel_rfl)) (fun w hm => nM _ _ _ _ _ _ _ _ _ _ _ _ _ _ _ _ _ _ _ _ w (by assumption)) J J ?_ | (refine eG J J J J J J ?_; intro g) | (refine dM af J J J J J J ?_; intro g) | refine bY af J J J J J J ?_ | refine aC af 0 J J J J J J J J J J J J ?_ | refine aC af 1 J J J J J J J J J J J J ?_ | refine aC af 2 J J J J J J J J J J J J ?_ | refine aC af 3 J J J J J J J J J J J J ?_ | refine aC af 4 J J J J J J J J J J J J ?_ | refine cz rfl (fun h => ?_) (fun h => ?_))
  all_goals
    (first | refine aO af (fun _ => 0) J J ⟨J, trivial⟩ rfl fun w hm => ⟨?_, hm.below⟩ | refine aO af (fun _ => 1) J J ⟨J, trivial⟩ rfl fun w hm => ⟨?_, hm.below⟩ | refine aO af (fun _ => 2) J J ⟨J, trivial⟩ rfl fun w hm => ⟨?_, hm.below⟩)
  all_goals
    refine wF _ _ _ _ _ _ _ _ _ _ _ _ _ _ _ _ _ ?_
    clear htx hfd hm hl
    have hv := fun h => pj (s := (⟨id, sd, sh, st, gt, se, ge, dn, c, tx, ⟨wa, wb, wc⟩, ⟨ra, rb, rc⟩⟩ : StV)) h
    have hw1 := fun h => nX (n := st) h
    have hw2 := fun h => nX (n := gt) h
    have hfu := fun h => qY (f := (⟨fk, fs, fn, fd⟩ : FrV)) h
    unfold bp jb eg dN iL
    try unfold sy sA
    try unfold sx at *
    try (generalize cS ⟨wa, wb, wc⟩ (au fd) = r at *; obtain ⟨⟨r1, r2, r3⟩, r4⟩ := r)
    try (generalize bo ⟨ra, rb, rc⟩ (au fd) = r at *; obtain ⟨⟨r1, r2, r3⟩, r4⟩ := r)
    try (generalize cC ⟨wa, wb, wc⟩ fn = r at *; obtain ⟨⟨r1, r2, r3⟩, r4⟩ := r)
    by_cases hsd : sd = 1 <;> first | grind | (clear hw1 hw2 hv hfu; grind (splits := 40)) | (clear hw1 hw2 hv hfu; simp_all; have hh := ‹((_ ∧ _) ∧ fs = id) ∧ _›; obtain ⟨⟨⟨_, ha⟩, rfl⟩, hb⟩ := hh; exact ⟨ha, by omega, by omega⟩)
set_option maxRecDepth 100000 in
set_option maxHeartbeats 4000000 in
theorem DW (id sd sh st gt : Int) (se ge dn : Bool) (c : Int) (tx : ByteArray) (wa wb wc ra rb rc : Int) (tc : Int) (tt : ByteArray) (w : World) (htx : tx.size ≤ 4611686018427387900) (htt : tt.size ≤ 4611686018427387900) : Calls Tryz.prog 114 #[.agg #[.int .i64 id, .int .i64 sd, .int .i64 sh, .int .i64 st, .int .i64 gt, .bool se, .bool ge, .bool dn, .int .i64 c, .string tx, .int .i64 wa, .int .i64 wb, .int .i64 wc, .int .i64 ra, .int .i64 rb, .int .i64 rc], .agg #[.int .i64 tc, .string tt]] w fun e w' => e = .returned (.agg (nj (uk (⟨id, sd, sh, st, gt, se, ge, dn, c, tx, ⟨wa, wb, wc⟩, ⟨ra, rb, rc⟩⟩ : StV) tc tt))) ∧ Below w.heap.size w w' := by
  refine aA Tryz.func114 rfl Tryz.ntmps114 J J ?_
  repeat' (first | refine bc ?_ | refine aH ?_ | refine bB ?_ | refine cL ?_ | refine cJ ?_ | refine bk ?_ | refine co ?_ | ((refine' dZ rfl ?_ J J ?_); rotate_left; first | exact aI af J J J J | exact bw af J J J J J J | exact ew J J J J J | exact ab af 1 J J J J J | exact ab af 2 J J J J J) | refine bg rfl (ap J J J J ⟨J, trivial⟩ rfl (by kernel_rfl)) (fun w hm => ni _ _ _ _ _ _ _ _ _ _ _ _ _ _ _ _ w (by omega)) J J ?_ | refine bg rfl (ap J J J J ⟨J, trivial⟩ rfl (by kernel_rfl)) (fun w hm => kR _ _ w (by omega)) J J ?_ | refine bg rfl (ap J J J J ⟨J, J, trivial⟩ rfl (by kernel_rfl)) (fun w hm => uB _ _ _ _ _ _ _ _ _ _ _ _ _ _ _ _ _ _ w) J J ?_ | (refine eG J J J J J J ?_; intro g) | (refine dM af J J J J J J ?_; intro g) | refine aC af 0 J J J J J J J J J J J J ?_ | refine cz rfl (fun h => ?_) (fun h => ?_))
  all_goals
    (refine aO af (fun _ => 0) J J ⟨J, trivial⟩ rfl fun w hm => ⟨?_, hm.below⟩)
    refine FG _ _ _ _ _ _ _ _ _ _ _ _ _ _ _ _ ?_
    clear htx htt hm
    unfold uk dN
    grind
set_option maxRecDepth 100000 in
set_option maxHeartbeats 4000000 in
theorem uC (n : Int) (w : World) : Calls Tryz.prog 18 #[.int .i64 n] w fun e w' => e = .returned (.tuple #[.agg (bS (jT n).win), .int .i64 (jT n).err]) ∧ Below w.heap.size w w' := by
  refine aA Tryz.func18 rfl Tryz.ntmps18 J J ?_
  repeat' (first | refine bc ?_ | refine aH ?_ | refine bB ?_ | refine cL ?_ | refine cJ ?_ | refine bk ?_ | refine co ?_ | ((refine' dZ rfl ?_ J J ?_); rotate_left; first | exact aI af J J J J | exact bw af J J J J J J | exact ew J J J J J | exact aj af J J trivial J J J | exact aj af J J ⟨J, J, trivial⟩ J J J) | (refine dM af J J J J J J ?_; intro g) | refine aC af 0 J J J J J J J J J J J J ?_ | refine cz rfl (fun h => ?_) (fun h => ?_))
  all_goals
    (refine aO af (fun _ => 0) J J ⟨J, trivial⟩ rfl fun w hm => ⟨?_, hm.below⟩)
    unfold jT
    split <;> simp_all <;> omega
set_option maxRecDepth 100000 in
set_option maxHeartbeats 4000000 in
theorem pp (id sd sh n : Int) (w : World) : Calls Tryz.prog 22 #[.int .i64 id, .int .i64 sd, .int .i64 sh, .int .i64 n] w fun e w' => e = .returned (.tuple #[.agg (nj (dq id sd sh n).st), .int .i64 (dq id sd sh n).err]) ∧ Below w.heap.size w w' := by
  refine aA Tryz.func22 rfl Tryz.ntmps22 J J ?_
  repeat' (first | refine bc ?_ | refine aH ?_ | refine bB ?_ | refine cL ?_ | refine cJ ?_ | refine bk ?_ | refine co ?_ | ((refine' dZ rfl ?_ J J ?_); rotate_left; first | exact aI af J J J J | exact bw af J J J J J J | exact ew J J J J J | exact eF J J J J J | exact ab af 0 J J J J J | exact aj af J J trivial J J J | exact aj af J J ⟨J, J, J, J, J, trivial⟩ J J J) | refine bg rfl (ap J J J J ⟨J, trivial⟩ rfl (by kernel_rfl)) (fun w hm => uC _ w) J J ?_ | (refine dM af J J J J J J ?_; intro g) | refine aC af 0 J J J J J J J J J J J J ?_ | refine aC af 1 J J J J J J J J J J J J ?_ | refine cz rfl (fun h => ?_) (fun h => ?_))
  all_goals
    (refine aO af (fun _ => 1) J J ⟨J, trivial⟩ rfl fun w hm => ⟨?_, hm.below⟩)
    refine wF _ _ _ _ _ _ _ _ _ _ _ _ _ _ _ _ _ ?_
    clear hm
    unfold dq Bm sU jT at *
    grind
end Go.Proofs.YtklcfjlmlbnkaaaGreatDoor.Y
namespace Go.Proofs.YtklcfjlmlbnkaaaGreatDoor.Y
open Go.RowKit
end Go.Proofs.YtklcfjlmlbnkaaaGreatDoor.Y
