/- Streams: Send and Receive of the reference, walked; the laws StreamSends and StreamReceives. -/
import Derived.Test.YthiocbcokfondaaGreatDoorVStr2Y
import Derived.Test.YthiocbcokfondaaGreatDoorVBunR
namespace Go.Proofs.YthiocbcokfondaaGreatDoor.Y
open Go.RowKit
def sR (s : cP) (f : cO) (window : Bool) : Bool := cn s && (bC f == 0) && (f.strm == s.id) && (f.kind == 2 || f.kind == 3 || f.kind == 4 || f.kind == 5 || (window && f.kind == 6))
def u4 (s : cP) (f : cO) : Int :=
  if f.kind = 2 then (if s.se = true then 20 else if jV (if s.side = 1 then c2 s.shape else c4 s.shape) ≤ s.sent then 11 else 0)
  else if f.kind = 3 then (if s.se = true ∨ s.side = 2 then 20 else if s.sent < (if s.side = 1 then c1 s.shape else c3 s.shape) then 11 else 0)
  else if f.kind = 4 then (if s.side = 1 then 20 else if (bl f.data).code = 0 ∧ ek s = true then 11 else 0) else 0
def p6 (s : cP) (f : cO) : cP :=
  if f.kind = 2 then { s with sent := IntKind.i64.wrap (s.sent + 1) } else if f.kind = 3 then { s with se := true }
  else if f.kind = 4 then gW s (bl f.data).code (bl f.data).text else if f.kind = 5 then gW s f.num ⟨#[]⟩ else s
set_option maxRecDepth 100000 in
set_option maxHeartbeats 4000000 in
theorem jx (d : ByteArray) (w : World) : Calls Tryz.prog 112 #[.string d] w fun e w' => e = .returned (.int .i64 (bE d)) ∧ Below w.heap.size w w' := by
  refine aI Tryz.func112 rfl Tryz.ntmps112 J J ?_
  repeat' (first | refine ah ?_ | refine aa ?_ | refine ab ?_ | refine az ?_ | refine ae ?_ | ((refine' am rfl ?_ J J ?_); rotate_left; first | exact ai af J J J J | exact aV af J J J J J J J | exact ka J J J J J))
  all_goals
    refine ay af (fun _ => 0) J J trivial rfl fun w hm => ⟨?_, hm.below⟩
    congr 2
    unfold bE
    split <;> split <;> omega
set_option maxRecDepth 100000 in
set_option maxHeartbeats 4000000 in
theorem sS (id sd sh st gt : Int) (se ge dn : Bool) (c : Int) (tx : ByteArray) (wa wb wc ra rb rc : Int) (fk fs fn : Int) (fd : ByteArray) (wd : Bool) (w : World) (htx : tx.size ≤ 4611686018427387900) (hfd : fd.size < 4294967281) : Calls Tryz.prog 170 #[.agg #[.int .i64 id, .int .i64 sd, .int .i64 sh, .int .i64 st, .int .i64 gt, .bool se, .bool ge, .bool dn, .int .i64 c, .string tx, .int .i64 wa, .int .i64 wb, .int .i64 wc, .int .i64 ra, .int .i64 rb, .int .i64 rc], .agg #[.int .i64 fk, .int .i64 fs, .int .i64 fn, .string fd], .bool wd] w fun e w' => e = .returned (.bool (sR (⟨id, sd, sh, st, gt, se, ge, dn, c, tx, ⟨wa, wb, wc⟩, ⟨ra, rb, rc⟩⟩ : cP) (⟨fk, fs, fn, fd⟩ : cO) wd)) ∧ Below w.heap.size w w' := by
  refine aI Tryz.func170 rfl Tryz.ntmps170 J J ?_
  repeat' (first | refine ah ?_ | refine aa ?_ | refine ab ?_ | refine az ?_ | refine ae ?_ | ((refine' am rfl ?_ J J ?_); rotate_left; first | exact ai af J J J J | exact ap af J J J J J J | exact bH J J J J J | exact bJ J J J J J | exact ag af 0 J J J J J | exact ag af 1 J J J J J) | refine aH rfl (av J J J J ⟨J, trivial⟩ rfl (by kernel_rfl)) (fun w hm => kQ _ _ _ _ _ _ _ _ _ _ _ _ _ _ _ _ w (by assumption)) J J ?_ | refine aH rfl (av J J J J ⟨J, trivial⟩ rfl (by kernel_rfl)) (fun w hm => jQ ⟨_, _, _, _⟩ w (by assumption)) J J ?_ | (refine aW J J J J J J ?_; intro g))
  all_goals
    refine ay af (fun _ => 0) J J trivial rfl fun w hm => ⟨?_, hm.below⟩
    refine l4 ?_
    clear hm
    unfold sR
    grind
set_option maxRecDepth 100000 in
set_option maxHeartbeats 4000000 in
theorem o9 (id sd sh st gt : Int) (se ge dn : Bool) (c : Int) (tx : ByteArray) (wa wb wc ra rb rc : Int) (w : World) : Calls Tryz.prog 197 #[.agg #[.int .i64 id, .int .i64 sd, .int .i64 sh, .int .i64 st, .int .i64 gt, .bool se, .bool ge, .bool dn, .int .i64 c, .string tx, .int .i64 wa, .int .i64 wb, .int .i64 wc, .int .i64 ra, .int .i64 rb, .int .i64 rc]] w fun e w' => e = .returned (.tuple #[.int .i64 (if sd = 1 then c1 sh else c3 sh), .int .i64 (if sd = 1 then c2 sh else c4 sh)]) ∧ Below w.heap.size w w' := by
  refine aI Tryz.func197 rfl Tryz.ntmps197 J J ?_
  repeat' (first | refine ah ?_ | refine aa ?_ | refine ab ?_ | refine az ?_ | refine ar ?_ | refine ak ?_ | refine ae ?_ | ((refine' am rfl ?_ J J ?_); rotate_left; first | exact ai af J J J J | exact ap af J J J J J J | exact ag af 0 J J J J J) | refine aH rfl (av J J J J ⟨J, trivial⟩ rfl (by kernel_rfl)) (fun w hm => iG (jq _ w)) J J ?_ | (refine aW J J J J J J ?_; intro g) | refine bI rfl (fun h => ?_) (fun h => ?_))
  all_goals
    refine ay af (fun _ => 0) J J trivial rfl fun w hm => ⟨?_, hm.below⟩
    simp_all
set_option maxRecDepth 100000 in
set_option maxHeartbeats 4000000 in
theorem pb (id sd sh st gt : Int) (se ge dn : Bool) (c : Int) (tx : ByteArray) (wa wb wc ra rb rc : Int) (w : World) : Calls Tryz.prog 198 #[.agg #[.int .i64 id, .int .i64 sd, .int .i64 sh, .int .i64 st, .int .i64 gt, .bool se, .bool ge, .bool dn, .int .i64 c, .string tx, .int .i64 wa, .int .i64 wb, .int .i64 wc, .int .i64 ra, .int .i64 rb, .int .i64 rc]] w fun e w' => e = .returned (.bool (ek (⟨id, sd, sh, st, gt, se, ge, dn, c, tx, ⟨wa, wb, wc⟩, ⟨ra, rb, rc⟩⟩ : cP))) ∧ Below w.heap.size w w' := by
  refine aI Tryz.func198 rfl Tryz.ntmps198 J J ?_
  repeat' (first | refine ah ?_ | refine aa ?_ | refine ab ?_ | refine az ?_ | refine ae ?_ | ((refine' am rfl ?_ J J ?_); rotate_left; first | exact ai af J J J J | exact ap af J J J J J J | exact bH J J J J J | exact bJ J J J J J | exact ag af 0 J J J J J) | refine aH rfl (av J J J J ⟨J, trivial⟩ rfl (by kernel_rfl)) (fun w hm => g0 _ _ _ _ _ _ _ _ _ _ _ _ _ _ _ _ w) J J ?_ | refine aH rfl (av J J J J ⟨J, trivial⟩ rfl (by kernel_rfl)) (fun w hm => gA _ _ _ _ _ _ _ _ _ _ _ _ _ _ _ _ w) J J ?_ | refine aH rfl (av J J J J ⟨J, trivial⟩ rfl (by kernel_rfl)) (fun w hm => iG (jq _ w)) J J ?_ | (refine aW J J J J J J ?_; intro g))
  all_goals
    refine ay af (fun _ => 0) J J trivial rfl fun w hm => ⟨?_, hm.below⟩
    refine l4 ?_
    clear hm
    unfold ek
    grind
set_option maxRecDepth 100000 in
set_option maxHeartbeats 4000000 in
theorem sT (id sd sh st gt : Int) (se ge dn : Bool) (c : Int) (tx : ByteArray) (wa wb wc ra rb rc : Int) (fk fs fn : Int) (fd : ByteArray) (w : World) (hfd : fd.size < 4294967281) : Calls Tryz.prog 171 #[.agg #[.int .i64 id, .int .i64 sd, .int .i64 sh, .int .i64 st, .int .i64 gt, .bool se, .bool ge, .bool dn, .int .i64 c, .string tx, .int .i64 wa, .int .i64 wb, .int .i64 wc, .int .i64 ra, .int .i64 rb, .int .i64 rc], .agg #[.int .i64 fk, .int .i64 fs, .int .i64 fn, .string fd]] w fun e w' => e = .returned (.int .i64 (u4 (⟨id, sd, sh, st, gt, se, ge, dn, c, tx, ⟨wa, wb, wc⟩, ⟨ra, rb, rc⟩⟩ : cP) (⟨fk, fs, fn, fd⟩ : cO))) ∧ Below w.heap.size w w' := by
  refine aI Tryz.func171 rfl Tryz.ntmps171 J J ?_
  repeat' (first | refine ah ?_ | refine aa ?_ | refine ab ?_ | refine az ?_ | refine ar ?_ | refine aK ?_ | refine ak ?_ | refine aE ?_ | refine a7 ?_ | refine aX aQ rfl (by kernel_rfl) ?_ | refine ae ?_ | refine bG ?_ | ((first | refine' am rfl ?_ J J ?_ | refine' dD rfl ?_ J J J ?_); rotate_left; first | exact ai af J J J J | exact ap af J J J J J J | exact bH J J J J J | exact bJ J J J J J | exact ag af 0 J J J J J | exact ag af 1 J J J J J | exact ag af 2 J J J J J) | refine aH rfl (av J J J J ⟨J, trivial⟩ rfl (by kernel_rfl)) (fun w hm => o9 _ _ _ _ _ _ _ _ _ _ _ _ _ _ _ _ w) J J ?_ | refine aH rfl (av J J J J ⟨J, trivial⟩ rfl (by kernel_rfl)) (fun w hm => dX _ w (by omega)) J J ?_ | refine bk rfl (av J J J J ⟨J, trivial⟩ rfl (by kernel_rfl)) rfl (fun w hm => nM _ w) J J ?_ | refine aH rfl (av J J J J ⟨J, trivial⟩ rfl (by kernel_rfl)) (fun w hm => pb _ _ _ _ _ _ _ _ _ _ _ _ _ _ _ _ w) J J ?_ | (refine aW J J J J J J ?_; intro g) | (refine aN af J J J J J J ?_; intro g) | refine aq af 0 J J J J J J J J J J J J ?_ | refine bI rfl (fun h => ?_) (fun h => ?_))
  all_goals
    refine ay af (fun _ => 0) J J trivial rfl fun w hm => ⟨?_, hm.below⟩
    refine kO ?_
    clear hm hfd
    unfold u4
    grind
set_option maxRecDepth 100000 in
set_option maxHeartbeats 4000000 in
theorem qQ (id sd sh st gt : Int) (se ge dn : Bool) (c : Int) (tx : ByteArray) (wa wb wc ra rb rc : Int) (fk fs fn : Int) (fd : ByteArray) (w : World) (hfd : fd.size < 4294967281) : Calls Tryz.prog 172 #[.agg #[.int .i64 id, .int .i64 sd, .int .i64 sh, .int .i64 st, .int .i64 gt, .bool se, .bool ge, .bool dn, .int .i64 c, .string tx, .int .i64 wa, .int .i64 wb, .int .i64 wc, .int .i64 ra, .int .i64 rb, .int .i64 rc], .agg #[.int .i64 fk, .int .i64 fs, .int .i64 fn, .string fd]] w fun e w' => e = .returned (.agg (jw (p6 (⟨id, sd, sh, st, gt, se, ge, dn, c, tx, ⟨wa, wb, wc⟩, ⟨ra, rb, rc⟩⟩ : cP) (⟨fk, fs, fn, fd⟩ : cO)))) ∧ Below w.heap.size w w' := by
  refine aI Tryz.func172 rfl Tryz.ntmps172 J J ?_
  repeat' (first | refine ah ?_ | refine aa ?_ | refine ab ?_ | refine az ?_ | refine ar ?_ | refine aK ?_ | refine ak ?_ | refine aE ?_ | refine a7 ?_ | refine ae ?_ | ((refine' am rfl ?_ J J ?_); rotate_left; first | exact ai af J J J J | exact ap af J J J J J J | exact ag af 0 J J J J J | exact ag af 1 J J J J J | exact ag af 2 J J J J J | exact ag af 3 J J J J J | exact aT af J J ⟨J, trivial⟩ J J J) | refine aH rfl (av J J J J ⟨J, trivial⟩ rfl (by kernel_rfl)) (fun w hm => dX _ w (by omega)) J J ?_ | refine aH rfl (av J J J J ⟨J, J, trivial⟩ rfl (by kernel_rfl)) (fun w hm => qP _ _ _ _ _ _ _ _ _ _ _ _ _ _ _ _ _ _ w) J J ?_ | (refine aW J J J J J J ?_; intro g) | (refine aN af J J J J J J ?_; intro g) | refine aq af 0 J J J J J J J J J J J J ?_ | refine aq af 1 J J J J J J J J J J J J ?_ | refine aq af 2 J J J J J J J J J J J J ?_ | refine bI rfl (fun h => ?_) (fun h => ?_))
  all_goals
    (first | refine ay af (fun _ => 0) J J ⟨J, trivial⟩ rfl fun w hm => ⟨?_, hm.below⟩ | refine ay af (fun _ => 1) J J ⟨J, trivial⟩ rfl fun w hm => ⟨?_, hm.below⟩)
    refine wE _ _ _ _ _ _ _ _ _ _ _ _ _ _ _ _ ?_
    clear hm hfd
    unfold p6 gW
    grind
theorem nN (x : dU) (n : Int) (w : World) : Calls Tryz.prog 173 #[.agg (dK x), .int .i64 n] w fun e w' => e = .returned (.tuple #[.agg (dK (cK x n).win), .int .i64 (cK x n).err]) ∧ Below w.heap.size w w' := by
  obtain ⟨wa, wb, wc⟩ := x
  refine aI Tryz.func173 rfl Tryz.ntmps173 J J ?_
  repeat' (first | refine ah ?_ | refine aa ?_ | refine ab ?_ | refine az ?_ | refine ar ?_ | refine ak ?_ | refine ae ?_ | ((refine' am rfl ?_ J J ?_); rotate_left; first | exact ai af J J J J | exact ap af J J J J J J | exact bH J J J J J | exact ag af 1 J J J J J) | refine aH rfl (av J J J J ⟨J, trivial⟩ rfl (by kernel_rfl)) (fun w hm => gu ⟨_, _, _⟩ w) J J ?_ | (refine aW J J J J J J ?_; intro g) | (refine aN af J J J J J J ?_; intro g) | refine aq af 0 J J J J J J J J J J J J ?_ | refine aq af 1 J J J J J J J J J J J J ?_ | refine bI rfl (fun h => ?_) (fun h => ?_))
  all_goals
    (refine ay af (fun _ => 0) J J ⟨J, trivial⟩ rfl fun w hm => ⟨?_, hm.below⟩)
    clear hm
    unfold cK at *
    have w1 := fun h => IntWalk.i64_in (wb - n) h
    have w2 := fun h => IntWalk.i64_in (wc + n) h
    have w3 := fun h => IntWalk.i64_in (1048576 - wb) h
    have w4 := fun h => IntWalk.i64_in (1048576 - wb - wc) h
    have w5 := fun h => IntWalk.i64_in (wb + n) h
    unfold di at *
    grind
theorem mL {s : cP} (h : cn s = true) : s.side = 1 ∨ s.side = 2 := by
  unfold cn mz at h
  simp only [Bool.and_eq_true, decide_eq_true_eq] at h
  exact h.1.1.1.2.2
set_option maxRecDepth 100000 in
set_option maxHeartbeats 4000000 in
theorem qR (id sd sh st gt : Int) (se ge dn : Bool) (c : Int) (tx : ByteArray) (wa wb wc ra rb rc : Int) (fk fs fn : Int) (fd : ByteArray) (w : World) (htx : tx.size ≤ 4611686018427387900) (hfd : fd.size < 4294967281) : Calls Tryz.prog 116 #[.agg #[.int .i64 id, .int .i64 sd, .int .i64 sh, .int .i64 st, .int .i64 gt, .bool se, .bool ge, .bool dn, .int .i64 c, .string tx, .int .i64 wa, .int .i64 wb, .int .i64 wc, .int .i64 ra, .int .i64 rb, .int .i64 rc], .agg #[.int .i64 fk, .int .i64 fs, .int .i64 fn, .string fd]] w fun e w' => e = .returned (.tuple #[.agg (jw (cD (⟨id, sd, sh, st, gt, se, ge, dn, c, tx, ⟨wa, wb, wc⟩, ⟨ra, rb, rc⟩⟩ : cP) (⟨fk, fs, fn, fd⟩ : cO)).st), .int .i64 (cD (⟨id, sd, sh, st, gt, se, ge, dn, c, tx, ⟨wa, wb, wc⟩, ⟨ra, rb, rc⟩⟩ : cP) (⟨fk, fs, fn, fd⟩ : cO)).err]) ∧ Below w.heap.size w w' := by
  refine aI Tryz.func116 rfl Tryz.ntmps116 J J ?_
  repeat' (first | refine ah ?_ | refine aa ?_ | refine ab ?_ | refine az ?_ | refine ar ?_ | refine ak ?_ | refine aX aQ rfl (by kernel_rfl) ?_ | refine ae ?_ | refine bG ?_ | (refine fK ?_; intro g) | ((first | refine' am rfl ?_ J J ?_ | refine' dD rfl ?_ J J J ?_); rotate_left; first | exact ai af J J J J | exact ap af J J J J J J | exact ag af 0 J J J J J | exact ag af 1 J J J J J | exact ag af 2 J J J J J | exact ag af 3 J J J J J | exact ag af 4 J J J J J) | refine aH rfl (av J J J J ⟨J, J, J, trivial⟩ rfl (by kernel_rfl)) (fun w hm => sS _ _ _ _ _ _ _ _ _ _ _ _ _ _ _ _ _ _ _ _ _ w (by assumption) (by assumption)) J J ?_ | refine aH rfl (av J J J J ⟨J, J, trivial⟩ rfl (by kernel_rfl)) (fun w hm => sT _ _ _ _ _ _ _ _ _ _ _ _ _ _ _ _ _ _ _ _ w (by assumption)) J J ?_ | refine aH rfl (av J J J J ⟨J, J, trivial⟩ rfl (by kernel_rfl)) (fun w hm => qQ _ _ _ _ _ _ _ _ _ _ _ _ _ _ _ _ _ _ _ _ w (by assumption)) J J ?_ | refine bk rfl (av J J J J ⟨J, trivial⟩ rfl (by kernel_rfl)) rfl (fun w hm => jx _ w) J J ?_ | refine bk rfl (av J J J J ⟨J, J, trivial⟩ rfl (by kernel_rfl)) rfl (fun w hm => nN ⟨_, _, _⟩ _ w) J J ?_ | (refine aW J J J J J J ?_; intro g) | (refine aN af J J J J J J ?_; intro g) | refine eN af J J J J J J ?_ | refine aq af 0 J J J J J J J J J J J J ?_ | refine aq af 1 J J J J J J J J J J J J ?_ | refine aq af 2 J J J J J J J J J J J J ?_ | refine bI rfl (fun h => ?_) (fun h => ?_))
  all_goals
    (first | refine ay af (fun _ => 0) J J ⟨J, trivial⟩ rfl fun w hm => ⟨?_, hm.below⟩ | refine ay af (fun _ => 1) J J ⟨J, trivial⟩ rfl fun w hm => ⟨?_, hm.below⟩ | refine ay af (fun _ => 2) J J ⟨J, trivial⟩ rfl fun w hm => ⟨?_, hm.below⟩)
  all_goals
    refine o8 _ _ _ _ _ _ _ _ _ _ _ _ _ _ _ _ _ ?_
    clear htx hfd hm
    have hv := fun h => kP (s := (⟨id, sd, sh, st, gt, se, ge, dn, c, tx, ⟨wa, wb, wc⟩, ⟨ra, rb, rc⟩⟩ : cP)) h
    have hsd := fun h => mL (s := (⟨id, sd, sh, st, gt, se, ge, dn, c, tx, ⟨wa, wb, wc⟩, ⟨ra, rb, rc⟩⟩ : cP)) h
    have hw1 := fun h => jY (n := st) h
    have hw2 := fun h => jY (n := gt) h
    have hfu := fun h => l5 (f := (⟨fk, fs, fn, fd⟩ : cO)) h
    have e1 : IntKind.i64.wrap (3 - 1) = 2 := by decide
    have e2 : IntKind.i64.wrap (3 - 2) = 1 := by decide
    by_cases hs1 : sd = 1
    · subst hs1
      have et : ek ⟨id, 2, sh, gt, st, ge, se, dn, c, tx, ⟨ra, rb, rc⟩, ⟨wa, wb, wc⟩⟩ = ek ⟨id, 1, sh, st, gt, se, ge, dn, c, tx, ⟨wa, wb, wc⟩, ⟨ra, rb, rc⟩⟩ := by simp [ek, jW, kx, lr]
      simp only [e1, e2] at *
      unfold cD
      try unfold p6
      try unfold u4 at *
      try unfold sR at *
      try unfold nv
      try unfold fO
      try unfold gW
      try (generalize cK ⟨wa, wb, wc⟩ (bE fd) = r at *; obtain ⟨⟨r1, r2, r3⟩, r4⟩ := r)
      try (generalize eZ ⟨ra, rb, rc⟩ (bE fd) = r at *; obtain ⟨⟨r1, r2, r3⟩, r4⟩ := r)
      try (generalize iO ⟨wa, wb, wc⟩ fn = r at *; obtain ⟨⟨r1, r2, r3⟩, r4⟩ := r)
      first | grind | (rcases (show fk < 2 ∨ fk = 2 ∨ fk = 3 ∨ fk = 4 ∨ fk = 5 ∨ fk = 6 ∨ 6 < fk by omega) with hk | rfl | rfl | rfl | rfl | rfl | hk <;> first | grind | (clear hw1 hw2 hv hfu; grind (splits := 40)) | (clear hw1 hw2 hv hfu; have n2 : fk ≠ 2 := (by omega); have n3 : fk ≠ 3 := (by omega); have n4 : fk ≠ 4 := (by omega); have n5 : fk ≠ 5 := (by omega); have n6 : fk ≠ 6 := (by omega); simp_all; done) | (clear hw1 hw2 hv hfu; simp_all; done) | (have d1 : IntKind.i64.wrap (3 - 1) = 2 := (by decide); have d2 : IntKind.i64.wrap (3 - 2) = 1 := (by decide); have d3 : IntKind.i64.wrap 2 = 2 := (by decide); have d4 : IntKind.i64.wrap 1 = 1 := (by decide); simp_all; grind) | (have d1 : IntKind.i64.wrap (3 - 1) = 2 := (by decide); have d2 : IntKind.i64.wrap (3 - 2) = 1 := (by decide); have d3 : IntKind.i64.wrap 2 = 2 := (by decide); have d4 : IntKind.i64.wrap 1 = 1 := (by decide); simp_all; grind))
    · by_cases hs2 : sd = 2
      · subst hs2
        have et : ek ⟨id, 1, sh, gt, st, ge, se, dn, c, tx, ⟨ra, rb, rc⟩, ⟨wa, wb, wc⟩⟩ = ek ⟨id, 2, sh, st, gt, se, ge, dn, c, tx, ⟨wa, wb, wc⟩, ⟨ra, rb, rc⟩⟩ := by simp [ek, jW, kx, lr]
        simp only [e1, e2] at *
        unfold cD
        try unfold p6
        try unfold u4 at *
        try unfold sR at *
        try unfold nv
        try unfold fO
        try unfold gW
        try (generalize cK ⟨wa, wb, wc⟩ (bE fd) = r at *; obtain ⟨⟨r1, r2, r3⟩, r4⟩ := r)
        try (generalize eZ ⟨ra, rb, rc⟩ (bE fd) = r at *; obtain ⟨⟨r1, r2, r3⟩, r4⟩ := r)
        try (generalize iO ⟨wa, wb, wc⟩ fn = r at *; obtain ⟨⟨r1, r2, r3⟩, r4⟩ := r)
        first | grind | (rcases (show fk < 2 ∨ fk = 2 ∨ fk = 3 ∨ fk = 4 ∨ fk = 5 ∨ fk = 6 ∨ 6 < fk by omega) with hk | rfl | rfl | rfl | rfl | rfl | hk <;> first | grind | (clear hw1 hw2 hv hfu; grind (splits := 40)) | (clear hw1 hw2 hv hfu; have n2 : fk ≠ 2 := (by omega); have n3 : fk ≠ 3 := (by omega); have n4 : fk ≠ 4 := (by omega); have n5 : fk ≠ 5 := (by omega); have n6 : fk ≠ 6 := (by omega); simp_all; done) | (clear hw1 hw2 hv hfu; simp_all; done) | (have d1 : IntKind.i64.wrap (3 - 1) = 2 := (by decide); have d2 : IntKind.i64.wrap (3 - 2) = 1 := (by decide); have d3 : IntKind.i64.wrap 2 = 2 := (by decide); have d4 : IntKind.i64.wrap 1 = 1 := (by decide); simp_all; grind) | (have d1 : IntKind.i64.wrap (3 - 1) = 2 := (by decide); have d2 : IntKind.i64.wrap (3 - 2) = 1 := (by decide); have d3 : IntKind.i64.wrap 2 = 2 := (by decide); have d4 : IntKind.i64.wrap 1 = 1 := (by decide); simp_all; grind))
      · have hbad : cn (⟨id, sd, sh, st, gt, se, ge, dn, c, tx, ⟨wa, wb, wc⟩, ⟨ra, rb, rc⟩⟩ : cP) = false := by cases hh : cn (⟨id, sd, sh, st, gt, se, ge, dn, c, tx, ⟨wa, wb, wc⟩, ⟨ra, rb, rc⟩⟩ : cP) with | false => rfl | true => exact absurd (hsd hh) (by simp only; omega)
        unfold cD
        try unfold sR at *
        first | grind | (clear hw1 hw2 hv hfu; simp_all; done)
end Go.Proofs.YthiocbcokfondaaGreatDoor.Y
