/- Backends of the reference: Pick, Begin, End, Same. -/
import Derived.Test.YtmdkfbmpenohiaaGreatDoorBunR1
import Derived.Test.YtmdkfbmpenohiaaGreatDoorBunCA
namespace Go.Proofs.YtmdkfbmpenohiaaGreatDoor.Y
open Go.RowKit
def qX (now : Int) : List BV → Nat → Option (Nat × BV) → Option (Nat × BV)
  | [], _, b => b
  | x :: r, i, none => qX now r (i + 1) (if x.ot ≤ now then some (i, x) else none)
  | x :: r, i, some (k, y) => qX now r (i + 1) (if x.ot ≤ now ∧ pA x y = true then some (i, x) else some (k, y))
def tX : List BV → Nat → Option (Nat × BV) → Option (Nat × BV)
  | [], _, b => b
  | x :: r, i, none => tX r (i + 1) (some (i, x))
  | x :: r, i, some (k, y) => tX r (i + 1) (if pA x y = true then some (i, x) else some (k, y))
theorem jw (now : Int) : ∀ (r : List BV) (i : Nat) (p : Nat × BV), ∃ q, qX now r i (some p) = some q
  | [], _, p => ⟨p, rfl⟩
  | x :: r, i, (k, y) => by
    rw [qX]
    split <;> exact jw now r _ _
theorem lI (now : Int) : ∀ (r : List BV) (i : Nat) (b1 b2 : Option (Nat × BV)), (∀ k y, b1 = some (k, y) → y.ot ≤ now) → (b1 = none → ∀ k y, b2 = some (k, y) → ¬ y.ot ≤ now) → cZ now r i (match b1 with | some p => some p | none => b2) = match qX now r i b1 with | some p => some p | none => tX r i b2
  | [], i, b1, b2, _, _ => by cases b1 <;> cases b2 <;> rfl
  | x :: r, i, some (k, y), b2, h1, _ => by
    have hy := h1 k y rfl
    rw [qX]
    show cZ now (x :: r) i (some (k, y)) = _
    rw [fO]
    obtain ⟨q, hq⟩ : ∃ q, qX now r (i + 1) (if x.ot ≤ now ∧ pA x y = true then some (i, x) else some (k, y)) = some q := by split <;> exact jw now r _ _
    have ih := fun b1 h => lI now r (i + 1) b1 none h (fun _ k y h => by cases h)
    by_cases hx : x.ot ≤ now
    · have hb : jm now x y = pA x y := by unfold jm; rw [if_pos (by simp [hx, hy])]
      rw [hb]
      by_cases hl : pA x y = true
      · have h9 := ih (some (i, x)) (fun k y h => by obtain ⟨rfl, rfl⟩ := (by simpa using h : i = k ∧ x = y); exact hx)
        rw [if_pos (show x.ot ≤ now ∧ pA x y = true from ⟨hx, hl⟩)] at hq ⊢
        rw [if_pos hl]
        rw [hq] at h9 ⊢
        exact h9
      · have h9 := ih (some (k, y)) (fun k' y' h => by obtain ⟨rfl, rfl⟩ := (by simpa using h : k = k' ∧ y = y'); exact hy)
        rw [if_neg (show ¬ (x.ot ≤ now ∧ pA x y = true) from fun h => hl h.2)] at hq ⊢
        rw [if_neg hl]
        rw [hq] at h9 ⊢
        exact h9
    · have hb : jm now x y = false := by unfold jm; rw [if_neg (by simp [hx, hy])]; exact decide_eq_false hx
      have h9 := ih (some (k, y)) (fun k' y' h => by obtain ⟨rfl, rfl⟩ := (by simpa using h : k = k' ∧ y = y'); exact hy)
      rw [if_neg (show ¬ (x.ot ≤ now ∧ pA x y = true) from fun h => hx h.1)] at hq ⊢
      rw [hb, if_neg (by decide)]
      rw [hq] at h9 ⊢
      exact h9
  | x :: r, i, none, none, h1, h2 => by
    show cZ now (x :: r) i none = _
    rw [kq, qX, tX]
    by_cases hx : x.ot ≤ now
    · rw [if_pos hx]
      obtain ⟨q, hq⟩ := jw now r (i + 1) (i, x)
      have h9 := lI now r (i + 1) (some (i, x)) none (fun k y h => by obtain ⟨rfl, rfl⟩ := (by simpa using h : i = k ∧ x = y); exact hx) (fun h => by cases h)
      rw [hq] at h9 ⊢
      exact h9
    · rw [if_neg hx]
      exact lI now r (i + 1) none (some (i, x)) (fun k y h => by cases h) (fun _ k y h => by obtain ⟨rfl, rfl⟩ := (by simpa using h : i = k ∧ x = y); exact hx)
  | x :: r, i, none, some (k, y), h1, h2 => by
    have hy := h2 rfl k y rfl
    show cZ now (x :: r) i (some (k, y)) = _
    rw [fO, qX, tX]
    by_cases hx : x.ot ≤ now
    · have hb : jm now x y = true := by unfold jm; rw [if_neg (by simp [hx, hy])]; exact decide_eq_true hx
      rw [if_pos hx, if_pos hb]
      obtain ⟨q, hq⟩ := jw now r (i + 1) (i, x)
      have h9 := lI now r (i + 1) (some (i, x)) none (fun k y h => by obtain ⟨rfl, rfl⟩ := (by simpa using h : i = k ∧ x = y); exact hx) (fun h => by cases h)
      rw [hq] at h9 ⊢
      exact h9
    · have hb : jm now x y = pA x y := by unfold jm; rw [if_pos (by simp [hx, hy])]
      rw [if_neg hx, hb]
      by_cases hl : pA x y = true
      · rw [if_pos hl]
        exact lI now r (i + 1) none (some (i, x)) (fun k y h => by cases h) (fun _ k y h => by obtain ⟨rfl, rfl⟩ := (by simpa using h : i = k ∧ x = y); exact hx)
      · rw [if_neg hl]
        exact lI now r (i + 1) none (some (k, y)) (fun k y h => by cases h) (fun _ k' y' h => by obtain ⟨rfl, rfl⟩ := (by simpa using h : k = k' ∧ y = y'); exact hy)
theorem yB (k : Nat) {a : Prop} [Decidable a] {c : Bool} (h : ¬ (a ∧ c = true)) : (decide a && (decide (((k : Nat) : Int) < 0) || c)) = false := by
  rw [show decide (((k : Nat) : Int) < 0) = false from decide_eq_false (by omega), Bool.false_or]
  by_cases h1 : a
  · have h2 : c = false := eq_false_of_ne_true fun h2 => h ⟨h1, h2⟩
    rw [h2, Bool.and_false]
  · rw [decide_eq_false h1, Bool.false_and]
theorem xr (k : Nat) {c : Bool} (h : ¬ c = true) : (decide (((k : Nat) : Int) < 0) || c) = false := by
  rw [show decide (((k : Nat) : Int) < 0) = false from decide_eq_false (by omega), Bool.false_or]
  exact eq_false_of_ne_true h
theorem oM (now : Int) (l : List BV) : cK now l = (match qX (bI now) l 0 none with | some p => some p | none => tX l 0 none : Option (Nat × BV)).map (fun p => p.1) := by
  unfold cK
  rw [show cZ (bI now) l 0 none = _ from lI (bI now) l 0 none none (fun k y h => by cases h) (fun _ k y h => by cases h)]
set_option maxRecDepth 100000 in
set_option maxHeartbeats 16000000 in
theorem r5 {A : Nat → Prop} (x : Option Addr) (l : List BV) (cap : Nat) (now : Int) (w : World) (hR : Rws A w 6 bC x l) (hlen : l.length ≤ 2513169434916) (hok : ∀ b ∈ l, dK b = true) : Calls Tryz.prog 66 #[.slice x l.length cap, .int .i64 now] w fun e w' => e = .returned (.int .i64 (yZ (cK now l))) ∧ Below w.heap.size w w' := by
  refine aD Tryz.func66 rfl Tryz.ntmps66 J J ?_
  repeat' (first | refine ag ?_ | refine aa ?_ | refine ab ?_ | refine aE ?_ | refine ae ?_ | ((refine' ak rfl ?_ J J ?_); rotate_left; exact ai af J J J J))
  refine bF (σ := Nat × Option (Nat × BV)) (fun p => p.1 ≤ l.length ∧ qX (bI now) l 0 none = qX (bI now) (l.drop p.1) p.1 p.2 ∧ ∀ k b, p.2 = some (k, b) → l[k]? = some b) (fun p => [(6, [], .int .i64 ((p.1 : Nat) : Int)), (5, [], .int .i64 (mx p.2)), (0, [], .slice x l.length cap), (1, [], .int .i64 now)]) (fun _ => []) (fun p => l.length - p.1) (0, none) [] ⟨Nat.zero_le _, rfl, fun _ _ h => by cases h⟩ ⟨J, J, J, J, trivial⟩ rfl ?_
  rintro ⟨j, best⟩ ⟨hj0, hr, hbest⟩
  dsimp only at hj0 hr hbest ⊢
  by_cases hj : j < l.length
  · skip
    obtain ⟨v, hv⟩ : ∃ v, l[j]? = some v := ⟨l[j], List.getElem?_eq_getElem hj⟩
    obtain ⟨bb, off, rfl, _, _, hrows⟩ := hR (by omega)
    have hrow : w.rangeAt bb (off + j * 6) [.string v.nm, .int .i64 v.ld, .int .i64 v.bs, .int .i64 v.wt, .int .i64 v.fl, .int .i64 v.ot] := hrows j v hv
    repeat' (first | refine ag ?_ | refine aa ?_ | refine ab ?_ | refine ae ?_ | ((refine' ak rfl ?_ J J ?_); rotate_left; first | exact ai af J J J J | exact aq af J J J J J J | exact aO af J J J J J J J))
    refine aw rfl (by simp; omega) ?_
    cases best with
    | none =>
      rw [cn hv, qX] at hr
      repeat' (first | refine ag ?_ | refine ab ?_ | refine au ?_ | refine aE ?_ | refine aY aK rfl (by kernel_rfl) ?_ | refine ae ?_ | refine bz ?_ | ((refine' dm rfl ?_ J J J ?_); rotate_left; first | exact kX (.bool false) rfl | exact bA af (m := 6) j J J J J J J J J (fun _ => rfl) (fun _ => hj) | exact bT af J J J J J (fun _ => hrow 5 _ rfl) | exact ai af J J J J | exact aq af J J J J J J | exact bp J J J J J | exact bx J J J J J) | refine bY rfl (ay J J J J ⟨J, trivial⟩ rfl (by kernel_rfl)) rfl (fun w hm => ly now w) J J ?_)
      by_cases hb : v.ot ≤ bI now
      · rw [if_pos hb] at hr
        refine aw rfl (by simp [hb, mx]) ?_
        repeat' (first | refine aa ?_ | refine ab ?_ | refine ax ?_ | refine ae ?_ | ((refine' ak rfl ?_ J J ?_); rotate_left; first | exact a6 J J J J J (by omega) | exact ai af J J J J))
        refine aR (j + 1, some (j, v)) [] ⟨hj, hr, fun k b h => by obtain ⟨rfl, rfl⟩ := (by simpa using h : j = k ∧ v = b); exact hv⟩ (show l.length - (j + 1) < l.length - j by omega) ⟨J, J, J, J, trivial⟩ rfl
      · rw [if_neg hb] at hr
        refine am rfl (by simp [hb]) ?_
        repeat' (first | refine aa ?_ | refine ab ?_ | refine au ?_ | refine ax ?_ | refine ae ?_ | ((refine' ak rfl ?_ J J ?_); rotate_left; first | exact a6 J J J J J (by omega) | exact ai af J J J J))
        refine aR (j + 1, none) [] ⟨hj, hr, fun _ _ h => by cases h⟩ (show l.length - (j + 1) < l.length - j by omega) ⟨J, J, J, J, trivial⟩ rfl
    | some kb =>
      obtain ⟨k, b⟩ := kb
      have hkb := hbest k b rfl
      have hk1 : k < l.length := (List.getElem?_eq_some_iff.1 hkb).1
      have hrow2 : w.rangeAt bb (off + k * 6) (bC b) := hrows k b hkb
      have hv1 := hok v (List.mem_of_getElem? hv)
      have hb1 := hok b (List.mem_of_getElem? hkb)
      rw [cn hv, qX] at hr
      repeat' (first | refine ag ?_ | refine ab ?_ | refine au ?_ | refine aE ?_ | refine aY aK rfl (by kernel_rfl) ?_ | refine ae ?_ | refine bz ?_ | ((refine' dm rfl ?_ J J J ?_); rotate_left; first | exact bA af (m := 6) j J J J J J J J J (fun _ => rfl) (fun _ => hj) | exact bA af (m := 6) k J J J J J J J J (fun _ => rfl) (fun _ => hk1) | exact bT af J J J J J (fun _ => hrow 5 _ rfl) | exact a7 af (cs := bC v) J J J J J (fun _ => hrow) | exact a7 af (cs := bC b) J J J J J (fun _ => hrow2) | exact ai af J J J J | exact aq af J J J J J J | exact bp J J J J J | exact bx J J J J J) | refine bY rfl (ay J J J J ⟨J, trivial⟩ rfl (by kernel_rfl)) rfl (fun w hm => ly now w) J J ?_ | refine bY rfl (ay J J J J ⟨J, J, trivial⟩ rfl (by kernel_rfl)) rfl (fun w hm => oC v b w hv1 hb1) J J ?_)
      by_cases hb : v.ot ≤ bI now ∧ pA v b = true
      · rw [if_pos hb] at hr
        refine aw rfl (by simp [hb.1, hb.2]) ?_
        repeat' (first | refine aa ?_ | refine ab ?_ | refine ax ?_ | refine ae ?_ | ((refine' ak rfl ?_ J J ?_); rotate_left; first | exact a6 J J J J J (by omega) | exact ai af J J J J))
        refine aR (j + 1, some (j, v)) [] ⟨hj, hr, fun k b h => by obtain ⟨rfl, rfl⟩ := (by simpa using h : j = k ∧ v = b); exact hv⟩ (show l.length - (j + 1) < l.length - j by omega) ⟨J, J, J, J, trivial⟩ rfl
      · rw [if_neg hb] at hr
        refine am rfl (yB k hb) ?_
        repeat' (first | refine aa ?_ | refine ab ?_ | refine au ?_ | refine ax ?_ | refine ae ?_ | ((refine' ak rfl ?_ J J ?_); rotate_left; first | exact a6 J J J J J (by omega) | exact ai af J J J J))
        refine aR (j + 1, some (k, b)) [] ⟨hj, hr, hbest⟩ (show l.length - (j + 1) < l.length - j by omega) ⟨J, J, J, J, trivial⟩ rfl
  rw [List.drop_eq_nil_of_le (by omega)] at hr
  repeat' (first | refine ag ?_ | refine aa ?_ | refine ab ?_ | refine ae ?_ | ((refine' ak rfl ?_ J J ?_); rotate_left; first | exact ai af J J J J | exact aq af J J J J J J | exact aO af J J J J J J J))
  refine am rfl (by simp; omega) ?_
  repeat' (first | refine ag ?_ | refine aa ?_ | refine ab ?_ | refine a8 ?_ | refine aH ?_ | refine aN ?_ | refine ae ?_ | ((refine' ak rfl ?_ J J ?_); rotate_left; first | exact ai af J J J J | exact aq af J J J J J J))
  cases best with
  | some kb =>
    obtain ⟨k, b⟩ := kb
    refine aw rfl (by simp [mx]) ?_
    repeat' (first | refine ag ?_ | refine aa ?_ | refine ab ?_ | refine aA ?_ | refine ar ?_ | refine ae ?_ | ((refine' ak rfl ?_ J J ?_); rotate_left; exact ai af J J J J))
    refine aB af (fun _ => 0) J J trivial rfl fun w hm => ⟨?_, hm.below⟩
    rw [oM, hr]
    rfl
  | none =>
    refine am J J ?_
    repeat' (first | refine ag ?_ | refine aa ?_ | refine ab ?_ | refine au ?_ | refine aE ?_ | refine ae ?_ | ((refine' ak rfl ?_ J J ?_); rotate_left; exact ai af J J J J))
    refine bF (σ := Nat × Option (Nat × BV)) (fun p => p.1 ≤ l.length ∧ tX l 0 none = tX (l.drop p.1) p.1 p.2 ∧ ∀ k b, p.2 = some (k, b) → l[k]? = some b) (fun p => [(7, [], .int .i64 ((p.1 : Nat) : Int)), (5, [], .int .i64 (mx p.2)), (0, [], .slice x l.length cap)]) (fun _ => []) (fun p => l.length - p.1) (0, none) [] ⟨Nat.zero_le _, rfl, fun _ _ h => by cases h⟩ ⟨J, J, J, trivial⟩ rfl ?_
    rintro ⟨j, best⟩ ⟨hj0, hr2, hbest⟩
    dsimp only at hj0 hr2 hbest ⊢
    by_cases hj : j < l.length
    · skip
      obtain ⟨v, hv⟩ : ∃ v, l[j]? = some v := ⟨l[j], List.getElem?_eq_getElem hj⟩
      obtain ⟨bb, off, rfl, _, _, hrows⟩ := hR (by omega)
      have hrow : w.rangeAt bb (off + j * 6) [.string v.nm, .int .i64 v.ld, .int .i64 v.bs, .int .i64 v.wt, .int .i64 v.fl, .int .i64 v.ot] := hrows j v hv
      repeat' (first | refine ag ?_ | refine aa ?_ | refine ab ?_ | refine ae ?_ | ((refine' ak rfl ?_ J J ?_); rotate_left; first | exact ai af J J J J | exact aq af J J J J J J | exact aO af J J J J J J J))
      refine aw rfl (by simp; omega) ?_
      cases best with
      | none =>
        rw [cn hv, tX] at hr2
        repeat' (first | refine ag ?_ | refine ab ?_ | refine au ?_ | refine aE ?_ | refine aY aK rfl (by kernel_rfl) ?_ | refine ae ?_ | refine bz ?_ | ((refine' dm rfl ?_ J J J ?_); rotate_left; first | exact kX (.bool false) rfl | exact ai af J J J J | exact aq af J J J J J J | exact bp J J J J J))
        refine aw J J ?_
        repeat' (first | refine aa ?_ | refine ab ?_ | refine ax ?_ | refine ae ?_ | ((refine' ak rfl ?_ J J ?_); rotate_left; first | exact a6 J J J J J (by omega) | exact ai af J J J J))
        refine aR (j + 1, some (j, v)) [] ⟨hj, hr2, fun k b h => by obtain ⟨rfl, rfl⟩ := (by simpa using h : j = k ∧ v = b); exact hv⟩ (show l.length - (j + 1) < l.length - j by omega) ⟨J, J, J, trivial⟩ rfl
      | some kb =>
        obtain ⟨k, b⟩ := kb
        have hkb := hbest k b rfl
        have hk1 : k < l.length := (List.getElem?_eq_some_iff.1 hkb).1
        have hrow2 : w.rangeAt bb (off + k * 6) (bC b) := hrows k b hkb
        have hv1 := hok v (List.mem_of_getElem? hv)
        have hb1 := hok b (List.mem_of_getElem? hkb)
        rw [cn hv, tX] at hr2
        repeat' (first | refine ag ?_ | refine ab ?_ | refine au ?_ | refine aE ?_ | refine aY aK rfl (by kernel_rfl) ?_ | refine ae ?_ | refine bz ?_ | ((refine' dm rfl ?_ J J J ?_); rotate_left; first | exact bA af (m := 6) j J J J J J J J J (fun _ => rfl) (fun _ => hj) | exact bA af (m := 6) k J J J J J J J J (fun _ => rfl) (fun _ => hk1) | exact a7 af (cs := bC v) J J J J J (fun _ => hrow) | exact a7 af (cs := bC b) J J J J J (fun _ => hrow2) | exact ai af J J J J | exact aq af J J J J J J | exact bp J J J J J) | refine bY rfl (ay J J J J ⟨J, J, trivial⟩ rfl (by kernel_rfl)) rfl (fun w hm => oC v b w hv1 hb1) J J ?_)
        by_cases hb : pA v b = true
        · rw [if_pos hb] at hr2
          refine aw rfl (by simp [hb]) ?_
          repeat' (first | refine aa ?_ | refine ab ?_ | refine ax ?_ | refine ae ?_ | ((refine' ak rfl ?_ J J ?_); rotate_left; first | exact a6 J J J J J (by omega) | exact ai af J J J J))
          refine aR (j + 1, some (j, v)) [] ⟨hj, hr2, fun k b h => by obtain ⟨rfl, rfl⟩ := (by simpa using h : j = k ∧ v = b); exact hv⟩ (show l.length - (j + 1) < l.length - j by omega) ⟨J, J, J, trivial⟩ rfl
        · rw [if_neg hb] at hr2
          refine am rfl (xr k hb) ?_
          repeat' (first | refine aa ?_ | refine ab ?_ | refine au ?_ | refine ax ?_ | refine ae ?_ | ((refine' ak rfl ?_ J J ?_); rotate_left; first | exact a6 J J J J J (by omega) | exact ai af J J J J))
          refine aR (j + 1, some (k, b)) [] ⟨hj, hr2, hbest⟩ (show l.length - (j + 1) < l.length - j by omega) ⟨J, J, J, trivial⟩ rfl
    rw [List.drop_eq_nil_of_le (by omega)] at hr2
    repeat' (first | refine ag ?_ | refine aa ?_ | refine ab ?_ | refine ae ?_ | ((refine' ak rfl ?_ J J ?_); rotate_left; first | exact ai af J J J J | exact aq af J J J J J J | exact aO af J J J J J J J))
    refine am rfl (by simp; omega) ?_
    repeat' (first | refine ag ?_ | refine aa ?_ | refine ab ?_ | refine aA ?_ | refine a8 ?_ | refine aH ?_ | refine aN ?_ | refine ae ?_ | ((refine' ak rfl ?_ J J ?_); rotate_left; exact ai af J J J J))
    refine aB af (fun _ => 0) J J trivial rfl fun w hm => ⟨?_, hm.below⟩
    rw [oM, hr]
    show _ = Ending.returned (.int .i64 (yZ ((tX l 0 none).map (fun p => p.1))))
    rw [hr2]
    cases best with
    | none => rfl
    | some kb => rfl
theorem oN {l : List BV} {k j : Nat} {v u : BV} (h : (l.set k v)[j]? = some u) : (l.set k v).take (j + 1) = (l.set k v).take j ++ [u] := dW h
set_option maxRecDepth 100000 in
set_option maxHeartbeats 8000000 in
theorem eD {A : Nat → Prop} (x : Option Addr) (l : List BV) (cap : Nat) (k : Nat) (v : BV) (w : World) (hR : Rws A w 6 bC x l) (hlen : l.length ≤ 2513169434916) : Calls Tryz.prog 104 #[.slice x l.length cap, .int .i64 ((k : Nat) : Int), .agg #[.string v.nm, .int .i64 v.ld, .int .i64 v.bs, .int .i64 v.wt, .int .i64 v.fl, .int .i64 v.ot]] w fun e w' => ∃ p : Option Addr × Nat, True ∧ e = .returned (.slice p.1 l.length p.2) ∧ Made w w' [.own p.1 p.2 64 6 l.length ((l.set k v).flatMap bC)] := by
  refine aD Tryz.func104 rfl Tryz.ntmps104 J J ?_
  repeat' (first | refine ag ?_ | refine aa ?_ | refine ab ?_ | refine aE ?_ | refine ae ?_ | (refine aT J J J J J J ?_; intro g5) | ((refine' ak rfl ?_ J J ?_); rotate_left; exact ai af J J J J))
  refine iT 64 6 ?_
  refine bF (σ := Nat × Option Addr × Nat) (fun p => p.1 ≤ l.length) (fun p => [(8, [], .int .i64 ((p.1 : Nat) : Int)), (7, [], .slice p.2.1 ((l.set k v).take p.1).length p.2.2), (0, [], .slice x l.length cap), (1, [], .int .i64 ((k : Nat) : Int)), (5, [], .pointer (some ⟨g5, 0, none⟩))]) (fun p => [.own p.2.1 p.2.2 64 6 ((l.set k v).take p.1).length (((l.set k v).take p.1).flatMap bC), .cl g5 64 (bC v)]) (fun p => l.length - p.1) (0, none, 0) [] (Nat.zero_le _) ⟨J, J, J, J, J, trivial⟩ rfl ?_
  rintro ⟨j, pa, pc⟩ hj0
  dsimp only at hj0 ⊢
  have hsl : (l.set k v).length = l.length := List.length_set
  have htl : ((l.set k v).take j).length = j := by rw [List.length_take]; omega
  by_cases hj : j < l.length
  · obtain ⟨u, hu⟩ : ∃ u, l[j]? = some u := ⟨_, List.getElem?_eq_getElem hj⟩
    obtain ⟨bb, off, rfl, _, _, hrows⟩ := hR (by omega)
    have hrow : w.rangeAt bb (off + j * 6) (bC u) := hrows j u hu
    repeat' (first | refine ag ?_ | refine aa ?_ | refine ab ?_ | refine ae ?_ | ((refine' ak rfl ?_ J J ?_); rotate_left; first | exact ai af J J J J | exact aq af J J J J J J | exact aO af J J J J J J J))
    refine aw rfl (by simp; omega) ?_
    repeat' (first | refine ag ?_ | refine aa ?_ | refine ab ?_ | refine au ?_ | refine aE ?_ | refine ae ?_ | ((refine' ak rfl ?_ J J ?_); rotate_left; first | exact ai af J J J J | exact aq af J J J J J J))
    by_cases hjk : j = k
    · subst hjk
      have hs : (l.set j v)[j]? = some v := by rw [List.getElem?_set_self hj]
      have hsn := oN hs
      refine aw rfl (by simp) ?_
      repeat' (first | refine aa ?_ | refine ab ?_ | refine ax ?_ | refine ae ?_ | (refine bq af J J J ⟨J, trivial⟩ J J J J J J J J ?_; intro g) | (refine bK af 1 0 J J J J J J J J J (fun _ _ => rfl) pU J J (by unfold maxLen; omega) (by omega) J J ?_; intro sa sc) | ((refine' ak rfl ?_ J J ?_); rotate_left; first | exact a6 J J J J J (by omega) | exact ai af J J J J | exact ah af 1 J J J J J))
      refine aR (j + 1, sa, sc) [false, true, true] hj (show l.length - (j + 1) < l.length - j by omega) ⟨rfl, ?_, rfl, rfl, rfl, trivial⟩ ?_
      · dsimp only; rw [hsn, List.length_append]; rfl
      · dsimp only; rw [hsn, List.length_append, List.flatMap_append, List.flatMap_singleton]; rfl
    · have hs : (l.set k v)[j]? = some u := by rw [List.getElem?_set_ne (fun h => hjk h.symm), hu]
      have hsn := oN hs
      refine am rfl (by simp; omega) ?_
      repeat' (first | refine aa ?_ | refine ab ?_ | refine ax ?_ | refine ae ?_ | (refine bq af J J J ⟨J, trivial⟩ J J J J J J J J ?_; intro g) | (refine bK af 1 0 J J J J J J J J J (fun _ _ => rfl) pU J J (by unfold maxLen; omega) (by omega) J J ?_; intro sa sc) | ((refine' ak rfl ?_ J J ?_); rotate_left; first | exact a6 J J J J J (by omega) | exact bA af (m := 6) j J J J J J J J J (fun _ => rfl) (fun _ => hj) | exact a7 af (cs := bC u) J J J J J (fun _ => hrow) | exact ai af J J J J))
      refine aR (j + 1, sa, sc) [false, true, true] hj (show l.length - (j + 1) < l.length - j by omega) ⟨rfl, ?_, rfl, rfl, rfl, trivial⟩ ?_
      · dsimp only; rw [hsn, List.length_append]; rfl
      · dsimp only; rw [hsn, List.length_append, List.flatMap_append, List.flatMap_singleton]; rfl
  · have htk : (l.set k v).take j = l.set k v := List.take_of_length_le (by omega)
    rw [htk, hsl]
    repeat' (first | refine ag ?_ | refine aa ?_ | refine ab ?_ | refine ae ?_ | ((refine' ak rfl ?_ J J ?_); rotate_left; first | exact ai af J J J J | exact aq af J J J J J J | exact aO af J J J J J J J))
    refine am rfl (by simp; omega) ?_
    repeat' (first | refine ag ?_ | refine aa ?_ | refine ab ?_ | refine aA ?_ | refine a8 ?_ | refine aH ?_ | refine aN ?_ | refine ae ?_ | ((refine' ak rfl ?_ J J ?_); rotate_left; exact ai af J J J J))
    refine aB af (fun _ => 0) J J trivial rfl fun w1 hm => ⟨(pa, pc), trivial, rfl, Made.own (hm.mask [true, false] rfl) (fun e he => by obtain rfl := List.mem_singleton.1 he; rfl)⟩
set_option maxRecDepth 100000 in
set_option maxHeartbeats 8000000 in
theorem mH {A : Nat → Prop} (x : Option Addr) (l : List BV) (cap : Nat) (k : Nat) (v : BV) (w : World) (hR : Rws A w 6 bC x l) (hlen : l.length ≤ 2513169434916) (hk : l[k]? = some v) (hv : dK v = true) : Calls Tryz.prog 68 #[.slice x l.length cap, .int .i64 ((k : Nat) : Int)] w fun e w' => ∃ p : Option Addr × Nat, True ∧ e = .returned (.slice p.1 l.length p.2) ∧ Made w w' [.own p.1 p.2 64 6 l.length ((bR cG l k).flatMap bC)] := by
  have hk1 : k < l.length := (List.getElem?_eq_some_iff.1 hk).1
  obtain ⟨bb, off, hx, _, _, hrows⟩ := hR (by omega)
  have hrow : w.rangeAt bb (off + k * 6) (bC v) := hrows k v hk
  have hr := ec hv
  refine aD Tryz.func68 rfl Tryz.ntmps68 J J ?_
  repeat' (first | refine ag ?_ | refine aa ?_ | refine ab ?_ | refine ae ?_ | ((refine' ak rfl ?_ J J ?_); rotate_left; first | exact ai af J J J J | exact aq af J J J J J J | exact bp J J J J J | exact aO af J J J J J J J))
  refine am rfl (by simp; omega) ?_
  repeat' (first | refine ag ?_ | refine aa ?_ | refine ab ?_ | refine au ?_ | refine ae ?_ | (refine aF af J J J J J J ?_; intro g5) | ((refine' ak rfl ?_ J J ?_); rotate_left; first | exact b7 af (m := 6) k rfl hx J J J J J J J (fun _ => rfl) (fun _ => hk1) | exact a7 af (cs := bC v) J J J J J (fun _ => hrow) | exact ai af J J J J | exact aq af J J J J J J | exact ah af 0 J J J J J) | refine aj af 0 J J J J J J J J J J J J ?_)
  by_cases hb : v.bs < 1000000
  · refine aw rfl (by simpa using hb) ?_
    repeat' (first | refine ag ?_ | refine aa ?_ | refine ab ?_ | refine ae ?_ | ((refine' ak rfl ?_ J J ?_); rotate_left; first | exact a6 J J J J J (by omega) | exact ai af J J J J | exact ah af 0 J J J J J) | refine aj af 0 J J J J J J J J J J J J ?_)
    refine bf (σ := Option Addr × Nat) (fun _ => True) (fun p => .slice p.1 l.length p.2) (fun p => [.own p.1 p.2 64 6 l.length ((l.set k { v with bs := v.bs + 1 }).flatMap bC)]) rfl (ay J J J J ⟨J, J, J, trivial⟩ rfl (by kernel_rfl)) (fun w1 hm => eD x l cap k { v with bs := v.bs + 1 } w1 (hR.below hm.below) hlen) J J ?_
    rintro ⟨pa, pc⟩ -
    dsimp only [List.cons_append, List.nil_append]
    repeat' (first | refine ab ?_ | refine aA ?_ | refine ae ?_ | ((refine' ak rfl ?_ J J ?_); rotate_left; exact ai af J J J J))
    refine aB af (fun _ => 0) J J trivial rfl fun w1 hm => ⟨(pa, pc), trivial, rfl, ?_⟩
    rw [ei _ l k v hk, show cG v = { v with bs := v.bs + 1 } by unfold cG cp; congr 1; omega]
    exact Made.own (hm.mask [true, false] rfl) (fun e he => by obtain rfl := List.mem_singleton.1 he; rfl)
  · refine am rfl (by simpa using hb) ?_
    repeat' (first | refine ag ?_ | refine aa ?_ | refine ab ?_ | refine au ?_ | ((refine' ak rfl ?_ J J ?_); rotate_left; first | exact ai af J J J J | exact ah af 0 J J J J J))
    refine bf (σ := Option Addr × Nat) (fun _ => True) (fun p => .slice p.1 l.length p.2) (fun p => [.own p.1 p.2 64 6 l.length ((l.set k v).flatMap bC)]) rfl (ay J J J J ⟨J, J, J, trivial⟩ rfl (by kernel_rfl)) (fun w1 hm => eD x l cap k v w1 (hR.below hm.below) hlen) J J ?_
    rintro ⟨pa, pc⟩ -
    dsimp only [List.cons_append, List.nil_append]
    repeat' (first | refine ab ?_ | refine aA ?_ | refine ae ?_ | ((refine' ak rfl ?_ J J ?_); rotate_left; exact ai af J J J J))
    refine aB af (fun _ => 0) J J trivial rfl fun w1 hm => ⟨(pa, pc), trivial, rfl, ?_⟩
    rw [ei _ l k v hk, show cG v = v by unfold cG cp; rw [show min (max (v.bs + 1) 0) 1000000 = v.bs by omega]]
    exact Made.own (hm.mask [true, false] rfl) (fun e he => by obtain rfl := List.mem_singleton.1 he; rfl)
theorem r6 (m : Nat) (h : m < 6) : IntKind.i64.wrap (1000 * 2 ^ m * 2) = 1000 * 2 ^ (m + 1) := by
  have h2 : m = 0 ∨ m = 1 ∨ m = 2 ∨ m = 3 ∨ m = 4 ∨ m = 5 := by omega
  rcases h2 with rfl | rfl | rfl | rfl | rfl | rfl <;> decide
theorem zv (n : Int) : 0 ≤ bI n ∧ bI n ≤ 1099511627776 := by unfold bI cp; omega
set_option maxRecDepth 100000 in
set_option maxHeartbeats 16000000 in
theorem r7 {A : Nat → Prop} (x : Option Addr) (l : List BV) (cap : Nat) (k : Nat) (v : BV) (code now : Int) (w : World) (hR : Rws A w 6 bC x l) (hlen : l.length ≤ 2513169434916) (hk : l[k]? = some v) (hv : dK v = true) : Calls Tryz.prog 106 #[.slice x l.length cap, .int .i64 ((k : Nat) : Int), .int .i64 code, .int .i64 now] w fun e w' => ∃ p : Option Addr × Nat, True ∧ e = .returned (.slice p.1 l.length p.2) ∧ Made w w' [.own p.1 p.2 64 6 l.length ((bR (db code now) l k).flatMap bC)] := by
  have hk1 : k < l.length := (List.getElem?_eq_some_iff.1 hk).1
  obtain ⟨bb, off, hx, _, _, hrows⟩ := hR (by omega)
  have hrow : w.rangeAt bb (off + k * 6) (bC v) := hrows k v hk
  have hr := ec hv
  refine aD Tryz.func106 rfl Tryz.ntmps106 J J ?_
  repeat' (first | refine ag ?_ | refine aa ?_ | refine ab ?_ | refine ae ?_ | ((refine' ak rfl ?_ J J ?_); rotate_left; first | exact ai af J J J J | exact aq af J J J J J J | exact bp J J J J J | exact aO af J J J J J J J))
  refine am rfl (by simp; omega) ?_
  repeat' (first | refine ab ?_ | refine au ?_)
  refine ag ?_
  repeat' (first | refine aa ?_ | refine ab ?_ | refine ae ?_ | (refine aF af J J J J J J ?_; intro g9) | ((refine' ak rfl ?_ J J ?_); rotate_left; first | exact b7 af (m := 6) k rfl hx J J J J J J J (fun _ => rfl) (fun _ => hk1) | exact a7 af (cs := bC v) J J J J J (fun _ => hrow) | exact ai af J J J J) | refine aj af 0 J J J J J J J J J J J J ?_)
  refine nj (σ := Unit) (fun _ => True) (fun _ => [(2, [], .int .i64 code), (0, [], .slice x l.length cap), (1, [], .int .i64 ((k : Nat) : Int)), (3, [], .int .i64 now), (9, [], .pointer (some ⟨g9, 0, none⟩))]) (fun _ => [.cl g9 64 (bC { v with bs := cp (v.bs - 1) 1000000 })]) ?_ ?_
  · skip
    repeat' (first | refine ag ?_ | refine aa ?_ | refine ab ?_ | refine ae ?_ | ((refine' ak rfl ?_ J J ?_); rotate_left; first | exact ai af J J J J | exact aq af J J J J J J | exact ah af 0 J J J J J))
    by_cases hb : 0 < v.bs
    · have hbe : cp (v.bs - 1) 1000000 = v.bs - 1 := by unfold cp; omega
      rw [hbe]
      refine aw rfl (by simpa using hb) ?_
      repeat' (first | refine aa ?_ | refine ae ?_ | ((refine' ak rfl ?_ J J ?_); rotate_left; first | exact gX J J J J J (by omega) | exact ai af J J J J | exact ah af 0 J J J J J) | refine aj af 0 J J J J J J J J J J J J ?_)
      refine fI () [] trivial ⟨J, J, J, J, J, trivial⟩ rfl
    · have hbe : cp (v.bs - 1) 1000000 = v.bs := by unfold cp; omega
      rw [hbe]
      refine am rfl (by simpa using hb) ?_
      repeat' (refine au ?_)
      refine fI () [] trivial ⟨J, J, J, J, J, trivial⟩ rfl
  rintro ⟨⟩ -
  repeat' (first | refine ag ?_ | refine aa ?_ | refine ab ?_ | refine aE ?_ | refine ae ?_ | ((refine' ak rfl ?_ J J ?_); rotate_left; first | exact ai af J J J J | exact aq af J J J J J J))
  by_cases h0 : code = 0
  · have hfc : jn code = false := by subst h0; rfl
    refine aw rfl (by simpa using h0) ?_
    repeat' (first | refine ag ?_ | refine aa ?_ | refine ab ?_ | refine ax ?_ | refine ae ?_ | ((refine' ak rfl ?_ J J ?_); rotate_left; first | exact ai af J J J J | exact ah af 0 J J J J J) | refine aj af 0 J J J J J J J J J J J J ?_)
    refine bf (σ := Option Addr × Nat) (fun _ => True) (fun p => .slice p.1 l.length p.2) (fun p => [.own p.1 p.2 64 6 l.length ((l.set k { v with bs := cp (v.bs - 1) 1000000, fl := 0 }).flatMap bC)]) rfl (ay J J J J ⟨J, J, J, trivial⟩ rfl (by kernel_rfl)) (fun w1 hm => eD x l cap k { v with bs := cp (v.bs - 1) 1000000, fl := 0 } w1 (hR.below hm.below) hlen) J J ?_
    rintro ⟨pa, pc⟩ -
    dsimp only [List.cons_append, List.nil_append]
    repeat' (first | refine ab ?_ | refine aA ?_ | refine ae ?_ | ((refine' ak rfl ?_ J J ?_); rotate_left; exact ai af J J J J))
    refine aB af (fun _ => 0) J J trivial rfl fun w1 hm => ⟨(pa, pc), trivial, rfl, ?_⟩
    rw [ei _ l k v hk, show db code now v = { v with bs := cp (v.bs - 1) 1000000, fl := 0 } by unfold db; dsimp only; rw [if_neg (by rw [hfc]; decide), if_pos h0]]
    exact Made.own (hm.mask [true, false] rfl) (fun e he => by obtain rfl := List.mem_singleton.1 he; rfl)
  · refine am rfl (by simpa using h0) ?_
    repeat' (first | refine aa ?_ | refine ab ?_ | refine aA ?_ | refine au ?_ | refine aE ?_ | refine a8 ?_ | refine ar ?_ | refine aH ?_ | refine ax ?_ | refine aQ ?_ | refine aN ?_ | refine cu rfl ?_ | refine aY aK rfl (by kernel_rfl) ?_ | refine ae ?_ | refine bz ?_ | (refine ea ?_; intro g) | ((first | refine' ak rfl ?_ J J ?_ | refine' dm rfl ?_ J J J ?_); rotate_left; first | exact ai af J J J J | exact aq af J J J J J J | exact bp J J J J J | exact bx J J J J J | exact ah af 0 J J J J J | exact ah af 1 J J J J J | exact ah af 2 J J J J J | exact fX af fm J J J J J J (by kernel_rfl) | exact ew af fm J J J J J J (by kernel_rfl) | exact aO af J J J J J J J | exact d9 J J J J J | exact cV J J J J J | exact jd J J J J J J J | exact aC af J J trivial J J J | exact aC af J J ⟨J, trivial⟩ J J J | exact aC af J J ⟨J, J, trivial⟩ J J J | exact aC af J J ⟨J, J, J, trivial⟩ J J J | exact aC af J J ⟨J, J, J, J, trivial⟩ J J J | exact aC af J J ⟨J, J, J, J, J, trivial⟩ J J J | exact aC af J J ⟨J, J, J, J, J, J, trivial⟩ J J J | exact aC af J J ⟨J, J, J, J, J, J, J, trivial⟩ J J J | exact aC af J J ⟨J, J, J, J, J, J, J, J, trivial⟩ J J J) | (refine aT J J J J J J ?_; intro g) | (refine aF af J J J J J J ?_; intro g) | refine dJ af J J J J J J ?_ | refine gA J J J J J J ?_ | refine aj af 0 J J J J J J J J J J J J ?_ | refine aj af 1 J J J J J J J J J J J J ?_ | refine aj af 2 J J J J J J J J J J J J ?_)
    refine nj (σ := Unit) (fun _ => True) (fun _ => [(36, [], .bool (jn code)), (0, [], .slice x l.length cap), (1, [], .int .i64 ((k : Nat) : Int)), (3, [], .int .i64 now), (9, [], .pointer (some ⟨g9, 0, none⟩))]) (fun _ => [.cl g9 64 (bC { v with bs := cp (v.bs - 1) 1000000 })]) ?_ ?_
    · skip
      repeat' (first | refine ag ?_ | refine aa ?_ | refine ab ?_ | refine ae ?_ | ((refine' ak rfl ?_ J J ?_); rotate_left; first | exact ai af J J J J | exact aq af J J J J J J))
      by_cases h12 : code = 12
      · subst h12
        refine aw J J ?_
        repeat' (refine au ?_)
        refine fI () [] trivial ⟨J, J, J, J, J, trivial⟩ rfl
      refine am rfl (by simpa using h12) ?_
      repeat' (first | refine ag ?_ | refine aa ?_ | refine ab ?_ | refine ae ?_ | ((refine' ak rfl ?_ J J ?_); rotate_left; first | exact ai af J J J J | exact aq af J J J J J J))
      by_cases h11 : code = 11
      · subst h11
        refine aw J J ?_
        repeat' (refine au ?_)
        refine fI () [] trivial ⟨J, J, J, J, J, trivial⟩ rfl
      refine am rfl (by simpa using h11) ?_
      repeat' (first | refine ag ?_ | refine aa ?_ | refine ab ?_ | refine ae ?_ | ((refine' ak rfl ?_ J J ?_); rotate_left; first | exact ai af J J J J | exact aq af J J J J J J))
      by_cases h13 : code = 13
      · subst h13
        refine aw J J ?_
        repeat' (refine au ?_)
        refine fI () [] trivial ⟨J, J, J, J, J, trivial⟩ rfl
      refine am rfl (by simpa using h13) ?_
      repeat' (first | refine aa ?_ | refine ae ?_ | ((refine' ak rfl ?_ J J ?_); rotate_left; first | exact ai af J J J J | exact aq af J J J J J J))
      have hf3 : jn code = decide (code = 3) := by unfold jn; simp [h12, h11, h13]
      refine fI () [] trivial ⟨by rw [hf3]; rfl, rfl, rfl, rfl, rfl, trivial⟩ rfl
    rintro ⟨⟩ -
    by_cases hfc : jn code = true
    · skip
      obtain ⟨f, hf⟩ : ∃ f, cp (v.fl + 1) 1000000 = f := ⟨_, rfl⟩
      have hfr : f = if v.fl < 1000000 then v.fl + 1 else v.fl := by rw [← hf]; unfold cp; split <;> omega
      have hck := zv now
      refine aw rfl hfc ?_
      repeat' (first | refine aa ?_ | refine ab ?_ | refine aA ?_ | refine au ?_ | refine aE ?_ | refine a8 ?_ | refine ar ?_ | refine aH ?_ | refine ax ?_ | refine aQ ?_ | refine aN ?_ | refine cu rfl ?_ | refine aY aK rfl (by kernel_rfl) ?_ | refine ae ?_ | refine bz ?_ | (refine ea ?_; intro g) | ((first | refine' ak rfl ?_ J J ?_ | refine' dm rfl ?_ J J J ?_); rotate_left; first | exact ai af J J J J | exact aq af J J J J J J | exact bp J J J J J | exact bx J J J J J | exact ah af 0 J J J J J | exact ah af 1 J J J J J | exact ah af 2 J J J J J | exact fX af fm J J J J J J (by kernel_rfl) | exact ew af fm J J J J J J (by kernel_rfl) | exact aO af J J J J J J J | exact d9 J J J J J | exact cV J J J J J | exact jd J J J J J J J | exact aC af J J trivial J J J | exact aC af J J ⟨J, trivial⟩ J J J | exact aC af J J ⟨J, J, trivial⟩ J J J | exact aC af J J ⟨J, J, J, trivial⟩ J J J | exact aC af J J ⟨J, J, J, J, trivial⟩ J J J | exact aC af J J ⟨J, J, J, J, J, trivial⟩ J J J | exact aC af J J ⟨J, J, J, J, J, J, trivial⟩ J J J | exact aC af J J ⟨J, J, J, J, J, J, J, trivial⟩ J J J | exact aC af J J ⟨J, J, J, J, J, J, J, J, trivial⟩ J J J) | (refine aT J J J J J J ?_; intro g) | (refine aF af J J J J J J ?_; intro g) | refine dJ af J J J J J J ?_ | refine gA J J J J J J ?_ | refine aj af 0 J J J J J J J J J J J J ?_ | refine aj af 1 J J J J J J J J J J J J ?_ | refine aj af 2 J J J J J J J J J J J J ?_)
      refine nj (σ := Unit) (fun _ => True) (fun _ => [(0, [], .slice x l.length cap), (1, [], .int .i64 ((k : Nat) : Int)), (3, [], .int .i64 now), (9, [], .pointer (some ⟨g9, 0, none⟩))]) (fun _ => [.cl g9 64 (bC { v with bs := cp (v.bs - 1) 1000000, fl := f })]) ?_ ?_
      · skip
        repeat' (first | refine ag ?_ | refine aa ?_ | refine ab ?_ | refine ae ?_ | ((refine' ak rfl ?_ J J ?_); rotate_left; first | exact ai af J J J J | exact aq af J J J J J J | exact ah af 0 J J J J J))
        by_cases hm1 : v.fl < 1000000
        · rw [if_pos hm1] at hfr
          refine aw rfl (by simpa using hm1) ?_
          repeat' (first | refine aa ?_ | refine ae ?_ | ((refine' ak rfl ?_ J J ?_); rotate_left; first | exact dg (v := .int .i64 (v.fl + 1)) (aq af J J J J J J) (congrArg (Value.int .i64) (IntWalk.i64_in (v.fl + 1) (by omega))) | exact ai af J J J J | exact ah af 0 J J J J J) | refine aj af 0 J J J J J J J J J J J J ?_)
          refine fI () [] trivial ⟨J, J, J, J, trivial⟩ (by rw [hfr]; rfl)
        · rw [if_neg hm1] at hfr
          refine am rfl (by simpa using hm1) ?_
          repeat' (refine au ?_)
          refine fI () [] trivial ⟨J, J, J, J, trivial⟩ (by rw [hfr]; rfl)
      rintro ⟨⟩ -
      repeat' (first | refine ag ?_ | refine aa ?_ | refine ab ?_ | refine ae ?_ | ((refine' ak rfl ?_ J J ?_); rotate_left; first | exact ai af J J J J | exact aq af J J J J J J | exact ah af 0 J J J J J))
      by_cases hf3 : 3 ≤ f
      · refine aw rfl (by simpa using hf3) ?_
        repeat' (first | refine ag ?_ | refine aa ?_ | refine ab ?_ | refine aE ?_ | refine ae ?_ | ((refine' ak rfl ?_ J J ?_); rotate_left; exact ai af J J J J))
        refine bF (σ := Nat × Unit) (fun p => p.1 ≤ (min (f - 3) 6).toNat) (fun p => [(11, [], .int .i64 (((3 + p.1 : Nat)) : Int)), (10, [], .int .i64 (1000 * 2 ^ p.1)), (0, [], .slice x l.length cap), (1, [], .int .i64 ((k : Nat) : Int)), (3, [], .int .i64 now), (9, [], .pointer (some ⟨g9, 0, none⟩))]) (fun _ => [.cl g9 64 (bC { v with bs := cp (v.bs - 1) 1000000, fl := f })]) (fun p => (min (f - 3) 6).toNat - p.1) (0, ()) [] (Nat.zero_le _) ⟨J, J, J, J, J, J, trivial⟩ rfl ?_
        rintro ⟨m, ⟨⟩⟩ hm0
        dsimp only at hm0 ⊢
        repeat' (first | refine ag ?_ | refine aa ?_ | refine ab ?_ | refine ae ?_ | ((refine' ak rfl ?_ J J ?_); rotate_left; first | exact ai af J J J J | exact aq af J J J J J J | exact bx J J J J J | exact ah af 0 J J J J J))
        by_cases hmf : m < (min (f - 3) 6).toNat
        · refine aw rfl (by simp; omega) ?_
          repeat' (first | refine ag ?_ | refine aa ?_ | refine ab ?_ | refine au ?_ | refine aE ?_ | refine ax ?_ | refine ae ?_ | ((refine' ak rfl ?_ J J ?_); rotate_left; first | exact dg (v := .int .i64 (1000 * 2 ^ (m + 1))) (aq af J J J J J J) (congrArg (Value.int .i64) (r6 m (by omega))) | exact a6 J J J J J (by omega) | exact ai af J J J J))
          refine aR (m + 1, ()) [] hmf (show (min (f - 3) 6).toNat - (m + 1) < (min (f - 3) 6).toNat - m by omega) ⟨J, J, J, J, J, J, trivial⟩ rfl
        · have hme : m = (min (f - 3) 6).toNat := by omega
          subst hme
          refine am rfl (by simp; omega) ?_
          repeat' (first | refine ag ?_ | refine aa ?_ | refine ab ?_ | refine a8 ?_ | refine aH ?_ | refine ax ?_ | refine aN ?_ | refine ae ?_ | ((refine' ak rfl ?_ J J ?_); rotate_left; first | exact dg (v := .int .i64 (bI now + 1000 * 2 ^ (min (f - 3) 6).toNat)) (aq af J J J J J J) (congrArg (Value.int .i64) (wC _ _ hck.1 hck.2 (lx f).1 (lx f).2)) | exact ai af J J J J | exact ah af 0 J J J J J) | refine aG rfl (ay J J J J ⟨J, trivial⟩ rfl (by kernel_rfl)) (fun w hm => ly now w) J J ?_ | refine aj af 0 J J J J J J J J J J J J ?_)
          refine bf (σ := Option Addr × Nat) (fun _ => True) (fun p => .slice p.1 l.length p.2) (fun p => [.own p.1 p.2 64 6 l.length ((l.set k { v with bs := cp (v.bs - 1) 1000000, fl := f, ot := bI now + 1000 * 2 ^ (min (f - 3) 6).toNat }).flatMap bC)]) rfl (ay J J J J ⟨J, J, J, trivial⟩ rfl (by kernel_rfl)) (fun w1 hm => eD x l cap k { v with bs := cp (v.bs - 1) 1000000, fl := f, ot := bI now + 1000 * 2 ^ (min (f - 3) 6).toNat } w1 (hR.below hm.below) hlen) J J ?_
          rintro ⟨pa, pc⟩ -
          dsimp only [List.cons_append, List.nil_append]
          repeat' (first | refine ab ?_ | refine aA ?_ | refine ae ?_ | ((refine' ak rfl ?_ J J ?_); rotate_left; exact ai af J J J J))
          refine aB af (fun _ => 0) J J trivial rfl fun w1 hm => ⟨(pa, pc), trivial, rfl, ?_⟩
          rw [ei _ l k v hk, show db code now v = { v with bs := cp (v.bs - 1) 1000000, fl := f, ot := bI now + 1000 * 2 ^ (min (f - 3) 6).toNat } by unfold db; dsimp only; rw [if_pos hfc, hf, if_pos hf3]]
          exact Made.own (hm.mask [true, false] rfl) (fun e he => by obtain rfl := List.mem_singleton.1 he; rfl)
      · refine am rfl (by simpa using hf3) ?_
        repeat' (first | refine ag ?_ | refine aa ?_ | refine ab ?_ | refine au ?_ | refine ax ?_ | ((refine' ak rfl ?_ J J ?_); rotate_left; first | exact ai af J J J J | exact ah af 0 J J J J J))
        refine bf (σ := Option Addr × Nat) (fun _ => True) (fun p => .slice p.1 l.length p.2) (fun p => [.own p.1 p.2 64 6 l.length ((l.set k { v with bs := cp (v.bs - 1) 1000000, fl := f }).flatMap bC)]) rfl (ay J J J J ⟨J, J, J, trivial⟩ rfl (by kernel_rfl)) (fun w1 hm => eD x l cap k { v with bs := cp (v.bs - 1) 1000000, fl := f } w1 (hR.below hm.below) hlen) J J ?_
        rintro ⟨pa, pc⟩ -
        dsimp only [List.cons_append, List.nil_append]
        repeat' (first | refine ab ?_ | refine aA ?_ | refine ae ?_ | ((refine' ak rfl ?_ J J ?_); rotate_left; exact ai af J J J J))
        refine aB af (fun _ => 0) J J trivial rfl fun w1 hm => ⟨(pa, pc), trivial, rfl, ?_⟩
        rw [ei _ l k v hk, show db code now v = { v with bs := cp (v.bs - 1) 1000000, fl := f } by unfold db; dsimp only; rw [if_pos hfc, hf, if_neg hf3]]
        exact Made.own (hm.mask [true, false] rfl) (fun e he => by obtain rfl := List.mem_singleton.1 he; rfl)
    · have hfc' := eq_false_of_ne_true hfc
      refine am rfl hfc' ?_
      repeat' (first | refine ag ?_ | refine aa ?_ | refine ab ?_ | refine au ?_ | refine ax ?_ | ((refine' ak rfl ?_ J J ?_); rotate_left; first | exact ai af J J J J | exact ah af 0 J J J J J))
      refine bf (σ := Option Addr × Nat) (fun _ => True) (fun p => .slice p.1 l.length p.2) (fun p => [.own p.1 p.2 64 6 l.length ((l.set k { v with bs := cp (v.bs - 1) 1000000 }).flatMap bC)]) rfl (ay J J J J ⟨J, J, J, trivial⟩ rfl (by kernel_rfl)) (fun w1 hm => eD x l cap k { v with bs := cp (v.bs - 1) 1000000 } w1 (hR.below hm.below) hlen) J J ?_
      rintro ⟨pa, pc⟩ -
      dsimp only [List.cons_append, List.nil_append]
      repeat' (first | refine ab ?_ | refine aA ?_ | refine ae ?_ | ((refine' ak rfl ?_ J J ?_); rotate_left; exact ai af J J J J))
      refine aB af (fun _ => 0) J J trivial rfl fun w1 hm => ⟨(pa, pc), trivial, rfl, ?_⟩
      rw [ei _ l k v hk, show db code now v = { v with bs := cp (v.bs - 1) 1000000 } by unfold db; dsimp only; rw [if_neg hfc, if_neg h0]]
      exact Made.own (hm.mask [true, false] rfl) (fun e he => by obtain rfl := List.mem_singleton.1 he; rfl)
set_option maxRecDepth 100000 in
set_option maxHeartbeats 8000000 in
theorem qg {A A2 : Nat → Prop} (x x2 : Option Addr) (l : List BV) (cap cap2 : Nat) (w : World) (hR : Rws A w 6 bC x l) (hR2 : Rws A2 w 6 bC x2 l) (hlen : l.length ≤ 2513169434916) : Calls Tryz.prog 23 #[.slice x l.length cap, .slice x2 l.length cap2] w fun e w' => e = .returned (.bool true) ∧ Below w.heap.size w w' := by
  refine aD Tryz.func23 rfl Tryz.ntmps23 J J ?_
  repeat' (first | refine ag ?_ | refine aa ?_ | refine ab ?_ | refine ae ?_ | ((refine' ak rfl ?_ J J ?_); rotate_left; first | exact ai af J J J J | exact aq af J J J J J J | exact aO af J J J J J J J))
  refine am rfl (by simp) ?_
  repeat' (first | refine ag ?_ | refine aa ?_ | refine ab ?_ | refine au ?_ | refine aE ?_ | refine ae ?_ | ((refine' ak rfl ?_ J J ?_); rotate_left; exact ai af J J J J))
  refine bF (σ := Nat) (fun p => p ≤ l.length) (fun p => [(5, [], .int .i64 ((p : Nat) : Int)), (0, [], .slice x l.length cap), (1, [], .slice x2 l.length cap2)]) (fun _ => []) (fun p => l.length - p) 0 [] (Nat.zero_le _) ⟨J, J, J, trivial⟩ rfl ?_
  rintro j hj0
  by_cases hj : j < l.length
  · obtain ⟨v, hv⟩ : ∃ v, l[j]? = some v := ⟨_, List.getElem?_eq_getElem hj⟩
    obtain ⟨bb, off, hx, _, _, hrows⟩ := hR (by omega)
    have hrow : w.rangeAt bb (off + j * 6) (bC v) := hrows j v hv
    obtain ⟨bb2, off2, hx2, _, _, hrows2⟩ := hR2 (by omega)
    have hrow2 : w.rangeAt bb2 (off2 + j * 6) (bC v) := hrows2 j v hv
    repeat' (first | refine ag ?_ | refine aa ?_ | refine ab ?_ | refine ae ?_ | ((refine' ak rfl ?_ J J ?_); rotate_left; first | exact ai af J J J J | exact aq af J J J J J J | exact aO af J J J J J J J))
    refine aw rfl (by simp; omega) ?_
    repeat' (first | refine ag ?_ | refine ab ?_ | refine au ?_ | refine aE ?_ | refine aY aK rfl (by kernel_rfl) ?_ | refine ae ?_ | refine bz ?_ | ((refine' dm rfl ?_ J J J ?_); rotate_left; first | exact b7 af (m := 6) j rfl hx J J J J J J J (fun _ => rfl) (fun _ => hj) | exact b7 af (m := 6) j rfl hx2 J J J J J J J (fun _ => rfl) (fun _ => hj) | exact a7 af (cs := bC v) J J J J J (fun _ => hrow) | exact a7 af (cs := bC v) J J J J J (fun _ => hrow2) | exact ai af J J J J | exact ew af fm J J J J J J (by kernel_rfl)))
    refine am rfl (by simp) ?_
    repeat' (first | refine aa ?_ | refine ab ?_ | refine au ?_ | refine ax ?_ | refine ae ?_ | ((refine' ak rfl ?_ J J ?_); rotate_left; first | exact a6 J J J J J (by omega) | exact ai af J J J J))
    refine aR (j + 1) [] hj (show l.length - (j + 1) < l.length - j by omega) ⟨J, J, J, trivial⟩ rfl
  repeat' (first | refine ag ?_ | refine aa ?_ | refine ab ?_ | refine ae ?_ | ((refine' ak rfl ?_ J J ?_); rotate_left; first | exact ai af J J J J | exact aq af J J J J J J | exact aO af J J J J J J J))
  refine am rfl (by simp; omega) ?_
  repeat' (first | refine ag ?_ | refine aa ?_ | refine ab ?_ | refine aA ?_ | refine a8 ?_ | refine aH ?_ | refine aN ?_ | refine ae ?_ | ((refine' ak rfl ?_ J J ?_); rotate_left; exact ai af J J J J))
  refine aB af (fun _ => 0) J J trivial rfl fun w hm => ⟨?_, hm.below⟩
  rfl
end Go.Proofs.YtmdkfbmpenohiaaGreatDoor.Y
