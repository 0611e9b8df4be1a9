/- Texts of this claim merged into one: KRegion, KRegionW. -/
import Derived.Orders
import Derived.Tactics
import Derived.WalkKit
import Derived.Below
namespace Go.Proofs.YtklcfjlmlbnkaaaGreatDoor
theorem J {α : Sort _} {a : α} : a = a := rfl
open Go.RowKit
structure RK where
  pure : Bool
  read : Bool
def tg : Op → RK
  | .move _ => ⟨true, true⟩
  | .assign _ => ⟨true, true⟩
  | .pick _ _ _ => ⟨true, true⟩
  | .extract _ _ => ⟨true, true⟩
  | .unOp _ _ _ => ⟨true, true⟩
  | .binOp _ _ _ _ _ => ⟨true, true⟩
  | .field _ _ _ => ⟨true, true⟩
  | .fieldAddr _ _ _ => ⟨true, true⟩
  | .index _ _ _ => ⟨true, true⟩
  | .indexAddr _ _ _ => ⟨true, true⟩
  | .slice _ _ _ _ _ => ⟨true, true⟩
  | .build _ _ => ⟨true, true⟩
  | .makeInterface _ _ => ⟨true, true⟩
  | .call ⟨.builtin .len, _, _⟩ => ⟨true, true⟩
  | .load _ _ => ⟨false, true⟩
  | _ => ⟨false, false⟩
section
variable {P : Program} {ops : Array Oper} {Inv : World → Prop} {kf : Op → RK}
def rJ : Exit → Act → World → Prop := fun _ _ _ => False
def gK (P : Program) (ops : Array Oper) (Inv : World → Prop) (kf : Op → RK) (o : Oper) (K : Act → World → Prop) (a : Act) (w : World) : Prop :=
  if Region.wanted o (yielded ops a.tmps) then
    if (kf o.op).pure then ∃ v, (∀ w', Inv w' → (execOp a.eval o).run P w' = .ok (.value v) w') ∧ K (a.put o.dst v) w
    else if (kf o.op).read then ∃ v, (execOp a.eval o).run P w = .ok (.value v) w ∧ K (a.put o.dst v) w
    else o.wp P a w (fun a' w' => Inv w' ∧ K a' w') rJ
  else K (a.put o.dst undef) w
def nF (P : Program) (ops : Array Oper) (Inv : World → Prop) (kf : Op → RK) (Q : Act → World → Prop) : List Oper → Act → World → Prop
  | [], a, w => Q a w
  | o :: rest, a, w => gK P ops Inv kf o (nF P ops Inv kf Q rest) a w
def io (P : Program) (ops : Array Oper) (Inv : World → Prop) (kf : Op → RK) (i : Nat) (K : Act → World → Prop) (a : Act) (w : World) : Prop :=
  match ops[i]? with
  | none => K a w
  | some o => gK P ops Inv kf o K a w
def yC (P : Program) (ops : Array Oper) (Inv : World → Prop) (kf : Op → RK) (Q : Act → World → Prop) : List Nat → Act → World → Prop
  | [], a, w => Q a w
  | i :: rest, a, w => io P ops Inv kf i (yC P ops Inv kf Q rest) a w
theorem mM {o : Oper} {a : Act} {K K' : Act → World → Prop} {Q' : Exit → Act → World → Prop} (h : ∀ a w, K a w → K' a w) (r : Result Next)
    (hh : o.upon P a K rJ r) : o.upon P a K' Q' r := by
  cases r with
  | ok n w' =>
    cases n <;> simp only [Oper.upon] at hh ⊢ <;>
      first
        | exact h _ _ hh
        | exact Calls.mono hh (fun e w'' he => by
            cases e with
            | returned v => exact h _ _ he
            | panicked c => exact he.elim
            | outgrown => obtain ⟨_, _, q⟩ := he; exact q.elim)
        | exact Rows.mono hh (fun _ _ he => h _ _ he)
        | exact hh.elim
  | halt x w' => cases x <;> simp only [Oper.upon] at hh ⊢ <;> exact hh.elim
theorem vH {o : Oper} {K K' : Act → World → Prop} (h : ∀ a w, K a w → K' a w) {a : Act} {w : World} (hh : gK P ops Inv kf o K a w) : gK P ops Inv kf o K' a w := by
  unfold gK at *
  split at hh
  · rename_i hw
    rw [if_pos hw]
    split at hh
    · rename_i hp; rw [if_pos hp]; obtain ⟨v, h1, h2⟩ := hh; exact ⟨v, h1, h _ _ h2⟩
    · rename_i hp
      rw [if_neg hp]
      split at hh
      · rename_i hr; rw [if_pos hr]; obtain ⟨v, h1, h2⟩ := hh; exact ⟨v, h1, h _ _ h2⟩
      · rename_i hr; rw [if_neg hr]; exact mM (fun a w ⟨x, y⟩ => ⟨x, h _ _ y⟩) _ hh
  · rename_i hw; rw [if_neg hw]; exact h _ _ hh
theorem vI {i : Nat} {K K' : Act → World → Prop} (h : ∀ a w, K a w → K' a w) {a : Act} {w : World} (hh : io P ops Inv kf i K a w) : io P ops Inv kf i K' a w := by
  unfold io at *
  split
  · rename_i e; rw [e] at hh; exact h _ _ hh
  · rename_i o e; rw [e] at hh; exact vH h hh
def th (ops : Array Oper) (kf : Op → RK) (x y : Oper) : Bool :=
  x.apart ops y && ((kf x.op).pure || (kf y.op).pure || ((kf x.op).read && (kf y.op).read)) &&
  (match x.op with | .select .. => false | .defer _ => false | _ => true) && (match y.op with | .select .. => false | .defer _ => false | _ => true)
theorem As {x : Op} (h : (match x with | .select .. => false | .defer _ => false | _ => true) = true) : ∀ cs b, x ≠ .select cs b := by
  rintro cs b rfl; cases h
theorem kI {o : Oper} {a b : Act} {K K' : Act → World → Prop} {r : Result Next}
    (hp : ∀ v w', K (a.put o.dst v) w' → K' (b.put o.dst v) w')
    (hd : ∀ d w', K ({ a with defers := d :: a.defers }.put o.dst undef) w' → K' ({ b with defers := d :: b.defers }.put o.dst undef) w')
    (hh : o.upon P a K rJ r) : o.upon P b K' rJ r := by
  cases r with
  | halt z w' => cases z <;> exact hh.elim
  | ok n w' =>
    cases n <;> simp only [Oper.upon] at hh ⊢
    case value v => exact hp _ _ hh
    case skip => exact hp _ _ hh
    case defer d => exact hd _ _ hh
    case enter f args =>
      refine Calls.mono hh fun e w'' he => ?_
      cases e with
      | returned v => exact hp _ _ he
      | panicked c => exact he.elim
      | outgrown => obtain ⟨_, _, q⟩ := he; exact q.elim
    case row row args => exact Rows.mono hh fun v w'' he => hp _ _ he
    all_goals exact hh.elim
theorem yD {o : Oper} {a : Act} {K : Act → World → Prop} {r : Result Next} (hh : o.upon P a K rJ r) :
    ∃ a' w', K a' w' ∧ ((∃ v, a' = a.put o.dst v) ∨ ∃ d, a' = ({ a with defers := d :: a.defers } : Act).put o.dst undef) := by
  cases r with
  | halt z w' => cases z <;> exact hh.elim
  | ok n w' =>
    cases n <;> simp only [Oper.upon] at hh
    case value v => exact ⟨_, _, hh, .inl ⟨v, rfl⟩⟩
    case skip => exact ⟨_, _, hh, .inl ⟨undef, rfl⟩⟩
    case defer d => exact ⟨_, _, hh, .inr ⟨d, rfl⟩⟩
    case enter f args =>
      obtain ⟨e, w'', fr, he, _⟩ := hh []
      cases e with
      | returned v => exact ⟨_, _, he, .inl ⟨v, rfl⟩⟩
      | panicked c => exact he.elim
      | outgrown => obtain ⟨_, _, q⟩ := he; exact q.elim
    case row row args =>
      obtain ⟨v, w'', he, _⟩ := hh default []
      exact ⟨_, _, he, .inl ⟨v, rfl⟩⟩
    all_goals exact hh.elim
theorem GD {x y : Oper} (hc : th ops kf x y = true) {K : Act → World → Prop} {a : Act} {w : World}
    (hh : gK P ops Inv kf x (gK P ops Inv kf y K) a w) : gK P ops Inv kf y (gK P ops Inv kf x K) a w := by
  simp only [th, Bool.and_eq_true] at hc
  obtain ⟨⟨⟨hap, hk⟩, hsx⟩, hsy⟩ := hc
  obtain ⟨h1, h2, h3⟩ := Oper.apart_spec hap
  have hsx' := As hsx
  have hsy' := As hsy
  have ex : ∀ (b : Act) u, execOp (b.put y.dst u).eval x = execOp b.eval x := fun b u => execOp_put x hsx' b y.dst u h3
  have ey : ∀ (b : Act) u, execOp (b.put x.dst u).eval y = execOp b.eval y := fun b u => execOp_put y hsy' b x.dst u h1
  have wx : ∀ (b : Act) u, Region.wanted x (yielded ops (b.put y.dst u).tmps) = Region.wanted x (yielded ops b.tmps) := fun b u => wanted_put x b y.dst u h3
  have wy : ∀ (b : Act) u, Region.wanted y (yielded ops (b.put x.dst u).tmps) = Region.wanted y (yielded ops b.tmps) := fun b u => wanted_put y b x.dst u h1
  have ed : ∀ (b : Act) (o : Oper) d, execOp ({ b with defers := d :: b.defers } : Act).eval o = execOp b.eval o := fun b o d => rfl
  have pc : ∀ (b : Act) u v, (b.put x.dst u).put y.dst v = (b.put y.dst v).put x.dst u := fun b u v => Act.put_comm b u v h2
  have pd : ∀ (b : Act) (t : Option Tmp) v d, ({ b.put t v with defers := d :: (b.put t v).defers } : Act) = ({ b with defers := d :: b.defers } : Act).put t v := fun b t v d => Act.put_defers b t v d
  unfold gK at hh ⊢
  by_cases hwx : Region.wanted x (yielded ops a.tmps) = true
  case neg =>
    simp only [hwx, wx, ex, if_false, Bool.false_eq_true] at hh ⊢
    simp only [wy, ey] at hh
    by_cases hwy : Region.wanted y (yielded ops a.tmps) = true
    case neg => simp only [hwy, if_false, Bool.false_eq_true] at hh ⊢; rw [← pc]; exact hh
    simp only [hwy, if_true] at hh ⊢
    by_cases py : (kf y.op).pure = true
    · simp only [py, if_true] at hh ⊢
      obtain ⟨v, hv, hh⟩ := hh
      exact ⟨v, hv, by rw [← pc]; exact hh⟩
    · simp only [py, if_false, Bool.false_eq_true] at hh ⊢
      by_cases ry : (kf y.op).read = true
      · simp only [ry, if_true] at hh ⊢
        obtain ⟨v, hv, hh⟩ := hh
        exact ⟨v, hv, by rw [← pc]; exact hh⟩
      · simp only [ry, if_false, Bool.false_eq_true] at hh ⊢
        unfold Oper.wp at hh ⊢
        rw [ey] at hh
        refine kI (fun v w' h => ?_) (fun d w' h => ?_) hh
        · exact ⟨h.1, by rw [wx, if_neg hwx, ← pc]; exact h.2⟩
        · have hw' : ¬ Region.wanted x (yielded ops ({ a with defers := d :: a.defers }.put y.dst undef).tmps) = true := by rw [wx]; exact hwx
          refine ⟨h.1, ?_⟩
          rw [if_neg hw', ← pc, ← pd]; exact h.2
  simp only [hwx, if_true] at hh
  by_cases hwy : Region.wanted y (yielded ops a.tmps) = true
  case neg =>
    simp only [hwy, wy, if_false, Bool.false_eq_true] at hh ⊢
    rw [wx, if_pos hwx, ex]
    by_cases px : (kf x.op).pure = true
    · simp only [px, if_true] at hh ⊢
      obtain ⟨v, hv, hh⟩ := hh
      exact ⟨v, hv, by rw [← pc]; exact hh⟩
    · simp only [px, if_false, Bool.false_eq_true] at hh ⊢
      by_cases rx : (kf x.op).read = true
      · simp only [rx, if_true] at hh ⊢
        obtain ⟨v, hv, hh⟩ := hh
        exact ⟨v, hv, by rw [← pc]; exact hh⟩
      · simp only [rx, if_false, Bool.false_eq_true] at hh ⊢
        unfold Oper.wp at hh ⊢
        rw [ex]
        refine kI (fun v w' h => ?_) (fun d w' h => ?_) hh
        · have h2 := h.2
          rw [wy, if_neg hwy] at h2
          exact ⟨h.1, by rw [← pc]; exact h2⟩
        · refine ⟨h.1, ?_⟩
          have h2 := h.2
          have hw' : ¬ Region.wanted y (yielded ops ({ a with defers := d :: a.defers }.put x.dst undef).tmps) = true := by rw [wy]; exact hwy
          rw [if_neg hw'] at h2
          rw [pd, ← pc]; exact h2
  rw [if_pos hwy]
  by_cases py : (kf y.op).pure = true
  · rw [if_pos py]
    by_cases px : (kf x.op).pure = true
    · simp only [px, if_true] at hh
      obtain ⟨u, hu, hh⟩ := hh
      rw [wy, if_pos hwy, if_pos py, ey] at hh
      obtain ⟨v, hv, hh⟩ := hh
      exact ⟨v, hv, by rw [wx, if_pos hwx, if_pos px, ex]; exact ⟨u, hu, by rw [← pc]; exact hh⟩⟩
    · simp only [px, if_false, Bool.false_eq_true] at hh
      by_cases rx : (kf x.op).read = true
      · simp only [rx, if_true] at hh
        obtain ⟨u, hu, hh⟩ := hh
        rw [wy, if_pos hwy, if_pos py, ey] at hh
        obtain ⟨v, hv, hh⟩ := hh
        exact ⟨v, hv, by rw [wx, if_pos hwx, if_neg px, if_pos rx, ex]; exact ⟨u, hu, by rw [← pc]; exact hh⟩⟩
      · simp only [rx, if_false, Bool.false_eq_true] at hh
        unfold Oper.wp at hh
        have hy : ∀ (b : Act) (w' : World), ((∃ u, b = a.put x.dst u) ∨ ∃ d, b = ({ a with defers := d :: a.defers } : Act).put x.dst undef) →
            (Inv w' ∧ (if Region.wanted y (yielded ops b.tmps) = true then
              if (kf y.op).pure = true then ∃ v, (∀ w', Inv w' → (execOp b.eval y).run P w' = .ok (.value v) w') ∧ K (b.put y.dst v) w'
              else if (kf y.op).read = true then ∃ v, (execOp b.eval y).run P w' = .ok (.value v) w' ∧ K (b.put y.dst v) w'
              else y.wp P b w' (fun a' w' => Inv w' ∧ K a' w') rJ else K (b.put y.dst undef) w')) →
            Inv w' ∧ ∃ v, (∀ w', Inv w' → (execOp a.eval y).run P w' = .ok (.value v) w') ∧ K (b.put y.dst v) w' := by
          rintro b w' hb ⟨hi, h⟩
          have hwb : Region.wanted y (yielded ops b.tmps) = true := by
            rcases hb with ⟨u, rfl⟩ | ⟨d, rfl⟩
            · rw [wy]; exact hwy
            · rw [wy]; exact hwy
          have heb : execOp b.eval y = execOp a.eval y := by
            rcases hb with ⟨u, rfl⟩ | ⟨d, rfl⟩
            · rw [ey]
            · rw [ey]; rfl
          rw [if_pos hwb, if_pos py, heb] at h
          exact ⟨hi, h⟩
        obtain ⟨b, w', hb, hbb⟩ := yD hh
        obtain ⟨hi, v, hv, _⟩ := hy b w' hbb hb
        refine ⟨v, hv, ?_⟩
        rw [wx, if_pos hwx, if_neg px, if_neg rx]
        unfold Oper.wp
        rw [ex]
        refine kI (fun u w' h => ?_) (fun d w' h => ?_) hh
        · obtain ⟨hi, v', hv', h⟩ := hy _ _ (.inl ⟨u, rfl⟩) h
          have e1 := hv w' hi
          rw [hv' w' hi] at e1
          cases e1
          exact ⟨hi, by rw [← pc]; exact h⟩
        · obtain ⟨hi, v', hv', h⟩ := hy _ _ (.inr ⟨d, rfl⟩) h
          have e1 := hv w' hi
          rw [hv' w' hi] at e1
          cases e1
          exact ⟨hi, by rw [pd, ← pc]; exact h⟩
  · rw [if_neg py]
    by_cases ry : (kf y.op).read = true
    · rw [if_pos ry]
      by_cases px : (kf x.op).pure = true
      · simp only [px, if_true] at hh
        obtain ⟨u, hu, hh⟩ := hh
        rw [wy, if_pos hwy, if_neg py, if_pos ry, ey] at hh
        obtain ⟨v, hv, hh⟩ := hh
        exact ⟨v, hv, by rw [wx, if_pos hwx, if_pos px, ex]; exact ⟨u, hu, by rw [← pc]; exact hh⟩⟩
      · have rx : (kf x.op).read = true := by simpa [px, py, ry] using hk
        simp only [px, rx, if_true, if_false, Bool.false_eq_true] at hh
        obtain ⟨u, hu, hh⟩ := hh
        rw [wy, if_pos hwy, if_neg py, if_pos ry, ey] at hh
        obtain ⟨v, hv, hh⟩ := hh
        exact ⟨v, hv, by rw [wx, if_pos hwx, if_neg px, if_pos rx, ex]; exact ⟨u, hu, by rw [← pc]; exact hh⟩⟩
    · rw [if_neg ry]
      have px : (kf x.op).pure = true := by simpa [py, ry] using hk
      simp only [px, if_true] at hh
      obtain ⟨u, hu, hh⟩ := hh
      rw [wy, if_pos hwy, if_neg py, if_neg ry] at hh
      unfold Oper.wp at hh ⊢
      rw [ey] at hh
      refine kI (fun v w' h => ?_) (fun d w' h => ?_) hh
      · exact ⟨h.1, by rw [wx, if_pos hwx, if_pos px, ex]; exact ⟨u, hu, by rw [← pc]; exact h.2⟩⟩
      · have hw' : Region.wanted x (yielded ops ({ a with defers := d :: a.defers }.put y.dst undef).tmps) = true := by rw [wx]; exact hwx
        refine ⟨h.1, ?_⟩
        rw [if_pos hw', if_pos px]
        refine ⟨u, by rw [ex]; exact hu, ?_⟩
        rw [← pc, ← pd]; exact h.2
def At (ms : List Nat) (o : Oper) : List Nat :=
  ms ++ [o.after.foldl (fun m e => if Region.binds .any e then m ||| (1 <<< e.on) ||| (ms.getD e.on 0) else m) 0]
def bG (ops : Array Oper) : List Nat := ops.toList.foldl At []
def Au (ms : List Nat) (ops : Array Oper) (kf : Op → RK) (i : Nat) (oi : Oper) (r : Nat) : Bool :=
  match ops[r]? with
  | none => true
  | some o => if (ms.getD i 0).testBit r then oi.after.any fun e => Region.binds .any e && (e.on == r || (ms.getD e.on 0).testBit r) else th ops kf o oi
def Af (kf : Op → RK) (ops : Array Oper) : Bool :=
  let ms := bG ops
  (List.range ops.size).all fun i => match ops[i]? with
    | none => true
    | some oi => (oi.after.all fun e => !Region.binds .any e || decide (e.on < i)) && (List.range i).all (Au ms ops kf i oi)
theorem ox (h : Af kf ops = true) {i : Nat} {oi : Oper} (hi : ops[i]? = some oi) : ∀ e ∈ oi.after, Region.binds .any e = true → e.on < i := by
  intro e he hb
  have hlt : i < ops.size := (Array.getElem?_eq_some_iff.1 hi).1
  have h1 := List.all_eq_true.1 h i (List.mem_range.2 hlt)
  simp only [hi, Bool.and_eq_true] at h1
  have h2 := (Array.all_eq_true'.1 h1.1) e he
  simpa [hb] using h2
theorem ti (h : Af kf ops = true) {i r : Nat} {oi o : Oper} (hi : ops[i]? = some oi) (hr : ops[r]? = some o) (hri : r < i) :
    (((bG ops).getD i 0).testBit r = true ∧ ∃ e ∈ oi.after, Region.binds .any e = true ∧ (e.on = r ∨ ((bG ops).getD e.on 0).testBit r = true)) ∨ th ops kf o oi = true := by
  have hlt : i < ops.size := (Array.getElem?_eq_some_iff.1 hi).1
  have h1 := List.all_eq_true.1 h i (List.mem_range.2 hlt)
  simp only [hi, Bool.and_eq_true] at h1
  have h2 := List.all_eq_true.1 h1.2 r (List.mem_range.2 hri)
  simp only [Au, hr] at h2
  split at h2
  · rename_i hb
    obtain ⟨e, he, h3⟩ := Array.any_eq_true'.1 h2
    simp only [Bool.and_eq_true, Bool.or_eq_true, beq_iff_eq] at h3
    exact .inl ⟨hb, e, he, h3.1, h3.2⟩
  · exact .inr h2
theorem jp (h : Af kf ops = true) {listed : Array Bool}
    (hcl : ∀ j oj, ops[j]? = some oj → listed.getD j false = true → ∀ e ∈ oj.after, Region.binds .any e = true → listed.getD e.on false = true) {r : Nat} {o : Oper} (hr : ops[r]? = some o) :
    ∀ (i : Nat) (oi : Oper), ops[i]? = some oi → r < i → (∀ e ∈ oi.after, Region.binds .any e = true → listed.getD e.on false = true) →
      ((bG ops).getD i 0).testBit r = true → (∀ k ok, ops[k]? = some ok → ((bG ops).getD k 0).testBit r = true → r < k ∧ ∃ e ∈ ok.after, Region.binds .any e = true ∧ (e.on = r ∨ ((bG ops).getD e.on 0).testBit r = true)) → listed.getD r false = true := by
  intro i
  induction i using Nat.strongRecOn with
  | _ i ih =>
    intro oi hi hri hall hb hm
    obtain ⟨_, e, he, hbe, Al⟩ := hm i oi hi hb
    have hle := hall e he hbe
    rcases Al with rfl | hme
    · exact hle
    · have hlt := ox h hi e he hbe
      have hes : e.on < ops.size := Nat.lt_trans hlt (Array.getElem?_eq_some_iff.1 hi).1
      have hoe := Array.getElem?_eq_getElem hes
      exact ih e.on hlt _ hoe (hm e.on _ hoe hme).1 (hcl e.on _ hoe hle) hme hm
def Av (ops : Array Oper) : Bool :=
  let ms := bG ops
  (List.range ops.size).all fun i => match ops[i]? with
    | none => true
    | some oi => (List.range ops.size).all fun r => !(ms.getD i 0).testBit r || (decide (r < i) && oi.after.any fun e => Region.binds .any e && (e.on == r || (ms.getD e.on 0).testBit r))
theorem bI (h : Av ops = true) {r : Nat} (hrs : r < ops.size) : ∀ k ok, ops[k]? = some ok → ((bG ops).getD k 0).testBit r = true → r < k ∧ ∃ e ∈ ok.after, Region.binds .any e = true ∧ (e.on = r ∨ ((bG ops).getD e.on 0).testBit r = true) := by
  intro k ok hk hb
  have h1 := List.all_eq_true.1 h k (List.mem_range.2 (Array.getElem?_eq_some_iff.1 hk).1)
  simp only [hk] at h1
  have h2 := List.all_eq_true.1 h1 r (List.mem_range.2 hrs)
  simp only [hb, Bool.not_true, Bool.false_or, Bool.and_eq_true, decide_eq_true_eq] at h2
  obtain ⟨e, he, h3⟩ := Array.any_eq_true'.1 h2.2
  simp only [Bool.and_eq_true, Bool.or_eq_true, beq_iff_eq] at h3
  exact ⟨h2.1, e, he, h3.1, h3.2⟩
theorem pull (Q : Act → World → Prop) {i : Nat} (R2 : List Nat) : ∀ (R1 : List Nat), (∀ r ∈ R1, ∀ o oi, ops[r]? = some o → ops[i]? = some oi → th ops kf o oi = true) →
    ∀ (a : Act) (w : World), yC P ops Inv kf Q (R1 ++ i :: R2) a w → io P ops Inv kf i (yC P ops Inv kf Q (R1 ++ R2)) a w
  | [], _, a, w, h => h
  | r :: R1, hc, a, w, h => by
    have h' : io P ops Inv kf r (io P ops Inv kf i (yC P ops Inv kf Q (R1 ++ R2))) a w :=
      vI (fun a w hh => pull Q R2 R1 (fun r' hr' => hc r' (List.mem_cons_of_mem _ hr')) a w hh) h
    show io P ops Inv kf i (fun a w => io P ops Inv kf r (yC P ops Inv kf Q (R1 ++ R2)) a w) a w
    unfold io at h' ⊢
    cases hi : ops[i]? with
    | none => simp only [hi] at h' ⊢; exact h'
    | some oi =>
      cases hr : ops[r]? with
      | none => simp only [hi, hr] at h' ⊢; exact h'
      | some o => simp only [hi, hr] at h' ⊢; exact GD (hc r (List.mem_cons_self ..) o oi hr hi) h'
theorem lm {Q : Exit → Act → World → Prop} {i : Nat} {K K' : Act → World → Prop} {a : Act} {w : World} (hw : Inv w)
    (h : ∀ a w, Inv w → K a w → K' a w) (hh : io P ops Inv kf i K a w) : wpOp P ops Q i K' a w := by
  unfold io at hh
  unfold wpOp
  split
  · rename_i e; simp only [e] at hh; exact h _ _ hw hh
  · rename_i o e
    simp only [e] at hh
    unfold gK at hh
    split
    · rename_i hwa
      rw [if_pos hwa] at hh
      refine .inl ?_
      unfold Oper.wp
      split at hh
      · obtain ⟨v, hv, hk⟩ := hh
        rw [hv w hw]; exact h _ _ hw hk
      · split at hh
        · obtain ⟨v, hv, hk⟩ := hh
          rw [hv]; exact h _ _ hw hk
        · exact mM (fun a w ⟨x, y⟩ => h _ _ x y) _ hh
    · rename_i hwa
      rw [if_neg hwa] at hh
      exact h _ _ hw hh
def aE (ops : Array Oper) (listed : Array Bool) : List Nat := (List.range ops.size).filter fun i => !listed.getD i true
theorem dA (listed : Array Bool) : (aE ops listed).Pairwise (· < ·) := (List.pairwise_lt_range).filter _
theorem jq {listed : Array Bool} {i : Nat} {R1 R2 : List Nat} (hs : listed.size = ops.size) (h : aE ops listed = R1 ++ i :: R2) : aE ops (listed.setIfInBounds i true) = R1 ++ R2 := by
  have hp := dA (ops := ops) listed
  have hi : i ∈ aE ops listed := by rw [h]; simp
  have e : aE ops (listed.setIfInBounds i true) = (aE ops listed).filter fun j => j != i := by
    unfold aE
    rw [List.filter_filter]
    refine List.filter_congr fun j hj => ?_
    have hj' : j < listed.size := by rw [hs]; exact List.mem_range.1 hj
    by_cases hji : j = i
    · subst hji; simp [hj']
    · simp [hji, Array.getElem?_setIfInBounds_ne (Ne.symm hji)]
  rw [e, h, List.filter_append]
  rw [h] at hp
  obtain ⟨_, hp2, hp3⟩ := List.pairwise_append.1 hp
  have hp2' := List.pairwise_cons.1 hp2
  rw [List.filter_eq_self.2 (fun j hj => by have := hp3 j hj i (List.mem_cons_self ..); simp; omega)]
  congr 1
  rw [List.filter_cons]
  simp only [bne_self_eq_false, Bool.false_eq_true, if_false]
  exact List.filter_eq_self.2 (fun j hj => by have := hp2'.1 j hj; simp; omega)
theorem lW {Q : Exit → Act → World → Prop} {Q1 : Act → World → Prop} (hQ : ∀ a w, Inv w → Q1 a w → Q .normal a w) (hok : Af kf ops = true) (hm : Av ops = true) :
    ∀ (fuel : Nat) (listed : Array Bool) (a : Act) (w : World), listed.size = ops.size →
      (∀ j oj, ops[j]? = some oj → listed.getD j false = true → ∀ e ∈ oj.after, Region.binds .any e = true → listed.getD e.on false = true) →
      (aE ops listed).length ≤ fuel → Inv w → yC P ops Inv kf Q1 (aE ops listed) a w → wpAny P .any ops Q fuel listed a w := by
  intro fuel
  have hnone : ∀ (listed : Array Bool), listed.size = ops.size → Region.ready .any ops listed = [] → aE ops listed = [] := by
    intro listed hs hr
    cases hl : aE ops listed with
    | nil => rfl
    | cons i rest =>
      exfalso
      have hi : i ∈ aE ops listed := by rw [hl]; simp
      obtain ⟨hir, hil⟩ := List.mem_filter.1 hi
      have his := List.mem_range.1 hir
      have hoi := Array.getElem?_eq_getElem his
      have hsort := dA (ops := ops) listed
      rw [hl] at hsort
      have hmin := (List.pairwise_cons.1 hsort).1
      have : i ∈ Region.ready .any ops listed := by
        refine List.mem_filter.2 ⟨hir, ?_⟩
        simp only [hil, Bool.true_and, hoi, Option.map_some, Option.getD_some, Array.all_eq_true']
        intro e he
        cases hb : Region.binds .any e with
        | false => rfl
        | true =>
          simp only [Bool.not_true, Bool.false_or]
          have hlt := ox hok hoi e he hb
          have hel : e.on < listed.size := by rw [hs]; omega
          cases hv : listed.getD e.on false with
          | true => rfl
          | false =>
            have hv' : listed.getD e.on true = false := by simp [hel] at hv ⊢; exact hv
            have hmem : e.on ∈ aE ops listed := List.mem_filter.2 ⟨List.mem_range.2 (by omega), by rw [hv']; rfl⟩
            rw [hl] at hmem
            rcases List.mem_cons.1 hmem with h | h
            · omega
            · have := hmin _ h; omega
      rw [hr] at this; cases this
  induction fuel with
  | zero =>
    intro listed a w hs hcl hlen hw h
    have hl : aE ops listed = [] := List.length_eq_zero_iff.1 (by omega)
    rw [hl] at h
    refine ⟨?_, hQ _ _ hw h⟩
    cases hr : Region.ready .any ops listed with
    | nil => rfl
    | cons i rest =>
      exfalso
      have hi : i ∈ Region.ready .any ops listed := by rw [hr]; simp
      obtain ⟨hir, hil⟩ := List.mem_filter.1 hi
      simp only [Bool.and_eq_true] at hil
      have : i ∈ aE ops listed := List.mem_filter.2 ⟨hir, hil.1⟩
      rw [hl] at this; cases this
  | succ fuel ih =>
    intro listed a w hs hcl hlen hw h
    refine ⟨fun hr => ?_, fun i hi => ?_⟩
    · rw [hnone listed hs hr] at h; exact hQ _ _ hw h
    · obtain ⟨hir, hil⟩ := List.mem_filter.1 hi
      simp only [Bool.and_eq_true] at hil
      have his := List.mem_range.1 hir
      have hoi := Array.getElem?_eq_getElem his
      have hmem : i ∈ aE ops listed := List.mem_filter.2 ⟨hir, hil.1⟩
      have hall : ∀ e ∈ ops[i].after, Region.binds .any e = true → listed.getD e.on false = true := by
        have h2 := hil.2
        simp only [hoi, Option.map_some, Option.getD_some, Array.all_eq_true'] at h2
        intro e he hb
        simpa [hb] using h2 e he
      obtain ⟨R1, R2, hR⟩ := List.append_of_mem hmem
      have hsort := dA (ops := ops) listed
      rw [hR] at h hsort
      have hlt : ∀ r ∈ R1, r < i := fun r hr => (List.pairwise_append.1 hsort).2.2 r hr i (List.mem_cons_self ..)
      have hun : ∀ r ∈ R1, listed.getD r false = false := by
        intro r hr
        have hmr : r ∈ aE ops listed := by rw [hR]; exact List.mem_append_left _ hr
        obtain ⟨hrr, hrl⟩ := List.mem_filter.1 hmr
        have hrs : r < listed.size := by rw [hs]; exact List.mem_range.1 hrr
        simp [hrs] at hrl ⊢; exact hrl
      have hstep := pull Q1 R2 R1 (fun r hr o oi ho hoi' => by
        have hri := hlt r hr
        cases hoi.symm.trans hoi'
        rcases ti hok hoi ho hri with ⟨hb, _⟩ | hc
        · have := jp hok hcl ho i _ hoi hri hall hb (bI hm (by omega))
          rw [hun r hr] at this; cases this
        · exact hc) a w h
      refine lm hw (fun a' w' hw' h' => ?_) hstep
      rw [← jq hs hR] at h'
      refine ih _ a' w' (by simp [hs]) ?_ ?_ hw' h'
      · intro j oj hj hl e he hb
        by_cases hji : i = j
        · subst hji
          cases hoi.symm.trans hj
          exact getD_set_true (hall e he hb)
        · rw [getD_set_ne false hji] at hl
          exact getD_set_true (hcl j oj hj hl e he hb)
      · rw [jq hs hR]
        have := hlen
        rw [hR] at this
        simp at this ⊢
        omega
theorem eM : aE ops (Array.replicate ops.size false) = List.range ops.size :=
  List.filter_eq_self.2 fun i hi => by simp [List.mem_range.1 hi]
theorem E4 (Q1 : Act → World → Prop) (l : List Oper) : ∀ k, (∀ j, l[j]? = ops[k + j]?) → yC P ops Inv kf Q1 (List.range' k l.length) = nF P ops Inv kf Q1 l := by
  induction l with
  | nil => intro k _; funext a w; simp [yC, nF]
  | cons o l ih =>
    intro k h
    have h0 : ops[k]? = some o := by simpa using (h 0).symm
    have ih' := ih (k + 1) (fun j => by have := h (j + 1); simpa [Nat.add_assoc, Nat.add_comm 1 j] using this)
    funext a w
    simp only [List.length_cons, List.range'_succ, yC, io, h0, nF, ih']
theorem aW (m j : Nat) : (Array.replicate m false).getD j false = false := by
  rcases Nat.lt_or_ge j m with h | h
  · simp [h]
  · simp [h]
theorem dm {id : Nat} {Q : Exit → Act → World → Prop} {a : Act} {w : World} {l : List Oper} (Inv : World → Prop) (kf : Op → RK) (hm : P.follows .mixedOrders = true)
    (hok : (Af kf l.toArray && Av l.toArray) = true) (hw : Inv w.drew) (h : nF P l.toArray Inv kf (Q .normal) l a w.drew) : (Code.region id l.toArray true).wp P Q a w := by
  simp only [Bool.and_eq_true] at hok
  refine wp_region_any hm (lW (fun _ _ _ h => h) hok.1 hok.2 _ _ _ _ (by simp) (fun j oj hj hl => ?_) (by rw [eM]; simp) hw ?_)
  · exfalso
    have := aW l.toArray.size j
    rw [this] at hl; cases hl
  · rw [eM, List.range_eq_range']
    have := E4 (P := P) (Inv := Inv) (kf := kf) (Q .normal) (ops := l.toArray) l 0 (by simp)
    simp only [List.size_toArray]
    rw [this]; exact h
theorem eD {Q : Act → World → Prop} {a : Act} {w : World} (h : Q a w) : nF P ops Inv kf Q [] a w := h
theorem aD {Q : Act → World → Prop} {a : Act} {w : World} {o : Oper} {rest : List Oper} (hw : Region.wanted o (yielded ops a.tmps) = true) (hk : (kf o.op).pure = true) (v : Value)
    (hv : ∀ w', Inv w' → (execOp a.eval o).run P w' = .ok (.value v) w') (h : ∀ K : Act → World → Prop, (∀ a w, nF P ops Inv kf Q rest a w → K a w) → K (a.put o.dst v) w) : nF P ops Inv kf Q (o :: rest) a w := by
  unfold nF gK; rw [if_pos hw, if_pos hk]; exact ⟨v, hv, h _ fun _ _ h => h⟩
theorem jV {Q : Act → World → Prop} {a : Act} {w : World} {o : Oper} {rest : List Oper} (hw : Region.wanted o (yielded ops a.tmps) = true) (hk : (kf o.op).pure = false) (hk2 : (kf o.op).read = true) (v : Value)
    (hv : (execOp a.eval o).run P w = .ok (.value v) w) (h : ∀ K : Act → World → Prop, (∀ a w, nF P ops Inv kf Q rest a w → K a w) → K (a.put o.dst v) w) : nF P ops Inv kf Q (o :: rest) a w := by
  unfold nF gK; rw [if_pos hw, if_neg (by simp [hk]), if_pos hk2]; exact ⟨v, hv, h _ fun _ _ h => h⟩
theorem fy {Q : Act → World → Prop} {a : Act} {w : World} {o : Oper} {rest : List Oper} (hw : Region.wanted o (yielded ops a.tmps) = false)
    (h : ∀ K : Act → World → Prop, (∀ a w, nF P ops Inv kf Q rest a w → K a w) → K (a.put o.dst undef) w) : nF P ops Inv kf Q (o :: rest) a w := by
  unfold nF gK; rw [if_neg (by simp [hw])]; exact h _ fun _ _ h => h
theorem bK {Q : Act → World → Prop} {a : Act} {w : World} {o : Oper} {rest : List Oper} (hw : Region.wanted o (yielded ops a.tmps) = true) (hk : (kf o.op).pure = false) (hk2 : (kf o.op).read = false)
    (h : ∀ K : Act → World → Prop, (∀ a w, (Inv w ∧ nF P ops Inv kf Q rest a w) → K a w) → o.wp P a w K rJ) : nF P ops Inv kf Q (o :: rest) a w := by
  unfold nF gK; rw [if_pos hw, if_neg (by simp [hk]), if_neg (by simp [hk2])]; exact h _ fun _ _ h => h
end
def InvB (N : Nat) (W0 : World) : World → Prop := fun W' => ∀ b o, b < N → W'.cell? ⟨b, o, none⟩ = W0.cell? ⟨b, o, none⟩
theorem InvB.refl (N : Nat) (W0 : World) : InvB N W0 W0 := fun _ _ _ => rfl
theorem InvB.below {N M : Nat} {W0 W W' : World} (h : InvB N W0 W) (hb : Below M W W') (hN : N ≤ M) : InvB N W0 W' := fun b o hlt => (hb.cell (p := ⟨b, o, none⟩) (Nat.lt_of_lt_of_le hlt hN)).trans (h b o hlt)
theorem InvB.drew {N : Nat} {W0 W : World} (h : InvB N W0 W) : InvB N W0 W.drew := h
theorem InvB.setCell {N : Nat} {W0 W : World} {a : Addr} {v : Value} (h : InvB N W0 W) (hN : N ≤ a.block) : InvB N W0 (W.setCell a v) :=
  h.below (M := N) ((Below.refl _ _).setCell hN v) (Nat.le_refl _)
theorem InvB.alloc {N : Nat} {W0 W : World} {o : Obj} (h : InvB N W0 W) (hN : N ≤ W.heap.size) : InvB N W0 (W.alloc o) :=
  h.below (M := N) ((Below.refl _ _).alloc hN o) (Nat.le_refl _)
end Go.Proofs.YtklcfjlmlbnkaaaGreatDoor
namespace Go.Proofs.YtklcfjlmlbnkaaaGreatDoor
open Go.RowKit
section
variable {P : Program} {ops : Array Oper}
def aB (ops : Array Oper) (vs : Nat → Value) (listed : Nat → Bool) : List Nat → Act → Act
  | [], a => a
  | i :: r, a => aB ops vs listed r (match ops[i]? with | some o => if listed i then a.put o.dst (vs i) else a | none => a)
theorem bH {vs vs' : Nat → Value} {L L' : Nat → Bool} : ∀ (r : List Nat) (a : Act), (∀ j ∈ r, L j = L' j ∧ (L j = true → vs j = vs' j)) → aB ops vs L r a = aB ops vs' L' r a
  | [], _, _ => rfl
  | j :: r, a, h => by
    obtain ⟨h1, h2⟩ := h j (List.mem_cons_self ..)
    unfold aB
    rw [bH r _ (fun k hk => h k (List.mem_cons_of_mem _ hk))]
    congr 1
    cases ho : ops[j]? with
    | none => rfl
    | some o =>
      simp only
      rw [← h1]
      cases hl : L j with
      | false => simp
      | true => simp [h2 hl]
theorem kJ {vs : Nat → Value} {L : Nat → Bool} {d : Option Tmp} {v : Value} : ∀ (r : List Nat) (a : Act), (∀ j ∈ r, ∀ o, ops[j]? = some o → ∀ (b : Act) u w, (b.put d u).put o.dst w = (b.put o.dst w).put d u) →
    aB ops vs L r (a.put d v) = (aB ops vs L r a).put d v
  | [], _, _ => rfl
  | j :: r, a, h => by
    unfold aB
    cases ho : ops[j]? with
    | none => simp only; exact kJ r a (fun k hk => h k (List.mem_cons_of_mem _ hk))
    | some o =>
      simp only
      cases hl : L j with
      | false => simp only [Bool.false_eq_true, if_false]; exact kJ r a (fun k hk => h k (List.mem_cons_of_mem _ hk))
      | true =>
        simp only [if_true]
        rw [h j (List.mem_cons_self ..) o ho]
        exact kJ r _ (fun k hk => h k (List.mem_cons_of_mem _ hk))
theorem eN {vs : Nat → Value} {L : Nat → Bool} {i : Nat} {o : Oper} {v : Value} (ho : ops[i]? = some o) : ∀ (r : List Nat) (a : Act), r.Nodup → i ∈ r →
    (∀ j ∈ r, j ≠ i → ∀ o', ops[j]? = some o' → ∀ (b : Act) u w, (b.put o.dst u).put o'.dst w = (b.put o'.dst w).put o.dst u) → L i = false →
    aB ops (fun j => if j = i then v else vs j) (fun j => if j = i then true else L j) r a = (aB ops vs L r a).put o.dst v
  | [], _, _, h, _, _ => by cases h
  | j :: r, a, hn, hi, hc, hl => by
    obtain ⟨hjr, hr⟩ := List.nodup_cons.1 hn
    by_cases e : j = i
    · subst e
      unfold aB
      simp only [ho, if_true, hl, Bool.false_eq_true, if_false]
      rw [kJ r a (fun k hk o' h' => hc k (List.mem_cons_of_mem _ hk) (fun e => hjr (e ▸ hk)) o' h')]
      rw [bH (vs' := vs) (L' := L) r a (fun k hk => by
        have hk' : k ≠ j := fun e => hjr (e ▸ hk)
        simp [hk'])]
    · have hir : i ∈ r := by rcases List.mem_cons.1 hi with h | h; exact absurd h.symm e; exact h
      unfold aB
      simp only [if_neg e]
      exact eN ho r _ hr hir (fun k hk => hc k (List.mem_cons_of_mem _ hk)) hl
theorem dt {vs : Nat → Value} {L : Nat → Bool} : ∀ (r : List Nat) (a : Act), (aB ops vs L r a).tmps.size = a.tmps.size
  | [], _ => rfl
  | j :: r, a => by
    unfold aB
    rw [dt r]
    cases ho : ops[j]? with
    | none => rfl
    | some o =>
      simp only
      split
      · cases hd : o.dst <;> simp [Act.put]
      · rfl
theorem xo {a a' : Act} {t : Nat} (hs : a.tmps.size = a'.tmps.size) (h : a.tmps[t]? = a'.tmps[t]?) (d : Option Tmp) (v : Value) : (a.put d v).tmps[t]? = (a'.put d v).tmps[t]? := by
  cases d with
  | none => exact h
  | some d =>
    simp only [Act.put]
    by_cases e : d = t
    · subst e; simp [Array.getElem?_setIfInBounds, hs]
    · rw [Array.getElem?_setIfInBounds_ne e, Array.getElem?_setIfInBounds_ne e]; exact h
theorem oy {a : Act} {t : Nat} {d : Option Tmp} (h : d ≠ some t) (v : Value) : (a.put d v).tmps[t]? = a.tmps[t]? := by
  cases d with
  | none => rfl
  | some d => exact Array.getElem?_setIfInBounds_ne (fun e => h (by rw [e]))
theorem gL (a : Act) (d : Option Tmp) (v : Value) : (a.put d v).tmps.size = a.tmps.size := by cases d <;> simp [Act.put]
theorem fh {vs : Nat → Value} {L L' : Nat → Bool} (t : Nat) : ∀ (r : List Nat) (a a' : Act), a.tmps.size = a'.tmps.size → a.tmps[t]? = a'.tmps[t]? →
    (∀ j ∈ r, ∀ o, ops[j]? = some o → o.dst = some t → L j = L' j) → (aB ops vs L r a).tmps[t]? = (aB ops vs L' r a').tmps[t]?
  | [], _, _, _, h, _ => h
  | j :: r, a, a', hs, h, hL => by
    unfold aB
    have hr : ∀ k ∈ r, ∀ o, ops[k]? = some o → o.dst = some t → L k = L' k := fun k hk => hL k (List.mem_cons_of_mem _ hk)
    cases ho : ops[j]? with
    | none => exact fh t r _ _ hs h hr
    | some o =>
      simp only
      by_cases e : o.dst = some t
      · have := hL j (List.mem_cons_self ..) o ho e
        rw [this]
        split
        · exact fh t r _ _ (by rw [gL, gL]; exact hs) (xo hs h _ _) hr
        · exact fh t r _ _ hs h hr
      · refine fh t r _ _ ?_ ?_ hr
        · split <;> split <;> simp [gL, hs]
        · split <;> split <;> simp [oy e, h]
theorem dp {vs : Nat → Value} : ∀ (r : List Nat) (a : Act), aB ops vs (fun _ => false) r a = a
  | [], _ => rfl
  | j :: r, a => by
    unfold aB
    rw [dp r]
    cases ops[j]? <;> simp
theorem jr {vs : Nat → Value} {L : Nat → Bool} : ∀ (r s : List Nat) (a : Act), aB ops vs L (r ++ s) a = aB ops vs L s (aB ops vs L r a)
  | [], _, _ => rfl
  | _ :: r, s, _ => jr r s _
def Vals (P : Program) (o : Oper) (a : Act) (w : World) (R : Value → World → Prop) : Prop :=
  match (execOp a.eval o).run P w with
  | .ok (.value v) w' => R v w'
  | .ok .skip w' => R undef w'
  | .ok (.enter f args) w' => Calls P f args w' fun e w'' => ∃ v, e = .returned v ∧ R v w''
  | .ok (.row row args) w' => Rows P row args w' R
  | _ => False
theorem Vals.wp {o : Oper} {a b : Act} {w : World} {R : Value → World → Prop} (he : execOp a.eval o = execOp b.eval o) {K : Act → World → Prop} {Q : Exit → Act → World → Prop}
    (h : Vals P o b w R) (hk : ∀ v w', R v w' → K (a.put o.dst v) w') : o.wp P a w K Q := by
  unfold Vals at h
  unfold Oper.wp
  rw [he]
  generalize (execOp b.eval o).run P w = r at *
  cases r with
  | halt x w' => exact h.elim
  | ok n w' =>
    cases n <;> simp only [Oper.upon] at h ⊢
    case value v => exact hk _ _ h
    case skip => exact hk _ _ h
    case enter f args =>
      refine h.mono fun e w'' he => ?_
      obtain ⟨v, rfl, hr⟩ := he
      exact hk _ _ hr
    case row row args => exact h.mono fun v w'' he => hk _ _ he
    all_goals exact h.elim
theorem aX {o : Oper} {a : Act} {w w' : World} {R : Value → World → Prop} {v : Value} (h : (execOp a.eval o).run P w = .ok (.value v) w') (hr : R v w') : Vals P o a w R := by
  unfold Vals; rw [h]; exact hr
theorem cW {o : Oper} {a : Act} {w w' : World} {R : Value → World → Prop} {f : FuncId} {args : Array Value} (h : (execOp a.eval o).run P w = .ok (.enter f args) w')
    (hr : Calls P f args w' fun e w'' => ∃ v, e = .returned v ∧ R v w'') : Vals P o a w R := by
  unfold Vals; rw [h]; exact hr
theorem dv {ops : Array Oper} (o : Oper) (hs : ∀ cs b, o.op ≠ .select cs b) {a b : Act} (h : ∀ t ∈ o.looksAt ops, a.tmps[t]? = b.tmps[t]?) : execOp a.eval o = execOp b.eval o :=
  execOp_congr o hs fun x hx => by
    cases x with
    | tmp t =>
      have := h t (List.mem_append_left _ (List.mem_filterMap.2 ⟨.tmp t, by simpa using hx, rfl⟩))
      simp only [Act.eval, Array.getD_eq_getD_getElem?, this]
    | _ => rfl
theorem dK {ops : Array Oper} (o : Oper) {a b : Act} (h : ∀ t ∈ o.looksAt ops, a.tmps[t]? = b.tmps[t]?) : Region.wanted o (yielded ops a.tmps) = Region.wanted o (yielded ops b.tmps) := by
  unfold Region.wanted
  cases hg : o.guard with
  | none => rfl
  | some gw =>
    obtain ⟨g, want⟩ := gw
    have hy : yielded ops a.tmps g = yielded ops b.tmps g := by
      unfold yielded
      cases ht : (ops[g]?).bind (·.dst) with
      | none => rfl
      | some t =>
        have := h t (by simp [Oper.looksAt, hg, ht])
        simp only [Option.bind_some, this]
    simp only [hy]
def rK (P : Program) (ops : Array Oper) (Rs : Nat → Value → World → Prop) (w0 : World) (vs : Nat → Value) (i : Nat) (o : Oper) (a : Act) : Prop :=
  ∀ w1, Below w0.heap.size w0 w1 → (∀ j, j < ops.size → ((bG ops).getD i 0).testBit j = true → Rs j (vs j) w1) →
    if Region.wanted o (yielded ops a.tmps) then Vals P o a w1 (fun v w2 => Below w1.heap.size w1 w2 ∧ Rs i v w2) else Rs i undef w1
def qx (P : Program) (ops : Array Oper) (Rs : Nat → Value → World → Prop) (w0 : World) (vs : Nat → Value) (Q : Act → Prop) : List Oper → Nat → Act → Prop
  | [], _, a => Q a
  | o :: rest, i, a => rK P ops Rs w0 vs i o a ∧ qx P ops Rs w0 vs Q rest (i + 1) (a.put o.dst (vs i))
def mN (ops : Array Oper) : Bool :=
  let ms := bG ops
  Av ops && (List.range ops.size).all fun i => match ops[i]? with
    | none => true
    | some oi => (oi.after.all fun e => !Region.binds .any e || decide (e.on < i)) && (match oi.op with | .select .. => false | .defer _ => false | _ => true) &&
      (List.range ops.size).all fun j => match ops[j]? with
        | none => true
        | some oj => i == j || ((match oj.dst with | some d => oi.dst != some d && ((ms.getD i 0).testBit j || (ms.getD j 0).testBit i || !(oi.looksAt ops).contains d) | none => true))
theorem oz (h : mN ops = true) {i : Nat} {oi : Oper} (hi : ops[i]? = some oi) : ∀ e ∈ oi.after, Region.binds .any e = true → e.on < i := by
  intro e he hb
  simp only [mN, Bool.and_eq_true] at h
  have h1 := List.all_eq_true.1 h.2 i (List.mem_range.2 (Array.getElem?_eq_some_iff.1 hi).1)
  simp only [hi, Bool.and_eq_true] at h1
  have h2 := (Array.all_eq_true'.1 h1.1.1) e he
  simpa [hb] using h2
theorem fZ (h : mN ops = true) {i : Nat} {oi : Oper} (hi : ops[i]? = some oi) : ∀ cs b, oi.op ≠ .select cs b := by
  simp only [mN, Bool.and_eq_true] at h
  have h1 := List.all_eq_true.1 h.2 i (List.mem_range.2 (Array.getElem?_eq_some_iff.1 hi).1)
  simp only [hi, Bool.and_eq_true] at h1
  exact As h1.1.2
theorem bX (h : mN ops = true) {i j : Nat} {oi oj : Oper} (hi : ops[i]? = some oi) (hj : ops[j]? = some oj) (hij : i ≠ j) {d : Nat} (hd : oj.dst = some d) :
    oi.dst ≠ some d ∧ (((bG ops).getD i 0).testBit j = true ∨ ((bG ops).getD j 0).testBit i = true ∨ d ∉ oi.looksAt ops) := by
  simp only [mN, Bool.and_eq_true] at h
  have h1 := List.all_eq_true.1 h.2 i (List.mem_range.2 (Array.getElem?_eq_some_iff.1 hi).1)
  simp only [hi, Bool.and_eq_true] at h1
  have h2 := List.all_eq_true.1 h1.2 j (List.mem_range.2 (Array.getElem?_eq_some_iff.1 hj).1)
  simp only [hj, hd, Bool.or_eq_true, beq_iff_eq, Bool.and_eq_true, bne_iff_ne, ne_eq, Bool.not_eq_true'] at h2
  rcases h2 with h2 | h2
  · exact absurd h2 hij
  · exact ⟨h2.1, or_assoc.1 (h2.2.imp id (fun h => by simpa using h))⟩
theorem fb (h : mN ops = true) : Av ops = true := by
  simp only [mN, Bool.and_eq_true] at h
  exact h.1
theorem cB {listed : Array Bool} (h : mN ops = true)
    (hcl : ∀ j oj, ops[j]? = some oj → listed.getD j false = true → ∀ e ∈ oj.after, Region.binds .any e = true → listed.getD e.on false = true) {r : Nat} (hrs : r < ops.size) :
    ∀ (i : Nat) (oi : Oper), ops[i]? = some oi → (∀ e ∈ oi.after, Region.binds .any e = true → listed.getD e.on false = true) →
      ((bG ops).getD i 0).testBit r = true → listed.getD r false = true := by
  intro i
  induction i using Nat.strongRecOn with
  | _ i ih =>
    intro oi hi hall hb
    obtain ⟨_, e, he, hbe, Al⟩ := bI (fb h) hrs i oi hi hb
    have hle := hall e he hbe
    rcases Al with rfl | hme
    · exact hle
    · have hlt := oz h hi e he hbe
      have hes : e.on < ops.size := Nat.lt_trans hlt (Array.getElem?_eq_some_iff.1 hi).1
      have hoe := Array.getElem?_eq_getElem hes
      exact ih e.on hlt _ hoe (hcl e.on _ hoe hle) hme
theorem Aw {Rs : Nat → Value → World → Prop} {w0 : World} {vs : Nat → Value} {Q : Act → Prop} (l : List Oper) (k : Nat) (a : Act) (h : qx P ops Rs w0 vs Q l k a) (hl : ∀ j, l[j]? = ops[k + j]?) :
    (∀ i o, l[i]? = some o → rK P ops Rs w0 vs (k + i) o (aB ops vs (fun _ => true) (List.range' k i) a)) ∧ Q (aB ops vs (fun _ => true) (List.range' k l.length) a) := by
  induction l generalizing k a with
  | nil => exact ⟨fun i o hi => by simp at hi, h⟩
  | cons o l ih =>
    obtain ⟨h1, h2⟩ := h
    have h0 : ops[k]? = some o := by simpa using (hl 0).symm
    have ih' := ih (k + 1) _ h2 (fun j => by have := hl (j + 1); simpa [Nat.add_assoc, Nat.add_comm 1 j] using this)
    refine ⟨fun i o' hi => ?_, ?_⟩
    · cases i with
      | zero => simp at hi; subst hi; exact h1
      | succ i =>
        have := ih'.1 i o' (by simpa using hi)
        rw [List.range'_succ]
        unfold aB
        simp only [h0, if_true]
        rw [show k + (i + 1) = k + 1 + i by omega]; exact this
    · rw [List.length_cons, List.range'_succ]
      unfold aB
      simp only [h0, if_true]
      exact ih'.2
theorem Di {Rs : Nat → Value → World → Prop} {w0 : World} {a0 : Act} {Q : Exit → Act → World → Prop} (hok : mN ops = true)
    (hst : ∀ i v w w', Below w.heap.size w w' → Rs i v w → Rs i v w')
    (hob : ∀ vs, ∀ i o, ops[i]? = some o → rK P ops Rs w0 vs i o (aB ops vs (fun _ => true) (List.range i) a0))
    (hq : ∀ vs w1, Below w0.heap.size w0 w1 → (∀ i, i < ops.size → Rs i (vs i) w1) → Q .normal (aB ops vs (fun _ => true) (List.range ops.size) a0) w1) :
    ∀ (fuel : Nat) (listed : Array Bool) (vs : Nat → Value) (w : World), listed.size = ops.size →
      (∀ j oj, ops[j]? = some oj → listed.getD j false = true → ∀ e ∈ oj.after, Region.binds .any e = true → listed.getD e.on false = true) →
      (aE ops listed).length ≤ fuel → Below w0.heap.size w0 w → (∀ j, j < ops.size → listed.getD j false = true → Rs j (vs j) w) →
      wpAny P .any ops Q fuel listed (aB ops vs (fun j => listed.getD j false) (List.range ops.size) a0) w := by
  intro fuel
  have hready : ∀ (listed : Array Bool), listed.size = ops.size → Region.ready .any ops listed = [] → aE ops listed = [] := by
    intro listed hs hr
    cases hl : aE ops listed with
    | nil => rfl
    | cons i rest =>
      exfalso
      have hi : i ∈ aE ops listed := by rw [hl]; simp
      obtain ⟨hir, hil⟩ := List.mem_filter.1 hi
      have his := List.mem_range.1 hir
      have hoi := Array.getElem?_eq_getElem his
      have hsort := dA (ops := ops) listed
      rw [hl] at hsort
      have hmin := (List.pairwise_cons.1 hsort).1
      have : i ∈ Region.ready .any ops listed := by
        refine List.mem_filter.2 ⟨hir, ?_⟩
        simp only [hil, Bool.true_and, hoi, Option.map_some, Option.getD_some, Array.all_eq_true']
        intro e he
        cases hb : Region.binds .any e with
        | false => rfl
        | true =>
          simp only [Bool.not_true, Bool.false_or]
          have hlt := oz hok hoi e he hb
          have hel : e.on < listed.size := by rw [hs]; omega
          cases hv : listed.getD e.on false with
          | true => rfl
          | false =>
            have hv' : listed.getD e.on true = false := by simp [hel] at hv ⊢; exact hv
            have hmem : e.on ∈ aE ops listed := List.mem_filter.2 ⟨List.mem_range.2 (by omega), by rw [hv']; rfl⟩
            rw [hl] at hmem
            rcases List.mem_cons.1 hmem with h | h
            · omega
            · have := hmin _ h; omega
      rw [hr] at this; cases this
  have hdone : ∀ (listed : Array Bool) (vs : Nat → Value) (w : World), listed.size = ops.size → aE ops listed = [] → Below w0.heap.size w0 w → (∀ j, j < ops.size → listed.getD j false = true → Rs j (vs j) w) →
      Q .normal (aB ops vs (fun j => listed.getD j false) (List.range ops.size) a0) w := by
    intro listed vs w hs hl hb hr
    have hall : ∀ j, j < ops.size → listed.getD j false = true := by
      intro j hj
      cases hv : listed.getD j false with
      | true => rfl
      | false =>
        have hjs : j < listed.size := by rw [hs]; exact hj
        have hv' : listed.getD j true = false := by simp [hjs] at hv ⊢; exact hv
        have : j ∈ aE ops listed := List.mem_filter.2 ⟨List.mem_range.2 hj, by rw [hv']; rfl⟩
        rw [hl] at this; cases this
    rw [bH (vs' := vs) (L' := fun _ => true) _ _ (fun j hj => ⟨hall j (List.mem_range.1 hj), fun _ => rfl⟩)]
    exact hq vs w hb (fun i hi => hr i hi (hall i hi))
  induction fuel with
  | zero =>
    intro listed vs w hs hcl hlen hb hr
    have hl : aE ops listed = [] := List.length_eq_zero_iff.1 (by omega)
    refine ⟨?_, hdone listed vs w hs hl hb hr⟩
    cases hr' : Region.ready .any ops listed with
    | nil => rfl
    | cons i rest =>
      exfalso
      have hi : i ∈ Region.ready .any ops listed := by rw [hr']; simp
      obtain ⟨hir, hil⟩ := List.mem_filter.1 hi
      simp only [Bool.and_eq_true] at hil
      have : i ∈ aE ops listed := List.mem_filter.2 ⟨hir, hil.1⟩
      rw [hl] at this; cases this
  | succ fuel ih =>
    intro listed vs w hs hcl hlen hb hr
    refine ⟨fun he => hdone listed vs w hs (hready listed hs he) hb hr, fun i hi => ?_⟩
    obtain ⟨hir, hil⟩ := List.mem_filter.1 hi
    simp only [Bool.and_eq_true] at hil
    have his := List.mem_range.1 hir
    have hoi := Array.getElem?_eq_getElem his
    have hmem : i ∈ aE ops listed := List.mem_filter.2 ⟨hir, hil.1⟩
    have hni : listed.getD i false = false := by
      have hisl : i < listed.size := by rw [hs]; exact his
      have := hil.1
      simp [hisl] at this ⊢; exact this
    have hall : ∀ e ∈ ops[i].after, Region.binds .any e = true → listed.getD e.on false = true := by
      have h2 := hil.2
      simp only [hoi, Option.map_some, Option.getD_some, Array.all_eq_true'] at h2
      intro e he hb
      simpa [hb] using h2 e he
    have hmask : ∀ j, ((bG ops).getD i 0).testBit j = true → j < ops.size → listed.getD j false = true := fun j hj hjs => cB hok hcl hjs i _ hoi hall hj
    obtain ⟨R1, R2, hR⟩ := List.append_of_mem hmem
    have hlook : ∀ t ∈ (ops[i]).looksAt ops, (aB ops vs (fun j => listed.getD j false) (List.range ops.size) a0).tmps[t]? = (aB ops vs (fun _ => true) (List.range i) a0).tmps[t]? := by
      intro t ht
      have hsplit : List.range ops.size = List.range i ++ List.range' i (ops.size - i) := by
        rw [List.range_eq_range', List.range_eq_range', show ops.size = i + (ops.size - i) by omega, ← List.range'_append_1]; simp
      rw [hsplit, jr]
      rw [fh (L' := fun _ => false) t (List.range' i (ops.size - i)) _ _ J J (fun j hj o ho hd => ?_), dp]
      · refine fh t _ _ _ J J (fun j hj o ho hd => ?_)
        have hji := List.mem_range.1 hj
        rcases (bX hok hoi ho (by omega) hd).2 with h | h | h
        · exact hmask j h (by omega)
        · exact absurd (bI (fb hok) (r := i) (by omega) j _ ho h).1 (by omega)
        · exact absurd ht h
      · by_cases e : j = i
        · subst e; exact hni
        · rcases (bX hok hoi ho (fun h => e h.symm) hd).2 with h | h | h
          · exfalso
            have hji := (bI (fb hok) (r := j) (Array.getElem?_eq_some_iff.1 ho).1 i _ hoi h).1
            have := (List.mem_range'_1.1 hj).1
            omega
          · cases hlj : listed.getD j false with
            | false => rfl
            | true =>
              have := cB hok hcl his j _ ho (hcl j _ ho hlj) h
              rw [hni] at this; cases this
          · exact absurd ht h
    have hsel := fZ hok hoi
    have hob' := hob vs i _ hoi w hb (fun j hjs hj => hr j hjs (hmask j hj hjs))
    have next : ∀ v w', Below w.heap.size w w' → Rs i v w' → wpAny P .any ops Q fuel (listed.setIfInBounds i true) ((aB ops vs (fun j => listed.getD j false) (List.range ops.size) a0).put (ops[i]).dst v) w' := by
      intro v w' hb' hv
      have hL : (fun j => if j = i then true else listed.getD j false) = (fun j => (listed.setIfInBounds i true).getD j false) := by
        funext j
        by_cases e : j = i
        · subst e; simp [hs, his]
        · rw [if_neg e, getD_set_ne false (fun h => e h.symm)]
      rw [← eN hoi (List.range ops.size) a0 List.nodup_range (List.mem_range.2 his) (fun j hj hji o' ho' b u x => Act.put_comm b u x (fun d hd => (bX hok ho' hoi hji hd).1)) hni]
      rw [hL]
      refine ih _ _ w' (by simp [hs]) ?_ ?_ (hb.trans (hb'.mono hb.size)) ?_
      · intro j oj hj hl e he hbe
        by_cases hji : i = j
        · subst hji
          cases hoi.symm.trans hj
          exact getD_set_true (hall e he hbe)
        · rw [getD_set_ne false hji] at hl
          exact getD_set_true (hcl j oj hj hl e he hbe)
      · rw [jq hs hR]
        have := hlen
        rw [hR] at this
        simp at this ⊢
        omega
      · intro j hj hl
        by_cases e : j = i
        · subst e; simp only [if_true]; exact hv
        · simp only [if_neg e]
          rw [getD_set_ne false (fun h => e h.symm)] at hl
          exact hst _ _ _ _ hb' (hr j hj hl)
    unfold wpOp
    simp only [hoi]
    rw [dK _ hlook]
    split
    · rename_i hw
      rw [if_pos hw] at hob'
      exact .inl (hob'.wp (dv _ hsel hlook) (fun v w' h => next v w' h.1 h.2))
    · rename_i hw
      rw [if_neg hw] at hob'
      exact next undef w (Below.refl _ _) hob'
theorem tl {id : Nat} {Q : Exit → Act → World → Prop} {a : Act} {w : World} {l : List Oper} (Rs : Nat → Value → World → Prop) (hm : P.follows .mixedOrders = true)
    (hok : mN l.toArray = true) (hst : ∀ i v w w', Below w.heap.size w w' → Rs i v w → Rs i v w')
    (h : ∀ vs, qx P l.toArray Rs w.drew vs (fun a' => ∀ w1, Below w.heap.size w w1 → (∀ i, i < l.length → Rs i (vs i) w1) → Q .normal a' w1) l 0 a) : (Code.region id l.toArray true).wp P Q a w := by
  have h' := fun vs => Aw (ops := l.toArray) l 0 a (h vs) (by simp)
  refine wp_region_any hm ?_
  have := Di (P := P) (ops := l.toArray) (Rs := Rs) (w0 := w.drew) (a0 := a) (Q := Q) hok hst
    (fun vs i o hi => by have := (h' vs).1 i o (by simpa using hi); rw [Nat.zero_add] at this; rw [List.range_eq_range']; exact this)
    (fun vs w1 hb hr => by have := (h' vs).2 w1 ((Below.refl w.heap.size w).drew.trans hb) (fun i hi => hr i (by simpa using hi)); rw [List.range_eq_range']; simpa using this)
    l.toArray.size (Array.replicate l.toArray.size false) (fun _ => undef) w.drew (by simp) (fun j oj hj hl => by
      exfalso
      have := aW l.toArray.size j
      rw [this] at hl; cases hl) (by rw [eM]; simp) (Below.refl _ _) (fun j hj hl => by
      exfalso
      have := aW l.toArray.size j
      rw [this] at hl; cases hl)
  rw [bH (vs' := fun _ => undef) (L' := fun _ => false) _ _ (fun j _ => ⟨aW _ j, fun h => rfl⟩), dp] at this
  exact this
section
variable {Rs : Nat → Value → World → Prop} {w0 : World} {vs : Nat → Value} {Q : Act → Prop} {i : Nat} {o : Oper} {rest : List Oper} {a : Act}
theorem Ax (h : Q a) : qx P ops Rs w0 vs Q [] i a := h
theorem aT (h : rK P ops Rs w0 vs i o a) (h2 : ∀ K : Act → Prop, (∀ a, qx P ops Rs w0 vs Q rest (i + 1) a → K a) → K (a.put o.dst (vs i))) : qx P ops Rs w0 vs Q (o :: rest) i a := ⟨h, h2 _ fun _ h => h⟩
theorem ba (c : Value) (hw : Region.wanted o (yielded ops a.tmps) = true)
    (h : ∀ w1, Below w0.heap.size w0 w1 → (∀ j, j < ops.size → ((bG ops).getD i 0).testBit j = true → Rs j (vs j) w1) → (execOp a.eval o).run P w1 = .ok (.value c) w1) (hR : ∀ w, Rs i c w) : rK P ops Rs w0 vs i o a := by
  intro w1 hb hF; rw [if_pos hw]; exact aX (h w1 hb hF) ⟨Below.refl _ _, hR _⟩
theorem Ay (hw : Region.wanted o (yielded ops a.tmps) = true)
    (h : ∀ w1, Below w0.heap.size w0 w1 → (∀ j, j < ops.size → ((bG ops).getD i 0).testBit j = true → Rs j (vs j) w1) → ∃ v w2, (execOp a.eval o).run P w1 = .ok (.value v) w2 ∧ Below w1.heap.size w1 w2 ∧ Rs i v w2) : rK P ops Rs w0 vs i o a := by
  intro w1 hb hF; rw [if_pos hw]; obtain ⟨v, w2, h1, h2⟩ := h w1 hb hF; exact aX h1 h2
theorem kK (f : FuncId) (args : Array Value) (hw : Region.wanted o (yielded ops a.tmps) = true)
    (h : ∀ w1, Below w0.heap.size w0 w1 → (∀ j, j < ops.size → ((bG ops).getD i 0).testBit j = true → Rs j (vs j) w1) → (execOp a.eval o).run P w1 = .ok (.enter f args) w1)
    (hc : ∀ w1, Below w0.heap.size w0 w1 → Calls P f args w1 fun e w2 => ∃ v, e = .returned v ∧ Below w1.heap.size w1 w2 ∧ Rs i v w2) : rK P ops Rs w0 vs i o a := by
  intro w1 hb hF; rw [if_pos hw]; exact cW (h w1 hb hF) (hc w1 hb)
theorem js {f : FuncId} {args : Array Value} {w1 : World} {c : Value} {R : Value → World → Prop} (h : Calls P f args w1 fun e w2 => e = .returned c ∧ Below w1.heap.size w1 w2) (hR : ∀ w, R c w) :
    Calls P f args w1 fun e w2 => ∃ v, e = .returned v ∧ Below w1.heap.size w1 w2 ∧ R v w2 := h.mono fun _ _ ⟨h1, h2⟩ => ⟨c, h1, h2, hR _⟩
end
inductive RC where
  | one (c : Value)
  | any (R : Value → World → Prop) (h : ∀ v w w', Below w.heap.size w w' → R v w → R v w')
def RC.holds : RC → Value → World → Prop
  | .one c, v, _ => v = c
  | .any R _, v, w => R v w
def Dj (l : List RC) (i : Nat) : Value → World → Prop := match l[i]? with | some c => c.holds | none => fun _ _ => True
theorem yE (l : List RC) : ∀ i v w w', Below w.heap.size w w' → Dj l i v w → Dj l i v w' := by
  intro i v w w' hb h
  unfold Dj at h ⊢
  cases hl : l[i]? with
  | none => trivial
  | some c =>
    rw [hl] at h
    cases c with
    | one c => exact h
    | any R hk => exact hk v w w' hb h
end
section
variable {P : Program} {ops : Array Oper}
theorem jt (hok : mN ops = true) (listed : Array Bool) (hs : listed.size = ops.size) {i : Nat} {rest : List Nat} (hl : aE ops listed = i :: rest) : i ∈ Region.ready .any ops listed := by
  have hi : i ∈ aE ops listed := by rw [hl]; simp
  obtain ⟨hir, hil⟩ := List.mem_filter.1 hi
  have his := List.mem_range.1 hir
  have hoi := Array.getElem?_eq_getElem his
  have hsort := dA (ops := ops) listed
  rw [hl] at hsort
  have hmin := (List.pairwise_cons.1 hsort).1
  refine List.mem_filter.2 ⟨hir, ?_⟩
  simp only [hil, Bool.true_and, hoi, Option.map_some, Option.getD_some, Array.all_eq_true']
  intro e he
  cases hb : Region.binds .any e with
  | false => rfl
  | true =>
    simp only [Bool.not_true, Bool.false_or]
    have hlt := oz hok hoi e he hb
    have hel : e.on < listed.size := by rw [hs]; omega
    cases hv : listed.getD e.on false with
    | true => rfl
    | false =>
      have hv' : listed.getD e.on true = false := by simp [hel] at hv ⊢; exact hv
      have hmem : e.on ∈ aE ops listed := List.mem_filter.2 ⟨List.mem_range.2 (by omega), by rw [hv']; rfl⟩
      rw [hl] at hmem
      rcases List.mem_cons.1 hmem with h | h
      · omega
      · have := hmin _ h; omega
theorem iO {listed : Array Bool} {i : Nat} (hi : i ∈ Region.ready .any ops listed) :
    i < ops.size ∧ listed.getD i true = false ∧ ∀ oi, ops[i]? = some oi → ∀ e ∈ oi.after, Region.binds .any e = true → listed.getD e.on false = true := by
  obtain ⟨hir, hil⟩ := List.mem_filter.1 hi
  simp only [Bool.and_eq_true, Bool.not_eq_true'] at hil
  refine ⟨List.mem_range.1 hir, hil.1, fun oi hoi e he hb => ?_⟩
  have h2 := hil.2
  simp only [hoi, Option.map_some, Option.getD_some, Array.all_eq_true'] at h2
  simpa [hb] using h2 e he
end
section
variable {P : Program} {ops : Array Oper}
def bi (o : Oper) : Bool := o.guard.isNone && match o.op with
  | .move _ => true
  | .assign _ => true
  | .extract _ _ => true
  | _ => false
theorem lC {o : Oper} {a : Act} {w : World} {R : Value → World → Prop} (h : bi o = true) (hv : Vals P o a w R) : ∃ v, (∀ w', (execOp a.eval o).run P w' = .ok (.value v) w') ∧ R v w := by
  have key : ∀ (r : World → Result Next) (v : Value), (∀ w', r w' = .ok (.value v) w') → (match r w with
      | .ok (.value v) w' => R v w'
      | .ok .skip w' => R undef w'
      | .ok (.enter f args) w' => Calls P f args w' fun e w'' => ∃ v, e = .returned v ∧ R v w''
      | .ok (.row row args) w' => Rows P row args w' R
      | _ => False) → ∃ v, (∀ w', r w' = .ok (.value v) w') ∧ R v w := fun r v hr hh => by rw [hr w] at hh; exact ⟨v, hr, hh⟩
  unfold bi at h
  unfold Vals at hv
  cases ho : o.op <;> rw [ho] at h <;> first
    | (simp at h; done)
    | (exact key (fun w => (execOp a.eval o).run P w) _ (fun w' => by unfold execOp; simp only [ho]; rfl) hv)
    | skip
  rename_i t ix
  cases ht : a.eval t with
  | tuple vs =>
    cases hx : vs[ix]? with
    | some v => exact key (fun w => (execOp a.eval o).run P w) v (fun w' => by unfold execOp; simp [ho, Instr.extract, ht, hx]) hv
    | none =>
      exfalso
      have : (execOp a.eval o).run P w = .halt (.stuck "Extract: no such component") w := by unfold execOp; simp [ho, Instr.extract, ht, hx, stuck]
      rw [this] at hv; exact hv
  | _ =>
    exfalso
    have : (execOp a.eval o).run P w = .halt (.stuck "Extract: tuple expected") w := by unfold execOp; simp [ho, Instr.extract, ht, stuck]
    rw [this] at hv; exact hv
def oA (P : Program) (ops : Array Oper) (Q : Act → World → Prop) : List Oper → Act → World → Prop
  | [], a, w => Q a w
  | o :: rest, a, w => if Region.wanted o (yielded ops a.tmps) then Vals P o a w (fun v w' => oA P ops Q rest (a.put o.dst v) w') else oA P ops Q rest (a.put o.dst undef) w
theorem iE {Q : Exit → Act → World → Prop} : ∀ {l : List Oper} {a : Act} {w : World}, oA P ops (Q .normal) l a w → wpList P ops Q l a w
  | [], _, _, h => h
  | o :: rest, a, w, h => by
    unfold oA at h
    unfold wpList
    split at h
    · rename_i hw
      rw [if_pos hw]
      exact .inl (h.wp rfl fun v w' hh => iE hh)
    · rename_i hw
      rw [if_neg hw]
      exact iE h
def qy (ops : Array Oper) (k : Nat) : Bool := (List.range ops.size).all fun i => decide (i < k) || (List.range i).all fun r => ((bG ops).getD i 0).testBit r || (decide (r < k) && match ops[r]? with | some o => bi o | none => false)
theorem oB {k : Nat} (h : qy ops k = true) : ∀ i, k ≤ i → i < ops.size → ∀ r, r < i → ((bG ops).getD i 0).testBit r = true ∨ (r < k ∧ ∃ o, ops[r]? = some o ∧ bi o = true) := by
  intro i hk hi r hr
  have h1 := List.all_eq_true.1 h i (List.mem_range.2 hi)
  simp only [Bool.or_eq_true, decide_eq_true_eq] at h1
  rcases h1 with h1 | h1
  · omega
  · have h2 := List.all_eq_true.1 h1 r (List.mem_range.2 hr)
    simp only [Bool.or_eq_true, Bool.and_eq_true, decide_eq_true_eq] at h2
    rcases h2 with h2 | ⟨h2, h3⟩
    · exact .inl h2
    · refine .inr ⟨h2, ?_⟩
      cases ho : ops[r]? with
      | none => rw [ho] at h3; cases h3
      | some o => rw [ho] at h3; exact ⟨o, rfl, h3⟩
theorem Hx {listed : Array Bool} {i : Nat} (hs : listed.size = ops.size) (hi : i < ops.size) (h : listed.getD i true = false) : listed.getD i false = false := by
  have hsz : i < listed.size := by omega
  simp [hsz] at h ⊢; exact h
theorem vJ {listed : Array Bool} {i : Nat} (hs : listed.size = ops.size) (hi : i < ops.size) (h : listed.getD i false = false) : listed.getD i true = false := by
  have hsz : i < listed.size := by omega
  simp [hsz] at h ⊢; exact h
theorem kL {a0 : Act} {vs : Nat → Value} (hok : mN ops = true) {listed : Array Bool}
    (hcl : ∀ j oj, ops[j]? = some oj → listed.getD j false = true → ∀ e ∈ oj.after, Region.binds .any e = true → listed.getD e.on false = true)
    {i : Nat} {o : Oper} (ho : ops[i]? = some o) (hi : listed.getD i false = false) (hall : ∀ e ∈ o.after, Region.binds .any e = true → listed.getD e.on false = true) :
    ∀ t ∈ o.looksAt ops, (aB ops vs (fun j => listed.getD j false) (List.range ops.size) a0).tmps[t]? = (aB ops vs (fun j => decide (j < i)) (List.range ops.size) a0).tmps[t]? := by
  intro t ht
  refine fh t _ _ _ J J (fun j hj oj hoj hd => ?_)
  have hjs := List.mem_range.1 hj
  by_cases e : j = i
  · subst e; rw [hi]; simp
  · rcases (bX hok ho hoj (fun h => e h.symm) hd).2 with h | h | h
    · have h1 := cB hok hcl hjs i _ ho hall h
      have h2 := (bI (fb hok) hjs i _ ho h).1
      rw [h1]; simp [h2]
    · have h2 := (bI (fb hok) (Array.getElem?_eq_some_iff.1 ho).1 j _ hoj h).1
      cases hlj : listed.getD j false with
      | false => simp; omega
      | true =>
        have := cB hok hcl (Array.getElem?_eq_some_iff.1 ho).1 j _ hoj (hcl j _ hoj hlj) h
        rw [hi] at this; cases this
    · exact absurd ht h
theorem cN {vs : Nat → Value} {a0 : Act} {m : Nat} (hm : m ≤ ops.size) : aB ops vs (fun j => decide (j < m)) (List.range ops.size) a0 = aB ops vs (fun _ => true) (List.range m) a0 := by
  have hsplit : List.range ops.size = List.range m ++ List.range' m (ops.size - m) := by
    rw [List.range_eq_range', List.range_eq_range']
    have := List.range'_append_1 (s := 0) (m := m) (n := ops.size - m)
    rw [Nat.zero_add] at this
    rw [this]; congr 1; omega
  rw [hsplit, jr]
  rw [bH (vs' := vs) (L' := fun _ => false) (List.range' m (ops.size - m)) _ (fun j hj => ⟨by have := (List.mem_range'_1.1 hj).1; simp; omega, fun _ => rfl⟩), dp]
  exact bH _ _ (fun j hj => ⟨by simp [List.mem_range.1 hj], fun _ => rfl⟩)
theorem eS {listed : Array Bool} {i : Nat} (hs : listed.size = ops.size) (hi : i < ops.size) : (fun j => if j = i then true else listed.getD j false) = (fun j => (listed.setIfInBounds i true).getD j false) := by
  funext j
  by_cases e : j = i
  · subst e; simp [hs, hi]
  · rw [if_neg e, getD_set_ne false (fun h => e h.symm)]
theorem ju {listed : Array Bool} {i : Nat} (hcl : ∀ j oj, ops[j]? = some oj → listed.getD j false = true → ∀ e ∈ oj.after, Region.binds .any e = true → listed.getD e.on false = true)
    (hall : ∀ oi, ops[i]? = some oi → ∀ e ∈ oi.after, Region.binds .any e = true → listed.getD e.on false = true) :
    ∀ j oj, ops[j]? = some oj → (listed.setIfInBounds i true).getD j false = true → ∀ e ∈ oj.after, Region.binds .any e = true → (listed.setIfInBounds i true).getD e.on false = true := by
  intro j oj hj hl e he hbe
  by_cases hji : i = j
  · subst hji
    exact getD_set_true (hall oj hj e he hbe)
  · rw [getD_set_ne false hji] at hl
    exact getD_set_true (hcl j oj hj hl e he hbe)
theorem gg {listed : Array Bool} {i fuel : Nat} (hs : listed.size = ops.size) (hi : i < ops.size) (hil : listed.getD i true = false) (h : (aE ops listed).length ≤ fuel + 1) : (aE ops (listed.setIfInBounds i true)).length ≤ fuel := by
  have hmem : i ∈ aE ops listed := List.mem_filter.2 ⟨List.mem_range.2 hi, by rw [hil]; rfl⟩
  obtain ⟨R1, R2, hR⟩ := List.append_of_mem hmem
  rw [jq hs hR]
  rw [hR] at h
  simp at h ⊢
  omega
theorem rL {Q : Exit → Act → World → Prop} {a0 : Act} {k : Nat} (hok : mN ops = true)
    (hends : ∀ i, k ≤ i → i < ops.size → ∀ r, r < i → ((bG ops).getD i 0).testBit r = true ∨ (r < k ∧ ∃ o, ops[r]? = some o ∧ bi o = true)) :
    ∀ (fuel : Nat) (listed : Array Bool) (vs : Nat → Value) (m : Nat) (w : World), listed.size = ops.size → k ≤ m → m ≤ ops.size →
      (∀ j oj, ops[j]? = some oj → listed.getD j false = true → ∀ e ∈ oj.after, Region.binds .any e = true → listed.getD e.on false = true) →
      (∀ j, m ≤ j → listed.getD j false = false) → (∀ j, k ≤ j → j < m → listed.getD j false = true) →
      (∀ f o, f < k → ops[f]? = some o → listed.getD f false = false → bi o = true ∧ ∀ w', (execOp (aB ops vs (fun j => decide (j < f)) (List.range ops.size) a0).eval o).run P w' = .ok (.value (vs f)) w') →
      (aE ops listed).length ≤ fuel → oA P ops (Q .normal) (ops.toList.drop m) (aB ops vs (fun j => decide (j < m)) (List.range ops.size) a0) w →
      wpAny P .any ops Q fuel listed (aB ops vs (fun j => listed.getD j false) (List.range ops.size) a0) w := by
  intro fuel
  have hend : ∀ (listed : Array Bool) (vs : Nat → Value) (m : Nat) (w : World), listed.size = ops.size → m ≤ ops.size → aE ops listed = [] → (∀ j, m ≤ j → listed.getD j false = false) →
      oA P ops (Q .normal) (ops.toList.drop m) (aB ops vs (fun j => decide (j < m)) (List.range ops.size) a0) w → Q .normal (aB ops vs (fun j => listed.getD j false) (List.range ops.size) a0) w := by
    intro listed vs m w hs hm hl hout h
    have hall : ∀ j, j < ops.size → listed.getD j false = true := by
      intro j hj
      cases hv : listed.getD j false with
      | true => rfl
      | false =>
        have : j ∈ aE ops listed := List.mem_filter.2 ⟨List.mem_range.2 hj, by rw [vJ hs hj hv]; rfl⟩
        rw [hl] at this; cases this
    have hms : m = ops.size := by
      apply Classical.byContradiction
      intro hn
      have := hall m (by omega)
      rw [hout m (Nat.le_refl _)] at this; cases this
    subst hms
    rw [List.drop_eq_nil_of_le (by simp)] at h
    rw [bH (vs' := vs) (L' := fun j => decide (j < ops.size)) _ _ (fun j hj => ⟨by rw [hall j (List.mem_range.1 hj)]; simp [List.mem_range.1 hj], fun _ => rfl⟩)]
    exact h
  induction fuel with
  | zero =>
    intro listed vs m w hs hkm hm hcl hout hin hfl hlen h
    have hl : aE ops listed = [] := List.length_eq_zero_iff.1 (by omega)
    refine ⟨?_, hend listed vs m w hs hm hl hout h⟩
    cases hr : Region.ready .any ops listed with
    | nil => rfl
    | cons i rest =>
      exfalso
      have hi : i ∈ Region.ready .any ops listed := by rw [hr]; simp
      obtain ⟨h1, h2, _⟩ := iO hi
      have : i ∈ aE ops listed := List.mem_filter.2 ⟨List.mem_range.2 h1, by rw [h2]; rfl⟩
      rw [hl] at this; cases this
  | succ fuel ih =>
    intro listed vs m w hs hkm hm hcl hout hin hfl hlen h
    refine ⟨fun hr => ?_, fun i hi => ?_⟩
    · refine hend listed vs m w hs hm ?_ hout h
      cases hl : aE ops listed with
      | nil => rfl
      | cons i rest =>
        have := jt hok listed hs hl
        rw [hr] at this; cases this
    obtain ⟨his, hil, hall⟩ := iO hi
    have hoi := Array.getElem?_eq_getElem his
    have hni := Hx hs his hil
    have hlook := kL (a0 := a0) (vs := vs) hok hcl hoi hni (hall _ hoi)
    have hop := dv (ops := ops) (ops[i]) (fZ hok hoi) hlook
    have hwt := dK (ops := ops) (ops[i]) hlook
    have hcl' := ju hcl hall
    have hlen' := gg hs his hil hlen
    have hcomm : ∀ j ∈ List.range ops.size, j ≠ i → ∀ o', ops[j]? = some o' → ∀ (b : Act) u x, (b.put (ops[i]).dst u).put o'.dst x = (b.put o'.dst x).put (ops[i]).dst u :=
      fun j _ hji o' ho' b u x => Act.put_comm b u x (fun d hd => (bX hok ho' hoi hji hd).1)
    unfold wpOp
    simp only [hoi]
    by_cases hik : i < k
    · obtain ⟨hf, hrun⟩ := hfl i _ hik hoi hni
      have hw : Region.wanted ops[i] (yielded ops (aB ops vs (fun j => listed.getD j false) (List.range ops.size) a0).tmps) = true := by
        unfold bi at hf
        simp only [Bool.and_eq_true] at hf
        unfold Region.wanted
        cases hg : (ops[i]).guard with
        | none => rfl
        | some g => rw [hg] at hf; simp at hf
      rw [if_pos hw]
      refine .inl ?_
      unfold Oper.wp
      rw [hop, hrun w, Oper.upon_value]
      rw [← eN (v := vs i) hoi (List.range ops.size) a0 List.nodup_range (List.mem_range.2 his) hcomm hni, eS hs his]
      have hvv : (fun j => if j = i then vs i else vs j) = vs := by funext j; split <;> simp_all
      rw [hvv]
      refine ih _ vs m w (by simp [hs]) hkm hm hcl' (fun j hj => by rw [getD_set_ne false (by omega)]; exact hout j hj) (fun j h1 h2 => getD_set_true (hin j h1 h2)) (fun f o hfk ho hf' => ?_) hlen' h
      by_cases e : i = f
      · subst e; simp [hs, his] at hf'
      · rw [getD_set_ne false e] at hf'; exact hfl f o hfk ho hf'
    · have him : i = m := by
        have hge : m ≤ i := by
          apply Classical.byContradiction
          intro hn
          have := hin i (by omega) (by omega)
          rw [hni] at this; cases this
        apply Classical.byContradiction
        intro hne
        rcases hends i (by omega) his m (by omega) with hb | ⟨hb, _⟩
        · have := cB hok hcl (by omega) i _ hoi (hall _ hoi) hb
          rw [hout m (Nat.le_refl _)] at this; cases this
        · omega
      subst him
      have hdrop : ops.toList.drop i = ops[i] :: ops.toList.drop (i + 1) := by
        rw [List.drop_eq_getElem_cons (by simpa using his)]; simp
      rw [hdrop] at h
      unfold oA at h
      have next : ∀ v w', oA P ops (Q .normal) (ops.toList.drop (i + 1)) ((aB ops vs (fun j => decide (j < i)) (List.range ops.size) a0).put (ops[i]).dst v) w' →
          wpAny P .any ops Q fuel (listed.setIfInBounds i true) ((aB ops vs (fun j => listed.getD j false) (List.range ops.size) a0).put (ops[i]).dst v) w' := by
        intro v w' hh
        rw [← eN (v := v) hoi (List.range ops.size) a0 List.nodup_range (List.mem_range.2 his) hcomm hni, eS hs his]
        rw [← eN (v := v) (L := fun j => decide (j < i)) hoi (List.range ops.size) a0 List.nodup_range (List.mem_range.2 his) hcomm (by simp)] at hh
        have hL : (fun j => if j = i then true else decide (j < i)) = (fun j => decide (j < i + 1)) := by
          funext j
          by_cases e : j = i
          · subst e; simp
          · rw [if_neg e]; congr 1; exact propext ⟨fun h => by omega, fun h => by omega⟩
        rw [hL] at hh
        refine ih _ _ (i + 1) w' (by simp [hs]) (by omega) (by omega) hcl' (fun j hj => by rw [getD_set_ne false (by omega)]; exact hout j (by omega)) (fun j h1 h2 => ?_) (fun f o hfk ho hf' => ?_) hlen' hh
        · by_cases e : i = j
          · subst e; simp [hs, his]
          · rw [getD_set_ne false e]; exact hin j h1 (by omega)
        · rw [getD_set_ne false (by omega)] at hf'
          obtain ⟨h1, h2⟩ := hfl f o hfk ho hf'
          refine ⟨h1, fun w'' => ?_⟩
          rw [if_neg (by omega)]
          rw [bH (vs' := vs) (L' := fun j => decide (j < f)) _ _ (fun j _ => ⟨rfl, fun hj => by rw [if_neg (by have := of_decide_eq_true hj; omega)]⟩)]
          exact h2 w''
      rw [hwt]
      split
      · rename_i hw
        rw [if_pos hw] at h
        exact .inl (h.wp hop next)
      · rename_i hw
        rw [if_neg hw] at h
        exact next undef w h
theorem Dk {Rs : Nat → Value → World → Prop} {w0 : World} {a0 : Act} {Q : Exit → Act → World → Prop} {k : Nat} (hk : k ≤ ops.size) (hok : mN ops = true)
    (hends : ∀ i, k ≤ i → i < ops.size → ∀ r, r < i → ((bG ops).getD i 0).testBit r = true ∨ (r < k ∧ ∃ o, ops[r]? = some o ∧ bi o = true))
    (hst : ∀ i v w w', Below w.heap.size w w' → Rs i v w → Rs i v w') (cv : Nat → Value) (hcv : ∀ f o, f < k → ops[f]? = some o → bi o = true → ∀ v w, Rs f v w ↔ v = cv f)
    (hob : ∀ vs, ∀ i o, i < k → ops[i]? = some o → rK P ops Rs w0 vs i o (aB ops vs (fun _ => true) (List.range i) a0))
    (hq : ∀ vs w1, Below w0.heap.size w0 w1 → (∀ i, i < k → Rs i (vs i) w1) → oA P ops (Q .normal) (ops.toList.drop k) (aB ops vs (fun _ => true) (List.range k) a0) w1) :
    ∀ (fuel : Nat) (listed : Array Bool) (vs : Nat → Value) (w : World), listed.size = ops.size →
      (∀ j oj, ops[j]? = some oj → listed.getD j false = true → ∀ e ∈ oj.after, Region.binds .any e = true → listed.getD e.on false = true) →
      (∀ j, k ≤ j → listed.getD j false = false) →
      (aE ops listed).length ≤ fuel → Below w0.heap.size w0 w → (∀ j, j < k → listed.getD j false = true → Rs j (vs j) w) →
      wpAny P .any ops Q fuel listed (aB ops vs (fun j => listed.getD j false) (List.range ops.size) a0) w := by
  intro fuel
  have hdone : ∀ (fuel : Nat) (listed : Array Bool) (vs : Nat → Value) (w : World), listed.size = ops.size →
      (∀ j oj, ops[j]? = some oj → listed.getD j false = true → ∀ e ∈ oj.after, Region.binds .any e = true → listed.getD e.on false = true) →
      (∀ j o, j < k → ops[j]? = some o → listed.getD j false = false → bi o = true) → (∀ j, k ≤ j → listed.getD j false = false) → (aE ops listed).length ≤ fuel → Below w0.heap.size w0 w →
      (∀ j, j < k → listed.getD j false = true → Rs j (vs j) w) → wpAny P .any ops Q fuel listed (aB ops vs (fun j => listed.getD j false) (List.range ops.size) a0) w := by
    intro fuel listed vs w hs hcl hfl hout hlen hb hr
    have hvs : ∃ vs' : Nat → Value, vs' = fun j => if listed.getD j false = true then vs j else cv j := ⟨_, rfl⟩
    obtain ⟨vs', hvs'⟩ := hvs
    have hRs : ∀ j, j < k → Rs j (vs' j) w := by
      intro j hj
      cases hl : listed.getD j false with
      | true =>
        have e : vs' j = vs j := by rw [hvs']; simp only [hl, if_true]
        rw [e]; exact hr j hj hl
      | false =>
        have e : vs' j = cv j := by rw [hvs']; simp only [hl, Bool.false_eq_true, if_false]
        rw [e]
        have hjs : j < ops.size := by omega
        have hoj := Array.getElem?_eq_getElem hjs
        exact (hcv j _ hj hoj (hfl j _ hj hoj hl) _ _).2 rfl
    rw [bH (vs' := vs') (L' := fun j => listed.getD j false) _ _ (fun j _ => ⟨rfl, fun hl => by rw [hvs']; simp only [hl, if_true]⟩)]
    refine rL (k := k) hok hends fuel listed vs' k w hs (Nat.le_refl _) hk hcl hout (fun j h1 h2 => by omega) (fun f o hfk ho hf => ?_) hlen ?_
    · have hfo := hfl f o hfk ho hf
      refine ⟨hfo, ?_⟩
      have hob' := hob vs' f o hfk ho w hb (fun j hjs hj => hRs j (by have := (bI (fb hok) (r := j) hjs f _ ho hj).1; omega))
      have hw : Region.wanted o (yielded ops (aB ops vs' (fun _ => true) (List.range f) a0).tmps) = true := by
        have hf' := hfo
        unfold bi at hf'
        simp only [Bool.and_eq_true] at hf'
        unfold Region.wanted
        cases hg : o.guard with
        | none => rfl
        | some g => rw [hg] at hf'; simp at hf'
      rw [if_pos hw] at hob'
      obtain ⟨v, hv, _, hR⟩ := lC hfo hob'
      have hvc := (hcv f o hfk ho hfo _ _).1 hR
      have hvf := (hcv f o hfk ho hfo _ _).1 (hRs f hfk)
      intro w'
      rw [cN (by omega), hv w', hvc, hvf]
    · rw [cN hk]
      exact hq vs' w hb hRs
  induction fuel with
  | zero =>
    intro listed vs w hs hcl hout hlen hb hr
    have hl : aE ops listed = [] := List.length_eq_zero_iff.1 (by omega)
    refine hdone 0 listed vs w hs hcl (fun j o hj ho hjl => ?_) hout hlen hb hr
    exfalso
    have : j ∈ aE ops listed := List.mem_filter.2 ⟨List.mem_range.2 (by omega), by rw [vJ hs (by omega) hjl]; rfl⟩
    rw [hl] at this; cases this
  | succ fuel ih =>
    intro listed vs w hs hcl hout hlen hb hr
    by_cases hall : ∀ j o, j < k → ops[j]? = some o → listed.getD j false = false → bi o = true
    · exact hdone (fuel + 1) listed vs w hs hcl hall hout hlen hb hr
    have hex : ∃ j o, j < k ∧ ops[j]? = some o ∧ listed.getD j false = false ∧ bi o = false := by
      apply Classical.byContradiction
      intro hn
      exact hall fun j o hj ho hl => by
        cases hf : bi o with
        | true => rfl
        | false => exact absurd ⟨j, o, hj, ho, hl, hf⟩ hn
    obtain ⟨j0, o0, hj0, ho0, hj0f, hf0⟩ := hex
    refine ⟨fun he => ?_, fun i hi => ?_⟩
    · exfalso
      cases hl : aE ops listed with
      | nil =>
        have : j0 ∈ aE ops listed := List.mem_filter.2 ⟨List.mem_range.2 (by omega), by rw [vJ hs (by omega) hj0f]; rfl⟩
        rw [hl] at this; cases this
      | cons i rest =>
        have := jt hok listed hs hl
        rw [he] at this; cases this
    obtain ⟨his, hil, hall'⟩ := iO hi
    have hoi := Array.getElem?_eq_getElem his
    have hni := Hx hs his hil
    have hmask : ∀ j, ((bG ops).getD i 0).testBit j = true → j < ops.size → listed.getD j false = true := fun j hj hjs => cB hok hcl hjs i _ hoi (hall' _ hoi) hj
    have hik : i < k := by
      apply Classical.byContradiction
      intro hn
      rcases hends i (by omega) his j0 (by omega) with h | ⟨_, o, ho, hf⟩
      · have := hmask j0 h (by omega)
        rw [hj0f] at this; cases this
      · rw [ho0] at ho
        obtain rfl := (by simpa using ho)
        rw [hf0] at hf; cases hf
    have hlook := kL (a0 := a0) (vs := vs) hok hcl hoi hni (hall' _ hoi)
    rw [cN (by omega)] at hlook
    have hsel := fZ hok hoi
    have hob' := hob vs i _ hik hoi w hb (fun j hjs hj => hr j (by
      have := (bI (fb hok) (r := j) hjs i _ hoi hj).1
      omega) (hmask j hj hjs))
    have next : ∀ v w', Below w.heap.size w w' → Rs i v w' → wpAny P .any ops Q fuel (listed.setIfInBounds i true) ((aB ops vs (fun j => listed.getD j false) (List.range ops.size) a0).put (ops[i]).dst v) w' := by
      intro v w' hb' hv
      rw [← eN hoi (List.range ops.size) a0 List.nodup_range (List.mem_range.2 his) (fun j _ hji o' ho' b u x => Act.put_comm b u x (fun d hd => (bX hok ho' hoi hji hd).1)) hni, eS hs his]
      refine ih _ _ w' (by simp [hs]) (ju hcl hall') (fun j hj => by rw [getD_set_ne false (by omega)]; exact hout j hj) (gg hs his hil hlen) (hb.trans (hb'.mono hb.size)) ?_
      intro j hj hl
      by_cases e : j = i
      · subst e; simp only [if_true]; exact hv
      · simp only [if_neg e]
        rw [getD_set_ne false (fun h => e h.symm)] at hl
        exact hst _ _ _ _ hb' (hr j hj hl)
    unfold wpOp
    simp only [hoi]
    rw [dK _ hlook]
    split
    · rename_i hw
      rw [if_pos hw] at hob'
      exact .inl (hob'.wp (dv _ hsel hlook) (fun v w' h => next v w' h.1 h.2))
    · rename_i hw
      rw [if_neg hw] at hob'
      exact next undef w (Below.refl _ _) hob'
theorem tp {id : Nat} {Q : Exit → Act → World → Prop} {a : Act} {w : World} {l : List Oper} (k : Nat) (Rs : Nat → Value → World → Prop) (hm : P.follows .mixedOrders = true)
    (hok : (mN l.toArray && qy l.toArray k && Nat.ble k l.length) = true) (hst : ∀ i v w w', Below w.heap.size w w' → Rs i v w → Rs i v w')
    (cv : Nat → Value) (hcv : ∀ f o, f < k → l[f]? = some o → bi o = true → ∀ v w, Rs f v w ↔ v = cv f)
    (hob : ∀ vs, ∀ i o, i < k → l[i]? = some o → rK P l.toArray Rs w.drew vs i o (aB l.toArray vs (fun _ => true) (List.range i) a))
    (hq : ∀ vs w1, Below w.heap.size w w1 → (∀ i, i < k → Rs i (vs i) w1) → oA P l.toArray (Q .normal) (l.drop k) (aB l.toArray vs (fun _ => true) (List.range k) a) w1) : (Code.region id l.toArray true).wp P Q a w := by
  simp only [Bool.and_eq_true] at hok
  have hkl := Nat.le_of_ble_eq_true hok.2
  refine wp_region_any hm ?_
  have := Dk (P := P) (ops := l.toArray) (Rs := Rs) (w0 := w.drew) (a0 := a) (Q := Q) (k := k) (by simpa using hkl) hok.1.1 (oB hok.1.2) hst cv (fun f o hf ho => hcv f o hf (by simpa using ho))
    (fun vs i o hik hi => hob vs i o hik (by simpa using hi))
    (fun vs w1 hb hr => hq vs w1 ((Below.refl w.heap.size w).drew.trans hb) hr)
    l.toArray.size (Array.replicate l.toArray.size false) (fun _ => undef) w.drew (by simp) (fun j oj hj hl => by
      exfalso
      have := aW l.toArray.size j
      rw [this] at hl; cases hl) (fun j _ => aW _ j) (by rw [eM]; simp) (Below.refl _ _) (fun j hj hl => by
      exfalso
      have := aW l.toArray.size j
      rw [this] at hl; cases hl)
  rw [bH (vs' := fun _ => undef) (L' := fun _ => false) _ _ (fun j _ => ⟨aW _ j, fun h => rfl⟩), dp] at this
  exact this
end
end Go.Proofs.YtklcfjlmlbnkaaaGreatDoor
