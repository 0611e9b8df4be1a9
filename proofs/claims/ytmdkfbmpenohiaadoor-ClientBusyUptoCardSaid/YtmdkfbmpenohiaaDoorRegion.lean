/- A law for a region that draws its order: where every two operations that no edge orders can change places, one walk in the order of the text serves for all orders. -/
import Derived.Orders
import Derived.Tactics
import Derived.WalkKit
import Derived.Below
namespace Go.Proofs.YtmdkfbmpenohiaaDoor
open Go.RowKit

structure RK where
  pure : Bool
  read : Bool

/-- which kind an operation is taken for: the walk shows of each 'pure' one that it answers alike in every world of 'Inv'. -/
def kf0 : Op → RK
  | .move _ => ⟨true, true⟩
  | .assign _ => ⟨true, true⟩
  | .pick _ _ _ => ⟨true, true⟩
  | .extract _ _ => ⟨true, true⟩
  | .unOp _ _ _ => ⟨true, true⟩
  | .binOp _ _ _ _ _ => ⟨true, true⟩
  | .field _ _ _ => ⟨true, true⟩
  | .fieldAddr _ _ _ => ⟨true, true⟩
  | .index _ _ _ => ⟨true, true⟩
  | .indexAddr _ _ _ => ⟨true, true⟩
  | .slice _ _ _ _ _ => ⟨true, true⟩
  | .build _ _ => ⟨true, true⟩
  | .makeInterface _ _ => ⟨true, true⟩
  | .call ⟨.builtin .len, _, _⟩ => ⟨true, true⟩
  | .load _ _ => ⟨false, true⟩
  | _ => ⟨false, false⟩
/-- the same, loads taken for operations that answer alike (their cells stand in 'Inv'). -/
def kf1 : Op → RK
  | .load _ _ => ⟨true, true⟩
  | o => kf0 o
/-- conversions (of numbers) pure as well. -/
def kf2 : Op → RK
  | .convert _ _ _ => ⟨true, true⟩
  | o => kf0 o
def kf3 : Op → RK
  | .convert _ _ _ => ⟨true, true⟩
  | .load _ _ => ⟨true, true⟩
  | o => kf0 o

section
variable {P : Program} {ops : Array Oper} {Inv : World → Prop} {kf : Op → RK}

def nope : Exit → Act → World → Prop := fun _ _ _ => False

def stepT (P : Program) (ops : Array Oper) (Inv : World → Prop) (kf : Op → RK) (o : Oper) (K : Act → World → Prop) (a : Act) (w : World) : Prop :=
  if Region.wanted o (yielded ops a.tmps) then
    if (kf o.op).pure then ∃ v, (∀ w', Inv w' → (execOp a.eval o).run P w' = .ok (.value v) w') ∧ K (a.put o.dst v) w
    else if (kf o.op).read then ∃ v, (execOp a.eval o).run P w = .ok (.value v) w ∧ K (a.put o.dst v) w
    else o.wp P a w (fun a' w' => Inv w' ∧ K a' w') nope
  else K (a.put o.dst undef) w

def wpT (P : Program) (ops : Array Oper) (Inv : World → Prop) (kf : Op → RK) (Q : Act → World → Prop) : List Oper → Act → World → Prop
  | [], a, w => Q a w
  | o :: rest, a, w => stepT P ops Inv kf o (wpT P ops Inv kf Q rest) a w

def stepI (P : Program) (ops : Array Oper) (Inv : World → Prop) (kf : Op → RK) (i : Nat) (K : Act → World → Prop) (a : Act) (w : World) : Prop :=
  match ops[i]? with
  | none => K a w
  | some o => stepT P ops Inv kf o K a w

def wpI (P : Program) (ops : Array Oper) (Inv : World → Prop) (kf : Op → RK) (Q : Act → World → Prop) : List Nat → Act → World → Prop
  | [], a, w => Q a w
  | i :: rest, a, w => stepI P ops Inv kf i (wpI P ops Inv kf Q rest) a w

theorem upon_mono {o : Oper} {a : Act} {K K' : Act → World → Prop} {Q' : Exit → Act → World → Prop} (h : ∀ a w, K a w → K' a w) (r : Result Next)
    (hh : o.upon P a K nope r) : o.upon P a K' Q' r := by
  cases r with
  | ok n w' =>
    cases n <;> simp only [Oper.upon] at hh ⊢ <;>
      first
        | exact h _ _ hh
        | exact Calls.mono hh (fun e w'' he => by
            cases e with
            | returned v => exact h _ _ he
            | panicked c => exact he.elim
            | outgrown => obtain ⟨_, _, q⟩ := he; exact q.elim)
        | exact Rows.mono hh (fun _ _ he => h _ _ he)
        | exact hh.elim
  | halt x w' => cases x <;> simp only [Oper.upon] at hh ⊢ <;> exact hh.elim

theorem stepT_mono {o : Oper} {K K' : Act → World → Prop} (h : ∀ a w, K a w → K' a w) {a : Act} {w : World} (hh : stepT P ops Inv kf o K a w) : stepT P ops Inv kf o K' a w := by
  unfold stepT at *
  split at hh
  · rename_i hw
    rw [if_pos hw]
    split at hh
    · rename_i hp; rw [if_pos hp]; obtain ⟨v, h1, h2⟩ := hh; exact ⟨v, h1, h _ _ h2⟩
    · rename_i hp
      rw [if_neg hp]
      split at hh
      · rename_i hr; rw [if_pos hr]; obtain ⟨v, h1, h2⟩ := hh; exact ⟨v, h1, h _ _ h2⟩
      · rename_i hr; rw [if_neg hr]; exact upon_mono (fun a w ⟨x, y⟩ => ⟨x, h _ _ y⟩) _ hh
  · rename_i hw; rw [if_neg hw]; exact h _ _ hh

theorem stepI_mono {i : Nat} {K K' : Act → World → Prop} (h : ∀ a w, K a w → K' a w) {a : Act} {w : World} (hh : stepI P ops Inv kf i K a w) : stepI P ops Inv kf i K' a w := by
  unfold stepI at *
  split
  · rename_i e; rw [e] at hh; exact h _ _ hh
  · rename_i o e; rw [e] at hh; exact stepT_mono h hh

/-- two operations that may change places. -/
def commO (ops : Array Oper) (kf : Op → RK) (x y : Oper) : Bool :=
  x.apart ops y && ((kf x.op).pure || (kf y.op).pure || ((kf x.op).read && (kf y.op).read)) &&
  (match x.op with | .select .. => false | .defer _ => false | _ => true) && (match y.op with | .select .. => false | .defer _ => false | _ => true)

theorem nosel {x : Op} (h : (match x with | .select .. => false | .defer _ => false | _ => true) = true) : ∀ cs b, x ≠ .select cs b := by
  rintro cs b rfl; cases h
theorem upon_conv {o : Oper} {a b : Act} {K K' : Act → World → Prop} {r : Result Next}
    (hp : ∀ v w', K (a.put o.dst v) w' → K' (b.put o.dst v) w')
    (hd : ∀ d w', K ({ a with defers := d :: a.defers }.put o.dst undef) w' → K' ({ b with defers := d :: b.defers }.put o.dst undef) w')
    (hh : o.upon P a K nope r) : o.upon P b K' nope r := by
  cases r with
  | halt z w' => cases z <;> exact hh.elim
  | ok n w' =>
    cases n <;> simp only [Oper.upon] at hh ⊢
    case value v => exact hp _ _ hh
    case skip => exact hp _ _ hh
    case defer d => exact hd _ _ hh
    case enter f args =>
      refine Calls.mono hh fun e w'' he => ?_
      cases e with
      | returned v => exact hp _ _ he
      | panicked c => exact he.elim
      | outgrown => obtain ⟨_, _, q⟩ := he; exact q.elim
    case row row args => exact Rows.mono hh fun v w'' he => hp _ _ he
    all_goals exact hh.elim

/-- an ending's world and temporaries are reached. -/
theorem upon_some {o : Oper} {a : Act} {K : Act → World → Prop} {r : Result Next} (hh : o.upon P a K nope r) :
    ∃ a' w', K a' w' ∧ ((∃ v, a' = a.put o.dst v) ∨ ∃ d, a' = ({ a with defers := d :: a.defers } : Act).put o.dst undef) := by
  cases r with
  | halt z w' => cases z <;> exact hh.elim
  | ok n w' =>
    cases n <;> simp only [Oper.upon] at hh
    case value v => exact ⟨_, _, hh, .inl ⟨v, rfl⟩⟩
    case skip => exact ⟨_, _, hh, .inl ⟨undef, rfl⟩⟩
    case defer d => exact ⟨_, _, hh, .inr ⟨d, rfl⟩⟩
    case enter f args =>
      obtain ⟨e, w'', fr, he, _⟩ := hh []
      cases e with
      | returned v => exact ⟨_, _, he, .inl ⟨v, rfl⟩⟩
      | panicked c => exact he.elim
      | outgrown => obtain ⟨_, _, q⟩ := he; exact q.elim
    case row row args =>
      obtain ⟨v, w'', he, _⟩ := hh default []
      exact ⟨_, _, he, .inl ⟨v, rfl⟩⟩
    all_goals exact hh.elim

theorem swapT {x y : Oper} (hc : commO ops kf x y = true) {K : Act → World → Prop} {a : Act} {w : World}
    (hh : stepT P ops Inv kf x (stepT P ops Inv kf y K) a w) : stepT P ops Inv kf y (stepT P ops Inv kf x K) a w := by
  simp only [commO, Bool.and_eq_true] at hc
  obtain ⟨⟨⟨hap, hk⟩, hsx⟩, hsy⟩ := hc
  obtain ⟨h1, h2, h3⟩ := Oper.apart_spec hap
  have hsx' := nosel hsx
  have hsy' := nosel hsy
  have ex : ∀ (b : Act) u, execOp (b.put y.dst u).eval x = execOp b.eval x := fun b u => execOp_put x hsx' b y.dst u h3
  have ey : ∀ (b : Act) u, execOp (b.put x.dst u).eval y = execOp b.eval y := fun b u => execOp_put y hsy' b x.dst u h1
  have wx : ∀ (b : Act) u, Region.wanted x (yielded ops (b.put y.dst u).tmps) = Region.wanted x (yielded ops b.tmps) := fun b u => wanted_put x b y.dst u h3
  have wy : ∀ (b : Act) u, Region.wanted y (yielded ops (b.put x.dst u).tmps) = Region.wanted y (yielded ops b.tmps) := fun b u => wanted_put y b x.dst u h1
  have ed : ∀ (b : Act) (o : Oper) d, execOp ({ b with defers := d :: b.defers } : Act).eval o = execOp b.eval o := fun b o d => rfl
  have pc : ∀ (b : Act) u v, (b.put x.dst u).put y.dst v = (b.put y.dst v).put x.dst u := fun b u v => Act.put_comm b u v h2
  have pd : ∀ (b : Act) (t : Option Tmp) v d, ({ b.put t v with defers := d :: (b.put t v).defers } : Act) = ({ b with defers := d :: b.defers } : Act).put t v := fun b t v d => Act.put_defers b t v d
  unfold stepT at hh ⊢
  by_cases hwx : Region.wanted x (yielded ops a.tmps) = true
  case neg =>
    -- x is passed over
    simp only [hwx, wx, ex, if_false, Bool.false_eq_true] at hh ⊢
    simp only [wy, ey] at hh
    by_cases hwy : Region.wanted y (yielded ops a.tmps) = true
    case neg => simp only [hwy, if_false, Bool.false_eq_true] at hh ⊢; rw [← pc]; exact hh
    simp only [hwy, if_true] at hh ⊢
    by_cases py : (kf y.op).pure = true
    · simp only [py, if_true] at hh ⊢
      obtain ⟨v, hv, hh⟩ := hh
      exact ⟨v, hv, by rw [← pc]; exact hh⟩
    · simp only [py, if_false, Bool.false_eq_true] at hh ⊢
      by_cases ry : (kf y.op).read = true
      · simp only [ry, if_true] at hh ⊢
        obtain ⟨v, hv, hh⟩ := hh
        exact ⟨v, hv, by rw [← pc]; exact hh⟩
      · simp only [ry, if_false, Bool.false_eq_true] at hh ⊢
        unfold Oper.wp at hh ⊢
        rw [ey] at hh
        refine upon_conv (fun v w' h => ?_) (fun d w' h => ?_) hh
        · exact ⟨h.1, by rw [wx, if_neg hwx, ← pc]; exact h.2⟩
        · have hw' : ¬ Region.wanted x (yielded ops ({ a with defers := d :: a.defers }.put y.dst undef).tmps) = true := by rw [wx]; exact hwx
          refine ⟨h.1, ?_⟩
          rw [if_neg hw', ← pc, ← pd]; exact h.2
  simp only [hwx, if_true] at hh
  by_cases hwy : Region.wanted y (yielded ops a.tmps) = true
  case neg =>
    -- y is passed over
    simp only [hwy, wy, if_false, Bool.false_eq_true] at hh ⊢
    rw [wx, if_pos hwx, ex]
    by_cases px : (kf x.op).pure = true
    · simp only [px, if_true] at hh ⊢
      obtain ⟨v, hv, hh⟩ := hh
      exact ⟨v, hv, by rw [← pc]; exact hh⟩
    · simp only [px, if_false, Bool.false_eq_true] at hh ⊢
      by_cases rx : (kf x.op).read = true
      · simp only [rx, if_true] at hh ⊢
        obtain ⟨v, hv, hh⟩ := hh
        exact ⟨v, hv, by rw [← pc]; exact hh⟩
      · simp only [rx, if_false, Bool.false_eq_true] at hh ⊢
        unfold Oper.wp at hh ⊢
        rw [ex]
        refine upon_conv (fun v w' h => ?_) (fun d w' h => ?_) hh
        · have h2 := h.2
          rw [wy, if_neg hwy] at h2
          exact ⟨h.1, by rw [← pc]; exact h2⟩
        · refine ⟨h.1, ?_⟩
          have h2 := h.2
          have hw' : ¬ Region.wanted y (yielded ops ({ a with defers := d :: a.defers }.put x.dst undef).tmps) = true := by rw [wy]; exact hwy
          rw [if_neg hw'] at h2
          rw [pd, ← pc]; exact h2
  rw [if_pos hwy]
  by_cases py : (kf y.op).pure = true
  · rw [if_pos py]
    by_cases px : (kf x.op).pure = true
    · simp only [px, if_true] at hh
      obtain ⟨u, hu, hh⟩ := hh
      rw [wy, if_pos hwy, if_pos py, ey] at hh
      obtain ⟨v, hv, hh⟩ := hh
      exact ⟨v, hv, by rw [wx, if_pos hwx, if_pos px, ex]; exact ⟨u, hu, by rw [← pc]; exact hh⟩⟩
    · simp only [px, if_false, Bool.false_eq_true] at hh
      by_cases rx : (kf x.op).read = true
      · simp only [rx, if_true] at hh
        obtain ⟨u, hu, hh⟩ := hh
        rw [wy, if_pos hwy, if_pos py, ey] at hh
        obtain ⟨v, hv, hh⟩ := hh
        exact ⟨v, hv, by rw [wx, if_pos hwx, if_neg px, if_pos rx, ex]; exact ⟨u, hu, by rw [← pc]; exact hh⟩⟩
      · simp only [rx, if_false, Bool.false_eq_true] at hh
        -- x acts; y answers alike before and behind it
        unfold Oper.wp at hh
        have hy : ∀ (b : Act) (w' : World), ((∃ u, b = a.put x.dst u) ∨ ∃ d, b = ({ a with defers := d :: a.defers } : Act).put x.dst undef) →
            (Inv w' ∧ (if Region.wanted y (yielded ops b.tmps) = true then
              if (kf y.op).pure = true then ∃ v, (∀ w', Inv w' → (execOp b.eval y).run P w' = .ok (.value v) w') ∧ K (b.put y.dst v) w'
              else if (kf y.op).read = true then ∃ v, (execOp b.eval y).run P w' = .ok (.value v) w' ∧ K (b.put y.dst v) w'
              else y.wp P b w' (fun a' w' => Inv w' ∧ K a' w') nope else K (b.put y.dst undef) w')) →
            Inv w' ∧ ∃ v, (∀ w', Inv w' → (execOp a.eval y).run P w' = .ok (.value v) w') ∧ K (b.put y.dst v) w' := by
          rintro b w' hb ⟨hi, h⟩
          have hwb : Region.wanted y (yielded ops b.tmps) = true := by
            rcases hb with ⟨u, rfl⟩ | ⟨d, rfl⟩
            · rw [wy]; exact hwy
            · rw [wy]; exact hwy
          have heb : execOp b.eval y = execOp a.eval y := by
            rcases hb with ⟨u, rfl⟩ | ⟨d, rfl⟩
            · rw [ey]
            · rw [ey]; rfl
          rw [if_pos hwb, if_pos py, heb] at h
          exact ⟨hi, h⟩
        obtain ⟨b, w', hb, hbb⟩ := upon_some hh
        obtain ⟨hi, v, hv, _⟩ := hy b w' hbb hb
        refine ⟨v, hv, ?_⟩
        rw [wx, if_pos hwx, if_neg px, if_neg rx]
        unfold Oper.wp
        rw [ex]
        refine upon_conv (fun u w' h => ?_) (fun d w' h => ?_) hh
        · obtain ⟨hi, v', hv', h⟩ := hy _ _ (.inl ⟨u, rfl⟩) h
          have e1 := hv w' hi
          rw [hv' w' hi] at e1
          cases e1
          exact ⟨hi, by rw [← pc]; exact h⟩
        · obtain ⟨hi, v', hv', h⟩ := hy _ _ (.inr ⟨d, rfl⟩) h
          have e1 := hv w' hi
          rw [hv' w' hi] at e1
          cases e1
          exact ⟨hi, by rw [pd, ← pc]; exact h⟩
  · rw [if_neg py]
    by_cases ry : (kf y.op).read = true
    · rw [if_pos ry]
      by_cases px : (kf x.op).pure = true
      · simp only [px, if_true] at hh
        obtain ⟨u, hu, hh⟩ := hh
        rw [wy, if_pos hwy, if_neg py, if_pos ry, ey] at hh
        obtain ⟨v, hv, hh⟩ := hh
        exact ⟨v, hv, by rw [wx, if_pos hwx, if_pos px, ex]; exact ⟨u, hu, by rw [← pc]; exact hh⟩⟩
      · have rx : (kf x.op).read = true := by simpa [px, py, ry] using hk
        simp only [px, rx, if_true, if_false, Bool.false_eq_true] at hh
        obtain ⟨u, hu, hh⟩ := hh
        rw [wy, if_pos hwy, if_neg py, if_pos ry, ey] at hh
        obtain ⟨v, hv, hh⟩ := hh
        exact ⟨v, hv, by rw [wx, if_pos hwx, if_neg px, if_pos rx, ex]; exact ⟨u, hu, by rw [← pc]; exact hh⟩⟩
    · rw [if_neg ry]
      have px : (kf x.op).pure = true := by simpa [py, ry] using hk
      simp only [px, if_true] at hh
      obtain ⟨u, hu, hh⟩ := hh
      rw [wy, if_pos hwy, if_neg py, if_neg ry] at hh
      unfold Oper.wp at hh ⊢
      rw [ey] at hh
      refine upon_conv (fun v w' h => ?_) (fun d w' h => ?_) hh
      · exact ⟨h.1, by rw [wx, if_pos hwx, if_pos px, ex]; exact ⟨u, hu, by rw [← pc]; exact h.2⟩⟩
      · have hw' : Region.wanted x (yielded ops ({ a with defers := d :: a.defers }.put y.dst undef).tmps) = true := by rw [wx]; exact hwx
        refine ⟨h.1, ?_⟩
        rw [if_pos hw', if_pos px]
        refine ⟨u, by rw [ex]; exact hu, ?_⟩
        rw [← pc, ← pd]; exact h.2

/-- operations that binding edges put ahead, as bits: what is claimed of them is looked at by 'okT'. -/
def maskStep (ms : List Nat) (o : Oper) : List Nat :=
  ms ++ [o.after.foldl (fun m e => if Region.binds .any e then m ||| (1 <<< e.on) ||| (ms.getD e.on 0) else m) 0]
def masks (ops : Array Oper) : List Nat := ops.toList.foldl maskStep []
def okPair (ms : List Nat) (ops : Array Oper) (kf : Op → RK) (i : Nat) (oi : Oper) (r : Nat) : Bool :=
  match ops[r]? with
  | none => true
  | some o => if (ms.getD i 0).testBit r then oi.after.any fun e => Region.binds .any e && (e.on == r || (ms.getD e.on 0).testBit r) else commO ops kf o oi
def okT (kf : Op → RK) (ops : Array Oper) : Bool :=
  let ms := masks ops
  (List.range ops.size).all fun i => match ops[i]? with
    | none => true
    | some oi => (oi.after.all fun e => !Region.binds .any e || decide (e.on < i)) && (List.range i).all (okPair ms ops kf i oi)

theorem okT_back (h : okT kf ops = true) {i : Nat} {oi : Oper} (hi : ops[i]? = some oi) : ∀ e ∈ oi.after, Region.binds .any e = true → e.on < i := by
  intro e he hb
  have hlt : i < ops.size := (Array.getElem?_eq_some_iff.1 hi).1
  have h1 := List.all_eq_true.1 h i (List.mem_range.2 hlt)
  simp only [hi, Bool.and_eq_true] at h1
  have h2 := (Array.all_eq_true'.1 h1.1) e he
  simpa [hb] using h2
theorem okT_pair (h : okT kf ops = true) {i r : Nat} {oi o : Oper} (hi : ops[i]? = some oi) (hr : ops[r]? = some o) (hri : r < i) :
    (((masks ops).getD i 0).testBit r = true ∧ ∃ e ∈ oi.after, Region.binds .any e = true ∧ (e.on = r ∨ ((masks ops).getD e.on 0).testBit r = true)) ∨ commO ops kf o oi = true := by
  have hlt : i < ops.size := (Array.getElem?_eq_some_iff.1 hi).1
  have h1 := List.all_eq_true.1 h i (List.mem_range.2 hlt)
  simp only [hi, Bool.and_eq_true] at h1
  have h2 := List.all_eq_true.1 h1.2 r (List.mem_range.2 hri)
  simp only [okPair, hr] at h2
  split at h2
  · rename_i hb
    obtain ⟨e, he, h3⟩ := Array.any_eq_true'.1 h2
    simp only [Bool.and_eq_true, Bool.or_eq_true, beq_iff_eq] at h3
    exact .inl ⟨hb, e, he, h3.1, h3.2⟩
  · exact .inr h2

/-- what is put ahead of an operation that is listed is listed. -/
theorem ahead_listed (h : okT kf ops = true) {listed : Array Bool}
    (hcl : ∀ j oj, ops[j]? = some oj → listed.getD j false = true → ∀ e ∈ oj.after, Region.binds .any e = true → listed.getD e.on false = true) {r : Nat} {o : Oper} (hr : ops[r]? = some o) :
    ∀ (i : Nat) (oi : Oper), ops[i]? = some oi → r < i → (∀ e ∈ oi.after, Region.binds .any e = true → listed.getD e.on false = true) →
      ((masks ops).getD i 0).testBit r = true → (∀ k ok, ops[k]? = some ok → ((masks ops).getD k 0).testBit r = true → r < k ∧ ∃ e ∈ ok.after, Region.binds .any e = true ∧ (e.on = r ∨ ((masks ops).getD e.on 0).testBit r = true)) → listed.getD r false = true := by
  intro i
  induction i using Nat.strongRecOn with
  | _ i ih =>
    intro oi hi hri hall hb hm
    obtain ⟨_, e, he, hbe, hor⟩ := hm i oi hi hb
    have hle := hall e he hbe
    rcases hor with rfl | hme
    · exact hle
    · have hlt := okT_back h hi e he hbe
      have hes : e.on < ops.size := Nat.lt_trans hlt (Array.getElem?_eq_some_iff.1 hi).1
      have hoe := Array.getElem?_eq_getElem hes
      exact ih e.on hlt _ hoe (hm e.on _ hoe hme).1 (hcl e.on _ hoe hle) hme hm

def okM (ops : Array Oper) : Bool :=
  let ms := masks ops
  (List.range ops.size).all fun i => match ops[i]? with
    | none => true
    | some oi => (List.range ops.size).all fun r => !(ms.getD i 0).testBit r || (decide (r < i) && oi.after.any fun e => Region.binds .any e && (e.on == r || (ms.getD e.on 0).testBit r))
theorem okM_spec (h : okM ops = true) {r : Nat} (hrs : r < ops.size) : ∀ k ok, ops[k]? = some ok → ((masks ops).getD k 0).testBit r = true → r < k ∧ ∃ e ∈ ok.after, Region.binds .any e = true ∧ (e.on = r ∨ ((masks ops).getD e.on 0).testBit r = true) := by
  intro k ok hk hb
  have h1 := List.all_eq_true.1 h k (List.mem_range.2 (Array.getElem?_eq_some_iff.1 hk).1)
  simp only [hk] at h1
  have h2 := List.all_eq_true.1 h1 r (List.mem_range.2 hrs)
  simp only [hb, Bool.not_true, Bool.false_or, Bool.and_eq_true, decide_eq_true_eq] at h2
  obtain ⟨e, he, h3⟩ := Array.any_eq_true'.1 h2.2
  simp only [Bool.and_eq_true, Bool.or_eq_true, beq_iff_eq] at h3
  exact ⟨h2.1, e, he, h3.1, h3.2⟩

/-- operation i, whose edges are met, may be done ahead of the operations R1 that come before it. -/
theorem pull (Q : Act → World → Prop) {i : Nat} (R2 : List Nat) : ∀ (R1 : List Nat), (∀ r ∈ R1, ∀ o oi, ops[r]? = some o → ops[i]? = some oi → commO ops kf o oi = true) →
    ∀ (a : Act) (w : World), wpI P ops Inv kf Q (R1 ++ i :: R2) a w → stepI P ops Inv kf i (wpI P ops Inv kf Q (R1 ++ R2)) a w
  | [], _, a, w, h => h
  | r :: R1, hc, a, w, h => by
    have h' : stepI P ops Inv kf r (stepI P ops Inv kf i (wpI P ops Inv kf Q (R1 ++ R2))) a w :=
      stepI_mono (fun a w hh => pull Q R2 R1 (fun r' hr' => hc r' (List.mem_cons_of_mem _ hr')) a w hh) h
    show stepI P ops Inv kf i (fun a w => stepI P ops Inv kf r (wpI P ops Inv kf Q (R1 ++ R2)) a w) a w
    unfold stepI at h' ⊢
    cases hi : ops[i]? with
    | none => simp only [hi] at h' ⊢; exact h'
    | some oi =>
      cases hr : ops[r]? with
      | none => simp only [hi, hr] at h' ⊢; exact h'
      | some o => simp only [hi, hr] at h' ⊢; exact swapT (hc r (List.mem_cons_self ..) o oi hr hi) h'

theorem wpOp_of_stepI {Q : Exit → Act → World → Prop} {i : Nat} {K K' : Act → World → Prop} {a : Act} {w : World} (hw : Inv w)
    (h : ∀ a w, Inv w → K a w → K' a w) (hh : stepI P ops Inv kf i K a w) : wpOp P ops Q i K' a w := by
  unfold stepI at hh
  unfold wpOp
  split
  · rename_i e; simp only [e] at hh; exact h _ _ hw hh
  · rename_i o e
    simp only [e] at hh
    unfold stepT at hh
    split
    · rename_i hwa
      rw [if_pos hwa] at hh
      refine .inl ?_
      unfold Oper.wp
      split at hh
      · obtain ⟨v, hv, hk⟩ := hh
        rw [hv w hw]; exact h _ _ hw hk
      · split at hh
        · obtain ⟨v, hv, hk⟩ := hh
          rw [hv]; exact h _ _ hw hk
        · exact upon_mono (fun a w ⟨x, y⟩ => h _ _ x y) _ hh
    · rename_i hwa
      rw [if_neg hwa] at hh
      exact h _ _ hw hh

/-- what is left of the region, in the order of the text. -/
def leftOf (ops : Array Oper) (listed : Array Bool) : List Nat := (List.range ops.size).filter fun i => !listed.getD i true

theorem leftOf_sorted (listed : Array Bool) : (leftOf ops listed).Pairwise (· < ·) := (List.pairwise_lt_range).filter _

theorem leftOf_set {listed : Array Bool} {i : Nat} {R1 R2 : List Nat} (hs : listed.size = ops.size) (h : leftOf ops listed = R1 ++ i :: R2) : leftOf ops (listed.setIfInBounds i true) = R1 ++ R2 := by
  have hp := leftOf_sorted (ops := ops) listed
  have hi : i ∈ leftOf ops listed := by rw [h]; simp
  have e : leftOf ops (listed.setIfInBounds i true) = (leftOf ops listed).filter fun j => j != i := by
    unfold leftOf
    rw [List.filter_filter]
    refine List.filter_congr fun j hj => ?_
    have hj' : j < listed.size := by rw [hs]; exact List.mem_range.1 hj
    by_cases hji : j = i
    · subst hji; simp [hj']
    · simp [hji, Array.getElem?_setIfInBounds_ne (Ne.symm hji)]
  rw [e, h, List.filter_append]
  rw [h] at hp
  obtain ⟨_, hp2, hp3⟩ := List.pairwise_append.1 hp
  have hp2' := List.pairwise_cons.1 hp2
  rw [List.filter_eq_self.2 (fun j hj => by have := hp3 j hj i (List.mem_cons_self ..); simp; omega)]
  congr 1
  rw [List.filter_cons]
  simp only [bne_self_eq_false, Bool.false_eq_true, if_false]
  exact List.filter_eq_self.2 (fun j hj => by have := hp2'.1 j hj; simp; omega)

theorem wpAny_of_wpI {Q : Exit → Act → World → Prop} {Q1 : Act → World → Prop} (hQ : ∀ a w, Inv w → Q1 a w → Q .normal a w) (hok : okT kf ops = true) (hm : okM ops = true) :
    ∀ (fuel : Nat) (listed : Array Bool) (a : Act) (w : World), listed.size = ops.size →
      (∀ j oj, ops[j]? = some oj → listed.getD j false = true → ∀ e ∈ oj.after, Region.binds .any e = true → listed.getD e.on false = true) →
      (leftOf ops listed).length ≤ fuel → Inv w → wpI P ops Inv kf Q1 (leftOf ops listed) a w → wpAny P .any ops Q fuel listed a w := by
  intro fuel
  have hnone : ∀ (listed : Array Bool), listed.size = ops.size → Region.ready .any ops listed = [] → leftOf ops listed = [] := by
    intro listed hs hr
    cases hl : leftOf ops listed with
    | nil => rfl
    | cons i rest =>
      exfalso
      have hi : i ∈ leftOf ops listed := by rw [hl]; simp
      obtain ⟨hir, hil⟩ := List.mem_filter.1 hi
      have his := List.mem_range.1 hir
      have hoi := Array.getElem?_eq_getElem his
      have hsort := leftOf_sorted (ops := ops) listed
      rw [hl] at hsort
      have hmin := (List.pairwise_cons.1 hsort).1
      have : i ∈ Region.ready .any ops listed := by
        refine List.mem_filter.2 ⟨hir, ?_⟩
        simp only [hil, Bool.true_and, hoi, Option.map_some, Option.getD_some, Array.all_eq_true']
        intro e he
        cases hb : Region.binds .any e with
        | false => rfl
        | true =>
          simp only [Bool.not_true, Bool.false_or]
          have hlt := okT_back hok hoi e he hb
          have hel : e.on < listed.size := by rw [hs]; omega
          cases hv : listed.getD e.on false with
          | true => rfl
          | false =>
            have hv' : listed.getD e.on true = false := by simp [hel] at hv ⊢; exact hv
            have hmem : e.on ∈ leftOf ops listed := List.mem_filter.2 ⟨List.mem_range.2 (by omega), by rw [hv']; rfl⟩
            rw [hl] at hmem
            rcases List.mem_cons.1 hmem with h | h
            · omega
            · have := hmin _ h; omega
      rw [hr] at this; cases this
  induction fuel with
  | zero =>
    intro listed a w hs hcl hlen hw h
    have hl : leftOf ops listed = [] := List.length_eq_zero_iff.1 (by omega)
    rw [hl] at h
    refine ⟨?_, hQ _ _ hw h⟩
    cases hr : Region.ready .any ops listed with
    | nil => rfl
    | cons i rest =>
      exfalso
      have hi : i ∈ Region.ready .any ops listed := by rw [hr]; simp
      obtain ⟨hir, hil⟩ := List.mem_filter.1 hi
      simp only [Bool.and_eq_true] at hil
      have : i ∈ leftOf ops listed := List.mem_filter.2 ⟨hir, hil.1⟩
      rw [hl] at this; cases this
  | succ fuel ih =>
    intro listed a w hs hcl hlen hw h
    refine ⟨fun hr => ?_, fun i hi => ?_⟩
    · rw [hnone listed hs hr] at h; exact hQ _ _ hw h
    · obtain ⟨hir, hil⟩ := List.mem_filter.1 hi
      simp only [Bool.and_eq_true] at hil
      have his := List.mem_range.1 hir
      have hoi := Array.getElem?_eq_getElem his
      have hmem : i ∈ leftOf ops listed := List.mem_filter.2 ⟨hir, hil.1⟩
      have hall : ∀ e ∈ ops[i].after, Region.binds .any e = true → listed.getD e.on false = true := by
        have h2 := hil.2
        simp only [hoi, Option.map_some, Option.getD_some, Array.all_eq_true'] at h2
        intro e he hb
        simpa [hb] using h2 e he
      obtain ⟨R1, R2, hR⟩ := List.append_of_mem hmem
      have hsort := leftOf_sorted (ops := ops) listed
      rw [hR] at h hsort
      have hlt : ∀ r ∈ R1, r < i := fun r hr => (List.pairwise_append.1 hsort).2.2 r hr i (List.mem_cons_self ..)
      have hun : ∀ r ∈ R1, listed.getD r false = false := by
        intro r hr
        have hmr : r ∈ leftOf ops listed := by rw [hR]; exact List.mem_append_left _ hr
        obtain ⟨hrr, hrl⟩ := List.mem_filter.1 hmr
        have hrs : r < listed.size := by rw [hs]; exact List.mem_range.1 hrr
        simp [hrs] at hrl ⊢; exact hrl
      have hstep := pull Q1 R2 R1 (fun r hr o oi ho hoi' => by
        have hri := hlt r hr
        cases hoi.symm.trans hoi'
        rcases okT_pair hok hoi ho hri with ⟨hb, _⟩ | hc
        · have := ahead_listed hok hcl ho i _ hoi hri hall hb (okM_spec hm (by omega))
          rw [hun r hr] at this; cases this
        · exact hc) a w h
      refine wpOp_of_stepI hw (fun a' w' hw' h' => ?_) hstep
      rw [← leftOf_set hs hR] at h'
      refine ih _ a' w' (by simp [hs]) ?_ ?_ hw' h'
      · intro j oj hj hl e he hb
        by_cases hji : i = j
        · subst hji
          cases hoi.symm.trans hj
          exact getD_set_true (hall e he hb)
        · rw [getD_set_ne false hji] at hl
          exact getD_set_true (hcl j oj hj hl e he hb)
      · rw [leftOf_set hs hR]
        have := hlen
        rw [hR] at this
        simp at this ⊢
        omega

theorem leftOf_none : leftOf ops (Array.replicate ops.size false) = List.range ops.size :=
  List.filter_eq_self.2 fun i hi => by simp [List.mem_range.1 hi]

theorem wpI_eq (Q1 : Act → World → Prop) (l : List Oper) : ∀ k, (∀ j, l[j]? = ops[k + j]?) → wpI P ops Inv kf Q1 (List.range' k l.length) = wpT P ops Inv kf Q1 l := by
  induction l with
  | nil => intro k _; funext a w; simp [wpI, wpT]
  | cons o l ih =>
    intro k h
    have h0 : ops[k]? = some o := by simpa using (h 0).symm
    have ih' := ih (k + 1) (fun j => by have := h (j + 1); simpa [Nat.add_assoc, Nat.add_comm 1 j] using this)
    funext a w
    simp only [List.length_cons, List.range'_succ, wpI, stepI, h0, wpT, ih']

theorem repl_false (m j : Nat) : (Array.replicate m false).getD j false = false := by
  rcases Nat.lt_or_ge j m with h | h
  · simp [h]
  · simp [h]
/-- THE LAW: a region that draws its order, walked in the order of the text. -/
theorem wp_region_T {id : Nat} {Q : Exit → Act → World → Prop} {a : Act} {w : World} {l : List Oper} (Inv : World → Prop) (kf : Op → RK) (hm : P.follows .mixedOrders = true)
    (hok : (okT kf l.toArray && okM l.toArray) = true) (hw : Inv w.drew) (h : wpT P l.toArray Inv kf (Q .normal) l a w.drew) : (Code.region id l.toArray true).wp P Q a w := by
  simp only [Bool.and_eq_true] at hok
  refine wp_region_any hm (wpAny_of_wpI (fun _ _ _ h => h) hok.1 hok.2 _ _ _ _ (by simp) (fun j oj hj hl => ?_) (by rw [leftOf_none]; simp) hw ?_)
  · exfalso
    have := repl_false l.toArray.size j
    rw [this] at hl; cases hl
  · rw [leftOf_none, List.range_eq_range']
    have := wpI_eq (P := P) (Inv := Inv) (kf := kf) (Q .normal) (ops := l.toArray) l 0 (by simp)
    simp only [List.size_toArray]
    rw [this]; exact h

theorem wpT_nil {Q : Act → World → Prop} {a : Act} {w : World} (h : Q a w) : wpT P ops Inv kf Q [] a w := h
theorem wpT_pure {Q : Act → World → Prop} {a : Act} {w : World} {o : Oper} {rest : List Oper} (hw : Region.wanted o (yielded ops a.tmps) = true) (hk : (kf o.op).pure = true) (v : Value)
    (hv : ∀ w', Inv w' → (execOp a.eval o).run P w' = .ok (.value v) w') (h : ∀ K : Act → World → Prop, (∀ a w, wpT P ops Inv kf Q rest a w → K a w) → K (a.put o.dst v) w) : wpT P ops Inv kf Q (o :: rest) a w := by
  unfold wpT stepT; rw [if_pos hw, if_pos hk]; exact ⟨v, hv, h _ fun _ _ h => h⟩
theorem wpT_read {Q : Act → World → Prop} {a : Act} {w : World} {o : Oper} {rest : List Oper} (hw : Region.wanted o (yielded ops a.tmps) = true) (hk : (kf o.op).pure = false) (hk2 : (kf o.op).read = true) (v : Value)
    (hv : (execOp a.eval o).run P w = .ok (.value v) w) (h : ∀ K : Act → World → Prop, (∀ a w, wpT P ops Inv kf Q rest a w → K a w) → K (a.put o.dst v) w) : wpT P ops Inv kf Q (o :: rest) a w := by
  unfold wpT stepT; rw [if_pos hw, if_neg (by simp [hk]), if_pos hk2]; exact ⟨v, hv, h _ fun _ _ h => h⟩
theorem wpT_skip {Q : Act → World → Prop} {a : Act} {w : World} {o : Oper} {rest : List Oper} (hw : Region.wanted o (yielded ops a.tmps) = false)
    (h : ∀ K : Act → World → Prop, (∀ a w, wpT P ops Inv kf Q rest a w → K a w) → K (a.put o.dst undef) w) : wpT P ops Inv kf Q (o :: rest) a w := by
  unfold wpT stepT; rw [if_neg (by simp [hw])]; exact h _ fun _ _ h => h
theorem wpT_act {Q : Act → World → Prop} {a : Act} {w : World} {o : Oper} {rest : List Oper} (hw : Region.wanted o (yielded ops a.tmps) = true) (hk : (kf o.op).pure = false) (hk2 : (kf o.op).read = false)
    (h : ∀ K : Act → World → Prop, (∀ a w, (Inv w ∧ wpT P ops Inv kf Q rest a w) → K a w) → o.wp P a w K nope) : wpT P ops Inv kf Q (o :: rest) a w := by
  unfold wpT stepT; rw [if_pos hw, if_neg (by simp [hk]), if_neg (by simp [hk2])]; exact h _ fun _ _ h => h
end

/-- the cells of the blocks below N read as they read in W0. -/
def InvB (N : Nat) (W0 : World) : World → Prop := fun W' => ∀ b o, b < N → W'.cell? ⟨b, o, none⟩ = W0.cell? ⟨b, o, none⟩
theorem InvB.refl (N : Nat) (W0 : World) : InvB N W0 W0 := fun _ _ _ => rfl
theorem InvB.below {N M : Nat} {W0 W W' : World} (h : InvB N W0 W) (hb : Below M W W') (hN : N ≤ M) : InvB N W0 W' := fun b o hlt => (hb.cell (p := ⟨b, o, none⟩) (Nat.lt_of_lt_of_le hlt hN)).trans (h b o hlt)
theorem InvB.drew {N : Nat} {W0 W : World} (h : InvB N W0 W) : InvB N W0 W.drew := h
theorem InvB.setCell {N : Nat} {W0 W : World} {a : Addr} {v : Value} (h : InvB N W0 W) (hN : N ≤ a.block) : InvB N W0 (W.setCell a v) :=
  h.below (M := N) ((Below.refl _ _).setCell hN v) (Nat.le_refl _)
theorem InvB.alloc {N : Nat} {W0 W : World} {o : Obj} (h : InvB N W0 W) (hN : N ≤ W.heap.size) : InvB N W0 (W.alloc o) :=
  h.below (M := N) ((Below.refl _ _).alloc hN o) (Nat.le_refl _)
end Go.Proofs.YtmdkfbmpenohiaaDoor
