/- Laws for regions that draw their order. -/
import Derived.Test.YtmdkfbmpenohiaaDoorRegion
namespace Go.Proofs.YtmdkfbmpenohiaaDoor
open Go.RowKit
/-! RegionR -/
section
variable {P : Program} {ops : Array Oper}
/-- the act with the listed operations' values put, in the order of the text. -/
def putsL (ops : Array Oper) (vs : Nat → Value) (listed : Nat → Bool) : List Nat → Act → Act
  | [], a => a
  | i :: r, a => putsL ops vs listed r (match ops[i]? with | some o => if listed i then a.put o.dst (vs i) else a | none => a)
theorem putsL_congr {vs vs' : Nat → Value} {L L' : Nat → Bool} : ∀ (r : List Nat) (a : Act), (∀ j ∈ r, L j = L' j ∧ (L j = true → vs j = vs' j)) → putsL ops vs L r a = putsL ops vs' L' r a
  | [], _, _ => rfl
  | j :: r, a, h => by
    obtain ⟨h1, h2⟩ := h j (List.mem_cons_self ..)
    unfold putsL
    rw [putsL_congr r _ (fun k hk => h k (List.mem_cons_of_mem _ hk))]
    congr 1
    cases ho : ops[j]? with
    | none => rfl
    | some o =>
      simp only
      rw [← h1]
      cases hl : L j with
      | false => simp
      | true => simp [h2 hl]
theorem putsL_put {vs : Nat → Value} {L : Nat → Bool} {d : Option Tmp} {v : Value} : ∀ (r : List Nat) (a : Act), (∀ j ∈ r, ∀ o, ops[j]? = some o → ∀ (b : Act) u w, (b.put d u).put o.dst w = (b.put o.dst w).put d u) →
    putsL ops vs L r (a.put d v) = (putsL ops vs L r a).put d v
  | [], _, _ => rfl
  | j :: r, a, h => by
    unfold putsL
    cases ho : ops[j]? with
    | none => simp only; exact putsL_put r a (fun k hk => h k (List.mem_cons_of_mem _ hk))
    | some o =>
      simp only
      cases hl : L j with
      | false => simp only [Bool.false_eq_true, if_false]; exact putsL_put r a (fun k hk => h k (List.mem_cons_of_mem _ hk))
      | true =>
        simp only [if_true]
        rw [h j (List.mem_cons_self ..) o ho]
        exact putsL_put r _ (fun k hk => h k (List.mem_cons_of_mem _ hk))
theorem putsL_set {vs : Nat → Value} {L : Nat → Bool} {i : Nat} {o : Oper} {v : Value} (ho : ops[i]? = some o) : ∀ (r : List Nat) (a : Act), r.Nodup → i ∈ r →
    (∀ j ∈ r, j ≠ i → ∀ o', ops[j]? = some o' → ∀ (b : Act) u w, (b.put o.dst u).put o'.dst w = (b.put o'.dst w).put o.dst u) → L i = false →
    putsL ops (fun j => if j = i then v else vs j) (fun j => if j = i then true else L j) r a = (putsL ops vs L r a).put o.dst v
  | [], _, _, h, _, _ => by cases h
  | j :: r, a, hn, hi, hc, hl => by
    obtain ⟨hjr, hr⟩ := List.nodup_cons.1 hn
    by_cases e : j = i
    · subst e
      unfold putsL
      simp only [ho, if_true, hl, Bool.false_eq_true, if_false]
      rw [putsL_put r a (fun k hk o' h' => hc k (List.mem_cons_of_mem _ hk) (fun e => hjr (e ▸ hk)) o' h')]
      rw [putsL_congr (vs' := vs) (L' := L) r a (fun k hk => by
        have hk' : k ≠ j := fun e => hjr (e ▸ hk)
        simp [hk'])]
    · have hir : i ∈ r := by rcases List.mem_cons.1 hi with h | h; exact absurd h.symm e; exact h
      unfold putsL
      simp only [if_neg e]
      exact putsL_set ho r _ hr hir (fun k hk => hc k (List.mem_cons_of_mem _ hk)) hl

theorem putsL_size {vs : Nat → Value} {L : Nat → Bool} : ∀ (r : List Nat) (a : Act), (putsL ops vs L r a).tmps.size = a.tmps.size
  | [], _ => rfl
  | j :: r, a => by
    unfold putsL
    rw [putsL_size r]
    cases ho : ops[j]? with
    | none => rfl
    | some o =>
      simp only
      split
      · cases hd : o.dst <;> simp [Act.put]
      · rfl
theorem put_tmp {a a' : Act} {t : Nat} (hs : a.tmps.size = a'.tmps.size) (h : a.tmps[t]? = a'.tmps[t]?) (d : Option Tmp) (v : Value) : (a.put d v).tmps[t]? = (a'.put d v).tmps[t]? := by
  cases d with
  | none => exact h
  | some d =>
    simp only [Act.put]
    by_cases e : d = t
    · subst e; simp [Array.getElem?_setIfInBounds, hs]
    · rw [Array.getElem?_setIfInBounds_ne e, Array.getElem?_setIfInBounds_ne e]; exact h
theorem put_tmp_ne {a : Act} {t : Nat} {d : Option Tmp} (h : d ≠ some t) (v : Value) : (a.put d v).tmps[t]? = a.tmps[t]? := by
  cases d with
  | none => rfl
  | some d => exact Array.getElem?_setIfInBounds_ne (fun e => h (by rw [e]))
theorem put_size (a : Act) (d : Option Tmp) (v : Value) : (a.put d v).tmps.size = a.tmps.size := by cases d <;> simp [Act.put]
theorem putsL_tmp {vs : Nat → Value} {L L' : Nat → Bool} (t : Nat) : ∀ (r : List Nat) (a a' : Act), a.tmps.size = a'.tmps.size → a.tmps[t]? = a'.tmps[t]? →
    (∀ j ∈ r, ∀ o, ops[j]? = some o → o.dst = some t → L j = L' j) → (putsL ops vs L r a).tmps[t]? = (putsL ops vs L' r a').tmps[t]?
  | [], _, _, _, h, _ => h
  | j :: r, a, a', hs, h, hL => by
    unfold putsL
    have hr : ∀ k ∈ r, ∀ o, ops[k]? = some o → o.dst = some t → L k = L' k := fun k hk => hL k (List.mem_cons_of_mem _ hk)
    cases ho : ops[j]? with
    | none => exact putsL_tmp t r _ _ hs h hr
    | some o =>
      simp only
      by_cases e : o.dst = some t
      · have := hL j (List.mem_cons_self ..) o ho e
        rw [this]
        split
        · exact putsL_tmp t r _ _ (by rw [put_size, put_size]; exact hs) (put_tmp hs h _ _) hr
        · exact putsL_tmp t r _ _ hs h hr
      · refine putsL_tmp t r _ _ ?_ ?_ hr
        · split <;> split <;> simp [put_size, hs]
        · split <;> split <;> simp [put_tmp_ne e, h]
theorem putsL_false {vs : Nat → Value} : ∀ (r : List Nat) (a : Act), putsL ops vs (fun _ => false) r a = a
  | [], _ => rfl
  | j :: r, a => by
    unfold putsL
    rw [putsL_false r]
    cases ops[j]? <;> simp
theorem putsL_append {vs : Nat → Value} {L : Nat → Bool} : ∀ (r s : List Nat) (a : Act), putsL ops vs L (r ++ s) a = putsL ops vs L s (putsL ops vs L r a)
  | [], _, _ => rfl
  | _ :: r, s, _ => putsL_append r s _

/-- what an operation gives: its value and the world behind it. -/
def Vals (P : Program) (o : Oper) (a : Act) (w : World) (R : Value → World → Prop) : Prop :=
  match (execOp a.eval o).run P w with
  | .ok (.value v) w' => R v w'
  | .ok .skip w' => R undef w'
  | .ok (.enter f args) w' => Calls P f args w' fun e w'' => ∃ v, e = .returned v ∧ R v w''
  | .ok (.row row args) w' => Rows P row args w' R
  | _ => False
theorem Vals.wp {o : Oper} {a b : Act} {w : World} {R : Value → World → Prop} (he : execOp a.eval o = execOp b.eval o) {K : Act → World → Prop} {Q : Exit → Act → World → Prop}
    (h : Vals P o b w R) (hk : ∀ v w', R v w' → K (a.put o.dst v) w') : o.wp P a w K Q := by
  unfold Vals at h
  unfold Oper.wp
  rw [he]
  generalize (execOp b.eval o).run P w = r at *
  cases r with
  | halt x w' => exact h.elim
  | ok n w' =>
    cases n <;> simp only [Oper.upon] at h ⊢
    case value v => exact hk _ _ h
    case skip => exact hk _ _ h
    case enter f args =>
      refine h.mono fun e w'' he => ?_
      obtain ⟨v, rfl, hr⟩ := he
      exact hk _ _ hr
    case row row args => exact h.mono fun v w'' he => hk _ _ he
    all_goals exact h.elim
theorem vals_value {o : Oper} {a : Act} {w w' : World} {R : Value → World → Prop} {v : Value} (h : (execOp a.eval o).run P w = .ok (.value v) w') (hr : R v w') : Vals P o a w R := by
  unfold Vals; rw [h]; exact hr
theorem vals_enter {o : Oper} {a : Act} {w w' : World} {R : Value → World → Prop} {f : FuncId} {args : Array Value} (h : (execOp a.eval o).run P w = .ok (.enter f args) w')
    (hr : Calls P f args w' fun e w'' => ∃ v, e = .returned v ∧ R v w'') : Vals P o a w R := by
  unfold Vals; rw [h]; exact hr

theorem execOp_tmp {ops : Array Oper} (o : Oper) (hs : ∀ cs b, o.op ≠ .select cs b) {a b : Act} (h : ∀ t ∈ o.looksAt ops, a.tmps[t]? = b.tmps[t]?) : execOp a.eval o = execOp b.eval o :=
  execOp_congr o hs fun x hx => by
    cases x with
    | tmp t =>
      have := h t (List.mem_append_left _ (List.mem_filterMap.2 ⟨.tmp t, by simpa using hx, rfl⟩))
      simp only [Act.eval, Array.getD_eq_getD_getElem?, this]
    | _ => rfl
theorem wanted_tmp {ops : Array Oper} (o : Oper) {a b : Act} (h : ∀ t ∈ o.looksAt ops, a.tmps[t]? = b.tmps[t]?) : Region.wanted o (yielded ops a.tmps) = Region.wanted o (yielded ops b.tmps) := by
  unfold Region.wanted
  cases hg : o.guard with
  | none => rfl
  | some gw =>
    obtain ⟨g, want⟩ := gw
    have hy : yielded ops a.tmps g = yielded ops b.tmps g := by
      unfold yielded
      cases ht : (ops[g]?).bind (·.dst) with
      | none => rfl
      | some t =>
        have := h t (by simp [Oper.looksAt, hg, ht])
        simp only [Option.bind_some, this]
    simp only [hy]

/-- the obligation of one operation. -/
def oblR (P : Program) (ops : Array Oper) (Rs : Nat → Value → World → Prop) (w0 : World) (vs : Nat → Value) (i : Nat) (o : Oper) (a : Act) : Prop :=
  ∀ w1, Below w0.heap.size w0 w1 → (∀ j, j < ops.size → ((masks ops).getD i 0).testBit j = true → Rs j (vs j) w1) →
    if Region.wanted o (yielded ops a.tmps) then Vals P o a w1 (fun v w2 => Below w1.heap.size w1 w2 ∧ Rs i v w2) else Rs i undef w1
def oblsR (P : Program) (ops : Array Oper) (Rs : Nat → Value → World → Prop) (w0 : World) (vs : Nat → Value) (Q : Act → Prop) : List Oper → Nat → Act → Prop
  | [], _, a => Q a
  | o :: rest, i, a => oblR P ops Rs w0 vs i o a ∧ oblsR P ops Rs w0 vs Q rest (i + 1) (a.put o.dst (vs i))

def okR (ops : Array Oper) : Bool :=
  let ms := masks ops
  okM ops && (List.range ops.size).all fun i => match ops[i]? with
    | none => true
    | some oi => (oi.after.all fun e => !Region.binds .any e || decide (e.on < i)) && (match oi.op with | .select .. => false | .defer _ => false | _ => true) &&
      (List.range ops.size).all fun j => match ops[j]? with
        | none => true
        | some oj => i == j || ((match oj.dst with | some d => oi.dst != some d && ((ms.getD i 0).testBit j || (ms.getD j 0).testBit i || !(oi.looksAt ops).contains d) | none => true))
theorem okR_back (h : okR ops = true) {i : Nat} {oi : Oper} (hi : ops[i]? = some oi) : ∀ e ∈ oi.after, Region.binds .any e = true → e.on < i := by
  intro e he hb
  simp only [okR, Bool.and_eq_true] at h
  have h1 := List.all_eq_true.1 h.2 i (List.mem_range.2 (Array.getElem?_eq_some_iff.1 hi).1)
  simp only [hi, Bool.and_eq_true] at h1
  have h2 := (Array.all_eq_true'.1 h1.1.1) e he
  simpa [hb] using h2
theorem okR_sel (h : okR ops = true) {i : Nat} {oi : Oper} (hi : ops[i]? = some oi) : ∀ cs b, oi.op ≠ .select cs b := by
  simp only [okR, Bool.and_eq_true] at h
  have h1 := List.all_eq_true.1 h.2 i (List.mem_range.2 (Array.getElem?_eq_some_iff.1 hi).1)
  simp only [hi, Bool.and_eq_true] at h1
  exact nosel h1.1.2
theorem okR_pair (h : okR ops = true) {i j : Nat} {oi oj : Oper} (hi : ops[i]? = some oi) (hj : ops[j]? = some oj) (hij : i ≠ j) {d : Nat} (hd : oj.dst = some d) :
    oi.dst ≠ some d ∧ (((masks ops).getD i 0).testBit j = true ∨ ((masks ops).getD j 0).testBit i = true ∨ d ∉ oi.looksAt ops) := by
  simp only [okR, Bool.and_eq_true] at h
  have h1 := List.all_eq_true.1 h.2 i (List.mem_range.2 (Array.getElem?_eq_some_iff.1 hi).1)
  simp only [hi, Bool.and_eq_true] at h1
  have h2 := List.all_eq_true.1 h1.2 j (List.mem_range.2 (Array.getElem?_eq_some_iff.1 hj).1)
  simp only [hj, hd, Bool.or_eq_true, beq_iff_eq, Bool.and_eq_true, bne_iff_ne, ne_eq, Bool.not_eq_true'] at h2
  rcases h2 with h2 | h2
  · exact absurd h2 hij
  · exact ⟨h2.1, or_assoc.1 (h2.2.imp id (fun h => by simpa using h))⟩
theorem okR_M (h : okR ops = true) : okM ops = true := by
  simp only [okR, Bool.and_eq_true] at h
  exact h.1

theorem ahead_listedR {listed : Array Bool} (h : okR ops = true)
    (hcl : ∀ j oj, ops[j]? = some oj → listed.getD j false = true → ∀ e ∈ oj.after, Region.binds .any e = true → listed.getD e.on false = true) {r : Nat} (hrs : r < ops.size) :
    ∀ (i : Nat) (oi : Oper), ops[i]? = some oi → (∀ e ∈ oi.after, Region.binds .any e = true → listed.getD e.on false = true) →
      ((masks ops).getD i 0).testBit r = true → listed.getD r false = true := by
  intro i
  induction i using Nat.strongRecOn with
  | _ i ih =>
    intro oi hi hall hb
    obtain ⟨_, e, he, hbe, hor⟩ := okM_spec (okR_M h) hrs i oi hi hb
    have hle := hall e he hbe
    rcases hor with rfl | hme
    · exact hle
    · have hlt := okR_back h hi e he hbe
      have hes : e.on < ops.size := Nat.lt_trans hlt (Array.getElem?_eq_some_iff.1 hi).1
      have hoe := Array.getElem?_eq_getElem hes
      exact ih e.on hlt _ hoe (hcl e.on _ hoe hle) hme
section
variable {Rs : Nat → Value → World → Prop} {w0 : World} {vs : Nat → Value} {Q : Act → Prop} {i : Nat} {o : Oper} {rest : List Oper} {a : Act}
end
/-- conditions: a constant, or what growth keeps. -/
inductive RC where
  | one (c : Value)
  | any (R : Value → World → Prop) (h : ∀ v w w', Below w.heap.size w w' → R v w → R v w')
def RC.holds : RC → Value → World → Prop
  | .one c, v, _ => v = c
  | .any R _, v, w => R v w
def RsOf (l : List RC) (i : Nat) : Value → World → Prop := match l[i]? with | some c => c.holds | none => fun _ _ => True
end
/-! RegionK -/
section
variable {P : Program} {ops : Array Oper}
theorem left_ready (hok : okR ops = true) (listed : Array Bool) (hs : listed.size = ops.size) {i : Nat} {rest : List Nat} (hl : leftOf ops listed = i :: rest) : i ∈ Region.ready .any ops listed := by
  have hi : i ∈ leftOf ops listed := by rw [hl]; simp
  obtain ⟨hir, hil⟩ := List.mem_filter.1 hi
  have his := List.mem_range.1 hir
  have hoi := Array.getElem?_eq_getElem his
  have hsort := leftOf_sorted (ops := ops) listed
  rw [hl] at hsort
  have hmin := (List.pairwise_cons.1 hsort).1
  refine List.mem_filter.2 ⟨hir, ?_⟩
  simp only [hil, Bool.true_and, hoi, Option.map_some, Option.getD_some, Array.all_eq_true']
  intro e he
  cases hb : Region.binds .any e with
  | false => rfl
  | true =>
    simp only [Bool.not_true, Bool.false_or]
    have hlt := okR_back hok hoi e he hb
    have hel : e.on < listed.size := by rw [hs]; omega
    cases hv : listed.getD e.on false with
    | true => rfl
    | false =>
      have hv' : listed.getD e.on true = false := by simp [hel] at hv ⊢; exact hv
      have hmem : e.on ∈ leftOf ops listed := List.mem_filter.2 ⟨List.mem_range.2 (by omega), by rw [hv']; rfl⟩
      rw [hl] at hmem
      rcases List.mem_cons.1 hmem with h | h
      · omega
      · have := hmin _ h; omega
theorem ready_mem {listed : Array Bool} {i : Nat} (hi : i ∈ Region.ready .any ops listed) :
    i < ops.size ∧ listed.getD i true = false ∧ ∀ oi, ops[i]? = some oi → ∀ e ∈ oi.after, Region.binds .any e = true → listed.getD e.on false = true := by
  obtain ⟨hir, hil⟩ := List.mem_filter.1 hi
  simp only [Bool.and_eq_true, Bool.not_eq_true'] at hil
  refine ⟨List.mem_range.1 hir, hil.1, fun oi hoi e he hb => ?_⟩
  have h2 := hil.2
  simp only [hoi, Option.map_some, Option.getD_some, Array.all_eq_true'] at h2
  simpa [hb] using h2 e he
def endsB (ops : Array Oper) (k : Nat) : Bool := (List.range ops.size).all fun i => decide (i < k) || (List.range i).all fun r => ((masks ops).getD i 0).testBit r
end
/-! RegionF -/
section
variable {P : Program} {ops : Array Oper}
/-- operations that only hand a value on: they answer alike in every world. -/
def floatB (o : Oper) : Bool := o.guard.isNone && match o.op with
  | .move _ => true
  | .assign _ => true
  | .extract _ _ => true
  | _ => false
theorem float_vals {o : Oper} {a : Act} {w : World} {R : Value → World → Prop} (h : floatB o = true) (hv : Vals P o a w R) : ∃ v, (∀ w', (execOp a.eval o).run P w' = .ok (.value v) w') ∧ R v w := by
  have key : ∀ (r : World → Result Next) (v : Value), (∀ w', r w' = .ok (.value v) w') → (match r w with
      | .ok (.value v) w' => R v w'
      | .ok .skip w' => R undef w'
      | .ok (.enter f args) w' => Calls P f args w' fun e w'' => ∃ v, e = .returned v ∧ R v w''
      | .ok (.row row args) w' => Rows P row args w' R
      | _ => False) → ∃ v, (∀ w', r w' = .ok (.value v) w') ∧ R v w := fun r v hr hh => by rw [hr w] at hh; exact ⟨v, hr, hh⟩
  unfold floatB at h
  unfold Vals at hv
  cases ho : o.op <;> rw [ho] at h <;> first
    | (simp at h; done)
    | (exact key (fun w => (execOp a.eval o).run P w) _ (fun w' => by unfold execOp; simp only [ho]; rfl) hv)
    | skip
  rename_i t ix
  cases ht : a.eval t with
  | tuple vs =>
    cases hx : vs[ix]? with
    | some v => exact key (fun w => (execOp a.eval o).run P w) v (fun w' => by unfold execOp; simp [ho, Instr.extract, ht, hx]) hv
    | none =>
      exfalso
      have : (execOp a.eval o).run P w = .halt (.stuck "Extract: no such component") w := by unfold execOp; simp [ho, Instr.extract, ht, hx, stuck]
      rw [this] at hv; exact hv
  | _ =>
    exfalso
    have : (execOp a.eval o).run P w = .halt (.stuck "Extract: tuple expected") w := by unfold execOp; simp [ho, Instr.extract, ht, stuck]
    rw [this] at hv; exact hv
def wpN (P : Program) (ops : Array Oper) (Q : Act → World → Prop) : List Oper → Act → World → Prop
  | [], a, w => Q a w
  | o :: rest, a, w => if Region.wanted o (yielded ops a.tmps) then Vals P o a w (fun v w' => wpN P ops Q rest (a.put o.dst v) w') else wpN P ops Q rest (a.put o.dst undef) w
theorem wpList_of_wpN {Q : Exit → Act → World → Prop} : ∀ {l : List Oper} {a : Act} {w : World}, wpN P ops (Q .normal) l a w → wpList P ops Q l a w
  | [], _, _, h => h
  | o :: rest, a, w, h => by
    unfold wpN at h
    unfold wpList
    split at h
    · rename_i hw
      rw [if_pos hw]
      exact .inl (h.wp rfl fun v w' hh => wpList_of_wpN hh)
    · rename_i hw
      rw [if_neg hw]
      exact wpList_of_wpN h
def endsF (ops : Array Oper) (k : Nat) : Bool := (List.range ops.size).all fun i => decide (i < k) || (List.range i).all fun r => ((masks ops).getD i 0).testBit r || (decide (r < k) && match ops[r]? with | some o => floatB o | none => false)
theorem endsF_spec {k : Nat} (h : endsF ops k = true) : ∀ i, k ≤ i → i < ops.size → ∀ r, r < i → ((masks ops).getD i 0).testBit r = true ∨ (r < k ∧ ∃ o, ops[r]? = some o ∧ floatB o = true) := by
  intro i hk hi r hr
  have h1 := List.all_eq_true.1 h i (List.mem_range.2 hi)
  simp only [Bool.or_eq_true, decide_eq_true_eq] at h1
  rcases h1 with h1 | h1
  · omega
  · have h2 := List.all_eq_true.1 h1 r (List.mem_range.2 hr)
    simp only [Bool.or_eq_true, Bool.and_eq_true, decide_eq_true_eq] at h2
    rcases h2 with h2 | ⟨h2, h3⟩
    · exact .inl h2
    · refine .inr ⟨h2, ?_⟩
      cases ho : ops[r]? with
      | none => rw [ho] at h3; cases h3
      | some o => rw [ho] at h3; exact ⟨o, rfl, h3⟩
theorem unl {listed : Array Bool} {i : Nat} (hs : listed.size = ops.size) (hi : i < ops.size) (h : listed.getD i true = false) : listed.getD i false = false := by
  have hsz : i < listed.size := by omega
  simp [hsz] at h ⊢; exact h
theorem unl' {listed : Array Bool} {i : Nat} (hs : listed.size = ops.size) (hi : i < ops.size) (h : listed.getD i false = false) : listed.getD i true = false := by
  have hsz : i < listed.size := by omega
  simp [hsz] at h ⊢; exact h
/-- the act of the listed operations looks, to a ready operation, like the act of the text. -/
theorem look_like {a0 : Act} {vs : Nat → Value} (hok : okR ops = true) {listed : Array Bool}
    (hcl : ∀ j oj, ops[j]? = some oj → listed.getD j false = true → ∀ e ∈ oj.after, Region.binds .any e = true → listed.getD e.on false = true)
    {i : Nat} {o : Oper} (ho : ops[i]? = some o) (hi : listed.getD i false = false) (hall : ∀ e ∈ o.after, Region.binds .any e = true → listed.getD e.on false = true) :
    ∀ t ∈ o.looksAt ops, (putsL ops vs (fun j => listed.getD j false) (List.range ops.size) a0).tmps[t]? = (putsL ops vs (fun j => decide (j < i)) (List.range ops.size) a0).tmps[t]? := by
  intro t ht
  refine putsL_tmp t _ _ _ rfl rfl (fun j hj oj hoj hd => ?_)
  have hjs := List.mem_range.1 hj
  by_cases e : j = i
  · subst e; rw [hi]; simp
  · rcases (okR_pair hok ho hoj (fun h => e h.symm) hd).2 with h | h | h
    · have h1 := ahead_listedR hok hcl hjs i _ ho hall h
      have h2 := (okM_spec (okR_M hok) hjs i _ ho h).1
      rw [h1]; simp [h2]
    · have h2 := (okM_spec (okR_M hok) (Array.getElem?_eq_some_iff.1 ho).1 j _ hoj h).1
      cases hlj : listed.getD j false with
      | false => simp; omega
      | true =>
        have := ahead_listedR hok hcl (Array.getElem?_eq_some_iff.1 ho).1 j _ hoj (hcl j _ hoj hlj) h
        rw [hi] at this; cases this
    · exact absurd ht h
theorem putsL_below {vs : Nat → Value} {a0 : Act} {m : Nat} (hm : m ≤ ops.size) : putsL ops vs (fun j => decide (j < m)) (List.range ops.size) a0 = putsL ops vs (fun _ => true) (List.range m) a0 := by
  have hsplit : List.range ops.size = List.range m ++ List.range' m (ops.size - m) := by
    rw [List.range_eq_range', List.range_eq_range']
    have := List.range'_append_1 (s := 0) (m := m) (n := ops.size - m)
    rw [Nat.zero_add] at this
    rw [this]; congr 1; omega
  rw [hsplit, putsL_append]
  rw [putsL_congr (vs' := vs) (L' := fun _ => false) (List.range' m (ops.size - m)) _ (fun j hj => ⟨by have := (List.mem_range'_1.1 hj).1; simp; omega, fun _ => rfl⟩), putsL_false]
  exact putsL_congr _ _ (fun j hj => ⟨by simp [List.mem_range.1 hj], fun _ => rfl⟩)
theorem getD_set_fun {listed : Array Bool} {i : Nat} (hs : listed.size = ops.size) (hi : i < ops.size) : (fun j => if j = i then true else listed.getD j false) = (fun j => (listed.setIfInBounds i true).getD j false) := by
  funext j
  by_cases e : j = i
  · subst e; simp [hs, hi]
  · rw [if_neg e, getD_set_ne false (fun h => e h.symm)]
theorem closed_set {listed : Array Bool} {i : Nat} (hcl : ∀ j oj, ops[j]? = some oj → listed.getD j false = true → ∀ e ∈ oj.after, Region.binds .any e = true → listed.getD e.on false = true)
    (hall : ∀ oi, ops[i]? = some oi → ∀ e ∈ oi.after, Region.binds .any e = true → listed.getD e.on false = true) :
    ∀ j oj, ops[j]? = some oj → (listed.setIfInBounds i true).getD j false = true → ∀ e ∈ oj.after, Region.binds .any e = true → (listed.setIfInBounds i true).getD e.on false = true := by
  intro j oj hj hl e he hbe
  by_cases hji : i = j
  · subst hji
    exact getD_set_true (hall oj hj e he hbe)
  · rw [getD_set_ne false hji] at hl
    exact getD_set_true (hcl j oj hj hl e he hbe)
theorem left_set_len {listed : Array Bool} {i fuel : Nat} (hs : listed.size = ops.size) (hi : i < ops.size) (hil : listed.getD i true = false) (h : (leftOf ops listed).length ≤ fuel + 1) : (leftOf ops (listed.setIfInBounds i true)).length ≤ fuel := by
  have hmem : i ∈ leftOf ops listed := List.mem_filter.2 ⟨List.mem_range.2 hi, by rw [hil]; rfl⟩
  obtain ⟨R1, R2, hR⟩ := List.append_of_mem hmem
  rw [leftOf_set hs hR]
  rw [hR] at h
  simp at h ⊢
  omega
theorem wpAny_F {Q : Exit → Act → World → Prop} {a0 : Act} {k : Nat} (hok : okR ops = true)
    (hends : ∀ i, k ≤ i → i < ops.size → ∀ r, r < i → ((masks ops).getD i 0).testBit r = true ∨ (r < k ∧ ∃ o, ops[r]? = some o ∧ floatB o = true)) :
    ∀ (fuel : Nat) (listed : Array Bool) (vs : Nat → Value) (m : Nat) (w : World), listed.size = ops.size → k ≤ m → m ≤ ops.size →
      (∀ j oj, ops[j]? = some oj → listed.getD j false = true → ∀ e ∈ oj.after, Region.binds .any e = true → listed.getD e.on false = true) →
      (∀ j, m ≤ j → listed.getD j false = false) → (∀ j, k ≤ j → j < m → listed.getD j false = true) →
      (∀ f o, f < k → ops[f]? = some o → listed.getD f false = false → floatB o = true ∧ ∀ w', (execOp (putsL ops vs (fun j => decide (j < f)) (List.range ops.size) a0).eval o).run P w' = .ok (.value (vs f)) w') →
      (leftOf ops listed).length ≤ fuel → wpN P ops (Q .normal) (ops.toList.drop m) (putsL ops vs (fun j => decide (j < m)) (List.range ops.size) a0) w →
      wpAny P .any ops Q fuel listed (putsL ops vs (fun j => listed.getD j false) (List.range ops.size) a0) w := by
  intro fuel
  have hend : ∀ (listed : Array Bool) (vs : Nat → Value) (m : Nat) (w : World), listed.size = ops.size → m ≤ ops.size → leftOf ops listed = [] → (∀ j, m ≤ j → listed.getD j false = false) →
      wpN P ops (Q .normal) (ops.toList.drop m) (putsL ops vs (fun j => decide (j < m)) (List.range ops.size) a0) w → Q .normal (putsL ops vs (fun j => listed.getD j false) (List.range ops.size) a0) w := by
    intro listed vs m w hs hm hl hout h
    have hall : ∀ j, j < ops.size → listed.getD j false = true := by
      intro j hj
      cases hv : listed.getD j false with
      | true => rfl
      | false =>
        have : j ∈ leftOf ops listed := List.mem_filter.2 ⟨List.mem_range.2 hj, by rw [unl' hs hj hv]; rfl⟩
        rw [hl] at this; cases this
    have hms : m = ops.size := by
      apply Classical.byContradiction
      intro hn
      have := hall m (by omega)
      rw [hout m (Nat.le_refl _)] at this; cases this
    subst hms
    rw [List.drop_eq_nil_of_le (by simp)] at h
    rw [putsL_congr (vs' := vs) (L' := fun j => decide (j < ops.size)) _ _ (fun j hj => ⟨by rw [hall j (List.mem_range.1 hj)]; simp [List.mem_range.1 hj], fun _ => rfl⟩)]
    exact h
  induction fuel with
  | zero =>
    intro listed vs m w hs hkm hm hcl hout hin hfl hlen h
    have hl : leftOf ops listed = [] := List.length_eq_zero_iff.1 (by omega)
    refine ⟨?_, hend listed vs m w hs hm hl hout h⟩
    cases hr : Region.ready .any ops listed with
    | nil => rfl
    | cons i rest =>
      exfalso
      have hi : i ∈ Region.ready .any ops listed := by rw [hr]; simp
      obtain ⟨h1, h2, _⟩ := ready_mem hi
      have : i ∈ leftOf ops listed := List.mem_filter.2 ⟨List.mem_range.2 h1, by rw [h2]; rfl⟩
      rw [hl] at this; cases this
  | succ fuel ih =>
    intro listed vs m w hs hkm hm hcl hout hin hfl hlen h
    refine ⟨fun hr => ?_, fun i hi => ?_⟩
    · refine hend listed vs m w hs hm ?_ hout h
      cases hl : leftOf ops listed with
      | nil => rfl
      | cons i rest =>
        have := left_ready hok listed hs hl
        rw [hr] at this; cases this
    obtain ⟨his, hil, hall⟩ := ready_mem hi
    have hoi := Array.getElem?_eq_getElem his
    have hni := unl hs his hil
    have hlook := look_like (a0 := a0) (vs := vs) hok hcl hoi hni (hall _ hoi)
    have hop := execOp_tmp (ops := ops) (ops[i]) (okR_sel hok hoi) hlook
    have hwt := wanted_tmp (ops := ops) (ops[i]) hlook
    have hcl' := closed_set hcl hall
    have hlen' := left_set_len hs his hil hlen
    have hcomm : ∀ j ∈ List.range ops.size, j ≠ i → ∀ o', ops[j]? = some o' → ∀ (b : Act) u x, (b.put (ops[i]).dst u).put o'.dst x = (b.put o'.dst x).put (ops[i]).dst u :=
      fun j _ hji o' ho' b u x => Act.put_comm b u x (fun d hd => (okR_pair hok ho' hoi hji hd).1)
    unfold wpOp
    simp only [hoi]
    by_cases hik : i < k
    · obtain ⟨hf, hrun⟩ := hfl i _ hik hoi hni
      have hw : Region.wanted ops[i] (yielded ops (putsL ops vs (fun j => listed.getD j false) (List.range ops.size) a0).tmps) = true := by
        unfold floatB at hf
        simp only [Bool.and_eq_true] at hf
        unfold Region.wanted
        cases hg : (ops[i]).guard with
        | none => rfl
        | some g => rw [hg] at hf; simp at hf
      rw [if_pos hw]
      refine .inl ?_
      unfold Oper.wp
      rw [hop, hrun w, Oper.upon_value]
      rw [← putsL_set (v := vs i) hoi (List.range ops.size) a0 List.nodup_range (List.mem_range.2 his) hcomm hni, getD_set_fun hs his]
      have hvv : (fun j => if j = i then vs i else vs j) = vs := by funext j; split <;> simp_all
      rw [hvv]
      refine ih _ vs m w (by simp [hs]) hkm hm hcl' (fun j hj => by rw [getD_set_ne false (by omega)]; exact hout j hj) (fun j h1 h2 => getD_set_true (hin j h1 h2)) (fun f o hfk ho hf' => ?_) hlen' h
      by_cases e : i = f
      · subst e; simp [hs, his] at hf'
      · rw [getD_set_ne false e] at hf'; exact hfl f o hfk ho hf'
    · have him : i = m := by
        have hge : m ≤ i := by
          apply Classical.byContradiction
          intro hn
          have := hin i (by omega) (by omega)
          rw [hni] at this; cases this
        apply Classical.byContradiction
        intro hne
        rcases hends i (by omega) his m (by omega) with hb | ⟨hb, _⟩
        · have := ahead_listedR hok hcl (by omega) i _ hoi (hall _ hoi) hb
          rw [hout m (Nat.le_refl _)] at this; cases this
        · omega
      subst him
      have hdrop : ops.toList.drop i = ops[i] :: ops.toList.drop (i + 1) := by
        rw [List.drop_eq_getElem_cons (by simpa using his)]; simp
      rw [hdrop] at h
      unfold wpN at h
      have next : ∀ v w', wpN P ops (Q .normal) (ops.toList.drop (i + 1)) ((putsL ops vs (fun j => decide (j < i)) (List.range ops.size) a0).put (ops[i]).dst v) w' →
          wpAny P .any ops Q fuel (listed.setIfInBounds i true) ((putsL ops vs (fun j => listed.getD j false) (List.range ops.size) a0).put (ops[i]).dst v) w' := by
        intro v w' hh
        rw [← putsL_set (v := v) hoi (List.range ops.size) a0 List.nodup_range (List.mem_range.2 his) hcomm hni, getD_set_fun hs his]
        rw [← putsL_set (v := v) (L := fun j => decide (j < i)) hoi (List.range ops.size) a0 List.nodup_range (List.mem_range.2 his) hcomm (by simp)] at hh
        have hL : (fun j => if j = i then true else decide (j < i)) = (fun j => decide (j < i + 1)) := by
          funext j
          by_cases e : j = i
          · subst e; simp
          · rw [if_neg e]; congr 1; exact propext ⟨fun h => by omega, fun h => by omega⟩
        rw [hL] at hh
        refine ih _ _ (i + 1) w' (by simp [hs]) (by omega) (by omega) hcl' (fun j hj => by rw [getD_set_ne false (by omega)]; exact hout j (by omega)) (fun j h1 h2 => ?_) (fun f o hfk ho hf' => ?_) hlen' hh
        · by_cases e : i = j
          · subst e; simp [hs, his]
          · rw [getD_set_ne false e]; exact hin j h1 (by omega)
        · rw [getD_set_ne false (by omega)] at hf'
          obtain ⟨h1, h2⟩ := hfl f o hfk ho hf'
          refine ⟨h1, fun w'' => ?_⟩
          rw [if_neg (by omega)]
          rw [putsL_congr (vs' := vs) (L' := fun j => decide (j < f)) _ _ (fun j _ => ⟨rfl, fun hj => by rw [if_neg (by have := of_decide_eq_true hj; omega)]⟩)]
          exact h2 w''
      rw [hwt]
      split
      · rename_i hw
        rw [if_pos hw] at h
        exact .inl (h.wp hop next)
      · rename_i hw
        rw [if_neg hw] at h
        exact next undef w h
theorem wpAny_G {Rs : Nat → Value → World → Prop} {w0 : World} {a0 : Act} {Q : Exit → Act → World → Prop} {k : Nat} (hk : k ≤ ops.size) (hok : okR ops = true)
    (hends : ∀ i, k ≤ i → i < ops.size → ∀ r, r < i → ((masks ops).getD i 0).testBit r = true ∨ (r < k ∧ ∃ o, ops[r]? = some o ∧ floatB o = true))
    (hst : ∀ i v w w', Below w.heap.size w w' → Rs i v w → Rs i v w') (cv : Nat → Value) (hcv : ∀ f o, f < k → ops[f]? = some o → floatB o = true → ∀ v w, Rs f v w ↔ v = cv f)
    (hob : ∀ vs, ∀ i o, i < k → ops[i]? = some o → oblR P ops Rs w0 vs i o (putsL ops vs (fun _ => true) (List.range i) a0))
    (hq : ∀ vs w1, Below w0.heap.size w0 w1 → (∀ i, i < k → Rs i (vs i) w1) → wpN P ops (Q .normal) (ops.toList.drop k) (putsL ops vs (fun _ => true) (List.range k) a0) w1) :
    ∀ (fuel : Nat) (listed : Array Bool) (vs : Nat → Value) (w : World), listed.size = ops.size →
      (∀ j oj, ops[j]? = some oj → listed.getD j false = true → ∀ e ∈ oj.after, Region.binds .any e = true → listed.getD e.on false = true) →
      (∀ j, k ≤ j → listed.getD j false = false) →
      (leftOf ops listed).length ≤ fuel → Below w0.heap.size w0 w → (∀ j, j < k → listed.getD j false = true → Rs j (vs j) w) →
      wpAny P .any ops Q fuel listed (putsL ops vs (fun j => listed.getD j false) (List.range ops.size) a0) w := by
  intro fuel
  -- all but values that are handed on is done
  have hdone : ∀ (fuel : Nat) (listed : Array Bool) (vs : Nat → Value) (w : World), listed.size = ops.size →
      (∀ j oj, ops[j]? = some oj → listed.getD j false = true → ∀ e ∈ oj.after, Region.binds .any e = true → listed.getD e.on false = true) →
      (∀ j o, j < k → ops[j]? = some o → listed.getD j false = false → floatB o = true) → (∀ j, k ≤ j → listed.getD j false = false) → (leftOf ops listed).length ≤ fuel → Below w0.heap.size w0 w →
      (∀ j, j < k → listed.getD j false = true → Rs j (vs j) w) → wpAny P .any ops Q fuel listed (putsL ops vs (fun j => listed.getD j false) (List.range ops.size) a0) w := by
    intro fuel listed vs w hs hcl hfl hout hlen hb hr
    have hvs : ∃ vs' : Nat → Value, vs' = fun j => if listed.getD j false = true then vs j else cv j := ⟨_, rfl⟩
    obtain ⟨vs', hvs'⟩ := hvs
    have hRs : ∀ j, j < k → Rs j (vs' j) w := by
      intro j hj
      cases hl : listed.getD j false with
      | true =>
        have e : vs' j = vs j := by rw [hvs']; simp only [hl, if_true]
        rw [e]; exact hr j hj hl
      | false =>
        have e : vs' j = cv j := by rw [hvs']; simp only [hl, Bool.false_eq_true, if_false]
        rw [e]
        have hjs : j < ops.size := by omega
        have hoj := Array.getElem?_eq_getElem hjs
        exact (hcv j _ hj hoj (hfl j _ hj hoj hl) _ _).2 rfl
    rw [putsL_congr (vs' := vs') (L' := fun j => listed.getD j false) _ _ (fun j _ => ⟨rfl, fun hl => by rw [hvs']; simp only [hl, if_true]⟩)]
    refine wpAny_F (k := k) hok hends fuel listed vs' k w hs (Nat.le_refl _) hk hcl hout (fun j h1 h2 => by omega) (fun f o hfk ho hf => ?_) hlen ?_
    · have hfo := hfl f o hfk ho hf
      refine ⟨hfo, ?_⟩
      have hob' := hob vs' f o hfk ho w hb (fun j hjs hj => hRs j (by have := (okM_spec (okR_M hok) (r := j) hjs f _ ho hj).1; omega))
      have hw : Region.wanted o (yielded ops (putsL ops vs' (fun _ => true) (List.range f) a0).tmps) = true := by
        have hf' := hfo
        unfold floatB at hf'
        simp only [Bool.and_eq_true] at hf'
        unfold Region.wanted
        cases hg : o.guard with
        | none => rfl
        | some g => rw [hg] at hf'; simp at hf'
      rw [if_pos hw] at hob'
      obtain ⟨v, hv, _, hR⟩ := float_vals hfo hob'
      have hvc := (hcv f o hfk ho hfo _ _).1 hR
      have hvf := (hcv f o hfk ho hfo _ _).1 (hRs f hfk)
      intro w'
      rw [putsL_below (by omega), hv w', hvc, hvf]
    · rw [putsL_below hk]
      exact hq vs' w hb hRs
  induction fuel with
  | zero =>
    intro listed vs w hs hcl hout hlen hb hr
    have hl : leftOf ops listed = [] := List.length_eq_zero_iff.1 (by omega)
    refine hdone 0 listed vs w hs hcl (fun j o hj ho hjl => ?_) hout hlen hb hr
    exfalso
    have : j ∈ leftOf ops listed := List.mem_filter.2 ⟨List.mem_range.2 (by omega), by rw [unl' hs (by omega) hjl]; rfl⟩
    rw [hl] at this; cases this
  | succ fuel ih =>
    intro listed vs w hs hcl hout hlen hb hr
    by_cases hall : ∀ j o, j < k → ops[j]? = some o → listed.getD j false = false → floatB o = true
    · exact hdone (fuel + 1) listed vs w hs hcl hall hout hlen hb hr
    have hex : ∃ j o, j < k ∧ ops[j]? = some o ∧ listed.getD j false = false ∧ floatB o = false := by
      apply Classical.byContradiction
      intro hn
      exact hall fun j o hj ho hl => by
        cases hf : floatB o with
        | true => rfl
        | false => exact absurd ⟨j, o, hj, ho, hl, hf⟩ hn
    obtain ⟨j0, o0, hj0, ho0, hj0f, hf0⟩ := hex
    refine ⟨fun he => ?_, fun i hi => ?_⟩
    · exfalso
      cases hl : leftOf ops listed with
      | nil =>
        have : j0 ∈ leftOf ops listed := List.mem_filter.2 ⟨List.mem_range.2 (by omega), by rw [unl' hs (by omega) hj0f]; rfl⟩
        rw [hl] at this; cases this
      | cons i rest =>
        have := left_ready hok listed hs hl
        rw [he] at this; cases this
    obtain ⟨his, hil, hall'⟩ := ready_mem hi
    have hoi := Array.getElem?_eq_getElem his
    have hni := unl hs his hil
    have hmask : ∀ j, ((masks ops).getD i 0).testBit j = true → j < ops.size → listed.getD j false = true := fun j hj hjs => ahead_listedR hok hcl hjs i _ hoi (hall' _ hoi) hj
    have hik : i < k := by
      apply Classical.byContradiction
      intro hn
      rcases hends i (by omega) his j0 (by omega) with h | ⟨_, o, ho, hf⟩
      · have := hmask j0 h (by omega)
        rw [hj0f] at this; cases this
      · rw [ho0] at ho
        obtain rfl := (by simpa using ho)
        rw [hf0] at hf; cases hf
    have hlook := look_like (a0 := a0) (vs := vs) hok hcl hoi hni (hall' _ hoi)
    rw [putsL_below (by omega)] at hlook
    have hsel := okR_sel hok hoi
    have hob' := hob vs i _ hik hoi w hb (fun j hjs hj => hr j (by
      have := (okM_spec (okR_M hok) (r := j) hjs i _ hoi hj).1
      omega) (hmask j hj hjs))
    have next : ∀ v w', Below w.heap.size w w' → Rs i v w' → wpAny P .any ops Q fuel (listed.setIfInBounds i true) ((putsL ops vs (fun j => listed.getD j false) (List.range ops.size) a0).put (ops[i]).dst v) w' := by
      intro v w' hb' hv
      rw [← putsL_set hoi (List.range ops.size) a0 List.nodup_range (List.mem_range.2 his) (fun j _ hji o' ho' b u x => Act.put_comm b u x (fun d hd => (okR_pair hok ho' hoi hji hd).1)) hni, getD_set_fun hs his]
      refine ih _ _ w' (by simp [hs]) (closed_set hcl hall') (fun j hj => by rw [getD_set_ne false (by omega)]; exact hout j hj) (left_set_len hs his hil hlen) (hb.trans (hb'.mono hb.size)) ?_
      intro j hj hl
      by_cases e : j = i
      · subst e; simp only [if_true]; exact hv
      · simp only [if_neg e]
        rw [getD_set_ne false (fun h => e h.symm)] at hl
        exact hst _ _ _ _ hb' (hr j hj hl)
    unfold wpOp
    simp only [hoi]
    rw [wanted_tmp _ hlook]
    split
    · rename_i hw
      rw [if_pos hw] at hob'
      exact .inl (hob'.wp (execOp_tmp _ hsel hlook) (fun v w' h => next v w' h.1 h.2))
    · rename_i hw
      rw [if_neg hw] at hob'
      exact next undef w (Below.refl _ _) hob'
/-- THE LAW. -/
theorem wp_region_G {id : Nat} {Q : Exit → Act → World → Prop} {a : Act} {w : World} {l : List Oper} (k : Nat) (Rs : Nat → Value → World → Prop) (hm : P.follows .mixedOrders = true)
    (hok : (okR l.toArray && endsF l.toArray k && Nat.ble k l.length) = true) (hst : ∀ i v w w', Below w.heap.size w w' → Rs i v w → Rs i v w')
    (cv : Nat → Value) (hcv : ∀ f o, f < k → l[f]? = some o → floatB o = true → ∀ v w, Rs f v w ↔ v = cv f)
    (hob : ∀ vs, ∀ i o, i < k → l[i]? = some o → oblR P l.toArray Rs w.drew vs i o (putsL l.toArray vs (fun _ => true) (List.range i) a))
    (hq : ∀ vs w1, Below w.heap.size w w1 → (∀ i, i < k → Rs i (vs i) w1) → wpN P l.toArray (Q .normal) (l.drop k) (putsL l.toArray vs (fun _ => true) (List.range k) a) w1) : (Code.region id l.toArray true).wp P Q a w := by
  simp only [Bool.and_eq_true] at hok
  have hkl := Nat.le_of_ble_eq_true hok.2
  refine wp_region_any hm ?_
  have := wpAny_G (P := P) (ops := l.toArray) (Rs := Rs) (w0 := w.drew) (a0 := a) (Q := Q) (k := k) (by simpa using hkl) hok.1.1 (endsF_spec hok.1.2) hst cv (fun f o hf ho => hcv f o hf (by simpa using ho))
    (fun vs i o hik hi => hob vs i o hik (by simpa using hi))
    (fun vs w1 hb hr => hq vs w1 ((Below.refl w.heap.size w).drew.trans hb) hr)
    l.toArray.size (Array.replicate l.toArray.size false) (fun _ => undef) w.drew (by simp) (fun j oj hj hl => by
      exfalso
      have := repl_false l.toArray.size j
      rw [this] at hl; cases hl) (fun j _ => repl_false _ j) (by rw [leftOf_none]; simp) (Below.refl _ _) (fun j hj hl => by
      exfalso
      have := repl_false l.toArray.size j
      rw [this] at hl; cases hl)
  rw [putsL_congr (vs' := fun _ => undef) (L' := fun _ => false) _ _ (fun j _ => ⟨repl_false _ j, fun h => rfl⟩), putsL_false] at this
  exact this
end
end Go.Proofs.YtmdkfbmpenohiaaDoor
