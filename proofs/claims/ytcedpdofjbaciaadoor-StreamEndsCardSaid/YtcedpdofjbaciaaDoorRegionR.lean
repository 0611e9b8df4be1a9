/- A region that draws its order and makes memory beside calls: rely and guarantee, one obligation for each operation. -/
import Derived.Test.YtcedpdofjbaciaaDoorRegion
namespace Go.Proofs.YtcedpdofjbaciaaDoor
open Go.RowKit
section
variable {P : Program} {ops : Array Oper}
/-- the act with the listed operations' values put, in the order of the text. -/
def putsL (ops : Array Oper) (vs : Nat → Value) (listed : Nat → Bool) : List Nat → Act → Act
  | [], a => a
  | i :: r, a => putsL ops vs listed r (match ops[i]? with | some o => if listed i then a.put o.dst (vs i) else a | none => a)
theorem putsL_congr {vs vs' : Nat → Value} {L L' : Nat → Bool} : ∀ (r : List Nat) (a : Act), (∀ j ∈ r, L j = L' j ∧ (L j = true → vs j = vs' j)) → putsL ops vs L r a = putsL ops vs' L' r a
  | [], _, _ => rfl
  | j :: r, a, h => by
    obtain ⟨h1, h2⟩ := h j (List.mem_cons_self ..)
    unfold putsL
    rw [putsL_congr r _ (fun k hk => h k (List.mem_cons_of_mem _ hk))]
    congr 1
    cases ho : ops[j]? with
    | none => rfl
    | some o =>
      simp only
      rw [← h1]
      cases hl : L j with
      | false => simp
      | true => simp [h2 hl]
theorem putsL_put {vs : Nat → Value} {L : Nat → Bool} {d : Option Tmp} {v : Value} : ∀ (r : List Nat) (a : Act), (∀ j ∈ r, ∀ o, ops[j]? = some o → ∀ (b : Act) u w, (b.put d u).put o.dst w = (b.put o.dst w).put d u) →
    putsL ops vs L r (a.put d v) = (putsL ops vs L r a).put d v
  | [], _, _ => rfl
  | j :: r, a, h => by
    unfold putsL
    cases ho : ops[j]? with
    | none => simp only; exact putsL_put r a (fun k hk => h k (List.mem_cons_of_mem _ hk))
    | some o =>
      simp only
      cases hl : L j with
      | false => simp only [Bool.false_eq_true, if_false]; exact putsL_put r a (fun k hk => h k (List.mem_cons_of_mem _ hk))
      | true =>
        simp only [if_true]
        rw [h j (List.mem_cons_self ..) o ho]
        exact putsL_put r _ (fun k hk => h k (List.mem_cons_of_mem _ hk))
theorem putsL_set {vs : Nat → Value} {L : Nat → Bool} {i : Nat} {o : Oper} {v : Value} (ho : ops[i]? = some o) : ∀ (r : List Nat) (a : Act), r.Nodup → i ∈ r →
    (∀ j ∈ r, j ≠ i → ∀ o', ops[j]? = some o' → ∀ (b : Act) u w, (b.put o.dst u).put o'.dst w = (b.put o'.dst w).put o.dst u) → L i = false →
    putsL ops (fun j => if j = i then v else vs j) (fun j => if j = i then true else L j) r a = (putsL ops vs L r a).put o.dst v
  | [], _, _, h, _, _ => by cases h
  | j :: r, a, hn, hi, hc, hl => by
    obtain ⟨hjr, hr⟩ := List.nodup_cons.1 hn
    by_cases e : j = i
    · subst e
      unfold putsL
      simp only [ho, if_true, hl, Bool.false_eq_true, if_false]
      rw [putsL_put r a (fun k hk o' h' => hc k (List.mem_cons_of_mem _ hk) (fun e => hjr (e ▸ hk)) o' h')]
      rw [putsL_congr (vs' := vs) (L' := L) r a (fun k hk => by
        have hk' : k ≠ j := fun e => hjr (e ▸ hk)
        simp [hk'])]
    · have hir : i ∈ r := by rcases List.mem_cons.1 hi with h | h; exact absurd h.symm e; exact h
      unfold putsL
      simp only [if_neg e]
      exact putsL_set ho r _ hr hir (fun k hk => hc k (List.mem_cons_of_mem _ hk)) hl

theorem putsL_size {vs : Nat → Value} {L : Nat → Bool} : ∀ (r : List Nat) (a : Act), (putsL ops vs L r a).tmps.size = a.tmps.size
  | [], _ => rfl
  | j :: r, a => by
    unfold putsL
    rw [putsL_size r]
    cases ho : ops[j]? with
    | none => rfl
    | some o =>
      simp only
      split
      · cases hd : o.dst <;> simp [Act.put]
      · rfl
theorem put_tmp {a a' : Act} {t : Nat} (hs : a.tmps.size = a'.tmps.size) (h : a.tmps[t]? = a'.tmps[t]?) (d : Option Tmp) (v : Value) : (a.put d v).tmps[t]? = (a'.put d v).tmps[t]? := by
  cases d with
  | none => exact h
  | some d =>
    simp only [Act.put]
    by_cases e : d = t
    · subst e; simp [Array.getElem?_setIfInBounds, hs]
    · rw [Array.getElem?_setIfInBounds_ne e, Array.getElem?_setIfInBounds_ne e]; exact h
theorem put_tmp_ne {a : Act} {t : Nat} {d : Option Tmp} (h : d ≠ some t) (v : Value) : (a.put d v).tmps[t]? = a.tmps[t]? := by
  cases d with
  | none => rfl
  | some d => exact Array.getElem?_setIfInBounds_ne (fun e => h (by rw [e]))
theorem put_size (a : Act) (d : Option Tmp) (v : Value) : (a.put d v).tmps.size = a.tmps.size := by cases d <;> simp [Act.put]
theorem putsL_tmp {vs : Nat → Value} {L L' : Nat → Bool} (t : Nat) : ∀ (r : List Nat) (a a' : Act), a.tmps.size = a'.tmps.size → a.tmps[t]? = a'.tmps[t]? →
    (∀ j ∈ r, ∀ o, ops[j]? = some o → o.dst = some t → L j = L' j) → (putsL ops vs L r a).tmps[t]? = (putsL ops vs L' r a').tmps[t]?
  | [], _, _, _, h, _ => h
  | j :: r, a, a', hs, h, hL => by
    unfold putsL
    have hr : ∀ k ∈ r, ∀ o, ops[k]? = some o → o.dst = some t → L k = L' k := fun k hk => hL k (List.mem_cons_of_mem _ hk)
    cases ho : ops[j]? with
    | none => exact putsL_tmp t r _ _ hs h hr
    | some o =>
      simp only
      by_cases e : o.dst = some t
      · have := hL j (List.mem_cons_self ..) o ho e
        rw [this]
        split
        · exact putsL_tmp t r _ _ (by rw [put_size, put_size]; exact hs) (put_tmp hs h _ _) hr
        · exact putsL_tmp t r _ _ hs h hr
      · refine putsL_tmp t r _ _ ?_ ?_ hr
        · split <;> split <;> simp [put_size, hs]
        · split <;> split <;> simp [put_tmp_ne e, h]
theorem putsL_false {vs : Nat → Value} : ∀ (r : List Nat) (a : Act), putsL ops vs (fun _ => false) r a = a
  | [], _ => rfl
  | j :: r, a => by
    unfold putsL
    rw [putsL_false r]
    cases ops[j]? <;> simp
theorem putsL_append {vs : Nat → Value} {L : Nat → Bool} : ∀ (r s : List Nat) (a : Act), putsL ops vs L (r ++ s) a = putsL ops vs L s (putsL ops vs L r a)
  | [], _, _ => rfl
  | _ :: r, s, _ => putsL_append r s _

/-- what an operation gives: its value and the world behind it. -/
def Vals (P : Program) (o : Oper) (a : Act) (w : World) (R : Value → World → Prop) : Prop :=
  match (execOp a.eval o).run P w with
  | .ok (.value v) w' => R v w'
  | .ok .skip w' => R undef w'
  | .ok (.enter f args) w' => Calls P f args w' fun e w'' => ∃ v, e = .returned v ∧ R v w''
  | .ok (.row row args) w' => Rows P row args w' R
  | _ => False
theorem Vals.wp {o : Oper} {a b : Act} {w : World} {R : Value → World → Prop} (he : execOp a.eval o = execOp b.eval o) {K : Act → World → Prop} {Q : Exit → Act → World → Prop}
    (h : Vals P o b w R) (hk : ∀ v w', R v w' → K (a.put o.dst v) w') : o.wp P a w K Q := by
  unfold Vals at h
  unfold Oper.wp
  rw [he]
  generalize (execOp b.eval o).run P w = r at *
  cases r with
  | halt x w' => exact h.elim
  | ok n w' =>
    cases n <;> simp only [Oper.upon] at h ⊢
    case value v => exact hk _ _ h
    case skip => exact hk _ _ h
    case enter f args =>
      refine h.mono fun e w'' he => ?_
      obtain ⟨v, rfl, hr⟩ := he
      exact hk _ _ hr
    case row row args => exact h.mono fun v w'' he => hk _ _ he
    all_goals exact h.elim
theorem vals_value {o : Oper} {a : Act} {w w' : World} {R : Value → World → Prop} {v : Value} (h : (execOp a.eval o).run P w = .ok (.value v) w') (hr : R v w') : Vals P o a w R := by
  unfold Vals; rw [h]; exact hr
theorem vals_enter {o : Oper} {a : Act} {w w' : World} {R : Value → World → Prop} {f : FuncId} {args : Array Value} (h : (execOp a.eval o).run P w = .ok (.enter f args) w')
    (hr : Calls P f args w' fun e w'' => ∃ v, e = .returned v ∧ R v w'') : Vals P o a w R := by
  unfold Vals; rw [h]; exact hr

theorem execOp_tmp {ops : Array Oper} (o : Oper) (hs : ∀ cs b, o.op ≠ .select cs b) {a b : Act} (h : ∀ t ∈ o.looksAt ops, a.tmps[t]? = b.tmps[t]?) : execOp a.eval o = execOp b.eval o :=
  execOp_congr o hs fun x hx => by
    cases x with
    | tmp t =>
      have := h t (List.mem_append_left _ (List.mem_filterMap.2 ⟨.tmp t, by simpa using hx, rfl⟩))
      simp only [Act.eval, Array.getD_eq_getD_getElem?, this]
    | _ => rfl
theorem wanted_tmp {ops : Array Oper} (o : Oper) {a b : Act} (h : ∀ t ∈ o.looksAt ops, a.tmps[t]? = b.tmps[t]?) : Region.wanted o (yielded ops a.tmps) = Region.wanted o (yielded ops b.tmps) := by
  unfold Region.wanted
  cases hg : o.guard with
  | none => rfl
  | some gw =>
    obtain ⟨g, want⟩ := gw
    have hy : yielded ops a.tmps g = yielded ops b.tmps g := by
      unfold yielded
      cases ht : (ops[g]?).bind (·.dst) with
      | none => rfl
      | some t =>
        have := h t (by simp [Oper.looksAt, hg, ht])
        simp only [Option.bind_some, this]
    simp only [hy]

/-- the obligation of one operation. -/
def oblR (P : Program) (ops : Array Oper) (Rs : Nat → Value → World → Prop) (w0 : World) (vs : Nat → Value) (i : Nat) (o : Oper) (a : Act) : Prop :=
  ∀ w1, Below w0.heap.size w0 w1 → (∀ j, j < ops.size → ((masks ops).getD i 0).testBit j = true → Rs j (vs j) w1) →
    if Region.wanted o (yielded ops a.tmps) then Vals P o a w1 (fun v w2 => Below w1.heap.size w1 w2 ∧ Rs i v w2) else Rs i undef w1
def oblsR (P : Program) (ops : Array Oper) (Rs : Nat → Value → World → Prop) (w0 : World) (vs : Nat → Value) (Q : Act → Prop) : List Oper → Nat → Act → Prop
  | [], _, a => Q a
  | o :: rest, i, a => oblR P ops Rs w0 vs i o a ∧ oblsR P ops Rs w0 vs Q rest (i + 1) (a.put o.dst (vs i))

def okR (ops : Array Oper) : Bool :=
  let ms := masks ops
  okM ops && (List.range ops.size).all fun i => match ops[i]? with
    | none => true
    | some oi => (oi.after.all fun e => !Region.binds .any e || decide (e.on < i)) && (match oi.op with | .select .. => false | .defer _ => false | _ => true) &&
      (List.range ops.size).all fun j => match ops[j]? with
        | none => true
        | some oj => i == j || ((match oj.dst with | some d => oi.dst != some d && ((ms.getD i 0).testBit j || !(oi.looksAt ops).contains d) | none => true))
theorem okR_back (h : okR ops = true) {i : Nat} {oi : Oper} (hi : ops[i]? = some oi) : ∀ e ∈ oi.after, Region.binds .any e = true → e.on < i := by
  intro e he hb
  simp only [okR, Bool.and_eq_true] at h
  have h1 := List.all_eq_true.1 h.2 i (List.mem_range.2 (Array.getElem?_eq_some_iff.1 hi).1)
  simp only [hi, Bool.and_eq_true] at h1
  have h2 := (Array.all_eq_true'.1 h1.1.1) e he
  simpa [hb] using h2
theorem okR_sel (h : okR ops = true) {i : Nat} {oi : Oper} (hi : ops[i]? = some oi) : ∀ cs b, oi.op ≠ .select cs b := by
  simp only [okR, Bool.and_eq_true] at h
  have h1 := List.all_eq_true.1 h.2 i (List.mem_range.2 (Array.getElem?_eq_some_iff.1 hi).1)
  simp only [hi, Bool.and_eq_true] at h1
  exact nosel h1.1.2
theorem okR_pair (h : okR ops = true) {i j : Nat} {oi oj : Oper} (hi : ops[i]? = some oi) (hj : ops[j]? = some oj) (hij : i ≠ j) {d : Nat} (hd : oj.dst = some d) :
    oi.dst ≠ some d ∧ (((masks ops).getD i 0).testBit j = true ∨ d ∉ oi.looksAt ops) := by
  simp only [okR, Bool.and_eq_true] at h
  have h1 := List.all_eq_true.1 h.2 i (List.mem_range.2 (Array.getElem?_eq_some_iff.1 hi).1)
  simp only [hi, Bool.and_eq_true] at h1
  have h2 := List.all_eq_true.1 h1.2 j (List.mem_range.2 (Array.getElem?_eq_some_iff.1 hj).1)
  simp only [hj, hd, Bool.or_eq_true, beq_iff_eq, Bool.and_eq_true, bne_iff_ne, ne_eq, Bool.not_eq_true'] at h2
  rcases h2 with h2 | h2
  · exact absurd h2 hij
  · exact ⟨h2.1, h2.2.imp id (fun h => by simpa using h)⟩
theorem okR_M (h : okR ops = true) : okM ops = true := by
  simp only [okR, Bool.and_eq_true] at h
  exact h.1

theorem ahead_listedR {listed : Array Bool} (h : okR ops = true)
    (hcl : ∀ j oj, ops[j]? = some oj → listed.getD j false = true → ∀ e ∈ oj.after, Region.binds .any e = true → listed.getD e.on false = true) {r : Nat} (hrs : r < ops.size) :
    ∀ (i : Nat) (oi : Oper), ops[i]? = some oi → (∀ e ∈ oi.after, Region.binds .any e = true → listed.getD e.on false = true) →
      ((masks ops).getD i 0).testBit r = true → listed.getD r false = true := by
  intro i
  induction i using Nat.strongRecOn with
  | _ i ih =>
    intro oi hi hall hb
    obtain ⟨_, e, he, hbe, hor⟩ := okM_spec (okR_M h) hrs i oi hi hb
    have hle := hall e he hbe
    rcases hor with rfl | hme
    · exact hle
    · have hlt := okR_back h hi e he hbe
      have hes : e.on < ops.size := Nat.lt_trans hlt (Array.getElem?_eq_some_iff.1 hi).1
      have hoe := Array.getElem?_eq_getElem hes
      exact ih e.on hlt _ hoe (hcl e.on _ hoe hle) hme
/-- the act at operation i in the order of the text. -/
theorem oblsR_at {Rs : Nat → Value → World → Prop} {w0 : World} {vs : Nat → Value} {Q : Act → Prop} (l : List Oper) (k : Nat) (a : Act) (h : oblsR P ops Rs w0 vs Q l k a) (hl : ∀ j, l[j]? = ops[k + j]?) :
    (∀ i o, l[i]? = some o → oblR P ops Rs w0 vs (k + i) o (putsL ops vs (fun _ => true) (List.range' k i) a)) ∧ Q (putsL ops vs (fun _ => true) (List.range' k l.length) a) := by
  induction l generalizing k a with
  | nil => exact ⟨fun i o hi => by simp at hi, h⟩
  | cons o l ih =>
    obtain ⟨h1, h2⟩ := h
    have h0 : ops[k]? = some o := by simpa using (hl 0).symm
    have ih' := ih (k + 1) _ h2 (fun j => by have := hl (j + 1); simpa [Nat.add_assoc, Nat.add_comm 1 j] using this)
    refine ⟨fun i o' hi => ?_, ?_⟩
    · cases i with
      | zero => simp at hi; subst hi; exact h1
      | succ i =>
        have := ih'.1 i o' (by simpa using hi)
        rw [List.range'_succ]
        unfold putsL
        simp only [h0, if_true]
        rw [show k + (i + 1) = k + 1 + i by omega]; exact this
    · rw [List.length_cons, List.range'_succ]
      unfold putsL
      simp only [h0, if_true]
      exact ih'.2

theorem wpAny_R {Rs : Nat → Value → World → Prop} {w0 : World} {a0 : Act} {Q : Exit → Act → World → Prop} (hok : okR ops = true)
    (hst : ∀ i v w w', Below w.heap.size w w' → Rs i v w → Rs i v w')
    (hob : ∀ vs, ∀ i o, ops[i]? = some o → oblR P ops Rs w0 vs i o (putsL ops vs (fun _ => true) (List.range i) a0))
    (hq : ∀ vs w1, Below w0.heap.size w0 w1 → (∀ i, i < ops.size → Rs i (vs i) w1) → Q .normal (putsL ops vs (fun _ => true) (List.range ops.size) a0) w1) :
    ∀ (fuel : Nat) (listed : Array Bool) (vs : Nat → Value) (w : World), listed.size = ops.size →
      (∀ j oj, ops[j]? = some oj → listed.getD j false = true → ∀ e ∈ oj.after, Region.binds .any e = true → listed.getD e.on false = true) →
      (leftOf ops listed).length ≤ fuel → Below w0.heap.size w0 w → (∀ j, j < ops.size → listed.getD j false = true → Rs j (vs j) w) →
      wpAny P .any ops Q fuel listed (putsL ops vs (fun j => listed.getD j false) (List.range ops.size) a0) w := by
  intro fuel
  have hready : ∀ (listed : Array Bool), listed.size = ops.size → Region.ready .any ops listed = [] → leftOf ops listed = [] := by
    intro listed hs hr
    cases hl : leftOf ops listed with
    | nil => rfl
    | cons i rest =>
      exfalso
      have hi : i ∈ leftOf ops listed := by rw [hl]; simp
      obtain ⟨hir, hil⟩ := List.mem_filter.1 hi
      have his := List.mem_range.1 hir
      have hoi := Array.getElem?_eq_getElem his
      have hsort := leftOf_sorted (ops := ops) listed
      rw [hl] at hsort
      have hmin := (List.pairwise_cons.1 hsort).1
      have : i ∈ Region.ready .any ops listed := by
        refine List.mem_filter.2 ⟨hir, ?_⟩
        simp only [hil, Bool.true_and, hoi, Option.map_some, Option.getD_some, Array.all_eq_true']
        intro e he
        cases hb : Region.binds .any e with
        | false => rfl
        | true =>
          simp only [Bool.not_true, Bool.false_or]
          have hlt := okR_back hok hoi e he hb
          have hel : e.on < listed.size := by rw [hs]; omega
          cases hv : listed.getD e.on false with
          | true => rfl
          | false =>
            have hv' : listed.getD e.on true = false := by simp [hel] at hv ⊢; exact hv
            have hmem : e.on ∈ leftOf ops listed := List.mem_filter.2 ⟨List.mem_range.2 (by omega), by rw [hv']; rfl⟩
            rw [hl] at hmem
            rcases List.mem_cons.1 hmem with h | h
            · omega
            · have := hmin _ h; omega
      rw [hr] at this; cases this
  have hdone : ∀ (listed : Array Bool) (vs : Nat → Value) (w : World), listed.size = ops.size → leftOf ops listed = [] → Below w0.heap.size w0 w → (∀ j, j < ops.size → listed.getD j false = true → Rs j (vs j) w) →
      Q .normal (putsL ops vs (fun j => listed.getD j false) (List.range ops.size) a0) w := by
    intro listed vs w hs hl hb hr
    have hall : ∀ j, j < ops.size → listed.getD j false = true := by
      intro j hj
      cases hv : listed.getD j false with
      | true => rfl
      | false =>
        have hjs : j < listed.size := by rw [hs]; exact hj
        have hv' : listed.getD j true = false := by simp [hjs] at hv ⊢; exact hv
        have : j ∈ leftOf ops listed := List.mem_filter.2 ⟨List.mem_range.2 hj, by rw [hv']; rfl⟩
        rw [hl] at this; cases this
    rw [putsL_congr (vs' := vs) (L' := fun _ => true) _ _ (fun j hj => ⟨hall j (List.mem_range.1 hj), fun _ => rfl⟩)]
    exact hq vs w hb (fun i hi => hr i hi (hall i hi))
  induction fuel with
  | zero =>
    intro listed vs w hs hcl hlen hb hr
    have hl : leftOf ops listed = [] := List.length_eq_zero_iff.1 (by omega)
    refine ⟨?_, hdone listed vs w hs hl hb hr⟩
    cases hr' : Region.ready .any ops listed with
    | nil => rfl
    | cons i rest =>
      exfalso
      have hi : i ∈ Region.ready .any ops listed := by rw [hr']; simp
      obtain ⟨hir, hil⟩ := List.mem_filter.1 hi
      simp only [Bool.and_eq_true] at hil
      have : i ∈ leftOf ops listed := List.mem_filter.2 ⟨hir, hil.1⟩
      rw [hl] at this; cases this
  | succ fuel ih =>
    intro listed vs w hs hcl hlen hb hr
    refine ⟨fun he => hdone listed vs w hs (hready listed hs he) hb hr, fun i hi => ?_⟩
    obtain ⟨hir, hil⟩ := List.mem_filter.1 hi
    simp only [Bool.and_eq_true] at hil
    have his := List.mem_range.1 hir
    have hoi := Array.getElem?_eq_getElem his
    have hmem : i ∈ leftOf ops listed := List.mem_filter.2 ⟨hir, hil.1⟩
    have hni : listed.getD i false = false := by
      have hisl : i < listed.size := by rw [hs]; exact his
      have := hil.1
      simp [hisl] at this ⊢; exact this
    have hall : ∀ e ∈ ops[i].after, Region.binds .any e = true → listed.getD e.on false = true := by
      have h2 := hil.2
      simp only [hoi, Option.map_some, Option.getD_some, Array.all_eq_true'] at h2
      intro e he hb
      simpa [hb] using h2 e he
    have hmask : ∀ j, ((masks ops).getD i 0).testBit j = true → j < ops.size → listed.getD j false = true := fun j hj hjs => ahead_listedR hok hcl hjs i _ hoi hall hj
    obtain ⟨R1, R2, hR⟩ := List.append_of_mem hmem
    -- the act and the act of the text look alike to operation i
    have hlook : ∀ t ∈ (ops[i]).looksAt ops, (putsL ops vs (fun j => listed.getD j false) (List.range ops.size) a0).tmps[t]? = (putsL ops vs (fun _ => true) (List.range i) a0).tmps[t]? := by
      intro t ht
      have hsplit : List.range ops.size = List.range i ++ List.range' i (ops.size - i) := by
        rw [List.range_eq_range', List.range_eq_range', show ops.size = i + (ops.size - i) by omega, ← List.range'_append_1]; simp
      rw [hsplit, putsL_append]
      rw [putsL_tmp (L' := fun _ => false) t (List.range' i (ops.size - i)) _ _ rfl rfl (fun j hj o ho hd => ?_), putsL_false]
      · refine putsL_tmp t _ _ _ rfl rfl (fun j hj o ho hd => ?_)
        have hji := List.mem_range.1 hj
        rcases (okR_pair hok hoi ho (by omega) hd).2 with h | h
        · exact hmask j h (by omega)
        · exact absurd ht h
      · by_cases e : j = i
        · subst e; exact hni
        · exfalso
          rcases (okR_pair hok hoi ho (fun h => e h.symm) hd).2 with h | h
          · have hji := (okM_spec (okR_M hok) (r := j) (Array.getElem?_eq_some_iff.1 ho).1 i _ hoi h).1
            have := (List.mem_range'_1.1 hj).1
            omega
          · exact h ht
    have hsel := okR_sel hok hoi
    have hob' := hob vs i _ hoi w hb (fun j hjs hj => hr j hjs (hmask j hj hjs))
    have next : ∀ v w', Below w.heap.size w w' → Rs i v w' → wpAny P .any ops Q fuel (listed.setIfInBounds i true) ((putsL ops vs (fun j => listed.getD j false) (List.range ops.size) a0).put (ops[i]).dst v) w' := by
      intro v w' hb' hv
      have hL : (fun j => if j = i then true else listed.getD j false) = (fun j => (listed.setIfInBounds i true).getD j false) := by
        funext j
        by_cases e : j = i
        · subst e; simp [hs, his]
        · rw [if_neg e, getD_set_ne false (fun h => e h.symm)]
      rw [← putsL_set hoi (List.range ops.size) a0 List.nodup_range (List.mem_range.2 his) (fun j hj hji o' ho' b u x => Act.put_comm b u x (fun d hd => (okR_pair hok ho' hoi hji hd).1)) hni]
      rw [hL]
      refine ih _ _ w' (by simp [hs]) ?_ ?_ (hb.trans (hb'.mono hb.size)) ?_
      · intro j oj hj hl e he hbe
        by_cases hji : i = j
        · subst hji
          cases hoi.symm.trans hj
          exact getD_set_true (hall e he hbe)
        · rw [getD_set_ne false hji] at hl
          exact getD_set_true (hcl j oj hj hl e he hbe)
      · rw [leftOf_set hs hR]
        have := hlen
        rw [hR] at this
        simp at this ⊢
        omega
      · intro j hj hl
        by_cases e : j = i
        · subst e; simp only [if_true]; exact hv
        · simp only [if_neg e]
          rw [getD_set_ne false (fun h => e h.symm)] at hl
          exact hst _ _ _ _ hb' (hr j hj hl)
    unfold wpOp
    simp only [hoi]
    rw [wanted_tmp _ hlook]
    split
    · rename_i hw
      rw [if_pos hw] at hob'
      exact .inl (hob'.wp (execOp_tmp _ hsel hlook) (fun v w' h => next v w' h.1 h.2))
    · rename_i hw
      rw [if_neg hw] at hob'
      exact next undef w (Below.refl _ _) hob'

/-- THE LAW: each operation is shown once, upon what the operations that bind it have given, in any world grown from the region's first one. -/
theorem wp_region_R {id : Nat} {Q : Exit → Act → World → Prop} {a : Act} {w : World} {l : List Oper} (Rs : Nat → Value → World → Prop) (hm : P.follows .mixedOrders = true)
    (hok : okR l.toArray = true) (hst : ∀ i v w w', Below w.heap.size w w' → Rs i v w → Rs i v w')
    (h : ∀ vs, oblsR P l.toArray Rs w.drew vs (fun a' => ∀ w1, Below w.heap.size w w1 → (∀ i, i < l.length → Rs i (vs i) w1) → Q .normal a' w1) l 0 a) : (Code.region id l.toArray true).wp P Q a w := by
  have h' := fun vs => oblsR_at (ops := l.toArray) l 0 a (h vs) (by simp)
  refine wp_region_any hm ?_
  have := wpAny_R (P := P) (ops := l.toArray) (Rs := Rs) (w0 := w.drew) (a0 := a) (Q := Q) hok hst
    (fun vs i o hi => by have := (h' vs).1 i o (by simpa using hi); rw [Nat.zero_add] at this; rw [List.range_eq_range']; exact this)
    (fun vs w1 hb hr => by have := (h' vs).2 w1 ((Below.refl w.heap.size w).drew.trans hb) (fun i hi => hr i (by simpa using hi)); rw [List.range_eq_range']; simpa using this)
    l.toArray.size (Array.replicate l.toArray.size false) (fun _ => undef) w.drew (by simp) (fun j oj hj hl => by
      exfalso
      have := repl_false l.toArray.size j
      rw [this] at hl; cases hl) (by rw [leftOf_none]; simp) (Below.refl _ _) (fun j hj hl => by
      exfalso
      have := repl_false l.toArray.size j
      rw [this] at hl; cases hl)
  rw [putsL_congr (vs' := fun _ => undef) (L' := fun _ => false) _ _ (fun j _ => ⟨repl_false _ j, fun h => rfl⟩), putsL_false] at this
  exact this
section
variable {Rs : Nat → Value → World → Prop} {w0 : World} {vs : Nat → Value} {Q : Act → Prop} {i : Nat} {o : Oper} {rest : List Oper} {a : Act}
theorem obls_nil (h : Q a) : oblsR P ops Rs w0 vs Q [] i a := h
theorem obls_cons (h : oblR P ops Rs w0 vs i o a) (h2 : ∀ K : Act → Prop, (∀ a, oblsR P ops Rs w0 vs Q rest (i + 1) a → K a) → K (a.put o.dst (vs i))) : oblsR P ops Rs w0 vs Q (o :: rest) i a := ⟨h, h2 _ fun _ h => h⟩
theorem oblR_const (c : Value) (hw : Region.wanted o (yielded ops a.tmps) = true)
    (h : ∀ w1, Below w0.heap.size w0 w1 → (∀ j, j < ops.size → ((masks ops).getD i 0).testBit j = true → Rs j (vs j) w1) → (execOp a.eval o).run P w1 = .ok (.value c) w1) (hR : ∀ w, Rs i c w) : oblR P ops Rs w0 vs i o a := by
  intro w1 hb hF; rw [if_pos hw]; exact vals_value (h w1 hb hF) ⟨Below.refl _ _, hR _⟩
theorem oblR_val (hw : Region.wanted o (yielded ops a.tmps) = true)
    (h : ∀ w1, Below w0.heap.size w0 w1 → (∀ j, j < ops.size → ((masks ops).getD i 0).testBit j = true → Rs j (vs j) w1) → ∃ v w2, (execOp a.eval o).run P w1 = .ok (.value v) w2 ∧ Below w1.heap.size w1 w2 ∧ Rs i v w2) : oblR P ops Rs w0 vs i o a := by
  intro w1 hb hF; rw [if_pos hw]; obtain ⟨v, w2, h1, h2⟩ := h w1 hb hF; exact vals_value h1 h2
theorem oblR_call (f : FuncId) (args : Array Value) (hw : Region.wanted o (yielded ops a.tmps) = true)
    (h : ∀ w1, Below w0.heap.size w0 w1 → (∀ j, j < ops.size → ((masks ops).getD i 0).testBit j = true → Rs j (vs j) w1) → (execOp a.eval o).run P w1 = .ok (.enter f args) w1)
    (hc : ∀ w1, Below w0.heap.size w0 w1 → Calls P f args w1 fun e w2 => ∃ v, e = .returned v ∧ Below w1.heap.size w1 w2 ∧ Rs i v w2) : oblR P ops Rs w0 vs i o a := by
  intro w1 hb hF; rw [if_pos hw]; exact vals_enter (h w1 hb hF) (hc w1 hb)
theorem oblR_skip (hw : Region.wanted o (yielded ops a.tmps) = false) (hR : ∀ w, Rs i undef w) : oblR P ops Rs w0 vs i o a := by
  intro w1 hb hF; rw [if_neg (by simp [hw])]; exact hR _
theorem call_const {f : FuncId} {args : Array Value} {w1 : World} {c : Value} {R : Value → World → Prop} (h : Calls P f args w1 fun e w2 => e = .returned c ∧ Below w1.heap.size w1 w2) (hR : ∀ w, R c w) :
    Calls P f args w1 fun e w2 => ∃ v, e = .returned v ∧ Below w1.heap.size w1 w2 ∧ R v w2 := h.mono fun _ _ ⟨h1, h2⟩ => ⟨c, h1, h2, hR _⟩
end
/-- conditions: a constant, or what growth keeps. -/
inductive RC where
  | one (c : Value)
  | any (R : Value → World → Prop) (h : ∀ v w w', Below w.heap.size w w' → R v w → R v w')
def RC.holds : RC → Value → World → Prop
  | .one c, v, _ => v = c
  | .any R _, v, w => R v w
def RsOf (l : List RC) (i : Nat) : Value → World → Prop := match l[i]? with | some c => c.holds | none => fun _ _ => True
theorem RsOf_kept (l : List RC) : ∀ i v w w', Below w.heap.size w w' → RsOf l i v w → RsOf l i v w' := by
  intro i v w w' hb h
  unfold RsOf at h ⊢
  cases hl : l[i]? with
  | none => trivial
  | some c =>
    rw [hl] at h
    cases c with
    | one c => exact h
    | any R hk => exact hk v w w' hb h
end
end Go.Proofs.YtcedpdofjbaciaaDoor
