/- A walker with a small state. Part 6: regions that draw their order and make a block, and end with stores and assignments. -/
import Derived.Test.YtcedpdofjbaciaaDoorSx4
namespace Go.Proofs.YtcedpdofjbaciaaDoor
open Go.RowKit
inductive RS where
  | con (L : Cd) (c : Value)
  | blk (T : TypeId) (z : List Value)
def RS.val : RS → Value
  | .con L c => if holdsC L then c else undef
  | .blk _ _ => undef
def RS.isCon : RS → Bool
  | .con _ _ => true
  | .blk _ _ => false
def isNew : Op → Bool
  | .alloc _ => true
  | .box _ _ => true
  | _ => false
def VX (P : Program) (w0 : World) (S : Sts) (M : List Ent) (L : Cd) (o : Oper) (c : Value) : Prop :=
  ∀ n a w, Sl n a S → Mem w0 w M → holdsC L = true → Vals P o a w (fun v w' => v = c ∧ Below w.heap.size w w')
def BX (P : Program) (w0 : World) (S : Sts) (M : List Ent) (o : Oper) (T : TypeId) (z : List Value) : Prop :=
  ∀ n a w, Sl n a S → Mem w0 w M → (execOp a.eval o).run P w = .ok (.value (.pointer (some ⟨w.heap.size, 0, none⟩))) (w.alloc (.cells ⟨z⟩ T))
def OKr (P : Program) (l0 : List Oper) (n : Nat) (w0 : World) (M : List Ent) (o : Oper) (S : Sts) : RS → Prop
  | .con L c => gd l0 S o.guard = some L ∧ VX P w0 S M L o c ∧ isNew o.op = false ∧ ∃ d, o.dst = some d ∧ d < n
  | .blk T z => o.guard = none ∧ BX P w0 S M o T z ∧ isNew o.op = true ∧ ∃ d, o.dst = some d ∧ d < n
def stepS (o : Oper) (r : RS) (S : Sts) : Sts := match r, o.dst with
  | .con L c, some d => (d, L, c) :: S
  | _, _ => S
def SRo (P : Program) (l0 : List Oper) (n : Nat) (w0 : World) (M : List Ent) : List Oper → Sts → List RS → Prop
  | [], _, [] => True
  | o :: l, S, r :: rs => OKr P l0 n w0 M o S r ∧ SRo P l0 n w0 M l (stepS o r S) rs
  | _, _, _ => False
def sxOutS : List Oper → List RS → Sts → Sts
  | o :: l, r :: rs, S => sxOutS l rs (stepS o r S)
  | _, _, S => S
def sxOutB : List Oper → List RS → List (Nat × TypeId × List Value)
  | o :: l, .blk T z :: rs => (o.dst.getD 0, T, z) :: sxOutB l rs
  | _ :: l, .con _ _ :: rs => sxOutB l rs
  | _, _ => []
def TailG (P : Program) (l0 : List Oper) (Q : Exit → Act → World → Prop) (tail : List Oper) (n : Nat) (w0 : World) (M : List Ent) (S : Sts) : List (Nat × TypeId × List Value) → Prop
  | [] => SL P l0 Q tail n w0 S M
  | [(d, T, z)] => ∀ g, SL P l0 Q tail n w0 ((d, [], .pointer (some ⟨g, 0, none⟩)) :: S) ((g, T, z) :: M)
  | _ => False
structure SR (P : Program) (l0 : List Oper) (Q : Exit → Act → World → Prop) (l tail : List Oper) (n : Nat) (w0 : World) (M : List Ent) (S : Sts) (bs : List (Nat × TypeId × List Value)) : Prop where
  run : ∃ rs, SRo P l0 n w0 M l S rs ∧ TailG P l0 Q tail n w0 M (sxOutS l rs S) (bs ++ sxOutB l rs)
section
variable {P : Program} {l0 rest tail : List Oper} {Q : Exit → Act → World → Prop} {n : Nat} {w0 : World} {S : Sts} {M : List Ent} {L : Cd} {o : Oper} {d : Nat} {bs : List (Nat × TypeId × List Value)}
theorem sr_nil0 (h : SL P l0 Q tail n w0 S M) : SR P l0 Q [] tail n w0 M S [] := ⟨[], trivial, h⟩
theorem sr_nil1 {T : TypeId} {z : List Value} (h : ∀ g, SL P l0 Q tail n w0 ((d, [], .pointer (some ⟨g, 0, none⟩)) :: S) ((g, T, z) :: M)) : SR P l0 Q [] tail n w0 M S [(d, T, z)] := ⟨[], trivial, h⟩
theorem sr_con {c : Value} (hg : gd l0 S o.guard = some L) (hv : VX P w0 S M L o c) (hi : isNew o.op = false) (hd : o.dst = some d) (hn : Nat.blt d n = true) (h : SR P l0 Q rest tail n w0 M ((d, L, c) :: S) bs) : SR P l0 Q (o :: rest) tail n w0 M S bs := by
  obtain ⟨rs, h1, h2⟩ := h.run
  have hs : stepS o (.con L c) S = (d, L, c) :: S := by simp [stepS, hd]
  refine ⟨.con L c :: rs, ⟨⟨hg, hv, hi, d, hd, Nat.le_of_ble_eq_true hn⟩, by rw [hs]; exact h1⟩, ?_⟩
  simp only [sxOutS, sxOutB, hs]; exact h2
theorem sr_v {v : Value} (hg : gd l0 S o.guard = some L) (hv : VO P w0 S M L o v) (hi : isNew o.op = false) (hd : o.dst = some d) (hn : Nat.blt d n = true) (h : SR P l0 Q rest tail n w0 M ((d, L, v) :: S) bs) : SR P l0 Q (o :: rest) tail n w0 M S bs :=
  sr_con hg (fun n a w hS hM hL => vals_value (hv n a w hS hM hL) ⟨rfl, Below.refl _ _⟩) hi hd hn h
theorem sr_call {f : FuncId} {args : List Value} {v : Value} (hg : gd l0 S o.guard = some L) (ho : CallOp P S L o f args) (hi : isNew o.op = false) (hc : ∀ w, Mem w0 w M → Calls P f ⟨args⟩ w fun e w' => e = .returned v ∧ Below w.heap.size w w')
    (hd : o.dst = some d) (hn : Nat.blt d n = true) (h : SR P l0 Q rest tail n w0 M ((d, L, v) :: S) bs) : SR P l0 Q (o :: rest) tail n w0 M S bs :=
  sr_con hg (fun n a w hS hM hL => vals_enter (ho.ok n a w hS hL) ((hc w hM).mono fun _ _ ⟨h1, h2⟩ => ⟨v, h1, rfl, h2⟩)) hi hd hn h
theorem sr_blk {T : TypeId} {z : List Value} (hg : o.guard = none) (hb : BX P w0 S M o T z) (hi : isNew o.op = true) (hd : o.dst = some d) (hn : Nat.blt d n = true) (h : SR P l0 Q rest tail n w0 M S (bs ++ [(d, T, z)])) : SR P l0 Q (o :: rest) tail n w0 M S bs := by
  obtain ⟨rs, h1, h2⟩ := h.run
  have hs : stepS o (.blk T z) S = S := by simp [stepS]
  refine ⟨.blk T z :: rs, ⟨⟨hg, hb, hi, d, hd, Nat.le_of_ble_eq_true hn⟩, by rw [hs]; exact h1⟩, ?_⟩
  simp only [sxOutS, sxOutB, hs, hd, Option.getD_some]
  simpa using h2
theorem sr_alloc {T : Tab} (hT : TOK P T) {t : TypeId} {td : TD} {cs : List Value} (h1 : o.op = .alloc t) (hg : o.guard = none) (h2 : lk t T = some td) (h3 : zeroO td = some cs) (hd : o.dst = some d) (hn : Nat.blt d n = true)
    (h : SR P l0 Q rest tail n w0 M S (bs ++ [(d, t, cs)])) : SR P l0 Q (o :: rest) tail n w0 M S bs := by
  refine sr_blk hg (fun n a w hS hM => ?_) (by rw [h1]; rfl) hd hn h
  obtain ⟨i, hi, _, hz⟩ := tdOf_info (hT.get h2)
  unfold execOp
  simp only [h1, Instr.alloc, Sem.run_bind, run_zeroV hi hz, Result.andThen_ok, newVar, newRow, zeroO_eq h3]
  rfl
theorem sr_box {t : TypeId} {x : Operand} {v : Value} {cs : List Value} (h1 : o.op = .box t x) (hg : o.guard = none) (h2 : ev S x = some ([], v)) (h3 : cellsO v = some cs) (hd : o.dst = some d) (hn : Nat.blt d n = true)
    (h : SR P l0 Q rest tail n w0 M S (bs ++ [(d, t, cs)])) : SR P l0 Q (o :: rest) tail n w0 M S bs := by
  refine sr_blk hg (fun n a w hS hM => ?_) (by rw [h1]; rfl) hd hn h
  unfold execOp
  simp only [h1, ev_spec hS h2 rfl, Instr.box, newVar, newRow, cellsO_eq h3, Sem.run_bind]
  rfl
end
/-! the law -/
def cvs (rs : List RS) (j : Nat) : Value := match rs[j]? with
  | some r => r.val
  | none => undef
def isC (rs : List RS) (j : Nat) : Bool := match rs[j]? with
  | some r => r.isCon
  | none => false
def RsS (N : Nat) (rs : List RS) (i : Nat) (v : Value) (w : World) : Prop := match rs[i]? with
  | some (.con L c) => v = if holdsC L then c else undef
  | some (.blk T z) => ∃ g, N ≤ g ∧ v = .pointer (some ⟨g, 0, none⟩) ∧ Bk w g T ⟨z⟩
  | none => True
theorem RsS_kept (N : Nat) (rs : List RS) : ∀ i v w w', Below w.heap.size w w' → RsS N rs i v w → RsS N rs i v w' := by
  intro i v w w' hb h
  unfold RsS at h ⊢
  cases hr : rs[i]? with
  | none => trivial
  | some r =>
    rw [hr] at h
    cases r with
    | con L c => exact h
    | blk T z => obtain ⟨g, h1, h2, h3⟩ := h; exact ⟨g, h1, h2, h3.keep hb⟩
theorem SRo_len {P : Program} {l0 : List Oper} {n : Nat} {w0 : World} {M : List Ent} : ∀ {l : List Oper} {S : Sts} {rs : List RS}, SRo P l0 n w0 M l S rs → rs.length = l.length
  | [], _, [], _ => rfl
  | [], _, _ :: _, h => h.elim
  | _ :: _, _, [], h => h.elim
  | _ :: l, _, _ :: rs, h => by simp [SRo_len h.2]
theorem SRo_at {P : Program} {l0 : List Oper} {n : Nat} {w0 : World} {M : List Ent} : ∀ {l : List Oper} {S : Sts} {rs : List RS}, SRo P l0 n w0 M l S rs → ∀ i o, l[i]? = some o → ∃ r, rs[i]? = some r ∧ OKr P l0 n w0 M o (sxOutS (l.take i) (rs.take i) S) r
  | [], _, _, _, i, o, hi => by simp at hi
  | _ :: _, _, [], h, _, _, _ => h.elim
  | x :: l, S, r :: rs, h, i, o, hi => by
    cases i with
    | zero =>
      obtain rfl := (by simpa using hi)
      exact ⟨r, rfl, h.1⟩
    | succ i =>
      obtain ⟨r', hr', ho⟩ := SRo_at h.2 i o (by simpa using hi)
      exact ⟨r', by simpa using hr', by simpa [sxOutS] using ho⟩
theorem putsL_Sl {ops : Array Oper} {P : Program} {l0 : List Oper} {n : Nat} {w0 : World} {M : List Ent} {rs0 : List RS} : ∀ {l : List Oper} {rs : List RS} {S : Sts} {a : Act} (m i : Nat), (∀ j, j < i → l[j]? = ops[m + j]?) → (∀ j, j < i → rs[j]? = rs0[m + j]?) → SRo P l0 n w0 M l S rs → i ≤ l.length → Sl n a S →
    Sl n (putsL ops (cvs rs0) (isC rs0) (List.range' m i) a) (sxOutS (l.take i) (rs.take i) S)
  | l, rs, S, a, m, 0, _, _, _, _, hS => by simpa [putsL, sxOutS] using hS
  | [], _, _, _, _, i + 1, _, _, _, hi, _ => by simp at hi
  | _ :: _, [], _, _, _, _ + 1, _, _, h, _, _ => h.elim
  | o :: l, r :: rs, S, a, m, i + 1, hl, hr, h, hi, hS => by
    have h0 : ops[m]? = some o := by simpa using (hl 0 (by omega)).symm
    have hr0 : rs0[m]? = some r := by simpa using (hr 0 (by omega)).symm
    rw [List.range'_succ]
    unfold putsL
    simp only [h0, List.take_succ_cons, sxOutS]
    refine putsL_Sl (m + 1) i (fun j hj => by have := hl (j + 1) (by omega); simpa [Nat.add_assoc, Nat.add_comm 1 j] using this) (fun j hj => by have := hr (j + 1) (by omega); simpa [Nat.add_assoc, Nat.add_comm 1 j] using this) h.2 (by simpa using hi) ?_
    have h1 := h.1
    cases r with
    | con L c =>
      obtain ⟨_, _, _, d, hd, hdn⟩ := h1
      have : isC rs0 m = true := by simp [isC, hr0, RS.isCon]
      rw [this]
      simp only [if_true]
      have hc : cvs rs0 m = if holdsC L then c else undef := by simp [cvs, hr0, RS.val]
      rw [hc]
      have hs : stepS o (.con L c) S = (d, L, c) :: S := by simp [stepS, hd]
      rw [hs, hd]
      exact hS.put hdn rfl
    | blk T z =>
      have : isC rs0 m = false := by simp [isC, hr0, RS.isCon]
      rw [this]
      simpa [stepS] using hS
theorem putsL_tmp2 {ops : Array Oper} {vs vs' : Nat → Value} {L L' : Nat → Bool} (t : Nat) : ∀ (r : List Nat) (a a' : Act), a.tmps.size = a'.tmps.size → a.tmps[t]? = a'.tmps[t]? →
    (∀ j ∈ r, ∀ o, ops[j]? = some o → o.dst = some t → L j = L' j ∧ (L j = true → vs j = vs' j)) → (putsL ops vs L r a).tmps[t]? = (putsL ops vs' L' r a').tmps[t]?
  | [], _, _, _, h, _ => h
  | j :: r, a, a', hs, h, hc => by
    unfold putsL
    have hc' := fun k hk => hc k (List.mem_cons_of_mem _ hk)
    cases ho : ops[j]? with
    | none => simp only; exact putsL_tmp2 t r a a' hs h hc'
    | some o =>
      simp only
      by_cases hd : o.dst = some t
      · obtain ⟨h1, h2⟩ := hc j (List.mem_cons_self ..) o ho hd
        rw [← h1]
        cases hl : L j with
        | false => simp only [Bool.false_eq_true, if_false]; exact putsL_tmp2 t r a a' hs h hc'
        | true =>
          simp only [if_true]
          rw [← h2 hl]
          exact putsL_tmp2 t r _ _ (by rw [put_size, put_size]; exact hs) (put_tmp hs h _ _) hc'
      · refine putsL_tmp2 t r _ _ ?_ ?_ hc'
        · cases L j <;> cases L' j <;> simp only [Bool.false_eq_true, if_false, if_true, put_size] <;> exact hs
        · cases L j <;> cases L' j <;> simp only [Bool.false_eq_true, if_false, if_true, put_tmp_ne hd] <;> exact h
theorem putsL_get {ops : Array Oper} {vs : Nat → Value} (d j : Nat) {o : Oper} (ho : ops[j]? = some o) (hd : o.dst = some d) : ∀ (r : List Nat) (a : Act), r.Nodup → j ∈ r → d < a.tmps.size → (∀ i ∈ r, i ≠ j → ∀ o', ops[i]? = some o' → o'.dst ≠ some d) →
    (putsL ops vs (fun _ => true) r a).tmps[d]? = some (vs j)
  | [], _, _, h, _, _ => by cases h
  | i :: r, a, hn, hj, hs, hc => by
    obtain ⟨hir, hr⟩ := List.nodup_cons.1 hn
    by_cases e : i = j
    · subst e
      unfold putsL
      simp only [ho, if_true]
      have h1 : (putsL ops vs (fun _ => true) r (a.put o.dst (vs i))).tmps[d]? = (putsL ops vs (fun _ => false) r (a.put o.dst (vs i))).tmps[d]? :=
        putsL_tmp2 d r _ _ rfl rfl (fun k hk o' ho' hd' => absurd hd' (hc k (List.mem_cons_of_mem _ hk) (fun e => hir (e ▸ hk)) o' ho'))
      rw [h1, putsL_false, hd]
      simp [Act.put, hs]
    · have hjr : j ∈ r := by rcases List.mem_cons.1 hj with h | h; exact absurd h.symm e; exact h
      unfold putsL
      refine putsL_get d j ho hd r _ hr hjr ?_ (fun k hk => hc k (List.mem_cons_of_mem _ hk))
      split
      · simp only [if_true, put_size]; exact hs
      · exact hs
/-- no operation of the first part looks at a block that the first part makes. -/
def freeB (l : List Oper) (k : Nat) : Bool := (l.take k).all fun oj => !isNew oj.op || (l.take k).all fun oi => match oj.dst with
  | some d => !(oi.looksAt l.toArray).contains d
  | none => true
theorem sxOutB_at : ∀ {l : List Oper} {rs : List RS}, rs.length = l.length → ∀ {d : Nat} {T : TypeId} {z : List Value}, sxOutB l rs = [(d, T, z)] → ∃ (j : Nat) (o : Oper), l[j]? = some o ∧ rs[j]? = some (RS.blk T z) ∧ o.dst.getD 0 = d ∧ ∀ (i : Nat) (T' : TypeId) (z' : List Value), rs[i]? = some (RS.blk T' z') → i = j
  | [], [], _, _, _, _, h => by cases h
  | [], _ :: _, hl, _, _, _, _ => by simp at hl
  | _ :: _, [], hl, _, _, _, _ => by simp at hl
  | o :: l, .blk T' z' :: rs, hl, d, T, z, h => by
    simp only [sxOutB, List.cons.injEq, Prod.mk.injEq] at h
    obtain ⟨⟨h1, rfl, rfl⟩, h2⟩ := h
    refine ⟨0, o, rfl, rfl, h1, fun i T2 z2 hi => ?_⟩
    cases i with
    | zero => rfl
    | succ i =>
      exfalso
      have hi' : rs[i]? = some (.blk T2 z2) := by simpa using hi
      have : ∀ {l : List Oper} {rs : List RS}, rs.length = l.length → sxOutB l rs = [] → ∀ (i : Nat) (T2 : TypeId) (z2 : List Value), rs[i]? ≠ some (.blk T2 z2) := by
        intro l
        induction l with
        | nil => intro rs hl _ i T2 z2 hi; have : rs = [] := List.length_eq_zero_iff.1 (by simpa using hl); subst this; simp at hi
        | cons o l ih =>
          intro rs hl ho i T2 z2 hi
          cases rs with
          | nil => simp at hl
          | cons r rs =>
            cases r with
            | blk T z => simp [sxOutB] at ho
            | con L c =>
              cases i with
              | zero => simp at hi
              | succ i => exact ih (by simpa using hl) (by simpa [sxOutB] using ho) i T2 z2 (by simpa using hi)
      exact this (by simpa using hl) h2 i T2 z2 hi'
  | o :: l, .con L c :: rs, hl, d, T, z, h => by
    obtain ⟨j, o', h1, h2, h3, h4⟩ := sxOutB_at (l := l) (rs := rs) (by simpa using hl) (by simpa [sxOutB] using h)
    refine ⟨j + 1, o', by simpa using h1, by simpa using h2, h3, fun i T' z' hi => ?_⟩
    cases i with
    | zero => simp at hi
    | succ i => rw [h4 i T' z' (by simpa using hi)]
theorem sxOutB_nil : ∀ {l : List Oper} {rs : List RS}, rs.length = l.length → sxOutB l rs = [] → ∀ (i : Nat) (T2 : TypeId) (z2 : List Value), rs[i]? ≠ some (.blk T2 z2) := by
  intro l
  induction l with
  | nil => intro rs hl _ i T2 z2 hi; have : rs = [] := List.length_eq_zero_iff.1 (by simpa using hl); subst this; simp at hi
  | cons o l ih =>
    intro rs hl ho i T2 z2 hi
    cases rs with
    | nil => simp at hl
    | cons r rs =>
      cases r with
      | blk T z => simp [sxOutB] at ho
      | con L c =>
        cases i with
        | zero => simp at hi
        | succ i => exact ih (by simpa using hl) (by simpa [sxOutB] using ho) i T2 z2 (by simpa using hi)
def splitO : List Oper → Nat → Option (List Oper × List Oper)
  | l, 0 => some ([], l)
  | [], _ + 1 => none
  | x :: r, k + 1 => match splitO r k with
    | some (a, b) => some (x :: a, b)
    | none => none
theorem splitO_eq : ∀ {l : List Oper} {k : Nat} {a b : List Oper}, splitO l k = some (a, b) → a = l.take k ∧ b = l.drop k ∧ k ≤ l.length
  | l, 0, a, b, h => by cases l <;> (obtain ⟨rfl, rfl⟩ := (by simpa [splitO] using h); simp)
  | [], k + 1, a, b, h => by cases h
  | x :: r, k + 1, a, b, h => by
    simp only [splitO] at h
    split at h <;> first | (cases h; done) | skip
    rename_i a' b' hr
    obtain ⟨rfl, rfl⟩ := (by simpa using h)
    obtain ⟨h1, h2, h3⟩ := splitO_eq hr
    exact ⟨by simp [h1], by simp [h2], by simp; omega⟩
theorem sc_regionK {P : Program} {Q : Exit → Act → World → Prop} {n : Nat} {w0 : World} {S : Sts} {M : List Ent} {id : Nat} {l l1 l2 : List Oper} (k : Nat) (hm : P.follows .mixedOrders = true) (hs : splitO l k = some (l1, l2))
    (hok : (okR l.toArray && endsF l.toArray k && Nat.ble k l.length && freeB l k) = true) (h : SR P l Q l1 l2 n w0 M S []) : SC P (.region id l.toArray true) Q n w0 S M := by
  obtain ⟨rfl, rfl, hkl⟩ := splitO_eq hs
  rw [Bool.and_eq_true] at hok
  obtain ⟨hok, hfree⟩ := hok
  obtain ⟨rs, hro, htl⟩ := h.run
  simp only [List.nil_append] at htl
  have hlen := SRo_len hro
  have hlen' : rs.length = k := by rw [hlen, List.length_take]; omega
  have hokR : okR l.toArray = true := by simp only [Bool.and_eq_true] at hok; exact hok.1.1
  refine ⟨fun a w hS hM => ?_⟩
  have hmemb : ∀ i o, i < k → l[i]? = some o → (l.take k)[i]? = some o := fun i o hi ho => by rw [List.getElem?_take, if_pos hi]; exact ho
  have hlk : ∀ i o, i < k → l[i]? = some o → ∃ r, rs[i]? = some r ∧ OKr P l n w0 M o (sxOutS ((l.take k).take i) (rs.take i) S) r := fun i o hi ho => SRo_at hro i o (hmemb i o hi ho)
  -- an operation of the first part does not look at a block of the first part
  have hnl : ∀ i j oi oj, i < k → j < k → l[i]? = some oi → l[j]? = some oj → isNew oj.op = true → ∀ d, oj.dst = some d → d ∉ oi.looksAt l.toArray := by
    intro i j oi oj hi hj hoi hoj hnew d hd hmem
    have h1 := List.all_eq_true.1 hfree oj (List.mem_of_getElem? (hmemb j oj hj hoj))
    simp only [hnew, Bool.not_true, Bool.false_or] at h1
    have h2 := List.all_eq_true.1 h1 oi (List.mem_of_getElem? (hmemb i oi hi hoi))
    simp only [hd, Bool.not_eq_true'] at h2
    have : (oi.looksAt l.toArray).contains d = true := by simpa using hmem
    rw [h2] at this; cases this
  have hrange : ∀ i, List.range i = List.range' 0 i := fun i => List.range_eq_range'
  have hSl : ∀ i, i ≤ k → Sl n (putsL l.toArray (cvs rs) (isC rs) (List.range i) a) (sxOutS ((l.take k).take i) (rs.take i) S) := by
    intro i hi
    rw [hrange]
    exact putsL_Sl (ops := l.toArray) (rs0 := rs) 0 i (fun j hj => by rw [Nat.zero_add, List.getElem?_take, if_pos (by omega)]; simp) (fun j _ => by rw [Nat.zero_add]) hro (by simp; omega) hS
  have hcon : ∀ {N : Nat} {j : Nat} {v : Value} {w1 : World}, isC rs j = true → RsS N rs j v w1 → v = cvs rs j := by
    intro N j v w1 hc hr
    unfold isC at hc
    unfold RsS at hr
    unfold cvs
    cases hj : rs[j]? with
    | none => rw [hj] at hc; cases hc
    | some r =>
      rw [hj] at hc hr
      cases r with
      | blk T z => cases hc
      | con L c => exact hr
  have hisC : ∀ j oj, j < k → l[j]? = some oj → isNew oj.op = false → isC rs j = true := by
    intro j oj hj hoj hnew
    obtain ⟨r, hr, hO⟩ := hlk j oj hj hoj
    unfold isC
    rw [hr]
    cases r with
    | con L c => rfl
    | blk T z => rw [hO.2.2.1] at hnew; cases hnew
  refine wp_region_G k (RsS w.heap.size rs) hm hok (RsS_kept _ _) (cvs rs) ?_ ?_ ?_
  · intro f o hf ho hfl v w1
    obtain ⟨r, hr, hO⟩ := hlk f o hf ho
    have hnew : isNew o.op = false := by
      unfold floatB at hfl
      cases hop : o.op <;> rw [hop] at hfl <;> first | rfl | simp at hfl
    cases r with
    | blk T z => rw [hO.2.2.1] at hnew; cases hnew
    | con L c => unfold RsS cvs; rw [hr]; exact Iff.rfl
  · intro vs i o hik hoi w1 hb1 hF
    obtain ⟨r, hr, hO⟩ := hlk i o hik hoi
    have hoi' : l.toArray[i]? = some o := by simpa using hoi
    have hlook : ∀ t ∈ o.looksAt l.toArray, (putsL l.toArray vs (fun _ => true) (List.range i) a).tmps[t]? = (putsL l.toArray (cvs rs) (isC rs) (List.range i) a).tmps[t]? := by
      intro t ht
      refine putsL_tmp2 t _ _ _ rfl rfl (fun j hj oj hoj hd => ?_)
      have hji := List.mem_range.1 hj
      have hoj' : l[j]? = some oj := by simpa using hoj
      have hnew : isNew oj.op = false := by
        cases hnw : isNew oj.op with
        | false => rfl
        | true => exact absurd ht (hnl i j o oj hik (by omega) hoi hoj' hnw t hd)
      have hc := hisC j oj (by omega) hoj' hnew
      refine ⟨hc.symm, fun _ => ?_⟩
      rcases (okR_pair hokR hoi' hoj (by omega) hd).2 with h | h
      · exact hcon hc (hF j (by simp; omega) h)
      · exact absurd ht h
    have hM1 : Mem w0 w1 M := hM.keep ((Below.refl w.heap.size w).drew.trans hb1)
    have hSi := hSl i (by omega)
    have hop := execOp_tmp (ops := l.toArray) o (okR_sel hokR hoi') hlook
    have hwt := wanted_tmp (ops := l.toArray) o hlook
    cases r with
    | con L c =>
      obtain ⟨hg, hv, _, _⟩ := hO
      rw [hwt, gd_spec hSi hg]
      cases hL : holdsC L with
      | true =>
        simp only [if_true]
        have := hv n _ w1 hSi hM1 hL
        unfold Vals at this ⊢
        rw [hop]
        generalize (execOp (putsL l.toArray (cvs rs) (isC rs) (List.range i) a).eval o).run P w1 = rr at *
        have hR : ∀ v w', v = c ∧ Below w1.heap.size w1 w' → Below w1.heap.size w1 w' ∧ RsS w.heap.size rs i v w' := fun v w' ⟨h1, h2⟩ => ⟨h2, by unfold RsS; rw [hr]; simp [hL, h1]⟩
        cases rr with
        | halt x w' => exact this.elim
        | ok nx w' =>
          cases nx <;> first
            | exact hR _ _ this
            | exact this.mono fun e w'' ⟨v, he, hv⟩ => ⟨v, he, hR _ _ hv⟩
            | exact this.mono fun v w'' hv => hR _ _ hv
            | exact this.elim
      | false =>
        simp only [Bool.false_eq_true, if_false]
        unfold RsS; rw [hr]; simp [hL]
    | blk T z =>
      obtain ⟨hg, hb, _, _⟩ := hO
      have hw : Region.wanted o (yielded l.toArray (putsL l.toArray vs (fun _ => true) (List.range i) a).tmps) = true := by unfold Region.wanted; rw [hg]
      rw [if_pos hw]
      have := hb n _ w1 hSi hM1
      rw [← hop] at this
      refine vals_value this ⟨(Below.refl _ _).alloc (Nat.le_refl _) _, ?_⟩
      unfold RsS; rw [hr]
      exact ⟨w1.heap.size, hb1.size, rfl, Bk.new w1 T ⟨z⟩⟩
  · intro vs w1 hb1 hF
    have hM1 : Mem w0 w1 M := hM.keep hb1
    have hSk := hSl k (Nat.le_refl _)
    have e1 : (l.take k).take k = l.take k := List.take_of_length_le (by simp; omega)
    have e2 : rs.take k = rs := List.take_of_length_le (by omega)
    rw [e1, e2] at hSk
    cases hB : sxOutB (l.take k) rs with
    | nil =>
      rw [hB] at htl
      have hnone := sxOutB_nil hlen hB
      refine SL.run htl _ _ ?_ hM1
      obtain ⟨h1, h2, h3⟩ := hSk
      refine ⟨?_, by rw [putsL_size]; rw [putsL_size] at h2; exact h2, fun t L v ht => ?_⟩
      · have : ∀ (vs : Nat → Value) (LL : Nat → Bool) (r : List Nat) (a : Act), (putsL l.toArray vs LL r a).defers = a.defers := by
          intro vs LL r
          induction r with
          | nil => intro a; rfl
          | cons j r ih =>
            intro a
            unfold putsL
            rw [ih]
            split
            · split
              · rename_i o _ _; cases hd : o.dst <;> rfl
              · rfl
            · rfl
        rw [this]; rw [this] at h1; exact h1
      · rw [← h3 t L v ht]
        refine putsL_tmp2 t _ _ _ rfl rfl (fun j hj oj hoj hd => ?_)
        have hjk := List.mem_range.1 hj
        have hoj' : l[j]? = some oj := by simpa using hoj
        obtain ⟨r, hr, hO⟩ := hlk j oj hjk hoj'
        cases r with
        | blk T z => exact absurd hr (hnone j T z)
        | con L' c =>
          have hc : isC rs j = true := by simp [isC, hr, RS.isCon]
          exact ⟨hc.symm, fun _ => hcon hc (hF j hjk)⟩
    | cons b bs =>
      rw [hB] at htl
      cases bs with
      | cons b2 bs => exact htl.elim
      | nil =>
        obtain ⟨d, T, z⟩ := b
        obtain ⟨j0, o0, ho0, hr0, hd0, honly⟩ := sxOutB_at hlen hB
        have hj0 : j0 < k := by have := (List.getElem?_eq_some_iff.1 hr0).1; omega
        have ho0' : l[j0]? = some o0 := by rw [List.getElem?_take, if_pos hj0] at ho0; exact ho0
        have ho0a : l.toArray[j0]? = some o0 := by simpa using ho0'
        obtain ⟨r, hr, hO⟩ := hlk j0 o0 hj0 ho0'
        rw [hr0] at hr
        obtain rfl := (by simpa using hr)
        obtain ⟨_, _, _, d', hd', hdn⟩ := hO
        have hdd : d' = d := by rw [hd'] at hd0; simpa using hd0
        subst hdd
        have hblk := hF j0 hj0
        unfold RsS at hblk
        rw [hr0] at hblk
        obtain ⟨g, hgN, hv, hk⟩ := hblk
        have hMg : Mem w0 w1 ((g, T, z) :: M) := ⟨hM1.1, Nat.le_trans hM.1.size hgN, hk, fun e he => by have := MemL.here hM.2 e he; omega, hM1.2⟩
        refine SL.run (htl g) _ _ ?_ hMg
        obtain ⟨h1, h2, h3⟩ := hSk
        have hdef : ∀ (vs : Nat → Value) (LL : Nat → Bool) (r : List Nat) (a : Act), (putsL l.toArray vs LL r a).defers = a.defers := by
          intro vs LL r
          induction r with
          | nil => intro a; rfl
          | cons j r ih =>
            intro a
            unfold putsL
            rw [ih]
            split
            · split
              · rename_i o _ _; cases hd : o.dst <;> rfl
              · rfl
            · rfl
        refine ⟨by rw [hdef]; rw [hdef] at h1; exact h1, by rw [putsL_size]; rw [putsL_size] at h2; exact h2, fun t L v ht => ?_⟩
        rw [lk_cons] at ht
        by_cases e : d' = t
        · subst e
          rw [if_pos rfl] at ht
          obtain ⟨rfl, rfl⟩ := (by simpa using ht)
          rw [putsL_get d' j0 ho0a hd' (List.range k) a List.nodup_range (List.mem_range.2 hj0) (by rw [hS.2.1]; exact hdn) (fun i _ hne o' ho' hd2 => (okR_pair hokR ho' ho0a hne hd').1 hd2), hv]
          simp [holdsC]
        · rw [if_neg e] at ht
          rw [← h3 t L v ht]
          refine putsL_tmp2 t _ _ _ rfl rfl (fun j hj oj hoj hd => ?_)
          have hjk := List.mem_range.1 hj
          have hoj' : l[j]? = some oj := by simpa using hoj
          obtain ⟨r, hr, hO⟩ := hlk j oj hjk hoj'
          cases r with
          | blk T' z' =>
            exfalso
            have := honly j T' z' hr
            subst this
            rw [ho0'] at hoj'
            obtain rfl := (by simpa using hoj')
            rw [hd'] at hd
            exact e (by simpa using hd)
          | con L' c =>
            have hc : isC rs j = true := by simp [isC, hr, RS.isCon]
            exact ⟨hc.symm, fun _ => hcon hc (hF j hjk)⟩
/-- the operations ahead of the first store. -/
def headN : List Oper → Nat
  | [] => 0
  | o :: r => match o.op with
    | .store _ _ _ => 0
    | .mapUpdate _ _ _ _ => 0
    | _ => headN r + 1
theorem sc_regionD {P : Program} {Q : Exit → Act → World → Prop} {n : Nat} {w0 : World} {S : Sts} {M : List Ent} {id : Nat} {l l1 l2 : List Oper} (hm : P.follows .mixedOrders = true) (hs : splitO l (headN l) = some (l1, l2))
    (hok : (okR l.toArray && endsF l.toArray (headN l) && Nat.ble (headN l) l.length && freeB l (headN l)) = true) (h : SR P l Q l1 l2 n w0 M S []) : SC P (.region id l.toArray true) Q n w0 S M := sc_regionK (headN l) hm hs hok h
end Go.Proofs.YtcedpdofjbaciaaDoor
