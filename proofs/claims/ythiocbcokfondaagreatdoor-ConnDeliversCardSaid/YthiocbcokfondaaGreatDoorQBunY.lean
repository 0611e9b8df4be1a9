/- Texts of this claim merged into one: QRegT, QRegD, QRegU, QRegY. -/
import Derived.Test.YthiocbcokfondaaGreatDoorQBunE
import Derived.Test.YthiocbcokfondaaGreatDoorQRegionZ
namespace Go.Proofs.YthiocbcokfondaaGreatDoor.Y
open Go.RowKit
def xu : Op → RK
  | .load _ _ => ⟨true, true⟩
  | .convert _ _ _ => ⟨true, true⟩
  | .nilCheck _ => ⟨true, true⟩
  | o => Du o
structure ST (P : Program) (l0 : List Oper) (Q : Exit → Act → World → Prop) (l : List Oper) (n : Nat) (w0 : World) (M' : List Ent) (S : bJ) (M : List Ent) : Prop where
  run : ∀ a w, Sl n a S → Mem w0 w M → pN P l0.toArray (fun w' => Mem w0 w' M') xu (Q .normal) l a w
section
variable {P : Program} {T : fJ} {l0 rest : List Oper} {Q : Exit → Act → World → Prop} {n : Nat} {w0 : World} {S : bJ} {M M' M2 : List Ent} {L : Cd} {o : Oper} {d : Nat}
theorem CR (h : SQ Q .normal n w0 S M) : ST P l0 Q [] n w0 M' S M := ⟨fun a w hS hM => db (h.run a w hS hM)⟩
theorem DW {v : Value} (hg : gd l0 S o.guard = some L) (hk : (xu o.op).pure = true) (hv : VO P w0 S M' L o v) (hd : o.dst = some d) (hn : Nat.blt d n = true) (h : ST P l0 Q rest n w0 M' ((d, L, v) :: S) M) : ST P l0 Q (o :: rest) n w0 M' S M := by
  have hdn : d < n := Nat.le_of_ble_eq_true hn
  refine ⟨fun a w hS hM => ?_⟩
  have hw := im hS hg
  cases hL : aF L with
  | true =>
    refine az (by rw [hw, hL]) hk v (fun _ hM' => hv n a _ hS hM' hL) fun K hK => hK _ _ (h.run _ _ ?_ hM)
    rw [hd]; exact hS.put hdn (by simp [hL])
  | false =>
    refine sA (by rw [hw, hL]) fun K hK => hK _ _ (h.run _ _ ?_ hM)
    rw [hd]; exact hS.put hdn (by simp [hL])
theorem zr (hT : TOK P T) (i : Nat) {t : TypeId} {td : TD} {x y : Operand} {g off : Nat} {B : TypeId} {v : Value} {cs cs' vs : List Value} (h1 : o.op = .store t x y) (hg : o.guard = none) (h2 : ev S x = some ([], .pointer (some ⟨g, off, none⟩))) (h3 : ev S y = some ([], v))
    (hm : fB M i = some (.cl g B cs)) (h4 : dS v = some vs) (h5 : lk t T = some td) (h6 : Nat.beq vs.length td.size = true) (h7 : fM vs = true) (h8 : jo cs off vs = some cs') (h9 : fY M i (.cl g B cs') = some M2) (hd : o.dst = none)
    (hM' : ∀ w, Mem w0 w M2 → Mem w0 w M') (h : ST P l0 Q rest n w0 M' S M2) : ST P l0 Q (o :: rest) n w0 M' S M := by
  refine ⟨fun a w hS hM => ?_⟩
  have hrun : (execOp a.eval o).run P w = .ok .skip (w.setRow g ⟨cs'⟩) := by
    unfold execOp
    simp only [h1, aO hS h2 rfl, aO hS h3 rfl, Sem.run_bind, fq hT (show Bk w g B ⟨cs⟩ from (hM.2.get hm).2) h4 h5 h6 h7 h8]
    rfl
  have hM2 := hM.setRow hm h9
  refine bd (by unfold Region.wanted; rw [hg]) (by rw [h1]; rfl) (by rw [h1]; rfl) fun K hK => ?_
  unfold Oper.wp
  rw [hrun]
  simp only [Oper.upon]
  refine hK _ _ ⟨hM' _ hM2, h.run _ _ ?_ hM2⟩
  first | exact hS | (rw [hd]; exact hS)
theorem uZ {id : Nat} {l : List Oper} (bs : List Bool) (hm : P.follows .mixedOrders = true) (hok : (yf xu l.toArray && Av l.toArray) = true) (h : ST P l Q l n w0 (jD bs M) S M) : SC P (.region id l.toArray true) Q n w0 S M :=
  ⟨fun a _ hS hM => cc (fun w' => Mem w0 w' (jD bs M)) xu hm hok (hM.drew.mask bs rfl) (h.run a _ hS hM.drew)⟩
end
end Go.Proofs.YthiocbcokfondaaGreatDoor.Y
namespace Go.Proofs.YthiocbcokfondaaGreatDoor.Y
open Go.RowKit
inductive RD where
  | con (L : Cd) (c : Value)
  | dep (L : Cd) (c : Value) (js : List (Nat × EX))
  | ex (e : EX)
def CS (P : Program) (n : Nat) (w0 : World) (M : List Ent) (o : Oper) (L : Cd) (c : Value) : List EX → bJ → List (List Ent) → Prop
  | [], S, F => ∀ a w, Sl n a S → Mem w0 w M → (∀ E ∈ F, MemL w0.heap.size w E) → aF L = true → Vals P o a w (fun v w' => v = c ∧ Below w.heap.size w w')
  | e :: r, S, F => ∀ s, e.Ψ s → CS P n w0 M o L c r ((e.d, [], e.V s) :: S) (e.E s :: F)
def wm (d : Nat) : List (Nat × List Nat) → List Nat
  | [] => []
  | (k, l) :: r => if k = d then l else wm d r
def EJ (l : List Oper) (o : Oper) (ds : List Nat) : Bool := match o.guard with
  | none => true
  | some (j, _) => match fB l j with
    | some og => ds.all fun d => og.dst != some d
    | none => true
theorem CU {l : List Oper} {S : bJ} {a : Act} {o : Oper} {L : Cd} {ds : List Nat} (hg : gd l S o.guard = some L) (hS : ∀ t L v, lk t S = some (L, v) → (∀ d ∈ ds, d ≠ t) → a.tmps[t]? = some (if aF L then v else undef)) (hk : EJ l o ds = true) : Region.wanted o (yielded l.toArray a.tmps) = aF L := by
  unfold Region.wanted
  unfold EJ at hk
  cases hgu : o.guard with
  | none => rw [hgu] at hg; obtain rfl := (by simpa [gd] using hg); rfl
  | some p =>
    obtain ⟨j, want⟩ := p
    rw [hgu] at hg hk
    simp only [gd] at hg
    cases hj : fB l j with
    | none => rw [hj] at hg; cases hg
    | some oj =>
      rw [hj] at hg
      simp only [hj] at hg hk
      cases hd : oj.dst with
      | none => rw [hd] at hg; cases hg
      | some d =>
        rw [hd] at hg hk
        simp only at hg
        split at hg
        · rename_i L' b hl
          obtain rfl := by simpa using hg
          have h3 := hS d _ _ hl (fun q hq => by
            have := List.all_eq_true.1 hk q hq
            intro e
            subst e
            simp at this)
          rw [gv] at hj
          simp only [yielded, List.getElem?_toArray, hj, Option.bind_some, hd, h3, aF]
          cases aF L' <;> simp [undef]
        · cases hg
def EL (al : List (Nat × List Nat)) (ds : List Nat) (P : Program) (l0 : List Oper) (n : Nat) (w0 : World) (M : List Ent) (o : Oper) (S : bJ) : RD → Prop
  | .con L c => gd l0 S o.guard = some L ∧ VX P w0 S M L o c ∧ ∃ d, o.dst = some d ∧ d < n ∧ wm d al = []
  | .dep L c js => gd l0 S o.guard = some L ∧ CS P n w0 M o L c (js.map (·.2)) S [] ∧ bE o = false ∧ EJ l0 o (js.map (·.2.d)) = true ∧ ∃ d, o.dst = some d ∧ d < n ∧ wm d al = js.map (·.2.d)
  | .ex e => (∃ L, gd l0 S o.guard = some L ∧ aF L = true) ∧ (∀ a w, Sl n a S → Mem w0 w M → Vals P o a w fun v w' => uD e w.heap.size v w' ∧ Below w.heap.size w w') ∧ o.dst = some e.d ∧ e.d < n ∧ bE o = false ∧ e.d ∈ ds ∧ wm e.d al = []
def jH (o : Oper) (r : RD) (S : bJ) : bJ := match r, o.dst with
  | .con L c, some d => (d, L, c) :: S
  | .dep L c _, some d => (d, L, c) :: S
  | _, _ => S
def Do (al : List (Nat × List Nat)) (ds : List Nat) (P : Program) (l0 : List Oper) (n : Nat) (w0 : World) (M : List Ent) : Nat → List (Nat × EX) → List Oper → bJ → List RD → Prop
  | _, _, [], _, [] => True
  | i, C, o :: l, S, r :: rs => EL al ds P l0 n w0 M o S r ∧ (match r with | .dep _ _ js => (∀ p ∈ js, p ∈ C) ∧ (js.map (·.2.d)).Nodup | _ => True) ∧ Do al ds P l0 n w0 M (i + 1) (match r with | .ex e => (i, e) :: C | _ => C) l (jH o r S) rs
  | _, _, _, _, _ => False
def jd : List Oper → List RD → bJ → bJ
  | o :: l, r :: rs, S => jd l rs (jH o r S)
  | _, _, S => S
def iE : Nat → List RD → List (Nat × EX)
  | i, .ex e :: rs => (i, e) :: iE (i + 1) rs
  | i, _ :: rs => iE (i + 1) rs
  | _, [] => []
theorem tL : ∀ (i : Nat) (rs : List RD), ∀ p ∈ iE i rs, ∃ j, p.1 = i + j ∧ rs[j]? = some (.ex p.2)
  | _, [], p, h => by cases h
  | i, .con L c :: rs, p, h => by
    obtain ⟨j, h1, h2⟩ := tL (i + 1) rs p h
    exact ⟨j + 1, by omega, by simpa using h2⟩
  | i, .dep L c js :: rs, p, h => by
    obtain ⟨j, h1, h2⟩ := tL (i + 1) rs p h
    exact ⟨j + 1, by omega, by simpa using h2⟩
  | i, .ex e :: rs, p, h => by
    rcases List.mem_cons.1 h with rfl | h
    · exact ⟨0, rfl, rfl⟩
    · obtain ⟨j, h1, h2⟩ := tL (i + 1) rs p h
      exact ⟨j + 1, by omega, by simpa using h2⟩
theorem wn : ∀ (i : Nat) (rs : List RD) (j : Nat) (e : EX), rs[j]? = some (.ex e) → (i + j, e) ∈ iE i rs
  | _, [], j, e, h => by simp at h
  | i, .con L c :: rs, j, e, h => by
    cases j with
    | zero => simp at h
    | succ j => have := wn (i + 1) rs j e (by simpa using h); rw [show i + (j + 1) = i + 1 + j by omega]; exact this
  | i, .dep L c js :: rs, j, e, h => by
    cases j with
    | zero => simp at h
    | succ j => have := wn (i + 1) rs j e (by simpa using h); rw [show i + (j + 1) = i + 1 + j by omega]; exact this
  | i, .ex e' :: rs, j, e, h => by
    cases j with
    | zero => obtain rfl := (by simpa using h); exact List.mem_cons_self ..
    | succ j => have := wn (i + 1) rs j e (by simpa using h); rw [show i + (j + 1) = i + 1 + j by omega]; exact List.mem_cons_of_mem _ this
theorem kG : ∀ (i : Nat) (rs : List RD), (iE i rs).Pairwise (fun p q => p.1 < q.1)
  | _, [] => List.Pairwise.nil
  | i, .con L c :: rs => kG (i + 1) rs
  | i, .dep L c js :: rs => kG (i + 1) rs
  | i, .ex e :: rs => List.Pairwise.cons (fun q hq => by obtain ⟨j, h1, _⟩ := tL _ _ q hq; show i < q.1; omega) (kG (i + 1) rs)
structure Az (al : List (Nat × List Nat)) (ds : List Nat) (P : Program) (l0 : List Oper) (Q : Exit → Act → World → Prop) (l tail : List Oper) (n : Nat) (w0 : World) (M : List Ent) (S : bJ) (i : Nat) (C : List (Nat × EX)) (es : List EX) : Prop where
  run : ∃ rs, Do al ds P l0 n w0 M i C l S rs ∧ qm P l0 Q tail n w0 M (jd l rs S) (es ++ (iE 0 rs).map (·.2))
theorem je : ∀ (i j : Nat) (rs : List RD), (iE i rs).map (·.2) = (iE j rs).map (·.2)
  | _, _, [] => rfl
  | i, j, .con L c :: rs => je (i + 1) (j + 1) rs
  | i, j, .dep L c js :: rs => je (i + 1) (j + 1) rs
  | i, j, .ex e :: rs => by simp only [iE, List.map_cons, je (i + 1) (j + 1) rs]
section
variable {al : List (Nat × List Nat)} {P : Program} {l0 rest tail : List Oper} {Q : Exit → Act → World → Prop} {n : Nat} {w0 : World} {S : bJ} {M : List Ent} {L : Cd} {o : Oper} {d i : Nat} {es : List EX} {ds : List Nat} {C : List (Nat × EX)}
theorem gH (h : qm P l0 Q tail n w0 M S es) : Az al ds P l0 Q [] tail n w0 M S i C es := ⟨[], trivial, by simpa [iE, jd] using h⟩
theorem BC {c : Value} (hg : gd l0 S o.guard = some L) (hv : VX P w0 S M L o c) (hd : o.dst = some d) (hn : Nat.blt d n = true) (ha : wm d al = []) (h : Az al ds P l0 Q rest tail n w0 M ((d, L, c) :: S) (i + 1) C es) : Az al ds P l0 Q (o :: rest) tail n w0 M S i C es := by
  obtain ⟨rs, h1, h2⟩ := h.run
  have hs : jH o (.con L c) S = (d, L, c) :: S := by simp [jH, hd]
  refine ⟨.con L c :: rs, ⟨⟨hg, hv, d, hd, Nat.le_of_ble_eq_true hn, ha⟩, trivial, by rw [hs]; exact h1⟩, ?_⟩
  simp only [jd, iE, hs, je 1 0]; exact h2
theorem lX {v : Value} (hg : gd l0 S o.guard = some L) (hv : VO P w0 S M L o v) (hd : o.dst = some d) (hn : Nat.blt d n = true) (ha : wm d al = []) (h : Az al ds P l0 Q rest tail n w0 M ((d, L, v) :: S) (i + 1) C es) : Az al ds P l0 Q (o :: rest) tail n w0 M S i C es :=
  BC hg (fun n a w hS hM hL => ca (hv n a w hS hM hL) ⟨rfl, Below.refl _ _⟩) hd hn ha h
theorem CV (e : EX) (hg : gd l0 S o.guard = some L) (hL : aF L = true) (hv : ∀ a w, Sl n a S → Mem w0 w M → Vals P o a w fun v w' => uD e w.heap.size v w' ∧ Below w.heap.size w w') (hd : o.dst = some e.d) (hn : Nat.blt e.d n = true) (hf : bE o = false) (hi : ds.contains e.d = true) (ha : wm e.d al = []) (h : Az al ds P l0 Q rest tail n w0 M S (i + 1) ((i, e) :: C) (es ++ [e])) : Az al ds P l0 Q (o :: rest) tail n w0 M S i C es := by
  obtain ⟨rs, h1, h2⟩ := h.run
  have hs : jH o (.ex e) S = S := by simp [jH]
  refine ⟨.ex e :: rs, ⟨⟨⟨L, hg, hL⟩, hv, hd, Nat.le_of_ble_eq_true hn, hf, by simpa using hi, ha⟩, trivial, by rw [hs]; exact h1⟩, ?_⟩
  simp only [jd, iE, hs, List.map_cons, je 1 0]
  simpa using h2
end
def va (rs : List RD) (j : Nat) : Value := match rs[j]? with
  | some (.con L c) => if aF L then c else undef
  | some (.dep L c _) => if aF L then c else undef
  | _ => undef
def nD (rs : List RD) (j : Nat) : Bool := match rs[j]? with
  | some (.con _ _) => true
  | some (.dep _ _ _) => true
  | _ => false
def sq (N : Nat) (rs : List RD) (i : Nat) (v : Value) (w : World) : Prop := match rs[i]? with
  | some (.con L c) => v = if aF L then c else undef
  | some (.dep L c _) => v = if aF L then c else undef
  | some (.ex e) => uD e N v w
  | none => True
def AA (rs : List RD) (i N : Nat) (v : Value) : Prop := match rs[i]? with
  | some (.ex _) => ∀ b, vB v b → N ≤ b
  | _ => True
def DX (rs : List RD) (i : Nat) (v : Value) (j : Nat) (v' : Value) : Prop := match rs[i]?, rs[j]? with
  | some (.ex _), some (.ex _) => ∀ b, vB v b → vB v' b → False
  | _, _ => True
theorem wo {al : List (Nat × List Nat)} {ds : List Nat} {P : Program} {l0 : List Oper} {n : Nat} {w0 : World} {M : List Ent} : ∀ {i : Nat} {C : List (Nat × EX)} {l : List Oper} {S : bJ} {rs : List RD}, Do al ds P l0 n w0 M i C l S rs → rs.length = l.length
  | _, _, [], _, [], _ => rfl
  | _, _, [], _, _ :: _, h => h.elim
  | _, _, _ :: _, _, [], h => h.elim
  | _, _, _ :: l, _, _ :: rs, h => by simp [wo h.2.2]
theorem zs {al : List (Nat × List Nat)} {ds : List Nat} {P : Program} {l0 : List Oper} {n : Nat} {w0 : World} {M : List Ent} (rs0 : List RD) : ∀ {m : Nat} {C : List (Nat × EX)} {l : List Oper} {S : bJ} {rs : List RD}, Do al ds P l0 n w0 M m C l S rs → (∀ p ∈ C, p.1 < m ∧ rs0[p.1]? = some (.ex p.2)) → (∀ j, rs[j]? = rs0[m + j]?) → ∀ i o, l[i]? = some o → ∃ r, rs[i]? = some r ∧ EL al ds P l0 n w0 M o (jd (l.take i) (rs.take i) S) r ∧ match r with | .dep _ _ js => (∀ p ∈ js, p.1 < m + i ∧ rs0[p.1]? = some (.ex p.2)) ∧ (js.map (·.2.d)).Nodup | _ => True
  | _, _, [], _, _, _, _, _, i, o, hi => by simp at hi
  | _, _, _ :: _, _, [], h, _, _, _, _, _ => h.elim
  | m, C, x :: l, S, r :: rs, h, hC, hrs, i, o, hi => by
    cases i with
    | zero =>
      obtain rfl := (by simpa using hi)
      refine ⟨r, rfl, h.1, ?_⟩
      cases r with
      | con L c => trivial
      | ex e => trivial
      | dep L c js => exact ⟨fun p hp => hC p (h.2.1.1 p hp), h.2.1.2⟩
    | succ i =>
      have h0 : rs0[m]? = some r := by have := hrs 0; simpa using this.symm
      obtain ⟨r', hr', ho, hd⟩ := zs rs0 h.2.2 (fun p hp => by
        cases r with
        | con L c => exact ⟨Nat.lt_succ_of_lt (hC p hp).1, (hC p hp).2⟩
        | dep L c js => exact ⟨Nat.lt_succ_of_lt (hC p hp).1, (hC p hp).2⟩
        | ex e =>
          rcases List.mem_cons.1 hp with rfl | hp
          · exact ⟨Nat.lt_succ_self m, h0⟩
          · exact ⟨Nat.lt_succ_of_lt (hC p hp).1, (hC p hp).2⟩) (fun j => by have := hrs (j + 1); rw [show m + (j + 1) = m + 1 + j by omega] at this; simpa using this) i o (by simpa using hi)
      refine ⟨r', by simpa using hr', by simpa [jd] using ho, ?_⟩
      cases r' with
      | con L c => trivial
      | ex e => trivial
      | dep L c js => exact ⟨fun p hp => ⟨by have := (hd.1 p hp).1; omega, (hd.1 p hp).2⟩, hd.2⟩
theorem tM {al : List (Nat × List Nat)} {ds : List Nat} {ops : Array Oper} {P : Program} {l0 : List Oper} {n : Nat} {w0 : World} {M : List Ent} {rs0 : List RD} : ∀ {l : List Oper} {rs : List RD} {S : bJ} {a : Act} {q : Nat} {C : List (Nat × EX)} (m i : Nat), (∀ j, j < i → l[j]? = ops[m + j]?) → (∀ j, j < i → rs[j]? = rs0[m + j]?) → Do al ds P l0 n w0 M q C l S rs → i ≤ l.length → Sl n a S →
    Sl n (aL ops (va rs0) (nD rs0) (List.range' m i) a) (jd (l.take i) (rs.take i) S)
  | l, rs, S, a, _, _, m, 0, _, _, _, _, hS => by simpa [aL, jd] using hS
  | [], _, _, _, _, _, _, i + 1, _, _, _, hi, _ => by simp at hi
  | _ :: _, [], _, _, _, _, _, _ + 1, _, _, h, _, _ => h.elim
  | o :: l, r :: rs, S, a, q, C, m, i + 1, hl, hr, h, hi, hS => by
    have h0 : ops[m]? = some o := by simpa using (hl 0 (by omega)).symm
    have hr0 : rs0[m]? = some r := by simpa using (hr 0 (by omega)).symm
    have hrest := fun (a' : Act) (S' : bJ) (C' : List (Nat × EX)) (hS' : Sl n a' S') (h' : Do al ds P l0 n w0 M (q + 1) C' l S' rs) => tM (ops := ops) (rs0 := rs0) (a := a') (m + 1) i (fun j hj => by have := hl (j + 1) (by omega); rw [show m + (j + 1) = m + 1 + j by omega] at this; simpa using this)
      (fun j hj => by have := hr (j + 1) (by omega); rw [show m + (j + 1) = m + 1 + j by omega] at this; simpa using this) h' (by simpa using hi) hS'
    rw [List.range'_succ]
    unfold aL
    simp only [h0, List.take_succ_cons, jd]
    cases r with
    | con L c =>
      obtain ⟨⟨_, _, d, hd, hdn, _⟩, _, h2⟩ := h
      have e1 : nD rs0 m = true := by simp [nD, hr0]
      have e2 : va rs0 m = if aF L then c else undef := by simp [va, hr0]
      have e3 : jH o (.con L c) S = (d, L, c) :: S := by simp [jH, hd]
      rw [e3] at h2 ⊢
      rw [e1, e2, hd]
      simp only [if_true]
      exact hrest _ _ _ (hS.put hdn rfl) h2
    | dep L c js =>
      obtain ⟨⟨_, _, _, _, d, hd, hdn, _⟩, _, h2⟩ := h
      have e1 : nD rs0 m = true := by simp [nD, hr0]
      have e2 : va rs0 m = if aF L then c else undef := by simp [va, hr0]
      have e3 : jH o (.dep L c js) S = (d, L, c) :: S := by simp [jH, hd]
      rw [e3] at h2 ⊢
      rw [e1, e2, hd]
      simp only [if_true]
      exact hrest _ _ _ (hS.put hdn rfl) h2
    | ex e =>
      have e1 : nD rs0 m = false := by simp [nD, hr0]
      have e3 : jH o (.ex e) S = S := by simp [jH]
      rw [e1, e3]
      simp only [Bool.false_eq_true, if_false]
      obtain ⟨_, _, h2⟩ := h
      rw [e3] at h2
      exact hrest _ _ _ hS h2
def DY (l : List Oper) (k : Nat) (ds : List Nat) (al : List (Nat × List Nat)) : Bool := (l.take k).all fun oi => ds.all fun d => (oi.looksAt l.toArray).contains d == (match oi.dst with | some t => (wm t al).contains d | none => false)
theorem tN {P : Program} {n : Nat} {w0 w : World} {M : List Ent} {o : Oper} {L : Cd} {c : Value} {N : Nat} (hN : w0.heap.size ≤ N) (hM : Mem w0 w M) (hL : aF L = true) {a : Act} {vs : Nat → Value} (h1 : a.defers = []) (h2 : a.tmps.size = n) : ∀ (js : List (Nat × EX)) (S : bJ) (F : List (List Ent)), CS P n w0 M o L c (js.map (·.2)) S F → (∀ t L v, lk t S = some (L, v) → (∀ p ∈ js, p.2.d ≠ t) → a.tmps[t]? = some (if aF L then v else undef)) →
    (∀ p ∈ js, uD p.2 N (vs p.1) w ∧ a.tmps[p.2.d]? = some (vs p.1)) → (js.map (·.2.d)).Nodup → (∀ E ∈ F, MemL w0.heap.size w E) → Vals P o a w (fun v w' => v = c ∧ Below w.heap.size w w')
  | [], S, F, h, hS, _, _, hF => h a w ⟨h1, h2, fun t L v ht => hS t L v ht (fun p hp => by cases hp)⟩ hM hF hL
  | p :: js, S, F, h, hS, hr, hnd, hF => by
    obtain ⟨⟨s, hs1, hs2, hs3, _, _⟩, hslot⟩ := hr p (List.mem_cons_self ..)
    obtain ⟨hnd1, hnd2⟩ := List.nodup_cons.1 hnd
    refine tN hN hM hL h1 h2 js _ _ (h s hs1) (fun t L v ht hne => ?_) (fun q hq => hr q (List.mem_cons_of_mem _ hq)) hnd2 (fun E hE => ?_)
    · rw [dR] at ht
      by_cases e : p.2.d = t
      · rw [if_pos e] at ht
        obtain ⟨rfl, rfl⟩ := (by simpa using ht)
        subst e
        rw [hslot, hs2]; simp [aF]
      · rw [if_neg e] at ht
        exact hS t L v ht (fun q hq => by
          rcases List.mem_cons.1 hq with rfl | hq
          · exact e
          · exact hne q hq)
    · rcases List.mem_cons.1 hE with rfl | hE
      · exact hs3.mono hN
      · exact hF E hE
theorem du {P : Program} {Q : Exit → Act → World → Prop} {n : Nat} {w0 : World} {S : bJ} {M : List Ent} {id : Nat} {l l1 l2 : List Oper} (k : Nat) (ds : List Nat) (al : List (Nat × List Nat)) (hm : P.follows .mixedOrders = true) (hs : jq l k = some (l1, l2))
    (hok : (mj l.toArray && nT l.toArray k && Nat.ble k l.length && DY l k ds al) = true) (h : Az al ds P l Q l1 l2 n w0 M S 0 [] []) : SC P (.region id l.toArray true) Q n w0 S M := by
  obtain ⟨rfl, rfl, hkl⟩ := iR hs
  rw [Bool.and_eq_true] at hok
  obtain ⟨hok, hfree⟩ := hok
  obtain ⟨rs, hro, htl⟩ := h.run
  simp only [List.nil_append] at htl
  have hlen := wo hro
  have hlen' : rs.length = k := by rw [hlen, List.length_take]; omega
  have hokR : mj l.toArray = true := by simp only [Bool.and_eq_true] at hok; exact hok.1.1
  refine ⟨fun a w hS hM => ?_⟩
  have hmemb : ∀ i o, i < k → l[i]? = some o → (l.take k)[i]? = some o := fun i o hi ho => by rw [List.getElem?_take, if_pos hi]; exact ho
  have hlk' := fun i o (hi : i < k) (ho : l[i]? = some o) => zs rs hro (fun p hp => by cases hp) (fun j => by rw [Nat.zero_add]) i o (hmemb i o hi ho)
  have hlk : ∀ i o, i < k → l[i]? = some o → ∃ r, rs[i]? = some r ∧ EL al ds P l n w0 M o (jd ((l.take k).take i) (rs.take i) S) r := fun i o hi ho => by
    obtain ⟨r, h1, h2, _⟩ := hlk' i o hi ho
    exact ⟨r, h1, h2⟩
  have hnl : ∀ i j oi oj e d, i < k → j < k → l[i]? = some oi → l[j]? = some oj → rs[j]? = some (.ex e) → oi.dst = some d → (e.d ∈ oi.looksAt l.toArray ↔ e.d ∈ wm d al) := by
    intro i j oi oj e d hi hj hoi hoj he hd
    have hds : e.d ∈ ds := by
      obtain ⟨r, hr, hO⟩ := hlk j oj hj hoj
      rw [he] at hr
      obtain rfl := (by simpa using hr)
      exact hO.2.2.2.2.2.1
    have h1 := List.all_eq_true.1 hfree oi (List.mem_of_getElem? (hmemb i oi hi hoi))
    have h2 := List.all_eq_true.1 h1 e.d hds
    rw [hd] at h2
    have h3 : (oi.looksAt l.toArray).contains e.d = (wm d al).contains e.d := eq_of_beq h2
    constructor
    · intro hmem
      have h4 : (oi.looksAt l.toArray).contains e.d = true := by simpa using hmem
      rw [h4] at h3
      simpa using h3.symm
    · intro hmem
      have h4 : (wm d al).contains e.d = true := by simpa using hmem
      rw [h4] at h3
      simpa using h3
  have hrange : ∀ i, List.range i = List.range' 0 i := fun i => List.range_eq_range'
  have hSl : ∀ i, i ≤ k → Sl n (aL l.toArray (va rs) (nD rs) (List.range i) a) (jd ((l.take k).take i) (rs.take i) S) := by
    intro i hi
    rw [hrange]
    exact tM (ops := l.toArray) (rs0 := rs) 0 i (fun j hj => by rw [Nat.zero_add, List.getElem?_take, if_pos (by omega)]; simp) (fun j _ => by rw [Nat.zero_add]) hro (by simp; omega) hS
  have hcon : ∀ {N : Nat} {j : Nat} {v : Value} {w1 : World}, nD rs j = true → sq N rs j v w1 → v = va rs j := by
    intro N j v w1 hc hr
    unfold nD at hc
    unfold sq at hr
    unfold va
    cases hj : rs[j]? with
    | none => rw [hj] at hc; cases hc
    | some r =>
      rw [hj] at hc hr
      cases r with
      | ex e => cases hc
      | con L c => exact hr
      | dep L c js => exact hr
  refine nb k (sq w.heap.size rs) (AA rs) (DX rs) hm hok ?_ (va rs) ?_ ?_ ?_ ?_ ?_ ?_
  · intro i v w w' hb hr
    unfold sq at hr ⊢
    cases hri : rs[i]? with
    | none => trivial
    | some r =>
      rw [hri] at hr
      cases r with
      | con L c => exact hr
      | dep L c js => exact hr
      | ex e => exact sO hb hr
  · intro f o hf ho hfl v w1
    obtain ⟨r, hr, hO⟩ := hlk f o hf ho
    cases r with
    | ex e => rw [hO.2.2.2.2.1] at hfl; cases hfl
    | dep L c js => rw [hO.2.2.1] at hfl; cases hfl
    | con L c => unfold sq va; rw [hr]
  · intro i j v v' w1 hij hF hR
    unfold AA at hF
    unfold sq at hR
    unfold DX
    cases hi : rs[i]? with
    | none => trivial
    | some r =>
      cases r with
      | con L c => cases hj : rs[j]? <;> trivial
      | dep L c js => cases hj : rs[j]? <;> trivial
      | ex e =>
        cases hj : rs[j]? with
        | none => trivial
        | some r' =>
          cases r' with
          | con L c => trivial
          | dep L c js => trivial
          | ex e' =>
            rw [hi] at hF
            rw [hj] at hR
            intro b h1 h2
            obtain ⟨_, _, _, _, _, h5⟩ := hR
            have := (h5 b h2).2
            have := hF b h1
            omega
  · intro i j v v' h
    unfold DX at h ⊢
    cases hi : rs[i]? with
    | none => cases hj : rs[j]? with
      | none => trivial
      | some r => cases r <;> trivial
    | some r =>
      cases hj : rs[j]? with
      | none => trivial
      | some r' =>
        rw [hi, hj] at h
        cases r <;> cases r' <;> first | trivial | exact fun b h1 h2 => h b h2 h1
  · intro f o hf ho hfl v j v'
    obtain ⟨r, hr, hO⟩ := hlk f o hf ho
    cases r with
    | ex e => rw [hO.2.2.2.2.1] at hfl; cases hfl
    | dep L c js => rw [hO.2.2.1] at hfl; cases hfl
    | con L c => unfold DX; rw [hr]; cases rs[j]? <;> trivial
  · intro vs i o hik hoi w1 hb1 hF
    obtain ⟨r, hr, hO, hdep⟩ := hlk' i o hik hoi
    have hoi' : l.toArray[i]? = some o := by simpa using hoi
    have hM1 : Mem w0 w1 M := hM.keep ((Below.refl w.heap.size w).drew.trans hb1)
    have hSi := hSl i (by omega)
    have hdst : ∃ d, o.dst = some d := by
      cases r with
      | con L c => obtain ⟨_, _, d, hd, _⟩ := hO; exact ⟨d, hd⟩
      | dep L c js => obtain ⟨_, _, _, _, d, hd, _⟩ := hO; exact ⟨d, hd⟩
      | ex e => exact ⟨_, hO.2.2.1⟩
    obtain ⟨d0, hd0⟩ := hdst
    have hkey : ∀ j oj, j < i → l[j]? = some oj → ∀ t, oj.dst = some t → t ∈ o.looksAt l.toArray → nD rs j = true ∧ vs j = va rs j ∨ ∃ e, rs[j]? = some (.ex e) ∧ e.d = t ∧ t ∈ wm d0 al ∧ uD e w.heap.size (vs j) w1 := by
      intro j oj hji hoj t hd ht
      have hoj' : l.toArray[j]? = some oj := by simpa using hoj
      have hR : sq w.heap.size rs j (vs j) w1 := by
        rcases (cd hokR hoi' hoj' (by omega) hd).2 with h | h | h
        · exact hF j (by simp; omega) h
        · exact absurd (cb (fX hokR) (Array.getElem?_eq_some_iff.1 hoi').1 j _ hoj' h).1 (by omega)
        · exact absurd ht h
      obtain ⟨rj, hrj, hOj⟩ := hlk j oj (by omega) hoj
      cases rj with
      | con L c => exact .inl ⟨by simp [nD, hrj], hcon (by simp [nD, hrj]) hR⟩
      | dep L c js => exact .inl ⟨by simp [nD, hrj], hcon (by simp [nD, hrj]) hR⟩
      | ex e =>
        have hde := hOj.2.2.1
        rw [hd] at hde
        obtain rfl := (by simpa using hde)
        refine .inr ⟨e, hrj, rfl, (hnl i j o oj e d0 hik (by omega) hoi hoj hrj hd0).1 ht, ?_⟩
        unfold sq at hR
        rw [hrj] at hR
        exact hR
    have hlook0 : wm d0 al = [] → ∀ t ∈ o.looksAt l.toArray, (aL l.toArray vs (fun _ => true) (List.range i) a).tmps[t]? = (aL l.toArray (va rs) (nD rs) (List.range i) a).tmps[t]? := by
      intro hz t ht
      refine bO t _ _ _ J J (fun j hj oj hoj hd => ?_)
      have hji := List.mem_range.1 hj
      rcases hkey j oj hji (by simpa using hoj) t hd ht with ⟨h1, h2⟩ | ⟨e, _, _, h3, _⟩
      · exact ⟨h1.symm, fun _ => h2⟩
      · rw [hz] at h3; cases h3
    cases r with
    | con L c =>
      obtain ⟨hg, hv, d, hd, _, hz⟩ := hO
      obtain rfl : d0 = d := by rw [hd0] at hd; simpa using hd
      have hlook := hlook0 hz
      have hop := cV (ops := l.toArray) o (fy hokR hoi') hlook
      have hwt := dA (ops := l.toArray) o hlook
      rw [hwt, im hSi hg]
      cases hL : aF L with
      | true =>
        simp only [if_true]
        have := hv n _ w1 hSi hM1 hL
        unfold Vals at this ⊢
        rw [hop]
        generalize (execOp (aL l.toArray (va rs) (nD rs) (List.range i) a).eval o).run P w1 = rr at *
        have hR : ∀ v w', v = c ∧ Below w1.heap.size w1 w' → Below w1.heap.size w1 w' ∧ sq w.heap.size rs i v w' ∧ AA rs i w1.heap.size v := fun v w' ⟨h1, h2⟩ => ⟨h2, by unfold sq; rw [hr]; simp [hL, h1], by unfold AA; rw [hr]; trivial⟩
        cases rr with
        | halt x w' => exact this.elim
        | ok nx w' =>
          cases nx <;> first
            | exact hR _ _ this
            | exact this.mono fun e w'' ⟨v, he, hv⟩ => ⟨v, he, hR _ _ hv⟩
            | exact this.mono fun v w'' hv => hR _ _ hv
            | exact this.elim
      | false =>
        simp only [Bool.false_eq_true, if_false]
        exact ⟨by unfold sq; rw [hr]; simp [hL], by unfold AA; rw [hr]; trivial⟩
    | dep L c js =>
      obtain ⟨hg, hv, _, hgk, d, hd, _, hz⟩ := hO
      obtain rfl : d0 = d := by rw [hd0] at hd; simpa using hd
      obtain ⟨hjs, hnd⟩ := hdep
      have hinj : ∀ p ∈ js, ∃ op, l[p.1]? = some op ∧ op.dst = some p.2.d ∧ p.2.d < n ∧ p.1 < i := fun p hp => by
        obtain ⟨h1, h2⟩ := hjs p hp
        have h1' : p.1 < i := by omega
        have hpl : p.1 < l.length := by omega
        obtain ⟨rj, hrj, hOj⟩ := hlk p.1 _ (by omega) (List.getElem?_eq_getElem hpl)
        rw [h2] at hrj
        obtain rfl := (by simpa using hrj)
        exact ⟨_, List.getElem?_eq_getElem hpl, hOj.2.2.1, hOj.2.2.2.1, h1'⟩
      let LL : Nat → Bool := fun j => nD rs j || js.any (fun p => p.1 == j)
      let vv : Nat → Value := fun j => if js.any (fun p => p.1 == j) = true then vs j else va rs j
      have hmem : ∀ j, js.any (fun p => p.1 == j) = true ↔ ∃ p ∈ js, p.1 = j := fun j => by simp
      have hlook : ∀ t ∈ o.looksAt l.toArray, (aL l.toArray vs (fun _ => true) (List.range i) a).tmps[t]? = (aL l.toArray vv LL (List.range i) a).tmps[t]? := by
        intro t ht
        refine bO t _ _ _ J J (fun j hj oj hoj hdj => ?_)
        have hji := List.mem_range.1 hj
        have hoj' : l[j]? = some oj := by simpa using hoj
        rcases hkey j oj hji hoj' t hdj ht with ⟨h1, h2⟩ | ⟨e, he, hed, h3, _⟩
        · refine ⟨by simp [LL, h1], fun _ => ?_⟩
          by_cases hc : js.any (fun p => p.1 == j) = true
          · simp only [vv, if_pos hc]
          · simp only [vv, if_neg hc, h2]
        · rw [hz] at h3
          obtain ⟨p, hp, hpd⟩ := List.mem_map.1 h3
          obtain ⟨op, hop1, hop2, _, hpi⟩ := hinj p hp
          have hpj : p.1 = j := by
            apply Classical.byContradiction
            intro hne
            have := (cd hokR (i := p.1) (j := j) (by simpa using hop1) hoj hne hdj).1
            exact this (by rw [hop2, hpd])
          have hc : js.any (fun p => p.1 == j) = true := (hmem j).2 ⟨p, hp, hpj⟩
          exact ⟨by simp [LL, hc], fun _ => by simp only [vv, if_pos hc]⟩
      have hop := cV (ops := l.toArray) o (fy hokR hoi') hlook
      have hwt := dA (ops := l.toArray) o hlook
      have hdef : ∀ (vs : Nat → Value) (LL : Nat → Bool) (r : List Nat) (a : Act), (aL l.toArray vs LL r a).defers = a.defers := by
        intro vs LL r
        induction r with
        | nil => intro a; rfl
        | cons j r ih =>
          intro a
          unfold aL
          rw [ih]
          split
          · split
            · rename_i o _ _; cases hd : o.dst <;> rfl
            · rfl
          · rfl
      have hS2 : ∀ t L' v, lk t (jd ((l.take k).take i) (rs.take i) S) = some (L', v) → (∀ p ∈ js, p.2.d ≠ t) → (aL l.toArray vv LL (List.range i) a).tmps[t]? = some (if aF L' then v else undef) := by
        intro t L' v ht hne
        rw [← hSi.2.2 t L' v ht]
        refine bO t _ _ _ J J (fun j hj oj hoj hdj => ?_)
        have hji := List.mem_range.1 hj
        have hoj' : l[j]? = some oj := by simpa using hoj
        have hc : ¬ js.any (fun p => p.1 == j) = true := fun h => by
          obtain ⟨p, hp, hpj⟩ := (hmem j).1 h
          obtain ⟨op, hop1, hop2, _, _⟩ := hinj p hp
          rw [hpj, hoj'] at hop1
          obtain rfl := (by simpa using hop1)
          rw [hdj] at hop2
          exact hne p hp (by simpa using hop2.symm)
        have hc' : js.any (fun p => p.1 == j) = false := eq_false_of_ne_true hc
        refine ⟨by simp [LL, hc'], fun _ => by simp only [vv, if_neg hc]⟩
      have hslots : ∀ p ∈ js, (aL l.toArray vv LL (List.range i) a).tmps[p.2.d]? = some (vs p.1) := fun p hp => by
        obtain ⟨op, hop1, hop2, hdn, hpi⟩ := hinj p hp
        have hoa : l.toArray[p.1]? = some op := by simpa using hop1
        have hc : js.any (fun q => q.1 == p.1) = true := (hmem p.1).2 ⟨p, hp, rfl⟩
        have hk : ∀ (r : List Nat) (a : Act), p.1 ∈ r → r.Nodup → p.2.d < a.tmps.size → (∀ j ∈ r, j ≠ p.1 → ∀ o', l.toArray[j]? = some o' → o'.dst ≠ some p.2.d) → (aL l.toArray vv LL r a).tmps[p.2.d]? = some (vs p.1) := by
          have hkeep : ∀ (r : List Nat) (a : Act), p.1 ∉ r → (∀ j ∈ r, ∀ o', l.toArray[j]? = some o' → o'.dst ≠ some p.2.d) → (aL l.toArray vv LL r a).tmps[p.2.d]? = a.tmps[p.2.d]? := by
            intro r
            induction r with
            | nil => intro a _ _; rfl
            | cons j r ih =>
              intro a hnm hdd
              unfold aL
              rw [ih _ (fun h => hnm (List.mem_cons_of_mem _ h)) (fun j hj => hdd j (List.mem_cons_of_mem _ hj))]
              split
              · rename_i o' ho'
                split
                · have := hdd j (List.mem_cons_self ..) o' ho'
                  cases hdo : o'.dst with
                  | none => rfl
                  | some q =>
                    have hq : q ≠ p.2.d := fun h => this (by rw [hdo, h])
                    simp only [Act.put]
                    exact Array.getElem?_setIfInBounds_ne hq
                · rfl
              · rfl
          intro r
          induction r with
          | nil => intro a h; cases h
          | cons j r ih =>
            intro a hm hnd hsz hdd
            obtain ⟨hn1, hn2⟩ := List.nodup_cons.1 hnd
            unfold aL
            by_cases hjp : j = p.1
            · subst hjp
              rw [hkeep r _ hn1 (fun q hq => hdd q (List.mem_cons_of_mem _ hq) (fun h => hn1 (h ▸ hq)))]
              have hLL : LL p.1 = true := by simp [LL, hc]
              simp only [hoa, hLL, if_true, hop2, Act.put]
              rw [Array.getElem?_setIfInBounds_self_of_lt hsz]
              simp only [vv, if_pos hc]
            · refine ih _ (by rcases List.mem_cons.1 hm with h | h; exact absurd h.symm hjp; exact h) hn2 ?_ (fun q hq => hdd q (List.mem_cons_of_mem _ hq))
              split
              · split
                · rename_i o' _ _; cases hdo : o'.dst <;> simp [Act.put, hsz]
                · exact hsz
              · exact hsz
        refine hk (List.range i) a (List.mem_range.2 hpi) List.nodup_range (by rw [hS.2.1]; exact hdn) (fun j hj hne o' ho' hd2 => ?_)
        exact (cd hokR ho' hoa hne hop2).1 hd2
      have hgw : Region.wanted o (yielded l.toArray (aL l.toArray vs (fun _ => true) (List.range i) a).tmps) = aF L := by
        rw [hwt]
        exact CU (ds := js.map (·.2.d)) hg (fun t L' v ht hne => hS2 t L' v ht (fun p hp => hne _ (List.mem_map.2 ⟨p, hp, rfl⟩))) hgk
      rw [hgw]
      cases hL : aF L with
      | true =>
        simp only [if_true]
        have := tN (N := w.heap.size) (vs := vs) hM.1.size hM1 hL (a := aL l.toArray vv LL (List.range i) a) (by rw [hdef]; exact hS.1) (by rw [cN]; exact hS.2.1) js _ [] hv hS2 (fun p hp => ⟨?_, hslots p hp⟩) hnd (fun E hE => by cases hE)
        · unfold Vals at this ⊢
          rw [hop]
          generalize (execOp (aL l.toArray vv LL (List.range i) a).eval o).run P w1 = rr at *
          have hR : ∀ v w', v = c ∧ Below w1.heap.size w1 w' → Below w1.heap.size w1 w' ∧ sq w.heap.size rs i v w' ∧ AA rs i w1.heap.size v := fun v w' ⟨h1, h2⟩ => ⟨h2, by unfold sq; rw [hr]; simp [hL, h1], by unfold AA; rw [hr]; trivial⟩
          cases rr with
          | halt x w' => exact this.elim
          | ok nx w' =>
            cases nx <;> first
              | exact hR _ _ this
              | exact this.mono fun e w'' ⟨v, he, hv⟩ => ⟨v, he, hR _ _ hv⟩
              | exact this.mono fun v w'' hv => hR _ _ hv
              | exact this.elim
        · obtain ⟨op, hop1, hop2, _, hpi⟩ := hinj p hp
          have hpk : p.1 < k := by omega
          have hlt : p.2.d ∈ o.looksAt l.toArray := (hnl i p.1 o op p.2 d0 hik hpk hoi hop1 (hjs p hp).2 hd0).2 (by rw [hz]; exact List.mem_map_of_mem hp)
          rcases hkey p.1 op hpi hop1 p.2.d hop2 hlt with ⟨h1, _⟩ | ⟨e, he, _, _, h4⟩
          · exfalso
            unfold nD at h1
            rw [(hjs p hp).2] at h1; cases h1
          · rw [(hjs p hp).2] at he
            obtain rfl := (by simpa using he)
            exact h4
      | false =>
        simp only [Bool.false_eq_true, if_false]
        exact ⟨by unfold sq; rw [hr]; simp [hL], by unfold AA; rw [hr]; trivial⟩
    | ex e =>
      obtain ⟨⟨Lg, hg, hLg⟩, hb, hde, _, _, _, hz⟩ := hO
      obtain rfl : d0 = e.d := by rw [hd0] at hde; simpa using hde
      have hlook := hlook0 hz
      have hop := cV (ops := l.toArray) o (fy hokR hoi') hlook
      have hwt := dA (ops := l.toArray) o hlook
      rw [hwt, im hSi hg, hLg, if_pos rfl]
      have := hb _ w1 hSi hM1
      unfold Vals at this ⊢
      rw [hop]
      generalize (execOp (aL l.toArray (va rs) (nD rs) (List.range i) a).eval o).run P w1 = rr at *
      have hR : ∀ v w', uD e w1.heap.size v w' ∧ Below w1.heap.size w1 w' → Below w1.heap.size w1 w' ∧ sq w.heap.size rs i v w' ∧ AA rs i w1.heap.size v := fun v w' ⟨h1, h2⟩ => ⟨h2, by unfold sq; rw [hr]; exact sP hb1.size h1, by
        unfold AA; rw [hr]
        obtain ⟨_, _, _, _, _, h5⟩ := h1
        exact fun b hb => (h5 b hb).1⟩
      cases rr with
      | halt x w' => exact this.elim
      | ok nx w' =>
        cases nx <;> first
          | exact hR _ _ this
          | exact this.mono fun e w'' ⟨v, he, hv⟩ => ⟨v, he, hR _ _ hv⟩
          | exact this.mono fun v w'' hv => hR _ _ hv
          | exact this.elim
  · intro vs w1 hb1 hF hP
    have hM1 : Mem w0 w1 M := hM.keep hb1
    have hSk := hSl k (Nat.le_refl _)
    have e1 : (l.take k).take k = l.take k := List.take_of_length_le (by simp; omega)
    have e2 : rs.take k = rs := List.take_of_length_le (by omega)
    rw [e1, e2] at hSk
    have hdef : ∀ (vs : Nat → Value) (LL : Nat → Bool) (r : List Nat) (a : Act), (aL l.toArray vs LL r a).defers = a.defers := by
      intro vs LL r
      induction r with
      | nil => intro a; rfl
      | cons j r ih =>
        intro a
        unfold aL
        rw [ih]
        split
        · split
          · rename_i o _ _; cases hd : o.dst <;> rfl
          · rfl
        · rfl
    have hex : ∀ p ∈ iE 0 rs, p.1 < k ∧ rs[p.1]? = some (.ex p.2) ∧ ∃ o, l[p.1]? = some o ∧ o.dst = some p.2.d ∧ p.2.d < n := by
      intro p hp
      obtain ⟨j, hj1, hj2⟩ := tL 0 rs p hp
      have hpj : p.1 = j := by omega
      have hjk : j < k := by have := (List.getElem?_eq_some_iff.1 hj2).1; omega
      have hjl : j < l.length := by omega
      obtain ⟨r, hr, hO⟩ := hlk j _ hjk (List.getElem?_eq_getElem hjl)
      rw [hj2] at hr
      obtain rfl := (by simpa using hr)
      obtain ⟨_, _, h3, h4, _⟩ := hO
      rw [hpj]
      exact ⟨hjk, hj2, _, List.getElem?_eq_getElem hjl, h3, h4⟩
    obtain ⟨h1, h2, h3⟩ := hSk
    refine ox (N := w.heap.size) (vs := vs) hM.1.size (iE 0 rs) _ M htl (by rw [hdef]; rw [hdef] at h1; exact h1) (by rw [cN]; rw [cN] at h2; exact h2) (fun t L v ht hne => ?_) hM1 (fun p hp => ?_) ?_ (fun p hp b hb f hf hfb => ?_)
    · rw [← h3 t L v ht]
      refine bO t _ _ _ J J (fun j hj oj hoj hd => ?_)
      have hjk := List.mem_range.1 hj
      have hoj' : l[j]? = some oj := by simpa using hoj
      obtain ⟨r, hr, hO⟩ := hlk j oj hjk hoj'
      cases r with
      | ex e =>
        exfalso
        have hde := (hO).2.2.1
        rw [hd] at hde
        have := hne (j, e) (by have := wn 0 rs j e hr; rwa [Nat.zero_add] at this)
        exact this (by simpa using hde.symm)
      | dep L' c js =>
        have hc : nD rs j = true := by simp [nD, hr]
        exact ⟨hc.symm, fun _ => hcon hc (hF j hjk)⟩
      | con L' c =>
        have hc : nD rs j = true := by simp [nD, hr]
        exact ⟨hc.symm, fun _ => hcon hc (hF j hjk)⟩
    · obtain ⟨hpk, hpr, o, ho, hod, hdn⟩ := hex p hp
      have hR := hF p.1 hpk
      unfold sq at hR
      rw [hpr] at hR
      refine ⟨hR, ?_⟩
      have hoa : l.toArray[p.1]? = some o := by simpa using ho
      exact gM p.2.d p.1 hoa hod (List.range k) a List.nodup_range (List.mem_range.2 hpk) (by rw [hS.2.1]; exact hdn) (fun i _ hne o' ho' hd2 => (cd hokR ho' hoa hne hod).1 hd2)
    · refine (kG 0 rs).imp_of_mem (fun {p q} hp hq hpq => ?_)
      obtain ⟨hpk, hpr, o, ho, hod, hdn⟩ := hex p hp
      obtain ⟨hqk, hqr, o', ho', hod', hdn'⟩ := hex q hq
      have := hP p.1 q.1 hpk hqk (by omega)
      unfold DX at this
      rw [hpr, hqr] at this
      refine ⟨this, fun e => ?_⟩
      have hoa : l.toArray[p.1]? = some o := by simpa using ho
      have hob : l.toArray[q.1]? = some o' := by simpa using ho'
      exact (cd hokR hoa hob (by omega) hod').1 (by rw [hod, e])
    · obtain ⟨hpk, hpr, _⟩ := hex p hp
      have hR := hF p.1 hpk
      unfold sq at hR
      rw [hpr] at hR
      obtain ⟨_, _, _, _, _, h5⟩ := hR
      have := (h5 b hb).1
      have := (MemL.mem hM.2 f hf).foot_lt hfb
      omega
end Go.Proofs.YthiocbcokfondaaGreatDoor.Y
namespace Go.Proofs.YthiocbcokfondaaGreatDoor.Y
open Go.RowKit
section
variable {P : Program} {T : fJ} {l0 rest : List Oper} {Q : Exit → Act → World → Prop} {n : Nat} {w0 : World} {S : bJ} {M M' M2 : List Ent} {o : Oper}
theorem oZ (hT : TOK P T) (i : Nat) {t : TypeId} {td : TD} {x y : Operand} {g off cap size k : Nat} {e : TypeId} {v : Value} {xs xs' vs : List Value} (h1 : o.op = .store t x y) (_hg : o.guard = none) (h2 : ev S x = some ([], .pointer (some ⟨g, off, none⟩))) (h3 : ev S y = some ([], v))
    (hm : fB M i = some (.own (some ⟨g, 0, none⟩) cap e size k xs)) (h4 : dS v = some vs) (h5 : lk t T = some td) (h6 : Nat.beq vs.length td.size = true) (h7 : fM vs = true) (h8 : jo xs off vs = some xs') (h9 : fY M i (.own (some ⟨g, 0, none⟩) cap e size k xs') = some M') (_hd : o.dst = none) {a : Act} {w : World} (hS : Sl n a S) (hM : Mem w0 w M) : ∃ w', (execOp a.eval o).run P w = .ok .skip w' ∧ Mem w0 w' M' := by
  have hok : w.ownsRow w0.heap.size e size (.slice (some ⟨g, 0, none⟩) k cap) k xs := hM.2.get hm
  obtain ⟨hlen, hrest⟩ := hok
  rcases hrest with ⟨hv, _⟩ | ⟨g', cap', cur, hv, hB, hgw, hkc, hcm, hcs, htake⟩
  · simp at hv
  obtain ⟨rfl, rfl⟩ : g = g' ∧ cap = cap' := by simp only [Value.slice.injEq, Option.some.injEq, Addr.mk.injEq] at hv; exact ⟨hv.1.1, hv.2.2⟩
  obtain ⟨e8, hl8⟩ := jO h8
  have hkl : k * size ≤ cur.toList.length := by rw [Array.length_toList, hcs]; exact Nat.mul_le_mul_right _ hkc
  have hle : off + vs.length ≤ k * size := by rw [← hlen]; exact hl8
  have hspl := mH cur.toList off vs (Nat.le_trans hle hkl)
  have hrun : (execOp a.eval o).run P w = .ok .skip (w.setRow g ⟨cur.toList.take off ++ vs ++ cur.toList.drop (off + vs.length)⟩) := by
    unfold execOp
    simp only [h1, aO hS h2 rfl, aO hS h3 rfl, Sem.run_bind, fq hT (show Bk w g e ⟨cur.toList⟩ from hgw) h4 h5 h6 h7 hspl]
    rfl
  have hxs' : xs'.length = k * size := by rw [← hlen, e8]; simp; omega
  refine ⟨_, hrun, hM.set (e' := .own (some ⟨g, 0, none⟩) cap e size k xs') hm h9 J J J (by simp [World.setRow]) (fun q _ hq => setRow_other w g q _ hq) ⟨hxs', .inr ⟨g, cap, _, rfl, hB, setRow_heap w g cur _ e (0, 0) hgw, hkc, hcm, ?_, ?_⟩⟩ (fun _ hk => .inl hk) (fun _ hk => .inl hk)⟩
  · have hle2 : off + vs.length ≤ cur.toList.length := Nat.le_trans hle hkl
    have : (cur.toList.take off ++ vs ++ cur.toList.drop (off + vs.length)).length = cur.toList.length := by rw [List.length_append, List.length_append, List.length_take, List.length_drop]; omega
    simpa [hcs] using this
  · rw [e8, ← htake]
    show (cur.toList.take off ++ vs ++ cur.toList.drop (off + vs.length)).take (k * size) = _
    generalize k * size = m at *
    have hle2 : off + vs.length ≤ cur.toList.length := Nat.le_trans hle hkl
    have h1 : (cur.toList.take off ++ vs).length = off + vs.length := by rw [List.length_append, List.length_take]; omega
    rw [List.take_append, h1, List.take_of_length_le (by rw [h1]; exact hle), List.take_take, Nat.min_eq_left (by omega), List.drop_take]
end
end Go.Proofs.YthiocbcokfondaaGreatDoor.Y
namespace Go.Proofs.YthiocbcokfondaaGreatDoor.Y
open Go.RowKit
structure SY (P : Program) (l0 : List Oper) (Z : Act → World → Prop) (l : List Oper) (n : Nat) (w0 : World) (M' : List Ent) (p : World → Prop) (S : bJ) (M : List Ent) : Prop where
  run : ∀ a w, Sl n a S → Mem w0 w M → pN P l0.toArray (fun w' => Mem w0 w' M' ∧ p w') xu Z l a w
section
variable {P : Program} {T : fJ} {l0 rest : List Oper} {Z : Act → World → Prop} {Q : Exit → Act → World → Prop} {n : Nat} {w0 : World} {S : bJ} {M M' M2 : List Ent} {p : World → Prop} {L : Cd} {o : Oper} {d : Nat}
theorem zt {v : Value} (hg : gd l0 S o.guard = some L) (hk : (xu o.op).pure = true) (hv : ∀ a w, Sl n a S → Mem w0 w M' → p w → aF L = true → (execOp a.eval o).run P w = .ok (.value v) w) (hd : o.dst = some d) (hn : Nat.blt d n = true) (h : SY P l0 Z rest n w0 M' p ((d, L, v) :: S) M) : SY P l0 Z (o :: rest) n w0 M' p S M := by
  have hdn : d < n := Nat.le_of_ble_eq_true hn
  refine ⟨fun a w hS hM => ?_⟩
  have hw := im hS hg
  cases hL : aF L with
  | true =>
    refine az (by rw [hw, hL]) hk v (fun _ hM' => hv a _ hS hM'.1 hM'.2 hL) fun K hK => hK _ _ (h.run _ _ ?_ hM)
    rw [hd]; exact hS.put hdn (by simp [hL])
  | false =>
    refine sA (by rw [hw, hL]) fun K hK => hK _ _ (h.run _ _ ?_ hM)
    rw [hd]; exact hS.put hdn (by simp [hL])
theorem lw {v : Value} (hg : gd l0 S o.guard = some L) (hk : (xu o.op).pure = true) (hv : VO P w0 S M' L o v) (hd : o.dst = some d) (hn : Nat.blt d n = true) (h : SY P l0 Z rest n w0 M' p ((d, L, v) :: S) M) : SY P l0 Z (o :: rest) n w0 M' p S M :=
  zt hg hk (fun a w hS hM _ hL => hv n a w hS hM hL) hd hn h
theorem BD (hT : TOK P T) {t : TypeId} {x : Operand} {a0 : Addr} {td : TD} {v : Value} {L1 : Cd} (h1 : o.op = .load t x) (hg : gd l0 S o.guard = some L)
    (h2 : ev S x = some (L1, .pointer (some a0))) (h3 : Suf L1 L) (h4 : lk t T = some td) (h5 : td.isOne = true) (hc : ∀ w, p w → w.cell? a0 = some v) (hd : o.dst = some d) (hn : Nat.blt d n = true) (h : SY P l0 Z rest n w0 M' p ((d, L, v) :: S) M) : SY P l0 Z (o :: rest) n w0 M' p S M := by
  refine zt hg (by rw [h1]; rfl) (fun a w hS _ hp hL => ?_) hd hn h
  have hc' := hc w hp
  obtain ⟨u, i, hu, _, _, _, hr⟩ := iN (hT.get h4) h5
  unfold execOp
  simp only [h1, aO hS h2 (h3.holds hL)]
  simp [Instr.loadAt, Instr.sureAddr, loadVar, Sem.run_bind, gL hu, hr, hc']
theorem zu (hT : TOK P T) (i : Nat) {t : TypeId} {td : TD} {x y : Operand} {g off : Nat} {B : TypeId} {v : Value} {cs cs' vs : List Value} (h1 : o.op = .store t x y) (hg : o.guard = none) (h2 : ev S x = some ([], .pointer (some ⟨g, off, none⟩))) (h3 : ev S y = some ([], v))
    (hm : fB M i = some (.cl g B cs)) (h4 : dS v = some vs) (h5 : lk t T = some td) (h6 : Nat.beq vs.length td.size = true) (h7 : fM vs = true) (h8 : jo cs off vs = some cs') (h9 : fY M i (.cl g B cs') = some M2) (hd : o.dst = none)
    (hM' : ∀ w, Mem w0 w M2 → Mem w0 w M' ∧ p w) (h : SY P l0 Z rest n w0 M' p S M2) : SY P l0 Z (o :: rest) n w0 M' p S M := by
  refine ⟨fun a w hS hM => ?_⟩
  have hrun : (execOp a.eval o).run P w = .ok .skip (w.setRow g ⟨cs'⟩) := by
    unfold execOp
    simp only [h1, aO hS h2 rfl, aO hS h3 rfl, Sem.run_bind, fq hT (show Bk w g B ⟨cs⟩ from (hM.2.get hm).2) h4 h5 h6 h7 h8]
    rfl
  have hM2 := hM.setRow hm h9
  refine bd (by unfold Region.wanted; rw [hg]) (by rw [h1]; rfl) (by rw [h1]; rfl) fun K hK => ?_
  unfold Oper.wp
  rw [hrun]
  simp only [Oper.upon]
  refine hK _ _ ⟨hM' _ hM2, h.run _ _ ?_ hM2⟩
  first | exact hS | (rw [hd]; exact hS)
theorem xv (hT : TOK P T) (i : Nat) {t : TypeId} {td : TD} {x y : Operand} {g off cap size k : Nat} {e : TypeId} {v : Value} {xs xs' vs : List Value} (h1 : o.op = .store t x y) (hg : o.guard = none) (h2 : ev S x = some ([], .pointer (some ⟨g, off, none⟩))) (h3 : ev S y = some ([], v))
    (hm : fB M i = some (.own (some ⟨g, 0, none⟩) cap e size k xs)) (h4 : dS v = some vs) (h5 : lk t T = some td) (h6 : Nat.beq vs.length td.size = true) (h7 : fM vs = true) (h8 : jo xs off vs = some xs') (h9 : fY M i (.own (some ⟨g, 0, none⟩) cap e size k xs') = some M2) (hd : o.dst = none)
    (hM' : ∀ w, Mem w0 w M2 → Mem w0 w M' ∧ p w) (h : SY P l0 Z rest n w0 M' p S M2) : SY P l0 Z (o :: rest) n w0 M' p S M := by
  refine ⟨fun a w hS hM => ?_⟩
  obtain ⟨w', hrun, hM2⟩ := oZ hT i h1 hg h2 h3 hm h4 h5 h6 h7 h8 h9 hd hS hM
  refine bd (by unfold Region.wanted; rw [hg]) (by rw [h1]; rfl) (by rw [h1]; rfl) fun K hK => ?_
  unfold Oper.wp
  rw [hrun]
  simp only [Oper.upon]
  refine hK _ _ ⟨hM' _ hM2, h.run _ _ ?_ hM2⟩
  first | exact hS | (rw [hd]; exact hS)
theorem zv (hT : TOK P T) (i : Nat) {t : TypeId} {td : TD} {x y : Operand} {g off cap size k : Nat} {e : TypeId} {v : Value} {xs xs' vs : List Value} (h1 : o.op = .store t x y) (hg : o.guard = none) (h2 : ev S x = some ([], .pointer (some ⟨g, off, none⟩))) (h3 : ev S y = some ([], v))
    (hm : fB M i = some (.own (some ⟨g, 0, none⟩) cap e size k xs)) (h4 : dS v = some vs) (h5 : lk t T = some td) (h6 : Nat.beq vs.length td.size = true) (h7 : fM vs = true) (h8 : jo xs off vs = some xs') (h9 : fY M i (.own (some ⟨g, 0, none⟩) cap e size k xs') = some M2) (hd : o.dst = none)
    (h : SQ Q .normal n w0 S M2) : SY P l0 (iY P l0.toArray o (Q .normal)) [] n w0 M' p S M := by
  refine ⟨fun a w hS hM => ?_⟩
  obtain ⟨w', hrun, hM2⟩ := oZ hT i h1 hg h2 h3 hm h4 h5 h6 h7 h8 h9 hd hS hM
  refine db (iZ (by unfold Region.wanted; rw [hg]) fun K hK => ?_)
  unfold Oper.wp
  rw [hrun]
  simp only [Oper.upon]
  refine hK _ _ (h.run _ _ ?_ hM2)
  first | exact hS | (rw [hd]; exact hS)
theorem fj {id : Nat} {l l1 : List Oper} {z : Oper} (bs : List Bool) (p : World → Prop) (hm : P.follows .mixedOrders = true) (hok : (yf xu l.toArray && Av l.toArray && Bt l.toArray) = true) (hl : l.dropLast = l1) (hz : l.getLast? = some z) (hp : ∀ w, Mem w0 w M → p w)
    (h : SY P l (iY P l.toArray z (Q .normal)) l1 n w0 (jD bs M) p S M) : SC P (.region id l.toArray true) Q n w0 S M :=
  ⟨fun a _ hS hM => jY (fun w' => Mem w0 w' (jD bs M) ∧ p w') xu hm hok hl hz ⟨hM.drew.mask bs rfl, hp _ hM.drew⟩ (h.run a _ hS hM.drew)⟩
end
end Go.Proofs.YthiocbcokfondaaGreatDoor.Y
