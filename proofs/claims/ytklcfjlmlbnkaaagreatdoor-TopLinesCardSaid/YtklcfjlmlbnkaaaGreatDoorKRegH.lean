/- Regions that draw their order and hold calls whose outcomes are fresh memory: the law with freshness, and its walker. -/
import Derived.Test.YtklcfjlmlbnkaaaGreatDoorKBunT
namespace Go.Proofs.YtklcfjlmlbnkaaaGreatDoor
open Go.RowKit
section
variable {P : Program} {ops : Array Oper}
def GN (P : Program) (ops : Array Oper) (Rs : Nat → Value → World → Prop) (Fr : Nat → Nat → Value → Prop) (w0 : World) (vs : Nat → Value) (i : Nat) (o : Oper) (a : Act) : Prop :=
  ∀ w1, Below w0.heap.size w0 w1 → (∀ j, j < ops.size → ((bG ops).getD i 0).testBit j = true → Rs j (vs j) w1) →
    if Region.wanted o (yielded ops a.tmps) then Vals P o a w1 (fun v w2 => Below w1.heap.size w1 w2 ∧ Rs i v w2 ∧ Fr i w1.heap.size v) else Rs i undef w1 ∧ Fr i w1.heap.size undef
theorem DJ {Rs : Nat → Value → World → Prop} {Fr : Nat → Nat → Value → Prop} {Pr : Nat → Value → Nat → Value → Prop} {w0 : World} {a0 : Act} {Q : Exit → Act → World → Prop} {k : Nat} (hk : k ≤ ops.size) (hok : mN ops = true)
    (hends : ∀ i, k ≤ i → i < ops.size → ∀ r, r < i → ((bG ops).getD i 0).testBit r = true ∨ (r < k ∧ ∃ o, ops[r]? = some o ∧ bi o = true))
    (hst : ∀ i v w w', Below w.heap.size w w' → Rs i v w → Rs i v w') (cv : Nat → Value) (hcv : ∀ f o, f < k → ops[f]? = some o → bi o = true → ∀ v w, Rs f v w ↔ v = cv f)
    (uh : ∀ i j v v' w, i ≠ j → Fr i w.heap.size v → Rs j v' w → Pr i v j v') (hsy : ∀ i j v v', Pr i v j v' → Pr j v' i v) (hpf : ∀ f o, f < k → ops[f]? = some o → bi o = true → ∀ v j v', Pr f v j v')
    (hob : ∀ vs, ∀ i o, i < k → ops[i]? = some o → GN P ops Rs Fr w0 vs i o (aB ops vs (fun _ => true) (List.range i) a0))
    (hq : ∀ vs w1, Below w0.heap.size w0 w1 → (∀ i, i < k → Rs i (vs i) w1) → (∀ i j, i < k → j < k → i ≠ j → Pr i (vs i) j (vs j)) → oA P ops (Q .normal) (ops.toList.drop k) (aB ops vs (fun _ => true) (List.range k) a0) w1) :
    ∀ (fuel : Nat) (listed : Array Bool) (vs : Nat → Value) (w : World), listed.size = ops.size →
      (∀ j oj, ops[j]? = some oj → listed.getD j false = true → ∀ e ∈ oj.after, Region.binds .any e = true → listed.getD e.on false = true) →
      (∀ j, k ≤ j → listed.getD j false = false) →
      (aE ops listed).length ≤ fuel → Below w0.heap.size w0 w → (∀ j, j < k → listed.getD j false = true → Rs j (vs j) w) →
      (∀ i j, i < k → j < k → listed.getD i false = true → listed.getD j false = true → i ≠ j → Pr i (vs i) j (vs j)) →
      wpAny P .any ops Q fuel listed (aB ops vs (fun j => listed.getD j false) (List.range ops.size) a0) w := by
  intro fuel
  have hdone : ∀ (fuel : Nat) (listed : Array Bool) (vs : Nat → Value) (w : World), listed.size = ops.size →
      (∀ j oj, ops[j]? = some oj → listed.getD j false = true → ∀ e ∈ oj.after, Region.binds .any e = true → listed.getD e.on false = true) →
      (∀ j o, j < k → ops[j]? = some o → listed.getD j false = false → bi o = true) → (∀ j, k ≤ j → listed.getD j false = false) → (aE ops listed).length ≤ fuel → Below w0.heap.size w0 w →
      (∀ j, j < k → listed.getD j false = true → Rs j (vs j) w) → (∀ i j, i < k → j < k → listed.getD i false = true → listed.getD j false = true → i ≠ j → Pr i (vs i) j (vs j)) → wpAny P .any ops Q fuel listed (aB ops vs (fun j => listed.getD j false) (List.range ops.size) a0) w := by
    intro fuel listed vs w hs hcl hfl hout hlen hb hr hp
    have hvs : ∃ vs' : Nat → Value, vs' = fun j => if listed.getD j false = true then vs j else cv j := ⟨_, rfl⟩
    obtain ⟨vs', hvs'⟩ := hvs
    have hRs : ∀ j, j < k → Rs j (vs' j) w := by
      intro j hj
      cases hl : listed.getD j false with
      | true =>
        have e : vs' j = vs j := by rw [hvs']; simp only [hl, if_true]
        rw [e]; exact hr j hj hl
      | false =>
        have e : vs' j = cv j := by rw [hvs']; simp only [hl, Bool.false_eq_true, if_false]
        rw [e]
        have hjs : j < ops.size := by omega
        have hoj := Array.getElem?_eq_getElem hjs
        exact (hcv j _ hj hoj (hfl j _ hj hoj hl) _ _).2 rfl
    have hPs : ∀ i j, i < k → j < k → i ≠ j → Pr i (vs' i) j (vs' j) := by
      intro i j hi hj hij
      have hei : ∀ j, listed.getD j false = true → vs' j = vs j := fun j hl => by rw [hvs']; simp only [hl, if_true]
      cases hl : listed.getD i false with
      | false =>
        have his : i < ops.size := by omega
        have hoi := Array.getElem?_eq_getElem his
        exact hpf i _ hi hoi (hfl i _ hi hoi hl) _ _ _
      | true =>
        cases hl2 : listed.getD j false with
        | false =>
          have hjs : j < ops.size := by omega
          have hoj := Array.getElem?_eq_getElem hjs
          exact hsy _ _ _ _ (hpf j _ hj hoj (hfl j _ hj hoj hl2) _ _ _)
        | true => rw [hei i hl, hei j hl2]; exact hp i j hi hj hl hl2 hij
    rw [bH (vs' := vs') (L' := fun j => listed.getD j false) _ _ (fun j _ => ⟨rfl, fun hl => by rw [hvs']; simp only [hl, if_true]⟩)]
    refine rL (k := k) hok hends fuel listed vs' k w hs (Nat.le_refl _) hk hcl hout (fun j h1 h2 => by omega) (fun f o hfk ho hf => ?_) hlen ?_
    · have hfo := hfl f o hfk ho hf
      refine ⟨hfo, ?_⟩
      have hob' := hob vs' f o hfk ho w hb (fun j hjs hj => hRs j (by have := (bI (fb hok) (r := j) hjs f _ ho hj).1; omega))
      have hw : Region.wanted o (yielded ops (aB ops vs' (fun _ => true) (List.range f) a0).tmps) = true := by
        have hf' := hfo
        unfold bi at hf'
        simp only [Bool.and_eq_true] at hf'
        unfold Region.wanted
        cases hg : o.guard with
        | none => rfl
        | some g => rw [hg] at hf'; simp at hf'
      rw [if_pos hw] at hob'
      obtain ⟨v, hv, _, hR, _⟩ := lC hfo hob'
      have hvc := (hcv f o hfk ho hfo _ _).1 hR
      have hvf := (hcv f o hfk ho hfo _ _).1 (hRs f hfk)
      intro w'
      rw [cN (by omega), hv w', hvc, hvf]
    · rw [cN hk]
      exact hq vs' w hb hRs hPs
  induction fuel with
  | zero =>
    intro listed vs w hs hcl hout hlen hb hr hp
    have hl : aE ops listed = [] := List.length_eq_zero_iff.1 (by omega)
    refine hdone 0 listed vs w hs hcl (fun j o hj ho hjl => ?_) hout hlen hb hr hp
    exfalso
    have : j ∈ aE ops listed := List.mem_filter.2 ⟨List.mem_range.2 (by omega), by rw [vJ hs (by omega) hjl]; rfl⟩
    rw [hl] at this; cases this
  | succ fuel ih =>
    intro listed vs w hs hcl hout hlen hb hr hp
    by_cases hall : ∀ j o, j < k → ops[j]? = some o → listed.getD j false = false → bi o = true
    · exact hdone (fuel + 1) listed vs w hs hcl hall hout hlen hb hr hp
    have hex : ∃ j o, j < k ∧ ops[j]? = some o ∧ listed.getD j false = false ∧ bi o = false := by
      apply Classical.byContradiction
      intro hn
      exact hall fun j o hj ho hl => by
        cases hf : bi o with
        | true => rfl
        | false => exact absurd ⟨j, o, hj, ho, hl, hf⟩ hn
    obtain ⟨j0, o0, hj0, ho0, hj0f, hf0⟩ := hex
    refine ⟨fun he => ?_, fun i hi => ?_⟩
    · exfalso
      cases hl : aE ops listed with
      | nil =>
        have : j0 ∈ aE ops listed := List.mem_filter.2 ⟨List.mem_range.2 (by omega), by rw [vJ hs (by omega) hj0f]; rfl⟩
        rw [hl] at this; cases this
      | cons i rest =>
        have := jt hok listed hs hl
        rw [he] at this; cases this
    obtain ⟨his, hil, hall'⟩ := iO hi
    have hoi := Array.getElem?_eq_getElem his
    have hni := Hx hs his hil
    have hmask : ∀ j, ((bG ops).getD i 0).testBit j = true → j < ops.size → listed.getD j false = true := fun j hj hjs => cB hok hcl hjs i _ hoi (hall' _ hoi) hj
    have hik : i < k := by
      apply Classical.byContradiction
      intro hn
      rcases hends i (by omega) his j0 (by omega) with h | ⟨_, o, ho, hf⟩
      · have := hmask j0 h (by omega)
        rw [hj0f] at this; cases this
      · rw [ho0] at ho
        obtain rfl := (by simpa using ho)
        rw [hf0] at hf; cases hf
    have hlook := kL (a0 := a0) (vs := vs) hok hcl hoi hni (hall' _ hoi)
    rw [cN (by omega)] at hlook
    have hsel := fZ hok hoi
    have hob' := hob vs i _ hik hoi w hb (fun j hjs hj => hr j (by
      have := (bI (fb hok) (r := j) hjs i _ hoi hj).1
      omega) (hmask j hj hjs))
    have next : ∀ v w', Below w.heap.size w w' → Rs i v w' → Fr i w.heap.size v → wpAny P .any ops Q fuel (listed.setIfInBounds i true) ((aB ops vs (fun j => listed.getD j false) (List.range ops.size) a0).put (ops[i]).dst v) w' := by
      intro v w' hb' hv hfr
      rw [← eN hoi (List.range ops.size) a0 List.nodup_range (List.mem_range.2 his) (fun j _ hji o' ho' b u x => Act.put_comm b u x (fun d hd => (bX hok ho' hoi hji hd).1)) hni, eS hs his]
      refine ih _ _ w' (by simp [hs]) (ju hcl hall') (fun j hj => by rw [getD_set_ne false (by omega)]; exact hout j hj) (gg hs his hil hlen) (hb.trans (hb'.mono hb.size)) ?_ ?_
      · intro j hj hl
        by_cases e : j = i
        · subst e; simp only [if_true]; exact hv
        · simp only [if_neg e]
          rw [getD_set_ne false (fun h => e h.symm)] at hl
          exact hst _ _ _ _ hb' (hr j hj hl)
      · intro x y hx hy hlx hly hxy
        by_cases ex : x = i
        · subst ex
          have ey : y ≠ x := fun h => hxy h.symm
          simp only [if_true, if_neg ey]
          rw [getD_set_ne false (fun h => ey h.symm)] at hly
          exact uh _ _ _ _ w hxy hfr (hr y hy hly)
        · rw [getD_set_ne false (fun h => ex h.symm)] at hlx
          by_cases ey : y = i
          · subst ey
            simp only [if_true, if_neg ex]
            exact hsy _ _ _ _ (uh _ _ _ _ w (fun h => ex h.symm) hfr (hr x hx hlx))
          · simp only [if_neg ex, if_neg ey]
            rw [getD_set_ne false (fun h => ey h.symm)] at hly
            exact hp x y hx hy hlx hly hxy
    unfold wpOp
    simp only [hoi]
    rw [dK _ hlook]
    split
    · rename_i hw
      rw [if_pos hw] at hob'
      exact .inl (hob'.wp (dv _ hsel hlook) (fun v w' h => next v w' h.1 h.2.1 h.2.2))
    · rename_i hw
      rw [if_neg hw] at hob'
      exact next undef w (Below.refl _ _) hob'.1 hob'.2
theorem ua {id : Nat} {Q : Exit → Act → World → Prop} {a : Act} {w : World} {l : List Oper} (k : Nat) (Rs : Nat → Value → World → Prop) (Fr : Nat → Nat → Value → Prop) (Pr : Nat → Value → Nat → Value → Prop) (hm : P.follows .mixedOrders = true)
    (hok : (mN l.toArray && qy l.toArray k && Nat.ble k l.length) = true) (hst : ∀ i v w w', Below w.heap.size w w' → Rs i v w → Rs i v w')
    (cv : Nat → Value) (hcv : ∀ f o, f < k → l[f]? = some o → bi o = true → ∀ v w, Rs f v w ↔ v = cv f)
    (uh : ∀ i j v v' w, i ≠ j → Fr i w.heap.size v → Rs j v' w → Pr i v j v') (hsy : ∀ i j v v', Pr i v j v' → Pr j v' i v) (hpf : ∀ f o, f < k → l[f]? = some o → bi o = true → ∀ v j v', Pr f v j v')
    (hob : ∀ vs, ∀ i o, i < k → l[i]? = some o → GN P l.toArray Rs Fr w.drew vs i o (aB l.toArray vs (fun _ => true) (List.range i) a))
    (hq : ∀ vs w1, Below w.heap.size w w1 → (∀ i, i < k → Rs i (vs i) w1) → (∀ i j, i < k → j < k → i ≠ j → Pr i (vs i) j (vs j)) → oA P l.toArray (Q .normal) (l.drop k) (aB l.toArray vs (fun _ => true) (List.range k) a) w1) : (Code.region id l.toArray true).wp P Q a w := by
  simp only [Bool.and_eq_true] at hok
  have hkl := Nat.le_of_ble_eq_true hok.2
  refine wp_region_any hm ?_
  have := DJ (P := P) (ops := l.toArray) (Rs := Rs) (Fr := Fr) (Pr := Pr) (w0 := w.drew) (a0 := a) (Q := Q) (k := k) (by simpa using hkl) hok.1.1 (oB hok.1.2) hst cv (fun f o hf ho => hcv f o hf (by simpa using ho))
    uh hsy (fun f o hf ho => hpf f o hf (by simpa using ho))
    (fun vs i o hik hi => hob vs i o hik (by simpa using hi))
    (fun vs w1 hb hr hp => hq vs w1 ((Below.refl w.heap.size w).drew.trans hb) hr hp)
    l.toArray.size (Array.replicate l.toArray.size false) (fun _ => undef) w.drew (by simp) (fun j oj hj hl => by
      exfalso
      have := aW l.toArray.size j
      rw [this] at hl; cases hl) (fun j _ => aW _ j) (by rw [eM]; simp) (Below.refl _ _) (fun j hj hl => by
      exfalso
      have := aW l.toArray.size j
      rw [this] at hl; cases hl) (fun i j hi hj hl => by
      exfalso
      have := aW l.toArray.size i
      rw [this] at hl; cases hl)
  rw [bH (vs' := fun _ => undef) (L' := fun _ => false) _ _ (fun j _ => ⟨aW _ j, fun h => rfl⟩), dp] at this
  exact this
end
end Go.Proofs.YtklcfjlmlbnkaaaGreatDoor
namespace Go.Proofs.YtklcfjlmlbnkaaaGreatDoor.Y
open Go.RowKit
def IK : Value → Nat → Prop
  | .slice (some a) _ _, b => b = a.block
  | .pointer (some a), b => b = a.block
  | .map (some g), b => b = g
  | _, _ => False
def vB : Value → Nat → Prop
  | .agg ⟨cs⟩, b => ∃ c ∈ cs, IK c b
  | v, b => IK v b
structure EX where
  d : Nat
  σ : Type
  Ψ : σ → Prop
  V : σ → Value
  E : σ → List Ent
inductive RX where
  | con (L : Cd) (c : Value)
  | ex (e : EX)
def DK (e : EX) (N : Nat) (v : Value) (w : World) : Prop := ∃ s, e.Ψ s ∧ v = e.V s ∧ MemL N w (e.E s) ∧ (∀ f ∈ e.E s, ∀ b, f.foot b → vB v b) ∧ ∀ b, vB v b → N ≤ b ∧ b < w.heap.size
theorem A8 {e : EX} {N : Nat} {v : Value} {w w' : World} (hb : Below w.heap.size w w') (h : DK e N v w) : DK e N v w' := by
  obtain ⟨s, h1, h2, h3, h4, h5⟩ := h
  exact ⟨s, h1, h2, h3.keep hb, h4, fun b hvb => ⟨(h5 b hvb).1, Nat.lt_of_lt_of_le (h5 b hvb).2 hb.size⟩⟩
theorem Ent.ok.mono {B B' : Nat} {w : World} {e : Ent} (hB : B' ≤ B) (h : e.ok B w) : e.ok B' w := by
  cases e with
  | obj g o => exact ⟨Nat.le_trans hB h.1, h.2⟩
  | own a cap e size n xs =>
    refine ⟨h.1, ?_⟩
    rcases h.2 with h2 | ⟨g, c, cur, h1, h2, h3⟩
    · exact .inl h2
    · exact .inr ⟨g, c, cur, h1, Nat.le_trans hB h2, h3⟩
  | rep F p => exact h
theorem MemL.mono {B B' : Nat} {w : World} (hB : B' ≤ B) : ∀ {M : List Ent}, MemL B w M → MemL B' w M
  | [], _ => trivial
  | _ :: _, h => ⟨h.1.mono hB, h.2.1, MemL.mono hB h.2.2⟩
theorem A9 {e : EX} {N N' : Nat} {v : Value} {w : World} (hN : N' ≤ N) (h : DK e N v w) : DK e N' v w := by
  obtain ⟨s, h1, h2, h3, h4, h5⟩ := h
  exact ⟨s, h1, h2, h3.mono hN, h4, fun b hvb => ⟨Nat.le_trans hN (h5 b hvb).1, (h5 b hvb).2⟩⟩
def H8 (ds : List Nat) (P : Program) (l0 : List Oper) (n : Nat) (w0 : World) (M : List Ent) (o : Oper) (S : bq) : RX → Prop
  | .con L c => gd l0 S o.guard = some L ∧ VX P w0 S M L o c ∧ ∃ d, o.dst = some d ∧ d < n
  | .ex e => o.guard = none ∧ (∀ a w, Sl n a S → Mem w0 w M → Vals P o a w fun v w' => DK e w.heap.size v w' ∧ Below w.heap.size w w') ∧ o.dst = some e.d ∧ e.d < n ∧ bi o = false ∧ e.d ∈ ds
def lq (o : Oper) (r : RX) (S : bq) : bq := match r, o.dst with
  | .con L c, some d => (d, L, c) :: S
  | _, _ => S
def Gs (ds : List Nat) (P : Program) (l0 : List Oper) (n : Nat) (w0 : World) (M : List Ent) : List Oper → bq → List RX → Prop
  | [], _, [] => True
  | o :: l, S, r :: rs => H8 ds P l0 n w0 M o S r ∧ Gs ds P l0 n w0 M l (lq o r S) rs
  | _, _, _ => False
def jM : List Oper → List RX → bq → bq
  | o :: l, r :: rs, S => jM l rs (lq o r S)
  | _, _, S => S
def iw : Nat → List RX → List (Nat × EX)
  | i, .ex e :: rs => (i, e) :: iw (i + 1) rs
  | i, .con _ _ :: rs => iw (i + 1) rs
  | _, [] => []
def xF (P : Program) (l0 : List Oper) (Q : Exit → Act → World → Prop) (tail : List Oper) (n : Nat) (w0 : World) : List Ent → bq → List EX → Prop
  | M, S, [] => SL P l0 Q tail n w0 S M
  | M, S, e :: r => ∀ s, e.Ψ s → xF P l0 Q tail n w0 (e.E s ++ M) ((e.d, [], e.V s) :: S) r
theorem xG : ∀ (i : Nat) (rs : List RX), ∀ p ∈ iw i rs, ∃ j, p.1 = i + j ∧ rs[j]? = some (.ex p.2)
  | _, [], p, h => by cases h
  | i, .con L c :: rs, p, h => by
    obtain ⟨j, h1, h2⟩ := xG (i + 1) rs p h
    exact ⟨j + 1, by omega, by simpa using h2⟩
  | i, .ex e :: rs, p, h => by
    rcases List.mem_cons.1 h with rfl | h
    · exact ⟨0, rfl, rfl⟩
    · obtain ⟨j, h1, h2⟩ := xG (i + 1) rs p h
      exact ⟨j + 1, by omega, by simpa using h2⟩
theorem Ft : ∀ (i : Nat) (rs : List RX) (j : Nat) (e : EX), rs[j]? = some (.ex e) → (i + j, e) ∈ iw i rs
  | _, [], j, e, h => by simp at h
  | i, .con L c :: rs, j, e, h => by
    cases j with
    | zero => simp at h
    | succ j => have := Ft (i + 1) rs j e (by simpa using h); rw [show i + (j + 1) = i + 1 + j by omega]; exact this
  | i, .ex e' :: rs, j, e, h => by
    cases j with
    | zero => obtain rfl := (by simpa using h); exact List.mem_cons_self ..
    | succ j => have := Ft (i + 1) rs j e (by simpa using h); rw [show i + (j + 1) = i + 1 + j by omega]; exact List.mem_cons_of_mem _ this
theorem oT : ∀ (i : Nat) (rs : List RX), (iw i rs).Pairwise (fun p q => p.1 < q.1)
  | _, [] => List.Pairwise.nil
  | i, .con L c :: rs => oT (i + 1) rs
  | i, .ex e :: rs => List.Pairwise.cons (fun q hq => by obtain ⟨j, h1, _⟩ := xG _ _ q hq; show i < q.1; omega) (oT (i + 1) rs)
theorem MemL.join {B : Nat} {w : World} : ∀ {E M : List Ent}, MemL B w E → MemL B w M → (∀ e ∈ E, ∀ f ∈ M, Apart e f) → MemL B w (E ++ M)
  | [], _, _, h, _ => h
  | e :: E, M, h1, h2, h3 => ⟨h1.1, fun f hf => by
      rcases List.mem_append.1 hf with hf | hf
      · exact h1.2.1 f hf
      · exact h3 e (List.mem_cons_self ..) f hf, MemL.join h1.2.2 h2 (fun e' he' f hf => h3 e' (List.mem_cons_of_mem _ he') f hf)⟩
theorem uc {P : Program} {l0 : List Oper} {Q : Exit → Act → World → Prop} {tail : List Oper} {n : Nat} {w0 w1 : World} {a : Act} {N : Nat} {vs : Nat → Value} (hN : w0.heap.size ≤ N) : ∀ (es : List (Nat × EX)) (S : bq) (M : List Ent),
    xF P l0 Q tail n w0 M S (es.map (·.2)) → a.defers = [] → a.tmps.size = n →
    (∀ t L v, lk t S = some (L, v) → (∀ p ∈ es, p.2.d ≠ t) → a.tmps[t]? = some (if az L then v else undef)) → Mem w0 w1 M →
    (∀ p ∈ es, DK p.2 N (vs p.1) w1 ∧ a.tmps[p.2.d]? = some (vs p.1)) → es.Pairwise (fun p q => (∀ b, vB (vs p.1) b → vB (vs q.1) b → False) ∧ p.2.d ≠ q.2.d) →
    (∀ p ∈ es, ∀ b, vB (vs p.1) b → ∀ f ∈ M, f.foot b → False) → oA P l0.toArray (Q .normal) tail a w1
  | [], S, M, h, h1, h2, h3, hM, _, _, _ => SL.run h a w1 ⟨h1, h2, fun t L v ht => h3 t L v ht (fun p hp => by cases hp)⟩ hM
  | p :: es, S, M, h, h1, h2, h3, hM, hr, hp, hf => by
    obtain ⟨⟨s, hs1, hs2, hs3, hs4, hs5⟩, hslot⟩ := hr p (List.mem_cons_self ..)
    obtain ⟨hp1, hp2⟩ := List.pairwise_cons.1 hp
    refine uc hN es _ _ (h s hs1) h1 h2 (fun t L v ht hne => ?_) ⟨hM.1, MemL.join (hs3.mono hN) hM.2 (fun e he f hfM k => ⟨fun hk1 hk2 => ?_, fun hk1 hk2 => ?_⟩)⟩ (fun q hq => hr q (List.mem_cons_of_mem _ hq)) hp2 (fun q hq b hb f hfm hfb => ?_)
    · rw [dU] at ht
      by_cases e : p.2.d = t
      · rw [if_pos e] at ht
        obtain ⟨rfl, rfl⟩ := (by simpa using ht)
        subst e
        rw [hslot, hs2]; simp [az]
      · rw [if_neg e] at ht
        exact h3 t L v ht (fun q hq => by
          rcases List.mem_cons.1 hq with rfl | hq
          · exact e
          · exact hne q hq)
    · exact hf p (List.mem_cons_self ..) k (hs4 e he k (Ent.mut_foot hk1)) f hfM hk2
    · exact hf p (List.mem_cons_self ..) k (hs4 e he k hk2) f hfM (Ent.mut_foot hk1)
    · rcases List.mem_append.1 hfm with hfE | hfM
      · exact (hp1 q hq).1 b (hs4 f hfE b hfb) hb
      · exact hf q (List.mem_cons_of_mem _ hq) b hb f hfM hfb
structure Ai (ds : List Nat) (P : Program) (l0 : List Oper) (Q : Exit → Act → World → Prop) (l tail : List Oper) (n : Nat) (w0 : World) (M : List Ent) (S : bq) (es : List EX) : Prop where
  run : ∃ rs, Gs ds P l0 n w0 M l S rs ∧ xF P l0 Q tail n w0 M (jM l rs S) (es ++ (iw 0 rs).map (·.2))
theorem kS : ∀ (i j : Nat) (rs : List RX), (iw i rs).map (·.2) = (iw j rs).map (·.2)
  | _, _, [] => rfl
  | i, j, .con L c :: rs => kS (i + 1) (j + 1) rs
  | i, j, .ex e :: rs => by simp only [iw, List.map_cons, kS (i + 1) (j + 1) rs]
section
variable {P : Program} {l0 rest tail : List Oper} {Q : Exit → Act → World → Prop} {n : Nat} {w0 : World} {S : bq} {M : List Ent} {L : Cd} {o : Oper} {d : Nat} {es : List EX} {ds : List Nat}
theorem mq (h : xF P l0 Q tail n w0 M S es) : Ai ds P l0 Q [] tail n w0 M S es := ⟨[], trivial, by simpa [iw, jM] using h⟩
theorem DL {c : Value} (hg : gd l0 S o.guard = some L) (hv : VX P w0 S M L o c) (hd : o.dst = some d) (hn : Nat.blt d n = true) (h : Ai ds P l0 Q rest tail n w0 M ((d, L, c) :: S) es) : Ai ds P l0 Q (o :: rest) tail n w0 M S es := by
  obtain ⟨rs, h1, h2⟩ := h.run
  have hs : lq o (.con L c) S = (d, L, c) :: S := by simp [lq, hd]
  refine ⟨.con L c :: rs, ⟨⟨hg, hv, d, hd, Nat.le_of_ble_eq_true hn⟩, by rw [hs]; exact h1⟩, ?_⟩
  simp only [jM, iw, hs, kS 1 0]; exact h2
theorem oU {v : Value} (hg : gd l0 S o.guard = some L) (hv : VO P w0 S M L o v) (hd : o.dst = some d) (hn : Nat.blt d n = true) (h : Ai ds P l0 Q rest tail n w0 M ((d, L, v) :: S) es) : Ai ds P l0 Q (o :: rest) tail n w0 M S es :=
  DL hg (fun n a w hS hM hL => aX (hv n a w hS hM hL) ⟨rfl, Below.refl _ _⟩) hd hn h
theorem Ba (e : EX) (hg : o.guard = none) (hv : ∀ a w, Sl n a S → Mem w0 w M → Vals P o a w fun v w' => DK e w.heap.size v w' ∧ Below w.heap.size w w') (hd : o.dst = some e.d) (hn : Nat.blt e.d n = true) (hf : bi o = false) (hi : ds.contains e.d = true) (h : Ai ds P l0 Q rest tail n w0 M S (es ++ [e])) : Ai ds P l0 Q (o :: rest) tail n w0 M S es := by
  obtain ⟨rs, h1, h2⟩ := h.run
  have hs : lq o (.ex e) S = S := by simp [lq]
  refine ⟨.ex e :: rs, ⟨⟨hg, hv, hd, Nat.le_of_ble_eq_true hn, hf, by simpa using hi⟩, by rw [hs]; exact h1⟩, ?_⟩
  simp only [jM, iw, hs, List.map_cons, kS 1 0]
  simpa using h2
theorem nb {σ : Type} {f : FuncId} {args : List Value} (Ψ : σ → Prop) (V : σ → Value) (E : σ → List Ent) (hg : o.guard = none) (ho : dd P S [] o f args)
    (hc : ∀ w, Mem w0 w M → Calls P f ⟨args⟩ w fun e w' => (∃ s, Ψ s ∧ e = .returned (V s) ∧ MemL w.heap.size w' (E s) ∧ (∀ f ∈ E s, ∀ b, f.foot b → vB (V s) b) ∧ ∀ b, vB (V s) b → w.heap.size ≤ b ∧ b < w'.heap.size) ∧ Below w.heap.size w w')
    (hd : o.dst = some d) (hn : Nat.blt d n = true) (hf : bi o = false) (hi : ds.contains d = true) (h : Ai ds P l0 Q rest tail n w0 M S (es ++ [⟨d, σ, Ψ, V, E⟩])) : Ai ds P l0 Q (o :: rest) tail n w0 M S es :=
  Ba ⟨d, σ, Ψ, V, E⟩ hg (fun a w hS hM => cW (ho.ok n a w hS rfl) ((hc w hM).mono fun _ _ ⟨⟨s, h1, h2, h3, h4, h5⟩, h6⟩ => ⟨V s, h2, ⟨s, h1, rfl, h3, h4, h5⟩, h6⟩)) hd hn hf hi h
end
def Bb (rs : List RX) (j : Nat) : Value := match rs[j]? with
  | some (.con L c) => if az L then c else undef
  | _ => undef
def wg (rs : List RX) (j : Nat) : Bool := match rs[j]? with
  | some (.con _ _) => true
  | _ => false
def yY (N : Nat) (rs : List RX) (i : Nat) (v : Value) (w : World) : Prop := match rs[i]? with
  | some (.con L c) => v = if az L then c else undef
  | some (.ex e) => DK e N v w
  | none => True
def Fu (rs : List RX) (i N : Nat) (v : Value) : Prop := match rs[i]? with
  | some (.ex _) => ∀ b, vB v b → N ≤ b
  | _ => True
def GO (rs : List RX) (i : Nat) (v : Value) (j : Nat) (v' : Value) : Prop := match rs[i]?, rs[j]? with
  | some (.ex _), some (.ex _) => ∀ b, vB v b → vB v' b → False
  | _, _ => True
theorem xH {ds : List Nat} {P : Program} {l0 : List Oper} {n : Nat} {w0 : World} {M : List Ent} : ∀ {l : List Oper} {S : bq} {rs : List RX}, Gs ds P l0 n w0 M l S rs → rs.length = l.length
  | [], _, [], _ => rfl
  | [], _, _ :: _, h => h.elim
  | _ :: _, _, [], h => h.elim
  | _ :: l, _, _ :: rs, h => by simp [xH h.2]
theorem Bc {ds : List Nat} {P : Program} {l0 : List Oper} {n : Nat} {w0 : World} {M : List Ent} : ∀ {l : List Oper} {S : bq} {rs : List RX}, Gs ds P l0 n w0 M l S rs → ∀ i o, l[i]? = some o → ∃ r, rs[i]? = some r ∧ H8 ds P l0 n w0 M o (jM (l.take i) (rs.take i) S) r
  | [], _, _, _, i, o, hi => by simp at hi
  | _ :: _, _, [], h, _, _, _ => h.elim
  | x :: l, S, r :: rs, h, i, o, hi => by
    cases i with
    | zero =>
      obtain rfl := (by simpa using hi)
      exact ⟨r, rfl, h.1⟩
    | succ i =>
      obtain ⟨r', hr', ho⟩ := Bc h.2 i o (by simpa using hi)
      exact ⟨r', by simpa using hr', by simpa [jM] using ho⟩
theorem ud {ds : List Nat} {ops : Array Oper} {P : Program} {l0 : List Oper} {n : Nat} {w0 : World} {M : List Ent} {rs0 : List RX} : ∀ {l : List Oper} {rs : List RX} {S : bq} {a : Act} (m i : Nat), (∀ j, j < i → l[j]? = ops[m + j]?) → (∀ j, j < i → rs[j]? = rs0[m + j]?) → Gs ds P l0 n w0 M l S rs → i ≤ l.length → Sl n a S →
    Sl n (aB ops (Bb rs0) (wg rs0) (List.range' m i) a) (jM (l.take i) (rs.take i) S)
  | l, rs, S, a, m, 0, _, _, _, _, hS => by simpa [aB, jM] using hS
  | [], _, _, _, _, i + 1, _, _, _, hi, _ => by simp at hi
  | _ :: _, [], _, _, _, _ + 1, _, _, h, _, _ => h.elim
  | o :: l, r :: rs, S, a, m, i + 1, hl, hr, h, hi, hS => by
    have h0 : ops[m]? = some o := by simpa using (hl 0 (by omega)).symm
    have hr0 : rs0[m]? = some r := by simpa using (hr 0 (by omega)).symm
    have hrest := fun (a' : Act) (S' : bq) (hS' : Sl n a' S') (h' : Gs ds P l0 n w0 M l S' rs) => ud (ops := ops) (rs0 := rs0) (a := a') (m + 1) i (fun j hj => by have := hl (j + 1) (by omega); rw [show m + (j + 1) = m + 1 + j by omega] at this; simpa using this)
      (fun j hj => by have := hr (j + 1) (by omega); rw [show m + (j + 1) = m + 1 + j by omega] at this; simpa using this) h' (by simpa using hi) hS'
    rw [List.range'_succ]
    unfold aB
    simp only [h0, List.take_succ_cons, jM]
    cases r with
    | con L c =>
      obtain ⟨⟨_, _, d, hd, hdn⟩, h2⟩ := h
      have e1 : wg rs0 m = true := by simp [wg, hr0]
      have e2 : Bb rs0 m = if az L then c else undef := by simp [Bb, hr0]
      have e3 : lq o (.con L c) S = (d, L, c) :: S := by simp [lq, hd]
      rw [e3] at h2 ⊢
      rw [e1, e2, hd]
      simp only [if_true]
      exact hrest _ _ (hS.put hdn rfl) h2
    | ex e =>
      have e1 : wg rs0 m = false := by simp [wg, hr0]
      have e3 : lq o (.ex e) S = S := by simp [lq]
      rw [e1, e3]
      simp only [Bool.false_eq_true, if_false]
      obtain ⟨_, h2⟩ := h
      rw [e3] at h2
      exact hrest _ _ hS h2
def GP (l : List Oper) (k : Nat) (es : List Nat) : Bool := es.all fun d => (l.take k).all fun oi => !(oi.looksAt l.toArray).contains d
theorem fB {P : Program} {Q : Exit → Act → World → Prop} {n : Nat} {w0 : World} {S : bq} {M : List Ent} {id : Nat} {l l1 l2 : List Oper} (k : Nat) (ds : List Nat) (hm : P.follows .mixedOrders = true) (hs : ke l k = some (l1, l2))
    (hok : (mN l.toArray && qy l.toArray k && Nat.ble k l.length && GP l k ds) = true) (h : Ai ds P l Q l1 l2 n w0 M S []) : SC P (.region id l.toArray true) Q n w0 S M := by
  obtain ⟨rfl, rfl, hkl⟩ := kP hs
  rw [Bool.and_eq_true] at hok
  obtain ⟨hok, hfree⟩ := hok
  obtain ⟨rs, hro, htl⟩ := h.run
  simp only [List.nil_append] at htl
  have hlen := xH hro
  have hlen' : rs.length = k := by rw [hlen, List.length_take]; omega
  have hokR : mN l.toArray = true := by simp only [Bool.and_eq_true] at hok; exact hok.1.1
  refine ⟨fun a w hS hM => ?_⟩
  have hmemb : ∀ i o, i < k → l[i]? = some o → (l.take k)[i]? = some o := fun i o hi ho => by rw [List.getElem?_take, if_pos hi]; exact ho
  have hlk : ∀ i o, i < k → l[i]? = some o → ∃ r, rs[i]? = some r ∧ H8 ds P l n w0 M o (jM ((l.take k).take i) (rs.take i) S) r := fun i o hi ho => Bc hro i o (hmemb i o hi ho)
  have hnl : ∀ i j oi oj e, i < k → j < k → l[i]? = some oi → l[j]? = some oj → rs[j]? = some (.ex e) → e.d ∉ oi.looksAt l.toArray := by
    intro i j oi oj e hi hj hoi hoj he hmem
    have h1 := List.all_eq_true.1 hfree e.d (by
      obtain ⟨r, hr, hO⟩ := hlk j oj hj hoj
      rw [he] at hr
      obtain rfl := (by simpa using hr)
      exact hO.2.2.2.2.2)
    have h2 := List.all_eq_true.1 h1 oi (List.mem_of_getElem? (hmemb i oi hi hoi))
    simp only [Bool.not_eq_true'] at h2
    have : (oi.looksAt l.toArray).contains e.d = true := by simpa using hmem
    rw [h2] at this; cases this
  have hrange : ∀ i, List.range i = List.range' 0 i := fun i => List.range_eq_range'
  have hSl : ∀ i, i ≤ k → Sl n (aB l.toArray (Bb rs) (wg rs) (List.range i) a) (jM ((l.take k).take i) (rs.take i) S) := by
    intro i hi
    rw [hrange]
    exact ud (ops := l.toArray) (rs0 := rs) 0 i (fun j hj => by rw [Nat.zero_add, List.getElem?_take, if_pos (by omega)]; simp) (fun j _ => by rw [Nat.zero_add]) hro (by simp; omega) hS
  have hcon : ∀ {N : Nat} {j : Nat} {v : Value} {w1 : World}, wg rs j = true → yY N rs j v w1 → v = Bb rs j := by
    intro N j v w1 hc hr
    unfold wg at hc
    unfold yY at hr
    unfold Bb
    cases hj : rs[j]? with
    | none => rw [hj] at hc; cases hc
    | some r =>
      rw [hj] at hc hr
      cases r with
      | ex e => cases hc
      | con L c => exact hr
  refine ua k (yY w.heap.size rs) (Fu rs) (GO rs) hm hok ?_ (Bb rs) ?_ ?_ ?_ ?_ ?_ ?_
  · intro i v w w' hb hr
    unfold yY at hr ⊢
    cases hri : rs[i]? with
    | none => trivial
    | some r =>
      rw [hri] at hr
      cases r with
      | con L c => exact hr
      | ex e => exact A8 hb hr
  · intro f o hf ho hfl v w1
    obtain ⟨r, hr, hO⟩ := hlk f o hf ho
    cases r with
    | ex e => rw [hO.2.2.2.2.1] at hfl; cases hfl
    | con L c => unfold yY Bb; rw [hr]
  · intro i j v v' w1 hij hF hR
    unfold Fu at hF
    unfold yY at hR
    unfold GO
    cases hi : rs[i]? with
    | none => trivial
    | some r =>
      cases r with
      | con L c => cases hj : rs[j]? <;> trivial
      | ex e =>
        cases hj : rs[j]? with
        | none => trivial
        | some r' =>
          cases r' with
          | con L c => trivial
          | ex e' =>
            rw [hi] at hF
            rw [hj] at hR
            intro b h1 h2
            obtain ⟨_, _, _, _, _, h5⟩ := hR
            have := (h5 b h2).2
            have := hF b h1
            omega
  · intro i j v v' h
    unfold GO at h ⊢
    cases hi : rs[i]? with
    | none => cases hj : rs[j]? with
      | none => trivial
      | some r => cases r <;> trivial
    | some r =>
      cases hj : rs[j]? with
      | none => trivial
      | some r' =>
        rw [hi, hj] at h
        cases r <;> cases r' <;> first | trivial | exact fun b h1 h2 => h b h2 h1
  · intro f o hf ho hfl v j v'
    obtain ⟨r, hr, hO⟩ := hlk f o hf ho
    cases r with
    | ex e => rw [hO.2.2.2.2.1] at hfl; cases hfl
    | con L c => unfold GO; rw [hr]; cases rs[j]? <;> trivial
  · intro vs i o hik hoi w1 hb1 hF
    obtain ⟨r, hr, hO⟩ := hlk i o hik hoi
    have hoi' : l.toArray[i]? = some o := by simpa using hoi
    have hlook : ∀ t ∈ o.looksAt l.toArray, (aB l.toArray vs (fun _ => true) (List.range i) a).tmps[t]? = (aB l.toArray (Bb rs) (wg rs) (List.range i) a).tmps[t]? := by
      intro t ht
      refine cd t _ _ _ J J (fun j hj oj hoj hd => ?_)
      have hji := List.mem_range.1 hj
      have hoj' : l[j]? = some oj := by simpa using hoj
      have hc : wg rs j = true := by
        obtain ⟨rj, hrj, hOj⟩ := hlk j oj (by omega) hoj'
        cases rj with
        | con L c => simp [wg, hrj]
        | ex e =>
          exfalso
          have hde := (hOj).2.2.1
          rw [hd] at hde
          obtain rfl := (by simpa using hde)
          exact hnl i j o oj e hik (by omega) hoi hoj' hrj ht
      refine ⟨hc.symm, fun _ => ?_⟩
      rcases (bX hokR hoi' hoj (by omega) hd).2 with h | h | h
      · exact hcon hc (hF j (by simp; omega) h)
      · exact absurd (bI (fb hokR) (Array.getElem?_eq_some_iff.1 hoi').1 j _ hoj h).1 (by omega)
      · exact absurd ht h
    have hM1 : Mem w0 w1 M := hM.keep ((Below.refl w.heap.size w).drew.trans hb1)
    have hSi := hSl i (by omega)
    have hop := dv (ops := l.toArray) o (fZ hokR hoi') hlook
    have hwt := dK (ops := l.toArray) o hlook
    cases r with
    | con L c =>
      obtain ⟨hg, hv, _⟩ := hO
      rw [hwt, gh hSi hg]
      cases hL : az L with
      | true =>
        simp only [if_true]
        have := hv n _ w1 hSi hM1 hL
        unfold Vals at this ⊢
        rw [hop]
        generalize (execOp (aB l.toArray (Bb rs) (wg rs) (List.range i) a).eval o).run P w1 = rr at *
        have hR : ∀ v w', v = c ∧ Below w1.heap.size w1 w' → Below w1.heap.size w1 w' ∧ yY w.heap.size rs i v w' ∧ Fu rs i w1.heap.size v := fun v w' ⟨h1, h2⟩ => ⟨h2, by unfold yY; rw [hr]; simp [hL, h1], by unfold Fu; rw [hr]; trivial⟩
        cases rr with
        | halt x w' => exact this.elim
        | ok nx w' =>
          cases nx <;> first
            | exact hR _ _ this
            | exact this.mono fun e w'' ⟨v, he, hv⟩ => ⟨v, he, hR _ _ hv⟩
            | exact this.mono fun v w'' hv => hR _ _ hv
            | exact this.elim
      | false =>
        simp only [Bool.false_eq_true, if_false]
        exact ⟨by unfold yY; rw [hr]; simp [hL], by unfold Fu; rw [hr]; trivial⟩
    | ex e =>
      obtain ⟨hg, hb, _⟩ := hO
      have hw : Region.wanted o (yielded l.toArray (aB l.toArray vs (fun _ => true) (List.range i) a).tmps) = true := by unfold Region.wanted; rw [hg]
      rw [if_pos hw]
      have := hb _ w1 hSi hM1
      unfold Vals at this ⊢
      rw [hop]
      generalize (execOp (aB l.toArray (Bb rs) (wg rs) (List.range i) a).eval o).run P w1 = rr at *
      have hR : ∀ v w', DK e w1.heap.size v w' ∧ Below w1.heap.size w1 w' → Below w1.heap.size w1 w' ∧ yY w.heap.size rs i v w' ∧ Fu rs i w1.heap.size v := fun v w' ⟨h1, h2⟩ => ⟨h2, by unfold yY; rw [hr]; exact A9 hb1.size h1, by
        unfold Fu; rw [hr]
        obtain ⟨_, _, _, _, _, h5⟩ := h1
        exact fun b hb => (h5 b hb).1⟩
      cases rr with
      | halt x w' => exact this.elim
      | ok nx w' =>
        cases nx <;> first
          | exact hR _ _ this
          | exact this.mono fun e w'' ⟨v, he, hv⟩ => ⟨v, he, hR _ _ hv⟩
          | exact this.mono fun v w'' hv => hR _ _ hv
          | exact this.elim
  · intro vs w1 hb1 hF hP
    have hM1 : Mem w0 w1 M := hM.keep hb1
    have hSk := hSl k (Nat.le_refl _)
    have e1 : (l.take k).take k = l.take k := List.take_of_length_le (by simp; omega)
    have e2 : rs.take k = rs := List.take_of_length_le (by omega)
    rw [e1, e2] at hSk
    have hdef : ∀ (vs : Nat → Value) (LL : Nat → Bool) (r : List Nat) (a : Act), (aB l.toArray vs LL r a).defers = a.defers := by
      intro vs LL r
      induction r with
      | nil => intro a; rfl
      | cons j r ih =>
        intro a
        unfold aB
        rw [ih]
        split
        · split
          · rename_i o _ _; cases hd : o.dst <;> rfl
          · rfl
        · rfl
    have hex : ∀ p ∈ iw 0 rs, p.1 < k ∧ rs[p.1]? = some (.ex p.2) ∧ ∃ o, l[p.1]? = some o ∧ o.dst = some p.2.d ∧ p.2.d < n := by
      intro p hp
      obtain ⟨j, hj1, hj2⟩ := xG 0 rs p hp
      have hpj : p.1 = j := by omega
      have hjk : j < k := by have := (List.getElem?_eq_some_iff.1 hj2).1; omega
      have hjl : j < l.length := by omega
      obtain ⟨r, hr, hO⟩ := hlk j _ hjk (List.getElem?_eq_getElem hjl)
      rw [hj2] at hr
      obtain rfl := (by simpa using hr)
      obtain ⟨_, _, h3, h4, _⟩ := hO
      rw [hpj]
      exact ⟨hjk, hj2, _, List.getElem?_eq_getElem hjl, h3, h4⟩
    obtain ⟨h1, h2, h3⟩ := hSk
    refine uc (N := w.heap.size) (vs := vs) hM.1.size (iw 0 rs) _ M htl (by rw [hdef]; rw [hdef] at h1; exact h1) (by rw [dt]; rw [dt] at h2; exact h2) (fun t L v ht hne => ?_) hM1 (fun p hp => ?_) ?_ (fun p hp b hb f hf hfb => ?_)
    · rw [← h3 t L v ht]
      refine cd t _ _ _ J J (fun j hj oj hoj hd => ?_)
      have hjk := List.mem_range.1 hj
      have hoj' : l[j]? = some oj := by simpa using hoj
      obtain ⟨r, hr, hO⟩ := hlk j oj hjk hoj'
      cases r with
      | ex e =>
        exfalso
        have hde := (hO).2.2.1
        rw [hd] at hde
        have := hne (j, e) (by have := Ft 0 rs j e hr; rwa [Nat.zero_add] at this)
        exact this (by simpa using hde.symm)
      | con L' c =>
        have hc : wg rs j = true := by simp [wg, hr]
        exact ⟨hc.symm, fun _ => hcon hc (hF j hjk)⟩
    · obtain ⟨hpk, uh, o, ho, hod, hdn⟩ := hex p hp
      have hR := hF p.1 hpk
      unfold yY at hR
      rw [uh] at hR
      refine ⟨hR, ?_⟩
      have hoa : l.toArray[p.1]? = some o := by simpa using ho
      exact iU p.2.d p.1 hoa hod (List.range k) a List.nodup_range (List.mem_range.2 hpk) (by rw [hS.2.1]; exact hdn) (fun i _ hne o' ho' hd2 => (bX hokR ho' hoa hne hod).1 hd2)
    · refine (oT 0 rs).imp_of_mem (fun {p q} hp hq hpq => ?_)
      obtain ⟨hpk, uh, o, ho, hod, hdn⟩ := hex p hp
      obtain ⟨hqk, hqr, o', ho', hod', hdn'⟩ := hex q hq
      have := hP p.1 q.1 hpk hqk (by omega)
      unfold GO at this
      rw [uh, hqr] at this
      refine ⟨this, fun e => ?_⟩
      have hoa : l.toArray[p.1]? = some o := by simpa using ho
      have hob : l.toArray[q.1]? = some o' := by simpa using ho'
      exact (bX hokR hoa hob (by omega) hod').1 (by rw [hod, e])
    · obtain ⟨hpk, uh, _⟩ := hex p hp
      have hR := hF p.1 hpk
      unfold yY at hR
      rw [uh] at hR
      obtain ⟨_, _, _, _, _, h5⟩ := hR
      have := (h5 b hb).1
      have := (MemL.mem hM.2 f hf).foot_lt hfb
      omega
end Go.Proofs.YtklcfjlmlbnkaaaGreatDoor.Y
