/- Regions that draw their order, with calls whose outcomes rest on old memory and on what they made, and with parts of these outcomes: the law, with what each operation made told beside its value, and its walker. -/
import Derived.Test.YtklcfjlmlbnkaaaGreatDoorKRegH
namespace Go.Proofs.YtklcfjlmlbnkaaaGreatDoor
open Go.RowKit
section
variable {P : Program} {ops : Array Oper}
def Bn (ops : Array Oper) (k : Nat) (fl : Nat → Bool) : Bool := (List.range ops.size).all fun i => decide (i < k) || (List.range i).all fun r => ((bG ops).getD i 0).testBit r || (decide (r < k) && fl r)
theorem wv {k : Nat} {fl : Nat → Bool} (h : Bn ops k fl = true) : ∀ i, k ≤ i → i < ops.size → ∀ r, r < i → ((bG ops).getD i 0).testBit r = true ∨ (r < k ∧ fl r = true) := by
  intro i hk hi r hr
  have h1 := List.all_eq_true.1 h i (List.mem_range.2 hi)
  simp only [Bool.or_eq_true, decide_eq_true_eq] at h1
  rcases h1 with h1 | h1
  · omega
  · have h2 := List.all_eq_true.1 h1 r (List.mem_range.2 hr)
    simp only [Bool.or_eq_true, Bool.and_eq_true, decide_eq_true_eq] at h2
    exact h2
def GR (P : Program) (ops : Array Oper) {G : Type} (Rs : Nat → G → Value → World → Prop) (Fr : Nat → Nat → G → Prop) (Dv : Nat → (Nat → Value) → Value → Prop) (w0 : World) (vs : Nat → Value) (gs : Nat → G) (i : Nat) (o : Oper) (a : Act) : Prop :=
  ∀ w1, Below w0.heap.size w0 w1 → (∀ j, j < ops.size → ((bG ops).getD i 0).testBit j = true → Rs j (gs j) (vs j) w1) →
    if Region.wanted o (yielded ops a.tmps) then Vals P o a w1 (fun v w2 => Below w1.heap.size w1 w2 ∧ Dv i vs v ∧ ∃ g, Rs i g v w2 ∧ Fr i w1.heap.size g) else Dv i vs undef ∧ ∃ g, Rs i g undef w1 ∧ Fr i w1.heap.size g
theorem DS {G : Type} {Rs : Nat → G → Value → World → Prop} {Fr : Nat → Nat → G → Prop} {Pr : Nat → G → Nat → G → Prop} {Dv : Nat → (Nat → Value) → Value → Prop} {w0 : World} {a0 : Act} {Q : Exit → Act → World → Prop} {k : Nat} (hk : k ≤ ops.size) (hok : mN ops = true) (fl : Nat → Bool) (hfl : ∀ f o, fl f = true → ops[f]? = some o → bi o = true)
    (hends : ∀ i, k ≤ i → i < ops.size → ∀ r, r < i → ((bG ops).getD i 0).testBit r = true ∨ (r < k ∧ fl r = true))
    (hst : ∀ i g v w w', Below w.heap.size w w' → Rs i g v w → Rs i g v w') (cv : (Nat → Value) → Nat → Value) (hcv1 : ∀ f o, f < k → ops[f]? = some o → fl f = true → ∀ (vs : Nat → Value) (gs : Nat → G) (w : World), (∀ j, j < ops.size → ((bG ops).getD f 0).testBit j = true → fl j = false → Rs j (gs j) (vs j) w) → ∀ g, Rs f g (cv vs f) w ∧ Dv f vs (cv vs f)) (hcv2 : ∀ f o, f < k → ops[f]? = some o → fl f = true → ∀ vs g v w, Rs f g v w → Dv f vs v → v = cv vs f)
    (uh : ∀ i j g g' v' w, i ≠ j → Fr i w.heap.size g → Rs j g' v' w → Pr i g j g') (hsy : ∀ i j g g', Pr i g j g' → Pr j g' i g) (hdl : ∀ i vs vs' v, (∀ j, j < ops.size → ((bG ops).getD i 0).testBit j = true → fl j = false → vs j = vs' j) → Dv i vs v → Dv i vs' v) (hpf : ∀ f o, f < k → ops[f]? = some o → fl f = true → ∀ g j g', Pr f g j g')
    (hob : ∀ (vs : Nat → Value) (gs : Nat → G), ∀ i o, i < k → ops[i]? = some o → GR P ops Rs Fr Dv w0 vs gs i o (aB ops vs (fun _ => true) (List.range i) a0))
    (hq : ∀ (vs : Nat → Value) (gs : Nat → G) (w1 : World), Below w0.heap.size w0 w1 → (∀ i, i < k → Rs i (gs i) (vs i) w1) → (∀ i j, i < k → j < k → i ≠ j → Pr i (gs i) j (gs j)) → (∀ i, i < k → Dv i vs (vs i)) → oA P ops (Q .normal) (ops.toList.drop k) (aB ops vs (fun _ => true) (List.range k) a0) w1) :
    ∀ (fuel : Nat) (listed : Array Bool) (vs : Nat → Value) (gs : Nat → G) (w : World), listed.size = ops.size →
      (∀ j oj, ops[j]? = some oj → listed.getD j false = true → ∀ e ∈ oj.after, Region.binds .any e = true → listed.getD e.on false = true) →
      (∀ j, k ≤ j → listed.getD j false = false) →
      (aE ops listed).length ≤ fuel → Below w0.heap.size w0 w → (∀ j, j < k → listed.getD j false = true → Rs j (gs j) (vs j) w) →
      (∀ i j, i < k → j < k → listed.getD i false = true → listed.getD j false = true → i ≠ j → Pr i (gs i) j (gs j)) →
      (∀ j, listed.getD j false = true → ∀ m, m < ops.size → ((bG ops).getD j 0).testBit m = true → listed.getD m false = true) → (∀ j, j < k → listed.getD j false = true → Dv j vs (vs j)) →
      wpAny P .any ops Q fuel listed (aB ops vs (fun j => listed.getD j false) (List.range ops.size) a0) w := by
  intro fuel
  have hdone : ∀ (fuel : Nat) (listed : Array Bool) (vs : Nat → Value) (gs : Nat → G) (w : World), listed.size = ops.size →
      (∀ j oj, ops[j]? = some oj → listed.getD j false = true → ∀ e ∈ oj.after, Region.binds .any e = true → listed.getD e.on false = true) →
      (∀ j o, j < k → ops[j]? = some o → listed.getD j false = false → fl j = true) → (∀ j, k ≤ j → listed.getD j false = false) → (aE ops listed).length ≤ fuel → Below w0.heap.size w0 w →
      (∀ j, j < k → listed.getD j false = true → Rs j (gs j) (vs j) w) → (∀ i j, i < k → j < k → listed.getD i false = true → listed.getD j false = true → i ≠ j → Pr i (gs i) j (gs j)) → (∀ j, listed.getD j false = true → ∀ m, m < ops.size → ((bG ops).getD j 0).testBit m = true → listed.getD m false = true) → (∀ j, j < k → listed.getD j false = true → Dv j vs (vs j)) → wpAny P .any ops Q fuel listed (aB ops vs (fun j => listed.getD j false) (List.range ops.size) a0) w := by
    intro fuel listed vs gs w hs hcl hfl' hout hlen hb hr hp hcm hd
    have hvs : ∃ vs' : Nat → Value, vs' = fun j => if listed.getD j false = true then vs j else cv vs j := ⟨_, rfl⟩
    obtain ⟨vs', hvs'⟩ := hvs
    have hlis : ∀ m, m < k → m < ops.size → fl m = false → listed.getD m false = true := fun m hm hms hmf => by
      cases hl : listed.getD m false with
      | true => rfl
      | false =>
        have h9 := hfl' m _ hm (Array.getElem?_eq_getElem hms) hl
        rw [hmf] at h9; cases h9
    have hRs : ∀ j, j < k → Rs j (gs j) (vs' j) w := by
      intro j hj
      cases hl : listed.getD j false with
      | true =>
        have e : vs' j = vs j := by rw [hvs']; simp only [hl, if_true]
        rw [e]; exact hr j hj hl
      | false =>
        have e : vs' j = cv vs j := by rw [hvs']; simp only [hl, Bool.false_eq_true, if_false]
        rw [e]
        have hjs : j < ops.size := by omega
        have hoj := Array.getElem?_eq_getElem hjs
        refine (hcv1 j _ hj hoj (hfl' j _ hj hoj hl) vs gs w (fun m hm hmm hmf => ?_) _).1
        have hmj := (bI (fb hok) hm j _ hoj hmm).1
        exact hr m (by omega) (hlis m (by omega) hm hmf)
    have hPs : ∀ i j, i < k → j < k → i ≠ j → Pr i (gs i) j (gs j) := by
      intro i j hi hj hij
      cases hl : listed.getD i false with
      | false =>
        have his : i < ops.size := by omega
        have hoi := Array.getElem?_eq_getElem his
        exact hpf i _ hi hoi (hfl' i _ hi hoi hl) _ _ _
      | true =>
        cases hl2 : listed.getD j false with
        | false =>
          have hjs : j < ops.size := by omega
          have hoj := Array.getElem?_eq_getElem hjs
          exact hsy _ _ _ _ (hpf j _ hj hoj (hfl' j _ hj hoj hl2) _ _ _)
        | true => exact hp i j hi hj hl hl2 hij
    have hDs : ∀ j, j < k → Dv j vs' (vs' j) := by
      intro j hj
      cases hl : listed.getD j false with
      | true =>
        have e : vs' j = vs j := by rw [hvs']; simp only [hl, if_true]
        rw [e]
        refine hdl j vs vs' _ (fun m hm hmm _ => ?_) (hd j hj hl)
        rw [hvs']
        simp only [hcm j hl m hm hmm, if_true]
      | false =>
        have hjs : j < ops.size := by omega
        have hoj := Array.getElem?_eq_getElem hjs
        have e : vs' j = cv vs j := by rw [hvs']; simp only [hl, Bool.false_eq_true, if_false]
        rw [e]
        refine hdl j vs vs' _ (fun m hm hmm hmf => ?_) (hcv1 j _ hj hoj (hfl' j _ hj hoj hl) vs gs w (fun m hm hmm hmf => ?_) (gs j)).2
        · have hmj := (bI (fb hok) hm j _ hoj hmm).1
          rw [hvs']
          simp only [hlis m (by omega) hm hmf, if_true]
        · have hmj := (bI (fb hok) hm j _ hoj hmm).1
          exact hr m (by omega) (hlis m (by omega) hm hmf)
    rw [bH (vs' := vs') (L' := fun j => listed.getD j false) _ _ (fun j _ => ⟨rfl, fun hl => by rw [hvs']; simp only [hl, if_true]⟩)]
    refine rL (k := k) hok (fun i h1 h2 r hr => (hends i h1 h2 r hr).imp id (fun ⟨h3, h4⟩ => ⟨h3, _, Array.getElem?_eq_getElem (by omega), hfl r _ h4 (Array.getElem?_eq_getElem (by omega))⟩)) fuel listed vs' k w hs (Nat.le_refl _) hk hcl hout (fun j h1 h2 => by omega) (fun f o hfk ho hf => ?_) hlen ?_
    · have hflf := hfl' f o hfk ho hf
      have hfo := hfl f o hflf ho
      refine ⟨hfo, ?_⟩
      have hob' := hob vs' gs f o hfk ho w hb (fun j hjs hj => hRs j (by have := (bI (fb hok) (r := j) hjs f _ ho hj).1; omega))
      have hw : Region.wanted o (yielded ops (aB ops vs' (fun _ => true) (List.range f) a0).tmps) = true := by
        have hf' := hfo
        unfold bi at hf'
        simp only [Bool.and_eq_true] at hf'
        unfold Region.wanted
        cases hg : o.guard with
        | none => rfl
        | some g => rw [hg] at hf'; simp at hf'
      rw [if_pos hw] at hob'
      obtain ⟨v, hv, _, hDv, _, hR, _⟩ := lC hfo hob'
      have hvc := hcv2 f o hfk ho hflf vs' _ _ _ hR hDv
      have hvf := hcv2 f o hfk ho hflf vs' _ _ _ (hRs f hfk) (hDs f hfk)
      intro w'
      rw [cN (by omega), hv w', hvc, hvf]
    · rw [cN hk]
      exact hq vs' gs w hb hRs hPs hDs
  induction fuel with
  | zero =>
    intro listed vs gs w hs hcl hout hlen hb hr hp hcm hd
    have hl : aE ops listed = [] := List.length_eq_zero_iff.1 (by omega)
    refine hdone 0 listed vs gs w hs hcl (fun j o hj ho hjl => ?_) hout hlen hb hr hp hcm hd
    exfalso
    have : j ∈ aE ops listed := List.mem_filter.2 ⟨List.mem_range.2 (by omega), by rw [vJ hs (by omega) hjl]; rfl⟩
    rw [hl] at this; cases this
  | succ fuel ih =>
    intro listed vs gs w hs hcl hout hlen hb hr hp hcm hd
    by_cases hall : ∀ j o, j < k → ops[j]? = some o → listed.getD j false = false → fl j = true
    · exact hdone (fuel + 1) listed vs gs w hs hcl hall hout hlen hb hr hp hcm hd
    have hex : ∃ j o, j < k ∧ ops[j]? = some o ∧ listed.getD j false = false ∧ fl j = false := by
      apply Classical.byContradiction
      intro hn
      exact hall fun j o hj ho hl => by
        cases hf : fl j with
        | true => rfl
        | false => exact absurd ⟨j, o, hj, ho, hl, hf⟩ hn
    obtain ⟨j0, o0, hj0, ho0, hj0f, hf0⟩ := hex
    refine ⟨fun he => ?_, fun i hi => ?_⟩
    · exfalso
      cases hl : aE ops listed with
      | nil =>
        have : j0 ∈ aE ops listed := List.mem_filter.2 ⟨List.mem_range.2 (by omega), by rw [vJ hs (by omega) hj0f]; rfl⟩
        rw [hl] at this; cases this
      | cons i rest =>
        have := jt hok listed hs hl
        rw [he] at this; cases this
    obtain ⟨his, hil, hall'⟩ := iO hi
    have hoi := Array.getElem?_eq_getElem his
    have hni := Hx hs his hil
    have hmask : ∀ j, ((bG ops).getD i 0).testBit j = true → j < ops.size → listed.getD j false = true := fun j hj hjs => cB hok hcl hjs i _ hoi (hall' _ hoi) hj
    have hik : i < k := by
      apply Classical.byContradiction
      intro hn
      rcases hends i (by omega) his j0 (by omega) with h | ⟨_, hf⟩
      · have := hmask j0 h (by omega)
        rw [hj0f] at this; cases this
      · rw [hf0] at hf; cases hf
    have hlook := kL (a0 := a0) (vs := vs) hok hcl hoi hni (hall' _ hoi)
    rw [cN (by omega)] at hlook
    have hsel := fZ hok hoi
    have hob' := hob vs gs i _ hik hoi w hb (fun j hjs hj => hr j (by
      have := (bI (fb hok) (r := j) hjs i _ hoi hj).1
      omega) (hmask j hj hjs))
    have next : ∀ g v w', Below w.heap.size w w' → Dv i vs v → Rs i g v w' → Fr i w.heap.size g → wpAny P .any ops Q fuel (listed.setIfInBounds i true) ((aB ops vs (fun j => listed.getD j false) (List.range ops.size) a0).put (ops[i]).dst v) w' := by
      intro g v w' hb' hdv hv hfr
      rw [← eN hoi (List.range ops.size) a0 List.nodup_range (List.mem_range.2 his) (fun j _ hji o' ho' b u x => Act.put_comm b u x (fun d hd => (bX hok ho' hoi hji hd).1)) hni, eS hs his]
      refine ih _ _ (fun j => if j = i then g else gs j) w' (by simp [hs]) (ju hcl hall') (fun j hj => by rw [getD_set_ne false (by omega)]; exact hout j hj) (gg hs his hil hlen) (hb.trans (hb'.mono hb.size)) ?_ ?_ ?_ ?_
      · intro j hj hl
        by_cases e : j = i
        · subst e; simp only [if_true]; exact hv
        · simp only [if_neg e]
          rw [getD_set_ne false (fun h => e h.symm)] at hl
          exact hst _ _ _ _ _ hb' (hr j hj hl)
      · intro x y hx hy hlx hly hxy
        by_cases ex : x = i
        · subst ex
          have ey : y ≠ x := fun h => hxy h.symm
          simp only [if_true, if_neg ey]
          rw [getD_set_ne false (fun h => ey h.symm)] at hly
          exact uh _ _ _ _ _ w hxy hfr (hr y hy hly)
        · rw [getD_set_ne false (fun h => ex h.symm)] at hlx
          by_cases ey : y = i
          · subst ey
            simp only [if_true, if_neg ex]
            exact hsy _ _ _ _ (uh _ _ _ _ _ w (fun h => ex h.symm) hfr (hr x hx hlx))
          · simp only [if_neg ex, if_neg ey]
            rw [getD_set_ne false (fun h => ey h.symm)] at hly
            exact hp x y hx hy hlx hly hxy
      · intro j hl m hm hmm
        by_cases e : j = i
        · subst e
          by_cases em : m = j
          · subst em; simp [Array.getD_eq_getD_getElem?, hs, his]
          · rw [getD_set_ne false (fun h => em h.symm)]
            exact hmask m hmm hm
        · rw [getD_set_ne false (fun h => e h.symm)] at hl
          by_cases em : m = i
          · subst em; simp [Array.getD_eq_getD_getElem?, hs, his]
          · rw [getD_set_ne false (fun h => em h.symm)]
            exact hcm j hl m hm hmm
      · intro j hj hl
        by_cases e : j = i
        · subst e
          simp only [if_true]
          refine hdl j vs _ _ (fun m hm hmm _ => ?_) hdv
          have hml := hmask m hmm hm
          have hne : m ≠ j := fun h => by subst h; rw [hni] at hml; cases hml
          simp only [if_neg hne]
        · simp only [if_neg e]
          rw [getD_set_ne false (fun h => e h.symm)] at hl
          refine hdl j vs _ _ (fun m hm hmm _ => ?_) (hd j hj hl)
          have hml := hcm j hl m hm hmm
          have hne : m ≠ i := fun h => by subst h; rw [hni] at hml; cases hml
          simp only [if_neg hne]
    unfold wpOp
    simp only [hoi]
    rw [dK _ hlook]
    split
    · rename_i hw
      rw [if_pos hw] at hob'
      exact .inl (hob'.wp (dv _ hsel hlook) (fun v w' ⟨h1, hdv, g, h2, h3⟩ => next g v w' h1 hdv h2 h3))
    · rename_i hw
      rw [if_neg hw] at hob'
      obtain ⟨hdv, g, h1, h2⟩ := hob'
      exact next g undef w (Below.refl _ _) hdv h1 h2
theorem uu {id : Nat} {Q : Exit → Act → World → Prop} {a : Act} {w : World} {l : List Oper} (k : Nat) {G : Type} [Inhabited G] (Rs : Nat → G → Value → World → Prop) (Fr : Nat → Nat → G → Prop) (Pr : Nat → G → Nat → G → Prop) (Dv : Nat → (Nat → Value) → Value → Prop) (fl : Nat → Bool) (hfl : ∀ f o, fl f = true → l[f]? = some o → bi o = true) (hm : P.follows .mixedOrders = true)
    (hok : (mN l.toArray && Bn l.toArray k fl && Nat.ble k l.length) = true) (hst : ∀ i g v w w', Below w.heap.size w w' → Rs i g v w → Rs i g v w')
    (cv : (Nat → Value) → Nat → Value) (hcv1 : ∀ f o, f < k → l[f]? = some o → fl f = true → ∀ (vs : Nat → Value) (gs : Nat → G) (w : World), (∀ j, j < l.length → ((bG l.toArray).getD f 0).testBit j = true → fl j = false → Rs j (gs j) (vs j) w) → ∀ g, Rs f g (cv vs f) w ∧ Dv f vs (cv vs f)) (hcv2 : ∀ f o, f < k → l[f]? = some o → fl f = true → ∀ vs g v w, Rs f g v w → Dv f vs v → v = cv vs f)
    (uh : ∀ i j g g' v' w, i ≠ j → Fr i w.heap.size g → Rs j g' v' w → Pr i g j g') (hsy : ∀ i j g g', Pr i g j g' → Pr j g' i g) (hdl : ∀ i vs vs' v, (∀ j, j < l.length → ((bG l.toArray).getD i 0).testBit j = true → fl j = false → vs j = vs' j) → Dv i vs v → Dv i vs' v) (hpf : ∀ f o, f < k → l[f]? = some o → fl f = true → ∀ g j g', Pr f g j g')
    (hob : ∀ (vs : Nat → Value) (gs : Nat → G), ∀ i o, i < k → l[i]? = some o → GR P l.toArray Rs Fr Dv w.drew vs gs i o (aB l.toArray vs (fun _ => true) (List.range i) a))
    (hq : ∀ (vs : Nat → Value) (gs : Nat → G) (w1 : World), Below w.heap.size w w1 → (∀ i, i < k → Rs i (gs i) (vs i) w1) → (∀ i j, i < k → j < k → i ≠ j → Pr i (gs i) j (gs j)) → (∀ i, i < k → Dv i vs (vs i)) → oA P l.toArray (Q .normal) (l.drop k) (aB l.toArray vs (fun _ => true) (List.range k) a) w1) : (Code.region id l.toArray true).wp P Q a w := by
  simp only [Bool.and_eq_true] at hok
  have hkl := Nat.le_of_ble_eq_true hok.2
  refine wp_region_any hm ?_
  have := DS (P := P) (ops := l.toArray) (Rs := Rs) (Fr := Fr) (Pr := Pr) (Dv := Dv) (w0 := w.drew) (a0 := a) (Q := Q) (k := k) (by simpa using hkl) hok.1.1 fl (fun f o h1 ho => hfl f o h1 (by simpa using ho)) (wv hok.1.2) hst cv (fun f o hf ho hfl vs gs w h => hcv1 f o hf (by simpa using ho) hfl vs gs w (fun j hj => h j (by simpa using hj))) (fun f o hf ho => hcv2 f o hf (by simpa using ho))
    uh hsy (fun i vs vs' v h => hdl i vs vs' v (fun j hj => h j (by simpa using hj))) (fun f o hf ho => hpf f o hf (by simpa using ho))
    (fun vs gs i o hik hi => hob vs gs i o hik (by simpa using hi))
    (fun vs gs w1 hb hr hp hd => hq vs gs w1 ((Below.refl w.heap.size w).drew.trans hb) hr hp hd)
    l.toArray.size (Array.replicate l.toArray.size false) (fun _ => undef) (fun _ => default) w.drew (by simp) (fun j oj hj hl => by
      exfalso
      have := aW l.toArray.size j
      rw [this] at hl; cases hl) (fun j _ => aW _ j) (by rw [eM]; simp) (Below.refl _ _) (fun j hj hl => by
      exfalso
      have := aW l.toArray.size j
      rw [this] at hl; cases hl) (fun i j hi hj hl => by
      exfalso
      have := aW l.toArray.size i
      rw [this] at hl; cases hl) (fun j hl => by
      exfalso
      have := aW l.toArray.size j
      rw [this] at hl; cases hl) (fun j hj hl => by
      exfalso
      have := aW l.toArray.size j
      rw [this] at hl; cases hl)
  rw [bH (vs' := fun _ => undef) (L' := fun _ => false) _ _ (fun j _ => ⟨aW _ j, fun h => rfl⟩), dp] at this
  exact this
end
end Go.Proofs.YtklcfjlmlbnkaaaGreatDoor
namespace Go.Proofs.YtklcfjlmlbnkaaaGreatDoor.Y
open Go.RowKit
def DT (O : Nat → Prop) (e : EX) (N : Nat) (g : Nat → Prop) (v : Value) (w : World) : Prop := ∃ s, e.Ψ s ∧ v = e.V s ∧ MemL N w (e.E s) ∧ (∀ f ∈ e.E s, ∀ b, f.mut b → g b) ∧ (∀ f ∈ e.E s, ∀ b, f.foot b → g b ∨ O b) ∧ ∀ b, g b → N ≤ b ∧ b < w.heap.size
theorem Bo {O : Nat → Prop} {e : EX} {N : Nat} {g : Nat → Prop} {v : Value} {w w' : World} (hb : Below w.heap.size w w') (h : DT O e N g v w) : DT O e N g v w' := by
  obtain ⟨s, h1, h2, h3, h4, h5, h6⟩ := h
  exact ⟨s, h1, h2, h3.keep hb, h4, h5, fun b hvb => ⟨(h6 b hvb).1, Nat.lt_of_lt_of_le (h6 b hvb).2 hb.size⟩⟩
theorem Bp {O : Nat → Prop} {e : EX} {N N' : Nat} {g : Nat → Prop} {v : Value} {w : World} (hN : N' ≤ N) (h : DT O e N g v w) : DT O e N' g v w := by
  obtain ⟨s, h1, h2, h3, h4, h5, h6⟩ := h
  exact ⟨s, h1, h2, h3.mono hN, h4, h5, fun b hvb => ⟨Nat.le_trans hN (h6 b hvb).1, (h6 b hvb).2⟩⟩
inductive RV where
  | con (L : Cd) (c : Value)
  | ex (e : EX)
  | der (p : Nat) (f : Value → Value) (G : Value → Prop)
abbrev ww := List (Nat × Nat × (Value → Prop))
def HQ (O : Nat → Prop) (ds dl d2 : List Nat) (P : Program) (l0 : List Oper) (n : Nat) (w0 : World) (M : List Ent) (i : Nat) (C : ww) (o : Oper) (S : bq) : RV → Prop
  | .con L c => gd l0 S o.guard = some L ∧ VX P w0 S M L o c ∧ ∃ d, o.dst = some d ∧ d < n ∧ dl.contains d = false
  | .ex e => o.guard = none ∧ (∀ a w, Sl n a S → Mem w0 w M → Vals P o a w fun v w' => (∃ g, DT O e w.heap.size g v w') ∧ Below w.heap.size w w') ∧ o.dst = some e.d ∧ e.d < n ∧ bi o = false ∧ e.d ∈ ds ∧ dl.contains e.d = false
  | .der p f G => o.guard = none ∧ ∃ t R d, lk p C = some (t, R) ∧ o.dst = some d ∧ d < n ∧ d ∈ dl ∧ d2.contains t = false ∧ ((bG l0.toArray).getD i 0).testBit p = true ∧ ∀ x, R x → G (f x) ∧ ∀ (a : Act) (w : World), a.tmps[t]? = some x → (execOp a.eval o).run P w = .ok (.value (f x)) w
def lJ (i : Nat) (o : Oper) (r : RV) (C : ww) : ww := match r, o.dst with
  | .ex e, some d => (i, d, fun x => ∃ s, e.Ψ s ∧ x = e.V s) :: C
  | .der _ _ G, some d => (i, d, G) :: C
  | _, _ => C
def iB (o : Oper) (r : RV) (S : bq) : bq := match r, o.dst with
  | .con L c, some d => (d, L, c) :: S
  | _, _ => S
def Gt (O : Nat → Prop) (ds dl d2 : List Nat) (P : Program) (l0 : List Oper) (n : Nat) (w0 : World) (M : List Ent) : Nat → ww → List Oper → bq → List RV → Prop
  | _, _, [], _, [] => True
  | i, C, o :: l, S, r :: rs => HQ O ds dl d2 P l0 n w0 M i C o S r ∧ Gt O ds dl d2 P l0 n w0 M (i + 1) (lJ i o r C) l (iB o r S) rs
  | _, _, _, _, _ => False
def iD : List Oper → List RV → bq → bq
  | o :: l, r :: rs, S => iD l rs (iB o r S)
  | _, _, S => S
def nL : Nat → List Oper → List RV → ww → ww
  | i, o :: l, r :: rs, C => nL (i + 1) l rs (lJ i o r C)
  | _, _, _, C => C
inductive OU where
  | ex (e : EX)
  | der (d p : Nat) (f : Value → Value)
def OU.d : OU → Nat
  | .ex e => e.d
  | .der d _ _ => d
def je : Nat → List Oper → List RV → List (Nat × OU)
  | i, _ :: l, .ex e :: rs => (i, .ex e) :: je (i + 1) l rs
  | i, o :: l, .der p f _ :: rs => (i, .der (o.dst.getD 0) p f) :: je (i + 1) l rs
  | i, _ :: l, .con _ _ :: rs => je (i + 1) l rs
  | _, _, _ => []
def lx (P : Program) (l0 : List Oper) (Q : Exit → Act → World → Prop) (tail : List Oper) (n : Nat) (w0 : World) : List (Nat × Value) → List Ent → bq → List (Nat × OU) → Prop
  | _, M, S, [] => SL P l0 Q tail n w0 S M
  | env, M, S, (i, .ex e) :: r => ∀ s, e.Ψ s → lx P l0 Q tail n w0 ((i, e.V s) :: env) (e.E s ++ M) ((e.d, [], e.V s) :: S) r
  | env, M, S, (i, .der d p f) :: r => ∃ x, lk p env = some x ∧ lx P l0 Q tail n w0 ((i, f x) :: env) M ((d, [], f x) :: S) r
theorem zi : ∀ (i : Nat) (l : List Oper) (rs : List RV), ∀ q ∈ je i l rs, ∃ j, q.1 = i + j ∧ ((∃ e, rs[j]? = some (.ex e) ∧ q.2 = .ex e) ∨ (∃ p f G o, rs[j]? = some (.der p f G) ∧ l[j]? = some o ∧ q.2 = .der (o.dst.getD 0) p f))
  | _, [], rs, q, h => by cases rs with | nil => cases h | cons r rs => cases r <;> cases h
  | _, _ :: _, [], q, h => by cases h
  | i, o :: l, .con L c :: rs, q, h => by
    obtain ⟨j, h1, h2⟩ := zi (i + 1) l rs q h
    exact ⟨j + 1, by omega, by simpa using h2⟩
  | i, o :: l, .ex e :: rs, q, h => by
    rcases List.mem_cons.1 h with rfl | h
    · exact ⟨0, rfl, .inl ⟨e, rfl, rfl⟩⟩
    · obtain ⟨j, h1, h2⟩ := zi (i + 1) l rs q h
      exact ⟨j + 1, by omega, by simpa using h2⟩
  | i, o :: l, .der p f G :: rs, q, h => by
    rcases List.mem_cons.1 h with rfl | h
    · exact ⟨0, rfl, .inr ⟨p, f, G, o, rfl, rfl, rfl⟩⟩
    · obtain ⟨j, h1, h2⟩ := zi (i + 1) l rs q h
      exact ⟨j + 1, by omega, by simpa using h2⟩
theorem nW : ∀ (i : Nat) (l : List Oper) (rs : List RV), (je i l rs).Pairwise (fun p q => p.1 < q.1)
  | _, [], rs => by cases rs with | nil => exact List.Pairwise.nil | cons r rs => cases r <;> exact List.Pairwise.nil
  | _, _ :: _, [] => List.Pairwise.nil
  | i, _ :: l, .con L c :: rs => nW (i + 1) l rs
  | i, _ :: l, .ex e :: rs => List.Pairwise.cons (fun q hq => by obtain ⟨j, h1, _⟩ := zi _ _ _ q hq; show i < q.1; omega) (nW (i + 1) l rs)
  | i, _ :: l, .der p f G :: rs => List.Pairwise.cons (fun q hq => by obtain ⟨j, h1, _⟩ := zi _ _ _ q hq; show i < q.1; omega) (nW (i + 1) l rs)
theorem nh {P : Program} {l0 : List Oper} {Q : Exit → Act → World → Prop} {tail : List Oper} {n : Nat} {w0 w1 : World} {a : Act} {N : Nat} {vs : Nat → Value} {O : Nat → Prop} {gs : Nat → Nat → Prop} (hN : w0.heap.size ≤ N) (hO2 : ∀ b, O b → b < N) : ∀ (es : List (Nat × OU)) (env : List (Nat × Value)) (S : bq) (M : List Ent),
    lx P l0 Q tail n w0 env M S es → a.defers = [] → a.tmps.size = n →
    (∀ t L v, lk t S = some (L, v) → (∀ p ∈ es, p.2.d ≠ t) → a.tmps[t]? = some (if az L then v else undef)) → Mem w0 w1 M →
    (∀ p ∈ es, (match p.2 with | .ex e => DT O e N (gs p.1) (vs p.1) w1 | .der _ q f => vs p.1 = f (vs q)) ∧ a.tmps[p.2.d]? = some (vs p.1)) → es.Pairwise (fun p q => (∀ e e', p.2 = .ex e → q.2 = .ex e' → ∀ b, gs p.1 b → gs q.1 b → False) ∧ p.2.d ≠ q.2.d) →
    (∀ p ∈ es, ∀ e, p.2 = .ex e → ∀ b, gs p.1 b → ∀ f ∈ M, f.foot b → False) → (∀ b, O b → ∀ f ∈ M, f.mut b → False) → (∀ p x, lk p env = some x → vs p = x) → oA P l0.toArray (Q .normal) tail a w1
  | [], env, S, M, h, h1, h2, h3, hM, _, _, _, _, _ => SL.run h a w1 ⟨h1, h2, fun t L v ht => h3 t L v ht (fun p hp => by cases hp)⟩ hM
  | (i, .der d q f) :: es, env, S, M, h, h1, h2, h3, hM, hr, hp, hf, hO, henv => by
    obtain ⟨x, hx, ht⟩ := h
    obtain ⟨hv, hslot⟩ := hr _ (List.mem_cons_self ..)
    obtain ⟨hp1, hp2⟩ := List.pairwise_cons.1 hp
    dsimp only [OU.d] at hv hslot
    rw [henv q x hx] at hv
    refine nh hN hO2 es _ _ _ ht h1 h2 (fun t L v ht hne => ?_) hM (fun q hq => hr q (List.mem_cons_of_mem _ hq)) hp2 (fun q hq => hf q (List.mem_cons_of_mem _ hq)) hO (fun p y hy => ?_)
    · rw [dU] at ht
      by_cases e : d = t
      · rw [if_pos e] at ht
        obtain ⟨rfl, rfl⟩ := (by simpa using ht)
        subst e
        rw [hslot, hv]; simp [az]
      · rw [if_neg e] at ht
        exact h3 t L v ht (fun q hq => by
          rcases List.mem_cons.1 hq with rfl | hq
          · exact e
          · exact hne q hq)
    · rw [dU] at hy
      by_cases e : i = p
      · rw [if_pos e] at hy
        obtain rfl := Option.some.inj hy
        subst e
        exact hv
      · rw [if_neg e] at hy
        exact henv p y hy
  | (i, .ex ee) :: es, env, S, M, h, h1, h2, h3, hM, hr, hp, hf, hO, henv => by
    obtain ⟨hv, hslot⟩ := hr _ (List.mem_cons_self ..)
    dsimp only [OU.d] at hv hslot
    obtain ⟨s, hs1, hs2, hs3, hs4, hs5, hs6⟩ := hv
    obtain ⟨hp1, hp2⟩ := List.pairwise_cons.1 hp
    refine nh hN hO2 es _ _ _ (h s hs1) h1 h2 (fun t L v ht hne => ?_) ⟨hM.1, MemL.join (hs3.mono hN) hM.2 (fun e he f hfM k => ⟨fun hk1 hk2 => ?_, fun hk1 hk2 => ?_⟩)⟩ (fun q hq => hr q (List.mem_cons_of_mem _ hq)) hp2 (fun q hq e hqe b hb f hfm hfb => ?_) (fun b hb f hfm hfb => ?_) (fun p y hy => ?_)
    · rw [dU] at ht
      by_cases e : ee.d = t
      · rw [if_pos e] at ht
        obtain ⟨rfl, rfl⟩ := (by simpa using ht)
        subst e
        rw [hslot, hs2]; simp [az]
      · rw [if_neg e] at ht
        exact h3 t L v ht (fun q hq => by
          rcases List.mem_cons.1 hq with rfl | hq
          · exact e
          · exact hne q hq)
    · exact hf _ (List.mem_cons_self ..) ee rfl k (hs4 e he k hk1) f hfM hk2
    · rcases hs5 e he k hk2 with h9 | h9
      · exact hf _ (List.mem_cons_self ..) ee rfl k h9 f hfM (Ent.mut_foot hk1)
      · exact hO k h9 f hfM hk1
    · rcases List.mem_append.1 hfm with hfE | hfM
      · rcases hs5 f hfE b hfb with h9 | h9
        · exact (hp1 q hq).1 ee e rfl hqe b h9 hb
        · obtain ⟨h8, _⟩ := hr q (List.mem_cons_of_mem _ hq)
          rw [hqe] at h8
          obtain ⟨_, _, _, _, _, _, h6⟩ := h8
          have := (h6 b hb).1
          have := hO2 b h9
          omega
      · exact hf q (List.mem_cons_of_mem _ hq) e hqe b hb f hfM hfb
    · rcases List.mem_append.1 hfm with hfE | hfM
      · have := (hs6 b (hs4 f hfE b hfb)).1
        have := hO2 b hb
        omega
      · exact hO b hb f hfM hfb
    · rw [dU] at hy
      by_cases e : i = p
      · rw [if_pos e] at hy
        obtain rfl := Option.some.inj hy
        subst e
        exact hs2
      · rw [if_neg e] at hy
        exact henv p y hy
structure qf (O : Nat → Prop) (ds dl d2 : List Nat) (P : Program) (l0 : List Oper) (Q : Exit → Act → World → Prop) (l tail : List Oper) (n : Nat) (w0 : World) (M : List Ent) (S : bq) (i : Nat) (C : ww) (es : List (Nat × OU)) : Prop where
  run : ∃ rs, Gt O ds dl d2 P l0 n w0 M i C l S rs ∧ lx P l0 Q tail n w0 [] M (iD l rs S) (es ++ je i l rs)
def Fz (k : Nat) : Value → Value
  | .tuple ⟨l⟩ => (dI l k).getD undef
  | _ => undef
section
variable {P : Program} {l0 rest tail : List Oper} {Q : Exit → Act → World → Prop} {n : Nat} {w0 : World} {S : bq} {M : List Ent} {L : Cd} {o : Oper} {d i : Nat} {es : List (Nat × OU)} {ds dl d2 : List Nat} {O : Nat → Prop} {C : ww} {env : List (Nat × Value)}
theorem jB (h : SL P l0 Q tail n w0 S M) : lx P l0 Q tail n w0 env M S [] := h
theorem fE {e : EX} (h : ∀ s, e.Ψ s → lx P l0 Q tail n w0 ((i, e.V s) :: env) (e.E s ++ M) ((e.d, [], e.V s) :: S) es) : lx P l0 Q tail n w0 env M S ((i, .ex e) :: es) := h
theorem lK {p : Nat} {f : Value → Value} {x : Value} (v : Value) (h1 : lk p env = some x) (h2 : f x = v) (h : lx P l0 Q tail n w0 ((i, v) :: env) M ((d, [], v) :: S) es) : lx P l0 Q tail n w0 env M S ((i, .der d p f) :: es) := ⟨x, h1, by rw [h2]; exact h⟩
theorem gy (h : lx P l0 Q tail n w0 [] M S es) : qf O ds dl d2 P l0 Q [] tail n w0 M S i C es := ⟨[], trivial, by simpa [je, iD] using h⟩
theorem DU {c : Value} (hg : gd l0 S o.guard = some L) (hv : VX P w0 S M L o c) (hd : o.dst = some d) (hn : Nat.blt d n = true) (hi : dl.contains d = false) (h : qf O ds dl d2 P l0 Q rest tail n w0 M ((d, L, c) :: S) (i + 1) C es) : qf O ds dl d2 P l0 Q (o :: rest) tail n w0 M S i C es := by
  obtain ⟨rs, h1, h2⟩ := h.run
  have hs : iB o (.con L c) S = (d, L, c) :: S := by simp [iB, hd]
  have hc : lJ i o (.con L c) C = C := by simp [lJ]
  exact ⟨.con L c :: rs, ⟨⟨hg, hv, d, hd, Nat.le_of_ble_eq_true hn, hi⟩, by rw [hs, hc]; exact h1⟩, by simp only [iD, je, hs]; exact h2⟩
theorem ff {v : Value} (hg : gd l0 S o.guard = some L) (hv : VO P w0 S M L o v) (hd : o.dst = some d) (hn : Nat.blt d n = true) (hi : dl.contains d = false) (h : qf O ds dl d2 P l0 Q rest tail n w0 M ((d, L, v) :: S) (i + 1) C es) : qf O ds dl d2 P l0 Q (o :: rest) tail n w0 M S i C es :=
  DU hg (fun n a w hS hM hL => aX (hv n a w hS hM hL) ⟨rfl, Below.refl _ _⟩) hd hn hi h
theorem wz (e : EX) (hg : o.guard = none) (hv : ∀ a w, Sl n a S → Mem w0 w M → Vals P o a w fun v w' => (∃ g, DT O e w.heap.size g v w') ∧ Below w.heap.size w w') (hd : o.dst = some e.d) (hn : Nat.blt e.d n = true) (hf : bi o = false) (hi : ds.contains e.d = true) (hi2 : dl.contains e.d = false)
    (h : qf O ds dl d2 P l0 Q rest tail n w0 M S (i + 1) ((i, e.d, fun x => ∃ s, e.Ψ s ∧ x = e.V s) :: C) (es ++ [(i, .ex e)])) : qf O ds dl d2 P l0 Q (o :: rest) tail n w0 M S i C es := by
  obtain ⟨rs, h1, h2⟩ := h.run
  have hs : iB o (.ex e) S = S := by simp [iB]
  have hc : lJ i o (.ex e) C = (i, e.d, fun x => ∃ s, e.Ψ s ∧ x = e.V s) :: C := by simp [lJ, hd]
  refine ⟨.ex e :: rs, ⟨⟨hg, hv, hd, Nat.le_of_ble_eq_true hn, hf, by simpa using hi, hi2⟩, by rw [hs, hc]; exact h1⟩, ?_⟩
  simp only [iD, je, hs]
  simpa using h2
theorem xP (p : Nat) (f : Value → Value) (G : Value → Prop) {t : Nat} {R : Value → Prop} (hg : o.guard = none) (hp : lk p C = some (t, R)) (hd : o.dst = some d) (hn : Nat.blt d n = true) (hi : dl.contains d = true) (hi2 : d2.contains t = false) (hm : ((bG l0.toArray).getD i 0).testBit p = true)
    (hx : ∀ x, R x → G (f x) ∧ ∀ (a : Act) (w : World), a.tmps[t]? = some x → (execOp a.eval o).run P w = .ok (.value (f x)) w)
    (h : qf O ds dl d2 P l0 Q rest tail n w0 M S (i + 1) ((i, d, G) :: C) (es ++ [(i, .der d p f)])) : qf O ds dl d2 P l0 Q (o :: rest) tail n w0 M S i C es := by
  obtain ⟨rs, h1, h2⟩ := h.run
  have hs : iB o (.der p f G) S = S := by simp [iB]
  have hc : lJ i o (.der p f G) C = (i, d, G) :: C := by simp [lJ, hd]
  refine ⟨.der p f G :: rs, ⟨⟨hg, t, R, d, hp, hd, Nat.le_of_ble_eq_true hn, by simpa using hi, hi2, hm, hx⟩, by rw [hs, hc]; exact h1⟩, ?_⟩
  simp only [iD, je, hs, hd, Option.getD_some]
  simpa using h2
theorem jf (p : Nat) {t : Nat} {R : Value → Prop} (h1 : o.op = .move (.tmp t)) (hg : o.guard = none) (hp : lk p C = some (t, R)) (hd : o.dst = some d) (hn : Nat.blt d n = true) (hi : dl.contains d = true) (hi2 : d2.contains t = false) (hm : ((bG l0.toArray).getD i 0).testBit p = true)
    (h : qf O ds dl d2 P l0 Q rest tail n w0 M S (i + 1) ((i, d, R) :: C) (es ++ [(i, .der d p id)])) : qf O ds dl d2 P l0 Q (o :: rest) tail n w0 M S i C es :=
  xP p id R hg hp hd hn hi hi2 hm (fun x hx => ⟨hx, fun a w ha => by
    unfold execOp
    simp only [h1, Act.eval, Array.getD_eq_getD_getElem?, ha]
    rfl⟩) h
theorem cT (p k : Nat) {t m : Nat} {R : Value → Prop} (h1 : o.op = .extract (.tmp t) k) (hk : Nat.blt k m = true) (hR : ∀ x, R x → ∃ l : List Value, x = .tuple ⟨l⟩ ∧ l.length = m) (hg : o.guard = none) (hp : lk p C = some (t, R)) (hd : o.dst = some d) (hn : Nat.blt d n = true) (hi : dl.contains d = true) (hi2 : d2.contains t = false) (hm : ((bG l0.toArray).getD i 0).testBit p = true)
    (h : qf O ds dl d2 P l0 Q rest tail n w0 M S (i + 1) ((i, d, fun _ => True) :: C) (es ++ [(i, .der d p (Fz k))])) : qf O ds dl d2 P l0 Q (o :: rest) tail n w0 M S i C es :=
  xP p (Fz k) (fun _ => True) hg hp hd hn hi hi2 hm (fun x hx => ⟨trivial, fun a w ha => by
    obtain ⟨l, rfl, hl⟩ := hR x hx
    have hkl : k < l.length := by rw [hl]; rw [Nat.blt_eq] at hk; exact hk
    have h9 : Fz k (.tuple ⟨l⟩) = l[k] := by show (dI l k).getD undef = _; rw [gM, List.getElem?_eq_getElem hkl]; rfl
    rw [h9]
    unfold execOp
    simp only [h1, Act.eval, Array.getD_eq_getD_getElem?, ha]
    simp [Instr.extract, hkl]⟩) h
theorem gE {σ : Type} {f : FuncId} {args : List Value} (Ψ : σ → Prop) (V : σ → Value) (E : σ → List Ent) (hg : o.guard = none) (ho : dd P S [] o f args)
    (hc : ∀ w, Mem w0 w M → Calls P f ⟨args⟩ w fun e w' => (∃ s, ∃ g : Nat → Prop, Ψ s ∧ e = .returned (V s) ∧ MemL w.heap.size w' (E s) ∧ (∀ f ∈ E s, ∀ b, f.mut b → g b) ∧ (∀ f ∈ E s, ∀ b, f.foot b → g b ∨ O b) ∧ ∀ b, g b → w.heap.size ≤ b ∧ b < w'.heap.size) ∧ Below w.heap.size w w')
    (hd : o.dst = some d) (hn : Nat.blt d n = true) (hf : bi o = false) (hi : ds.contains d = true) (hi2 : dl.contains d = false) (h : qf O ds dl d2 P l0 Q rest tail n w0 M S (i + 1) ((i, d, fun x => ∃ s, Ψ s ∧ x = V s) :: C) (es ++ [(i, .ex ⟨d, σ, Ψ, V, E⟩)])) : qf O ds dl d2 P l0 Q (o :: rest) tail n w0 M S i C es :=
  wz ⟨d, σ, Ψ, V, E⟩ hg (fun a w hS hM => cW (ho.ok n a w hS rfl) ((hc w hM).mono fun _ _ ⟨⟨s, g, h1, h2, h3, h4, h5, h6⟩, h7⟩ => ⟨V s, h2, ⟨g, s, h1, rfl, h3, h4, h5, h6⟩, h7⟩)) hd hn hf hi hi2 h
theorem kW {T : eo} (hT : TOK P T) {t : TypeId} {td : TD} {cs : List Value} (h1 : o.op = .alloc t) (hg : o.guard = none) (h2 : lk t T = some td) (h3 : iS td = some cs) (hd : o.dst = some d) (hn : Nat.blt d n = true) (hi : ds.contains d = true) (hi2 : dl.contains d = false)
    (h : qf O ds dl d2 P l0 Q rest tail n w0 M S (i + 1) ((i, d, fun x => ∃ g : Nat, True ∧ x = .pointer (some ⟨g, 0, none⟩)) :: C) (es ++ [(i, .ex ⟨d, Nat, fun _ => True, fun g => .pointer (some ⟨g, 0, none⟩), fun g => [.obj g (.cells ⟨cs⟩ t (0, 0))]⟩)])) : qf O ds dl d2 P l0 Q (o :: rest) tail n w0 M S i C es := by
  refine wz ⟨d, Nat, fun _ => True, fun g => .pointer (some ⟨g, 0, none⟩), fun g => [.obj g (.cells ⟨cs⟩ t (0, 0))]⟩ hg (fun a w hS hM => ?_) hd hn (by unfold bi; rw [h1]; cases o.guard <;> rfl) hi hi2 h
  obtain ⟨i, hi, _, hz⟩ := bu (hT.get h2)
  have hrun : (execOp a.eval o).run P w = .ok (.value (.pointer (some ⟨w.heap.size, 0, none⟩))) (w.alloc (.cells ⟨cs⟩ t (0, 0))) := by
    unfold execOp
    simp only [h1, Instr.alloc, Sem.run_bind, iR hi hz, Result.andThen_ok, newVar, newRow, jY h3]
    rfl
  refine aX hrun ⟨⟨fun b => b = w.heap.size, w.heap.size, trivial, rfl, ⟨⟨Nat.le_refl _, heap_alloc_new w _⟩, ⟨fun f hf => (by cases hf), trivial⟩⟩, fun f hf b hb => ?_, fun f hf b hb => ?_, fun b hb => ?_⟩, (Below.refl _ _).alloc (Nat.le_refl _) _⟩
  · obtain rfl : f = _ := by simpa using hf
    exact hb
  · obtain rfl : f = _ := by simpa using hf
    exact .inl hb
  · have hb' : b = w.heap.size := hb
    subst hb'
    exact ⟨Nat.le_refl _, gN (heap_alloc_new w _)⟩
end
def Da (rs : List RV) (j : Nat) : Value := match rs[j]? with
  | some (.con L c) => if az L then c else undef
  | _ => undef
def mL (rs : List RV) (j : Nat) : Bool := match rs[j]? with
  | some (.con _ _) => true
  | _ => false
def sV (O : Nat → Prop) (N : Nat) (rs : List RV) (i : Nat) (g : Nat → Prop) (v : Value) (w : World) : Prop := match rs[i]? with
  | some (.con L c) => v = if az L then c else undef
  | some (.ex e) => DT O e N g v w
  | some (.der _ _ G) => G v
  | none => True
def ET (rs : List RV) (i N : Nat) (g : Nat → Prop) : Prop := match rs[i]? with
  | some (.ex _) => ∀ b, g b → N ≤ b
  | _ => True
def Gu (rs : List RV) (i : Nat) (g : Nat → Prop) (j : Nat) (g' : Nat → Prop) : Prop := match rs[i]?, rs[j]? with
  | some (.ex _), some (.ex _) => ∀ b, g b → g' b → False
  | _, _ => True
def Aj (rs : List RV) (i : Nat) (vs : Nat → Value) (v : Value) : Prop := match rs[i]? with
  | some (.der p f _) => v = f (vs p)
  | _ => True
theorem xQ {O : Nat → Prop} {ds dl d2 : List Nat} {P : Program} {l0 : List Oper} {n : Nat} {w0 : World} {M : List Ent} : ∀ {l : List Oper} {i : Nat} {C : ww} {S : bq} {rs : List RV}, Gt O ds dl d2 P l0 n w0 M i C l S rs → rs.length = l.length
  | [], _, _, _, [], _ => rfl
  | [], _, _, _, _ :: _, h => h.elim
  | _ :: _, _, _, _, [], h => h.elim
  | _ :: l, _, _, _, _ :: rs, h => by simp [xQ h.2]
theorem Bq {O : Nat → Prop} {ds dl d2 : List Nat} {P : Program} {l0 : List Oper} {n : Nat} {w0 : World} {M : List Ent} : ∀ {l : List Oper} {m : Nat} {C : ww} {S : bq} {rs : List RV}, Gt O ds dl d2 P l0 n w0 M m C l S rs → ∀ i o, l[i]? = some o → ∃ r, rs[i]? = some r ∧ HQ O ds dl d2 P l0 n w0 M (m + i) (nL m (l.take i) (rs.take i) C) o (iD (l.take i) (rs.take i) S) r
  | [], _, _, _, _, _, i, o, hi => by simp at hi
  | _ :: _, _, _, _, [], h, _, _, _ => h.elim
  | x :: l, m, C, S, r :: rs, h, i, o, hi => by
    cases i with
    | zero =>
      obtain rfl := (by simpa using hi)
      exact ⟨r, rfl, h.1⟩
    | succ i =>
      obtain ⟨r', hr', ho⟩ := Bq h.2 i o (by simpa using hi)
      refine ⟨r', by simpa using hr', ?_⟩
      rw [show m + (i + 1) = m + 1 + i by omega]
      simpa [iD, nL] using ho
theorem uv {l0 : List Oper} {rs0 : List RV} (Z : Nat → Nat × (Value → Prop) → Prop) : ∀ (l : List Oper) (rs : List RV) (m : Nat) (C : ww), (∀ p x, lk p C = some x → Z p x) → (∀ j o r, l[j]? = some o → rs[j]? = some r → (∀ e d, r = .ex e → o.dst = some d → Z (m + j) (d, fun x => ∃ s, e.Ψ s ∧ x = e.V s)) ∧ ∀ p f G d, r = .der p f G → o.dst = some d → Z (m + j) (d, G)) → ∀ p x, lk p (nL m l rs C) = some x → Z p x
  | [], rs, m, C, hC, _ => by
    intro p x h
    have e : nL m [] rs C = C := by cases rs <;> rfl
    rw [e] at h
    exact hC p x h
  | _ :: _, [], m, C, hC, _ => hC
  | o :: l, r :: rs, m, C, hC, hZ => by
    refine uv (l0 := l0) (rs0 := rs0) Z l rs (m + 1) (lJ m o r C) (fun p x h => ?_) (fun j o' r' h1 h2 => by
      have := hZ (j + 1) o' r' (by simpa using h1) (by simpa using h2)
      rw [show m + (j + 1) = m + 1 + j by omega] at this
      exact this)
    have h0 := hZ 0 o r J J
    cases hd : o.dst with
    | none =>
      have e : lJ m o r C = C := by unfold lJ; rw [hd]; cases r <;> rfl
      rw [e] at h
      exact hC p x h
    | some d =>
      cases r with
      | con L c => exact hC p x h
      | ex e =>
        have e1 : lJ m o (.ex e) C = (m, d, fun x => ∃ s, e.Ψ s ∧ x = e.V s) :: C := by simp [lJ, hd]
        rw [e1, dU] at h
        by_cases hmp : m = p
        · rw [if_pos hmp] at h
          obtain rfl := Option.some.inj h
          subst hmp
          exact h0.1 e d rfl hd
        · rw [if_neg hmp] at h
          exact hC p x h
      | der q f G =>
        have e1 : lJ m o (.der q f G) C = (m, d, G) :: C := by simp [lJ, hd]
        rw [e1, dU] at h
        by_cases hmp : m = p
        · rw [if_pos hmp] at h
          obtain rfl := Option.some.inj h
          subst hmp
          exact h0.2 q f G d rfl hd
        · rw [if_neg hmp] at h
          exact hC p x h
theorem uw {O : Nat → Prop} {ds dl d2 : List Nat} {ops : Array Oper} {P : Program} {l0 : List Oper} {n : Nat} {w0 : World} {M : List Ent} {rs0 : List RV} : ∀ {l : List Oper} {rs : List RV} {C : ww} {S : bq} {a : Act} (m i : Nat), (∀ j, j < i → l[j]? = ops[m + j]?) → (∀ j, j < i → rs[j]? = rs0[m + j]?) → Gt O ds dl d2 P l0 n w0 M m C l S rs → i ≤ l.length → Sl n a S →
    Sl n (aB ops (Da rs0) (mL rs0) (List.range' m i) a) (iD (l.take i) (rs.take i) S)
  | l, rs, C, S, a, m, 0, _, _, _, _, hS => by simpa [aB, iD] using hS
  | [], _, _, _, _, _, i + 1, _, _, _, hi, _ => by simp at hi
  | _ :: _, [], _, _, _, _, _ + 1, _, _, h, _, _ => h.elim
  | o :: l, r :: rs, C, S, a, m, i + 1, hl, hr, h, hi, hS => by
    have h0 : ops[m]? = some o := by simpa using (hl 0 (by omega)).symm
    have hr0 : rs0[m]? = some r := by simpa using (hr 0 (by omega)).symm
    have hrest := fun (a' : Act) (S' : bq) (C' : ww) (hS' : Sl n a' S') (h' : Gt O ds dl d2 P l0 n w0 M (m + 1) C' l S' rs) => uw (ops := ops) (rs0 := rs0) (a := a') (m + 1) i (fun j hj => by have := hl (j + 1) (by omega); rw [show m + (j + 1) = m + 1 + j by omega] at this; simpa using this)
      (fun j hj => by have := hr (j + 1) (by omega); rw [show m + (j + 1) = m + 1 + j by omega] at this; simpa using this) h' (by simpa using hi) hS'
    rw [List.range'_succ]
    unfold aB
    simp only [h0, List.take_succ_cons, iD]
    cases r with
    | con L c =>
      obtain ⟨⟨_, _, d, hd, hdn, _⟩, h2⟩ := h
      have e1 : mL rs0 m = true := by simp [mL, hr0]
      have e2 : Da rs0 m = if az L then c else undef := by simp [Da, hr0]
      have e3 : iB o (.con L c) S = (d, L, c) :: S := by simp [iB, hd]
      rw [e3] at h2 ⊢
      rw [e1, e2, hd]
      simp only [if_true]
      exact hrest _ _ _ (hS.put hdn rfl) h2
    | ex e =>
      have e1 : mL rs0 m = false := by simp [mL, hr0]
      have e3 : iB o (.ex e) S = S := by simp [iB]
      rw [e1, e3]
      simp only [Bool.false_eq_true, if_false]
      obtain ⟨_, h2⟩ := h
      rw [e3] at h2
      exact hrest _ _ _ hS h2
    | der p f G =>
      have e1 : mL rs0 m = false := by simp [mL, hr0]
      have e3 : iB o (.der p f G) S = S := by simp [iB]
      rw [e1, e3]
      simp only [Bool.false_eq_true, if_false]
      obtain ⟨_, h2⟩ := h
      rw [e3] at h2
      exact hrest _ _ _ hS h2
def Ak (o : Oper) (dl : List Nat) : Bool := match o.dst with
  | some d => dl.contains d
  | none => false
def FA (l : List Oper) (dl d2 : List Nat) (i : Nat) : Bool := match l[i]? with
  | some o => bi o && (!Ak o dl || Ak o d2)
  | none => false
def GS (l : List Oper) (k : Nat) (ds dl : List Nat) : Bool := (ds ++ dl).all fun d => (l.take k).all fun oi => Ak oi dl || !(oi.looksAt l.toArray).contains d
theorem cU {P : Program} {Q : Exit → Act → World → Prop} {n : Nat} {w0 : World} {S : bq} {M : List Ent} {id : Nat} {l l1 l2 : List Oper} (O : Nat → Prop) (k : Nat) (ds dl d2 : List Nat) (hO : ∀ w, Mem w0 w M → ∀ b, O b → b < w.heap.size ∧ ∀ f ∈ M, ¬ f.mut b) (hm : P.follows .mixedOrders = true) (hs : ke l k = some (l1, l2))
    (hok : (mN l.toArray && Bn l.toArray k (FA l dl d2) && Nat.ble k l.length && GS l k ds dl) = true) (h : qf O ds dl d2 P l Q l1 l2 n w0 M S 0 [] []) : SC P (.region id l.toArray true) Q n w0 S M := by
  obtain ⟨rfl, rfl, hkl⟩ := kP hs
  rw [Bool.and_eq_true] at hok
  obtain ⟨hok, hfree⟩ := hok
  obtain ⟨rs, hro, htl⟩ := h.run
  simp only [List.nil_append] at htl
  have hlen := xQ hro
  have hlen' : rs.length = k := by rw [hlen, List.length_take]; omega
  have hokR : mN l.toArray = true := by simp only [Bool.and_eq_true] at hok; exact hok.1.1
  refine ⟨fun a w hS hM => ?_⟩
  have hmemb : ∀ i o, i < k → l[i]? = some o → (l.take k)[i]? = some o := fun i o hi ho => by rw [List.getElem?_take, if_pos hi]; exact ho
  have hlk : ∀ i o, i < k → l[i]? = some o → ∃ r, rs[i]? = some r ∧ HQ O ds dl d2 P l n w0 M i (nL 0 ((l.take k).take i) (rs.take i) []) o (iD ((l.take k).take i) (rs.take i) S) r := fun i o hi ho => by
    have := Bq hro i o (hmemb i o hi ho)
    rw [Nat.zero_add] at this
    exact this
  have hrs : ∀ i r, rs[i]? = some r → i < k ∧ ∃ o, l[i]? = some o ∧ HQ O ds dl d2 P l n w0 M i (nL 0 ((l.take k).take i) (rs.take i) []) o (iD ((l.take k).take i) (rs.take i) S) r := fun i r hr => by
    have hik : i < k := by have := (List.getElem?_eq_some_iff.1 hr).1; omega
    have hil : i < l.length := by omega
    obtain ⟨r', hr', hO'⟩ := hlk i _ hik (List.getElem?_eq_getElem hil)
    rw [hr] at hr'
    obtain rfl := Option.some.inj hr'
    exact ⟨hik, _, List.getElem?_eq_getElem hil, hO'⟩
  have hdst : ∀ j oj r, l[j]? = some oj → rs[j]? = some r → mL rs j = false → ∃ d, oj.dst = some d ∧ d ∈ ds ++ dl := by
    intro j oj r hoj hr hv
    obtain ⟨_, o, ho, hO'⟩ := hrs j r hr
    rw [hoj] at ho
    obtain rfl := Option.some.inj ho
    cases r with
    | con L c => simp [mL, hr] at hv
    | ex e => exact ⟨e.d, hO'.2.2.1, List.mem_append_left _ hO'.2.2.2.2.2.1⟩
    | der p f G =>
      obtain ⟨_, t, R, d, _, hd, _, hdl, _⟩ := hO'
      exact ⟨d, hd, List.mem_append_right _ hdl⟩
  have hnl : ∀ i j oi oj d, i < k → j < k → l[i]? = some oi → l[j]? = some oj → Ak oi dl = false → oj.dst = some d → mL rs j = false → d ∉ oi.looksAt l.toArray := by
    intro i j oi oj d hi hj hoi hoj hdi hd hv hmem
    obtain ⟨r, hr, _⟩ := hlk j oj hj hoj
    obtain ⟨d', hd', hm'⟩ := hdst j oj r hoj hr hv
    rw [hd] at hd'
    obtain rfl := Option.some.inj hd'
    have h1 := List.all_eq_true.1 hfree d hm'
    have h2 := List.all_eq_true.1 h1 oi (List.mem_of_getElem? (hmemb i oi hi hoi))
    rw [hdi] at h2
    simp only [Bool.false_or, Bool.not_eq_true'] at h2
    have : (oi.looksAt l.toArray).contains d = true := by simpa using hmem
    rw [h2] at this; cases this
  have hrange : ∀ i, List.range i = List.range' 0 i := fun i => List.range_eq_range'
  have hSl : ∀ i, i ≤ k → Sl n (aB l.toArray (Da rs) (mL rs) (List.range i) a) (iD ((l.take k).take i) (rs.take i) S) := by
    intro i hi
    rw [hrange]
    exact uw (ops := l.toArray) (rs0 := rs) 0 i (fun j hj => by rw [Nat.zero_add, List.getElem?_take, if_pos (by omega)]; simp) (fun j _ => by rw [Nat.zero_add]) hro (by simp; omega) hS
  have hcon : ∀ {N : Nat} {j : Nat} {g : Nat → Prop} {v : Value} {w1 : World}, mL rs j = true → sV O N rs j g v w1 → v = Da rs j := by
    intro N j g v w1 hc hr
    unfold mL at hc
    unfold sV at hr
    unfold Da
    cases hj : rs[j]? with
    | none => rw [hj] at hc; cases hc
    | some r =>
      rw [hj] at hc hr
      cases r with
      | ex e => cases hc
      | der p f G => cases hc
      | con L c => exact hr
  have hflc : ∀ f o, f < k → l[f]? = some o → FA l dl d2 f = true → (∃ L c, rs[f]? = some (.con L c)) ∨ ∃ p f' G, rs[f]? = some (.der p f' G) := by
    intro f o hf ho hfl
    unfold FA at hfl
    rw [ho] at hfl
    simp only [Bool.and_eq_true] at hfl
    obtain ⟨r, hr, hO'⟩ := hlk f o hf ho
    cases r with
    | con L c => exact .inl ⟨L, c, hr⟩
    | ex e => rw [hO'.2.2.2.2.1] at hfl; cases hfl.1
    | der p f' G => exact .inr ⟨p, f', G, hr⟩
  have hpar : ∀ i C', C' = nL 0 ((l.take k).take i) (rs.take i) [] → i ≤ k → ∀ p t R, lk p C' = some (t, R) → p < i ∧ (∃ o, l[p]? = some o ∧ o.dst = some t) ∧ ((∃ e, rs[p]? = some (.ex e) ∧ R = fun x => ∃ s, e.Ψ s ∧ x = e.V s) ∨ ∃ q f, rs[p]? = some (.der q f R)) := by
    intro i C' hC' hik p t R hp
    subst hC'
    refine uv (l0 := l) (rs0 := rs) (fun p x => p < i ∧ (∃ o, l[p]? = some o ∧ o.dst = some x.1) ∧ ((∃ e, rs[p]? = some (.ex e) ∧ x.2 = fun x => ∃ s, e.Ψ s ∧ x = e.V s) ∨ ∃ q f, rs[p]? = some (.der q f x.2))) _ _ 0 [] (fun p x h => by cases h) (fun j o r h1 h2 => ?_) p (t, R) hp
    have hj1 : j < i := by have h9 := (List.getElem?_eq_some_iff.1 h2).1; rw [List.length_take] at h9; omega
    have hlj : l[j]? = some o := by
      rw [List.getElem?_take, if_pos hj1, List.getElem?_take, if_pos (by omega)] at h1
      exact h1
    have hrj : rs[j]? = some r := by rw [List.getElem?_take, if_pos hj1] at h2; exact h2
    rw [Nat.zero_add]
    exact ⟨fun e d he hd => ⟨hj1, ⟨o, hlj, hd⟩, .inl ⟨e, by rw [hrj, he], rfl⟩⟩, fun q f G d he hd => ⟨hj1, ⟨o, hlj, hd⟩, .inr ⟨q, f, by rw [hrj, he]⟩⟩⟩
  have hder : ∀ i p f G, rs[i]? = some (.der p f G) → p < i ∧ ((bG l.toArray).getD i 0).testBit p = true ∧ FA l dl d2 p = false ∧ ∃ R : Value → Prop, (∀ x, R x → G (f x)) ∧ ((∃ e, rs[p]? = some (.ex e) ∧ R = fun x => ∃ s, e.Ψ s ∧ x = e.V s) ∨ ∃ q f, rs[p]? = some (.der q f R)) := by
    intro i p f G hr
    obtain ⟨hik, o, ho, hO'⟩ := hrs i _ hr
    obtain ⟨_, t, R, d, hp, hd, _, hdl, hd2, hmk, hx⟩ := hO'
    obtain ⟨h1, ⟨op, hop, hopd⟩, h3⟩ := hpar i _ rfl (by omega) p t R hp
    refine ⟨h1, hmk, ?_, R, fun x hR => (hx x hR).1, h3⟩
    unfold FA
    rw [hop]
    obtain ⟨rp, hrp, hOp⟩ := hlk p op (by omega) hop
    rcases h3 with ⟨e, he, _⟩ | ⟨q, f', he⟩
    · rw [he] at hrp
      obtain rfl := Option.some.inj hrp
      simp only [hOp.2.2.2.2.1, Bool.false_and]
    · rw [he] at hrp
      obtain rfl := Option.some.inj hrp
      obtain ⟨_, _, _, d', _, hd', _, hdl', _⟩ := hOp
      rw [hopd] at hd'
      obtain rfl := Option.some.inj hd'
      have e1 : Ak op dl = true := by unfold Ak; rw [hopd]; simpa using hdl'
      have e2 : Ak op d2 = false := by unfold Ak; rw [hopd]; exact hd2
      simp [e1, e2]
  refine uu k (sV O w.heap.size rs) (ET rs) (Gu rs) (Aj rs) (FA l dl d2) (fun f o h1 ho => ?_) hm hok ?_ (fun vs f => match rs[f]? with | some (.con L c) => if az L then c else undef | some (.der p f' _) => f' (vs p) | _ => undef) ?_ ?_ ?_ ?_ ?_ ?_ ?_ ?_
  · unfold FA at h1
    rw [ho] at h1
    simp only [Bool.and_eq_true] at h1
    exact h1.1
  · intro i g v w w' hb hr
    unfold sV at hr ⊢
    cases hri : rs[i]? with
    | none => trivial
    | some r =>
      rw [hri] at hr
      cases r with
      | con L c => exact hr
      | ex e => exact Bo hb hr
      | der p f G => exact hr
  · intro f o hf ho hfl vs gs w1 hF g
    rcases hflc f o hf ho hfl with ⟨L, c, hr⟩ | ⟨p, f', G, hr⟩
    · unfold sV Aj; rw [hr]; exact ⟨J, trivial⟩
    · obtain ⟨h1, h2, h3, R, h4, h5⟩ := hder f p f' G hr
      have h9 := hF p (by omega) h2 h3
      have hR : R (vs p) := by
        unfold sV at h9
        rcases h5 with ⟨e, he, rfl⟩ | ⟨q, f2, he⟩
        · rw [he] at h9
          obtain ⟨s, h6, h7, _⟩ := h9
          exact ⟨s, h6, h7⟩
        · rw [he] at h9
          exact h9
      unfold sV Aj; rw [hr]; exact ⟨h4 _ hR, rfl⟩
  · intro f o hf ho hfl vs g v w1 h1 h2
    rcases hflc f o hf ho hfl with ⟨L, c, hr⟩ | ⟨p, f', G, hr⟩
    · unfold sV at h1
      rw [hr] at h1
      simp only [hr]
      exact h1
    · unfold Aj at h2
      rw [hr] at h2
      simp only [hr]
      exact h2
  · intro i j g g' v' w1 hij hF hR
    unfold ET at hF
    unfold sV at hR
    unfold Gu
    cases hi : rs[i]? with
    | none => trivial
    | some r =>
      cases r with
      | con L c => cases hj : rs[j]? <;> trivial
      | der p f G => cases hj : rs[j]? <;> trivial
      | ex e =>
        cases hj : rs[j]? with
        | none => trivial
        | some r' =>
          cases r' with
          | con L c => trivial
          | der p f G => trivial
          | ex e' =>
            rw [hi] at hF
            rw [hj] at hR
            intro b h1 h2
            obtain ⟨_, _, _, _, _, _, h5⟩ := hR
            have := (h5 b h2).2
            have := hF b h1
            omega
  · intro i j v v' h
    unfold Gu at h ⊢
    cases hi : rs[i]? with
    | none => cases hj : rs[j]? with
      | none => trivial
      | some r => cases r <;> trivial
    | some r =>
      cases hj : rs[j]? with
      | none => trivial
      | some r' =>
        rw [hi, hj] at h
        cases r <;> cases r' <;> first | trivial | exact fun b h1 h2 => h b h2 h1
  · intro i vs vs' v hv hd
    unfold Aj at hd ⊢
    cases hr : rs[i]? with
    | none => trivial
    | some r =>
      rw [hr] at hd
      cases r with
      | con L c => trivial
      | ex e => trivial
      | der p f G =>
        obtain ⟨h1, h2, h3, _⟩ := hder i p f G hr
        have hik := (hrs i _ hr).1
        have hpv := hv p (by omega) h2 h3
        show v = f (vs' p)
        rw [← hpv]
        exact hd
  · intro f o hf ho hfl v j v'
    rcases hflc f o hf ho hfl with ⟨L, c, hr⟩ | ⟨p, f', G, hr⟩
    · unfold Gu; rw [hr]; cases rs[j]? <;> trivial
    · unfold Gu; rw [hr]; cases rs[j]? <;> trivial
  · intro vs gs i o hik hoi w1 hb1 hF
    obtain ⟨r, hr, hO'⟩ := hlk i o hik hoi
    have hoi' : l.toArray[i]? = some o := by simpa using hoi
    have hM1 : Mem w0 w1 M := hM.keep ((Below.refl w.heap.size w).drew.trans hb1)
    have hSi := hSl i (by omega)
    cases r with
    | der p f G =>
      obtain ⟨hg, t, R, d, hp, hd, _, hdl, _, hmk, hx⟩ := hO'
      obtain ⟨hpi, ⟨op, hop, hopd⟩, hR⟩ := hpar i _ rfl (by omega) p t R hp
      have hw : Region.wanted o (yielded l.toArray (aB l.toArray vs (fun _ => true) (List.range i) a).tmps) = true := by unfold Region.wanted; rw [hg]
      rw [if_pos hw]
      have hRx : R (vs p) := by
        have h9 := hF p (by simp; omega) hmk
        unfold sV at h9
        rcases hR with ⟨e, he, rfl⟩ | ⟨q, f', he⟩
        · rw [he] at h9
          obtain ⟨s, h1, h2, _⟩ := h9
          exact ⟨s, h1, h2⟩
        · rw [he] at h9
          exact h9
      obtain ⟨hG, hrun⟩ := hx _ hRx
      have htn : t < n := by
        obtain ⟨rp, hrp, hOp⟩ := hlk p op (by omega) hop
        rcases hR with ⟨e, he, _⟩ | ⟨q, f', he⟩
        · rw [he] at hrp
          obtain rfl := Option.some.inj hrp
          have h8 := hOp.2.2.1
          rw [hopd] at h8
          obtain rfl := Option.some.inj h8
          exact hOp.2.2.2.1
        · rw [he] at hrp
          obtain rfl := Option.some.inj hrp
          obtain ⟨_, _, _, d', _, hd', hdn', _⟩ := hOp
          rw [hopd] at hd'
          obtain rfl := Option.some.inj hd'
          exact hdn'
      have hopa : l.toArray[p]? = some op := by simpa using hop
      have hslot := iU (vs := vs) t p hopa hopd (List.range i) a List.nodup_range (List.mem_range.2 hpi) (by rw [hS.2.1]; exact htn) (fun i' _ hne o' ho' hd2 => (bX hokR ho' hopa hne hopd).1 hd2)
      refine aX (hrun _ w1 hslot) ⟨Below.refl _ _, ?_, fun _ => False, ?_, ?_⟩
      · unfold Aj; rw [hr]
      · unfold sV; rw [hr]; exact hG
      · unfold ET; rw [hr]; trivial
    | con L c =>
      obtain ⟨hg, hv, d, hd, hdn, hdl⟩ := hO'
      have hdi : Ak o dl = false := by unfold Ak; rw [hd]; exact hdl
      have hlook : ∀ t ∈ o.looksAt l.toArray, (aB l.toArray vs (fun _ => true) (List.range i) a).tmps[t]? = (aB l.toArray (Da rs) (mL rs) (List.range i) a).tmps[t]? := by
        intro t ht
        refine cd t _ _ _ J J (fun j hj oj hoj hdj => ?_)
        have hji := List.mem_range.1 hj
        have hoj' : l[j]? = some oj := by simpa using hoj
        have hc : mL rs j = true := by
          cases hvj : mL rs j with
          | true => rfl
          | false => exact absurd ht (hnl i j o oj t hik (by omega) hoi hoj' hdi hdj hvj)
        refine ⟨hc.symm, fun _ => ?_⟩
        rcases (bX hokR hoi' hoj (by omega) hdj).2 with h | h | h
        · exact hcon hc (hF j (by simp; omega) h)
        · exact absurd (bI (fb hokR) (Array.getElem?_eq_some_iff.1 hoi').1 j _ hoj h).1 (by omega)
        · exact absurd ht h
      have hop := dv (ops := l.toArray) o (fZ hokR hoi') hlook
      have hwt := dK (ops := l.toArray) o hlook
      rw [hwt, gh hSi hg]
      cases hL : az L with
      | true =>
        simp only [if_true]
        have := hv n _ w1 hSi hM1 hL
        unfold Vals at this ⊢
        rw [hop]
        generalize (execOp (aB l.toArray (Da rs) (mL rs) (List.range i) a).eval o).run P w1 = rr at *
        have hR : ∀ v w', v = c ∧ Below w1.heap.size w1 w' → Below w1.heap.size w1 w' ∧ Aj rs i vs v ∧ ∃ g, sV O w.heap.size rs i g v w' ∧ ET rs i w1.heap.size g := fun v w' ⟨h1, h2⟩ => ⟨h2, by unfold Aj; rw [hr]; trivial, fun _ => False, by unfold sV; rw [hr]; simp [hL, h1], by unfold ET; rw [hr]; trivial⟩
        cases rr with
        | halt x w' => exact this.elim
        | ok nx w' =>
          cases nx <;> first
            | exact hR _ _ this
            | exact this.mono fun e w'' ⟨v, he, hv⟩ => ⟨v, he, hR _ _ hv⟩
            | exact this.mono fun v w'' hv => hR _ _ hv
            | exact this.elim
      | false =>
        simp only [Bool.false_eq_true, if_false]
        exact ⟨by unfold Aj; rw [hr]; trivial, fun _ => False, by unfold sV; rw [hr]; simp [hL], by unfold ET; rw [hr]; trivial⟩
    | ex e =>
      obtain ⟨hg, hb, hd, hdn, hfb, hds, hdl⟩ := hO'
      have hdi : Ak o dl = false := by unfold Ak; rw [hd]; exact hdl
      have hlook : ∀ t ∈ o.looksAt l.toArray, (aB l.toArray vs (fun _ => true) (List.range i) a).tmps[t]? = (aB l.toArray (Da rs) (mL rs) (List.range i) a).tmps[t]? := by
        intro t ht
        refine cd t _ _ _ J J (fun j hj oj hoj hdj => ?_)
        have hji := List.mem_range.1 hj
        have hoj' : l[j]? = some oj := by simpa using hoj
        have hc : mL rs j = true := by
          cases hvj : mL rs j with
          | true => rfl
          | false => exact absurd ht (hnl i j o oj t hik (by omega) hoi hoj' hdi hdj hvj)
        refine ⟨hc.symm, fun _ => ?_⟩
        rcases (bX hokR hoi' hoj (by omega) hdj).2 with h | h | h
        · exact hcon hc (hF j (by simp; omega) h)
        · exact absurd (bI (fb hokR) (Array.getElem?_eq_some_iff.1 hoi').1 j _ hoj h).1 (by omega)
        · exact absurd ht h
      have hop := dv (ops := l.toArray) o (fZ hokR hoi') hlook
      have hw : Region.wanted o (yielded l.toArray (aB l.toArray vs (fun _ => true) (List.range i) a).tmps) = true := by unfold Region.wanted; rw [hg]
      rw [if_pos hw]
      have := hb _ w1 hSi hM1
      unfold Vals at this ⊢
      rw [hop]
      generalize (execOp (aB l.toArray (Da rs) (mL rs) (List.range i) a).eval o).run P w1 = rr at *
      have hR : ∀ v w', (∃ g, DT O e w1.heap.size g v w') ∧ Below w1.heap.size w1 w' → Below w1.heap.size w1 w' ∧ Aj rs i vs v ∧ ∃ g, sV O w.heap.size rs i g v w' ∧ ET rs i w1.heap.size g := fun v w' ⟨⟨g, h1⟩, h2⟩ => ⟨h2, by unfold Aj; rw [hr]; trivial, g, by unfold sV; rw [hr]; exact Bp hb1.size h1, by
        unfold ET; rw [hr]
        obtain ⟨_, _, _, _, _, _, h5⟩ := h1
        exact fun b hb => (h5 b hb).1⟩
      cases rr with
      | halt x w' => exact this.elim
      | ok nx w' =>
        cases nx <;> first
          | exact hR _ _ this
          | exact this.mono fun e w'' ⟨v, he, hv⟩ => ⟨v, he, hR _ _ hv⟩
          | exact this.mono fun v w'' hv => hR _ _ hv
          | exact this.elim
  · intro vs gs w1 hb1 hF hP hD
    have hM1 : Mem w0 w1 M := hM.keep hb1
    have hSk := hSl k (Nat.le_refl _)
    have e1 : (l.take k).take k = l.take k := List.take_of_length_le (by simp; omega)
    have e2 : rs.take k = rs := List.take_of_length_le (by omega)
    rw [e1, e2] at hSk
    have hdef : ∀ (vs : Nat → Value) (LL : Nat → Bool) (r : List Nat) (a : Act), (aB l.toArray vs LL r a).defers = a.defers := by
      intro vs LL r
      induction r with
      | nil => intro a; rfl
      | cons j r ih =>
        intro a
        unfold aB
        rw [ih]
        split
        · split
          · rename_i o _ _; cases hd : o.dst <;> rfl
          · rfl
        · rfl
    have hex : ∀ p ∈ je 0 (l.take k) rs, p.1 < k ∧ mL rs p.1 = false ∧ ((∃ e, rs[p.1]? = some (.ex e) ∧ p.2 = .ex e) ∨ ∃ q f G, rs[p.1]? = some (.der q f G) ∧ p.2 = .der p.2.d q f) ∧ ∃ o, l[p.1]? = some o ∧ o.dst = some p.2.d ∧ p.2.d < n := by
      intro p hp
      obtain ⟨j, hj1, hj2⟩ := zi 0 (l.take k) rs p hp
      have hpj : p.1 = j := by omega
      rw [hpj]
      rcases hj2 with ⟨e, h1, h2⟩ | ⟨q, f, G, o, h1, h2, h3⟩
      · obtain ⟨hjk, o, ho, hO'⟩ := hrs j _ h1
        refine ⟨hjk, by simp [mL, h1], .inl ⟨e, h1, h2⟩, o, ho, ?_, ?_⟩
        · rw [h2]; exact hO'.2.2.1
        · rw [h2]; exact hO'.2.2.2.1
      · obtain ⟨hjk, o', ho, hO'⟩ := hrs j _ h1
        obtain ⟨_, t, R, d, _, hd, hdn, _⟩ := hO'
        have hoo : o' = o := by
          rw [List.getElem?_take, if_pos hjk, ho] at h2
          exact Option.some.inj h2
        subst hoo
        have hdd : p.2.d = d := by rw [h3]; simp [OU.d, hd]
        refine ⟨hjk, by simp [mL, h1], .inr ⟨q, f, G, h1, ?_⟩, o', ho, by rw [hdd]; exact hd, by rw [hdd]; exact hdn⟩
        rw [hdd, h3, hd]; rfl
    obtain ⟨h1, h2, h3⟩ := hSk
    refine nh (N := w.heap.size) (vs := vs) (gs := gs) hM.1.size (fun b hb => (hO w hM b hb).1) (je 0 (l.take k) rs) [] _ M htl (by rw [hdef]; rw [hdef] at h1; exact h1) (by rw [dt]; rw [dt] at h2; exact h2) (fun t L v ht hne => ?_) hM1 (fun p hp => ?_) ?_ (fun p hp e hpe b hb f hf hfb => ?_) (fun b hb f hf hfb => (hO w hM b hb).2 f hf hfb) (fun p x h => by cases h)
    · rw [← h3 t L v ht]
      refine cd t _ _ _ J J (fun j hj oj hoj hd => ?_)
      have hjk := List.mem_range.1 hj
      have hoj' : l[j]? = some oj := by simpa using hoj
      obtain ⟨r, hr, hO'⟩ := hlk j oj hjk hoj'
      have hlt : (l.take k)[j]? = some oj := hmemb j oj hjk hoj'
      have hin : ∀ (m : Nat) (l' : List Oper) (rs' : List RV) (j : Nat) (oj : Oper) (r : RV), l'[j]? = some oj → rs'[j]? = some r → mL rs' j = false → ∃ u, (m + j, u) ∈ je m l' rs' ∧ ∀ d, oj.dst = some d → (∀ e, r = .ex e → e.d = d) → u.d = d := by
        intro m l'
        induction l' generalizing m with
        | nil => intro rs' j oj r h; simp at h
        | cons x l' ih =>
          intro rs' j oj r h h' hv
          cases rs' with
          | nil => simp at h'
          | cons y rs' =>
            cases j with
            | zero =>
              obtain rfl : x = oj := by simpa using h
              obtain rfl : y = r := by simpa using h'
              cases y with
              | con L c => simp [mL] at hv
              | ex e => exact ⟨.ex e, List.mem_cons_self .., fun d _ he => he e rfl⟩
              | der q f G => exact ⟨.der (x.dst.getD 0) q f, List.mem_cons_self .., fun d hd _ => by simp [OU.d, hd]⟩
            | succ j =>
              obtain ⟨u, hu1, hu2⟩ := ih (m + 1) rs' j oj r (by simpa using h) (by simpa using h') (by simpa [mL] using hv)
              rw [show m + 1 + j = m + (j + 1) by omega] at hu1
              refine ⟨u, ?_, hu2⟩
              cases y with
              | con L c => exact hu1
              | ex e => exact List.mem_cons_of_mem _ hu1
              | der q f G => exact List.mem_cons_of_mem _ hu1
      cases hvj : mL rs j with
      | false =>
        exfalso
        obtain ⟨u, hu1, hu2⟩ := hin 0 (l.take k) rs j oj r hlt hr hvj
        refine hne _ hu1 (hu2 t hd (fun e he => ?_))
        subst he
        have h9 := hO'.2.2.1
        rw [hd] at h9
        exact (Option.some.inj h9).symm
      | true => exact ⟨rfl, fun _ => hcon hvj (hF j hjk)⟩
    · obtain ⟨hpk, hpv, hpc, o, ho, hod, hdn⟩ := hex p hp
      have hoa : l.toArray[p.1]? = some o := by simpa using ho
      refine ⟨?_, iU p.2.d p.1 hoa hod (List.range k) a List.nodup_range (List.mem_range.2 hpk) (by rw [hS.2.1]; exact hdn) (fun i _ hne o' ho' hd2 => (bX hokR ho' hoa hne hod).1 hd2)⟩
      rcases hpc with ⟨e, he, hp2⟩ | ⟨q, f, G, he, hp2⟩
      · have hR := hF p.1 hpk
        unfold sV at hR
        rw [he] at hR
        rw [hp2]
        exact hR
      · have hR := hD p.1 hpk
        unfold Aj at hR
        rw [he] at hR
        rw [hp2]
        exact hR
    · refine (nW 0 (l.take k) rs).imp_of_mem (fun {p q} hp hq hpq => ?_)
      obtain ⟨hpk, hpv, hpc, o, ho, hod, hdn⟩ := hex p hp
      obtain ⟨hqk, hqv, hqc, o', ho', hod', hdn'⟩ := hex q hq
      refine ⟨fun e e' hpe hqe => ?_, fun e => ?_⟩
      · have := hP p.1 q.1 hpk hqk (by omega)
        unfold Gu at this
        rcases hpc with ⟨e1, he, hp2⟩ | ⟨_, _, _, he, hp2⟩
        · rcases hqc with ⟨e2, he', hq2⟩ | ⟨_, _, _, he', hq2⟩
          · rw [he, he'] at this
            exact this
          · rw [hqe] at hq2; cases hq2
        · rw [hpe] at hp2; cases hp2
      · have hoa : l.toArray[p.1]? = some o := by simpa using ho
        have hob : l.toArray[q.1]? = some o' := by simpa using ho'
        exact (bX hokR hoa hob (by omega) hod').1 (by rw [hod, e])
    · obtain ⟨hpk, hpv, hpc, _⟩ := hex p hp
      have hR := hF p.1 hpk
      unfold sV at hR
      rcases hpc with ⟨e1, he, hp2⟩ | ⟨_, _, _, he, hp2⟩
      · rw [he] at hR
        obtain ⟨_, _, _, _, _, _, h5⟩ := hR
        have := (h5 b hb).1
        have := (MemL.mem hM.2 f hf).foot_lt hfb
        omega
      · rw [hpe] at hp2; cases hp2
end Go.Proofs.YtklcfjlmlbnkaaaGreatDoor.Y
