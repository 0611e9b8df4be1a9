/- A region that draws its order: first operations that compute, call, or make blocks, in no forced order; then operations that stand behind all that come before them (stores, assignments). -/
import Derived.Test.YtcedpdofjbaciaaDoorRegionR
namespace Go.Proofs.YtcedpdofjbaciaaDoor
open Go.RowKit
section
variable {P : Program} {ops : Array Oper}
theorem wpOp_mono {Q : Exit → Act → World → Prop} {i : Nat} {K K' : Act → World → Prop} {a : Act} {w : World} (h : ∀ a w, K a w → K' a w) (hh : wpOp P ops Q i K a w) : wpOp P ops Q i K' a w := by
  unfold wpOp at hh ⊢
  split
  · rename_i e; simp only [e] at hh; exact h _ _ hh
  · rename_i o e
    simp only [e] at hh
    split
    · rename_i hw
      rw [if_pos hw] at hh
      exact hh.imp (Oper.wp_mono h) id
    · rename_i hw
      rw [if_neg hw] at hh
      exact h _ _ hh
theorem left_ready (hok : okR ops = true) (listed : Array Bool) (hs : listed.size = ops.size) {i : Nat} {rest : List Nat} (hl : leftOf ops listed = i :: rest) : i ∈ Region.ready .any ops listed := by
  have hi : i ∈ leftOf ops listed := by rw [hl]; simp
  obtain ⟨hir, hil⟩ := List.mem_filter.1 hi
  have his := List.mem_range.1 hir
  have hoi := Array.getElem?_eq_getElem his
  have hsort := leftOf_sorted (ops := ops) listed
  rw [hl] at hsort
  have hmin := (List.pairwise_cons.1 hsort).1
  refine List.mem_filter.2 ⟨hir, ?_⟩
  simp only [hil, Bool.true_and, hoi, Option.map_some, Option.getD_some, Array.all_eq_true']
  intro e he
  cases hb : Region.binds .any e with
  | false => rfl
  | true =>
    simp only [Bool.not_true, Bool.false_or]
    have hlt := okR_back hok hoi e he hb
    have hel : e.on < listed.size := by rw [hs]; omega
    cases hv : listed.getD e.on false with
    | true => rfl
    | false =>
      have hv' : listed.getD e.on true = false := by simp [hel] at hv ⊢; exact hv
      have hmem : e.on ∈ leftOf ops listed := List.mem_filter.2 ⟨List.mem_range.2 (by omega), by rw [hv']; rfl⟩
      rw [hl] at hmem
      rcases List.mem_cons.1 hmem with h | h
      · omega
      · have := hmin _ h; omega
theorem ready_mem {listed : Array Bool} {i : Nat} (hi : i ∈ Region.ready .any ops listed) :
    i < ops.size ∧ listed.getD i true = false ∧ ∀ oi, ops[i]? = some oi → ∀ e ∈ oi.after, Region.binds .any e = true → listed.getD e.on false = true := by
  obtain ⟨hir, hil⟩ := List.mem_filter.1 hi
  simp only [Bool.and_eq_true, Bool.not_eq_true'] at hil
  refine ⟨List.mem_range.1 hir, hil.1, fun oi hoi e he hb => ?_⟩
  have h2 := hil.2
  simp only [hoi, Option.map_some, Option.getD_some, Array.all_eq_true'] at h2
  simpa [hb] using h2 e he
/-- the last operations, one behind the other. -/
theorem wpAny_tail {Q : Exit → Act → World → Prop} (hok : okR ops = true) : ∀ (m : Nat) (fuel : Nat) (listed : Array Bool) (a : Act) (w : World), listed.size = ops.size → m ≤ ops.size →
    (∀ i, m ≤ i → i < ops.size → ∀ r, r < i → ((masks ops).getD i 0).testBit r = true) →
    (∀ j, j < m → listed.getD j false = true) → (∀ j, m ≤ j → listed.getD j false = false) → ops.size - m ≤ fuel →
    wpOps P ops Q (List.range' m (ops.size - m)) a w → wpAny P .any ops Q fuel listed a w := by
  intro m fuel
  induction fuel generalizing m with
  | zero =>
    intro listed a w hs hm htail hin hout hf h
    have hms : ops.size - m = 0 := by omega
    rw [hms] at h
    refine ⟨?_, h⟩
    cases hr : Region.ready .any ops listed with
    | nil => rfl
    | cons i rest =>
      exfalso
      have hi : i ∈ Region.ready .any ops listed := by rw [hr]; simp
      obtain ⟨h1, h2, _⟩ := ready_mem hi
      have := hin i (by omega)
      have hsz : i < listed.size := by omega
      simp [hsz] at this h2
      rw [this] at h2; cases h2
  | succ fuel ih =>
    intro listed a w hs hm htail hin hout hf h
    by_cases hms : m = ops.size
    · subst hms
      rw [Nat.sub_self] at h
      refine ⟨fun _ => h, fun i hi => ?_⟩
      exfalso
      obtain ⟨h1, h2, _⟩ := ready_mem hi
      have := hin i h1
      have hsz : i < listed.size := by omega
      simp [hsz] at this h2
      rw [this] at h2; cases h2
    · have hlt : m < ops.size := by omega
      have hmu : listed.getD m true = false := by
        have := hout m (Nat.le_refl _)
        have hsz : m < listed.size := by omega
        simp [hsz] at this ⊢; exact this
      have hready : ∀ i ∈ Region.ready .any ops listed, i = m := by
        intro i hi
        obtain ⟨h1, h2, h3⟩ := ready_mem hi
        have hsz : i < listed.size := by omega
        by_cases hlm : i < m
        · have := hin i hlm
          simp [hsz] at this h2
          rw [this] at h2; cases h2
        · by_cases e : i = m
          · exact e
          · exfalso
            have hmi : m < i := by omega
            have hb := htail i (by omega) h1 m hmi
            have hoi := Array.getElem?_eq_getElem h1
            obtain ⟨_, e1, he, hbe, hor⟩ := okM_spec (okR_M hok) (r := m) hlt i _ hoi hb
            have hle := h3 _ hoi e1 he hbe
            have hlt1 : e1.on < i := okR_back hok hoi e1 he hbe
            rcases hor with e2 | hme
            · rw [e2, hout m (Nat.le_refl _)] at hle; cases hle
            · have : m < e1.on := (okM_spec (okR_M hok) (r := m) hlt e1.on _ (Array.getElem?_eq_getElem (by omega)) hme).1
              rw [hout e1.on (by omega)] at hle; cases hle
      have hsz : ops.size - m = (ops.size - (m + 1)) + 1 := by omega
      rw [hsz, List.range'_succ, wpOps_cons] at h
      refine ⟨fun hr => ?_, fun i hi => ?_⟩
      · exfalso
        cases hl : leftOf ops listed with
        | nil =>
          have : m ∈ leftOf ops listed := List.mem_filter.2 ⟨List.mem_range.2 hlt, by rw [hmu]; rfl⟩
          rw [hl] at this; cases this
        | cons i rest =>
          have := left_ready hok listed hs hl
          rw [hr] at this; cases this
      · obtain rfl := hready i hi
        refine wpOp_mono (fun a w hh => ?_) h
        refine ih (i + 1) _ a w (by simp [hs]) (by omega) (fun j hj hjs r hr => htail j (by omega) hjs r hr) ?_ ?_ (by omega) hh
        · intro j hj
          by_cases e : i = j
          · subst e; simp [hs, hlt]
          · rw [getD_set_ne false e]; exact hin j (by omega)
        · intro j hj
          rw [getD_set_ne false (by omega)]; exact hout j (by omega)

theorem wpAny_K {Rs : Nat → Value → World → Prop} {w0 : World} {a0 : Act} {Q : Exit → Act → World → Prop} {k : Nat} (hk : k ≤ ops.size) (hok : okR ops = true)
    (htail : ∀ i, k ≤ i → i < ops.size → ∀ r, r < i → ((masks ops).getD i 0).testBit r = true)
    (hst : ∀ i v w w', Below w.heap.size w w' → Rs i v w → Rs i v w')
    (hob : ∀ vs, ∀ i o, i < k → ops[i]? = some o → oblR P ops Rs w0 vs i o (putsL ops vs (fun _ => true) (List.range i) a0))
    (hq : ∀ vs w1, Below w0.heap.size w0 w1 → (∀ i, i < k → Rs i (vs i) w1) → wpOps P ops Q (List.range' k (ops.size - k)) (putsL ops vs (fun _ => true) (List.range k) a0) w1) :
    ∀ (fuel : Nat) (listed : Array Bool) (vs : Nat → Value) (w : World), listed.size = ops.size →
      (∀ j oj, ops[j]? = some oj → listed.getD j false = true → ∀ e ∈ oj.after, Region.binds .any e = true → listed.getD e.on false = true) →
      (∀ j, k ≤ j → listed.getD j false = false) →
      (leftOf ops listed).length ≤ fuel → Below w0.heap.size w0 w → (∀ j, j < k → listed.getD j false = true → Rs j (vs j) w) →
      wpAny P .any ops Q fuel listed (putsL ops vs (fun j => listed.getD j false) (List.range k) a0) w := by
  intro fuel
  have hdone : ∀ (fuel : Nat) (listed : Array Bool) (vs : Nat → Value) (w : World), listed.size = ops.size → (∀ j, j < k → listed.getD j false = true) → (∀ j, k ≤ j → listed.getD j false = false) → (leftOf ops listed).length ≤ fuel → Below w0.heap.size w0 w →
      (∀ j, j < k → listed.getD j false = true → Rs j (vs j) w) → wpAny P .any ops Q fuel listed (putsL ops vs (fun j => listed.getD j false) (List.range k) a0) w := by
    intro fuel listed vs w hs hall hout hlen hb hr
    have hlen' : ops.size - k ≤ fuel := by
      have : (List.range' k (ops.size - k)).length ≤ (leftOf ops listed).length := by
        refine List.Sublist.length_le ?_
        have e : leftOf ops listed = List.range' k (ops.size - k) := by
          unfold leftOf
          have hsplit : List.range ops.size = List.range k ++ List.range' k (ops.size - k) := by
            rw [List.range_eq_range', List.range_eq_range']
            have := List.range'_append_1 (s := 0) (m := k) (n := ops.size - k)
            rw [Nat.zero_add] at this
            rw [this]; congr 1; omega
          rw [hsplit, List.filter_append]
          have h1 : (List.range k).filter (fun i => !listed.getD i true) = [] := by
            refine List.filter_eq_nil_iff.2 fun j hj => ?_
            have hjk := List.mem_range.1 hj
            have := hall j hjk
            have hsz : j < listed.size := by omega
            simp [hsz] at this ⊢; exact this
          have h2 : (List.range' k (ops.size - k)).filter (fun i => !listed.getD i true) = List.range' k (ops.size - k) := by
            refine List.filter_eq_self.2 fun j hj => ?_
            have hjk := List.mem_range'_1.1 hj
            have := hout j hjk.1
            have hsz : j < listed.size := by omega
            simp [hsz] at this ⊢; exact this
          rw [h1, h2, List.nil_append]
        rw [e]; exact List.Sublist.refl _
      simp at this
      omega
    refine wpAny_tail hok k fuel listed _ w hs hk htail hall hout hlen' ?_
    rw [putsL_congr (vs' := vs) (L' := fun _ => true) _ _ (fun j hj => ⟨hall j (List.mem_range.1 hj), fun _ => rfl⟩)]
    exact hq vs w hb (fun i hi => hr i hi (hall i hi))
  induction fuel with
  | zero =>
    intro listed vs w hs hcl hout hlen hb hr
    have hl : leftOf ops listed = [] := List.length_eq_zero_iff.1 (by omega)
    refine hdone 0 listed vs w hs (fun j hj => ?_) hout hlen hb hr
    cases hv : listed.getD j false with
    | true => rfl
    | false =>
      have hjs : j < listed.size := by omega
      have hv' : listed.getD j true = false := by simp [hjs] at hv ⊢; exact hv
      have : j ∈ leftOf ops listed := List.mem_filter.2 ⟨List.mem_range.2 (by omega), by rw [hv']; rfl⟩
      rw [hl] at this; cases this
  | succ fuel ih =>
    intro listed vs w hs hcl hout hlen hb hr
    by_cases hall : ∀ j, j < k → listed.getD j false = true
    · exact hdone (fuel + 1) listed vs w hs hall hout hlen hb hr
    have hex : ∃ j, j < k ∧ listed.getD j false = false := by
      apply Classical.byContradiction
      intro hn
      exact hall fun j hj => by
        cases hv : listed.getD j false with
        | true => rfl
        | false => exact absurd ⟨j, hj, hv⟩ hn
    obtain ⟨j0, hj0, hj0f⟩ := hex
    refine ⟨fun he => ?_, fun i hi => ?_⟩
    · exfalso
      cases hl : leftOf ops listed with
      | nil =>
        have hjs : j0 < listed.size := by omega
        have hv' : listed.getD j0 true = false := by simp [hjs] at hj0f ⊢; exact hj0f
        have : j0 ∈ leftOf ops listed := List.mem_filter.2 ⟨List.mem_range.2 (by omega), by rw [hv']; rfl⟩
        rw [hl] at this; cases this
      | cons i rest =>
        have := left_ready hok listed hs hl
        rw [he] at this; cases this
    obtain ⟨his, hil, hall'⟩ := ready_mem hi
    have hoi := Array.getElem?_eq_getElem his
    have hni : listed.getD i false = false := by
      have hisl : i < listed.size := by rw [hs]; exact his
      simp [hisl] at hil ⊢; exact hil
    have hmem : i ∈ leftOf ops listed := List.mem_filter.2 ⟨List.mem_range.2 his, by rw [hil]; rfl⟩
    have hmask : ∀ j, ((masks ops).getD i 0).testBit j = true → j < ops.size → listed.getD j false = true := fun j hj hjs => ahead_listedR hok hcl hjs i _ hoi (hall' _ hoi) hj
    have hik : i < k := by
      apply Classical.byContradiction
      intro hn
      have := hmask j0 (htail i (by omega) his j0 (by omega)) (by omega)
      rw [hj0f] at this; cases this
    obtain ⟨R1, R2, hR⟩ := List.append_of_mem hmem
    have hlook : ∀ t ∈ (ops[i]).looksAt ops, (putsL ops vs (fun j => listed.getD j false) (List.range k) a0).tmps[t]? = (putsL ops vs (fun _ => true) (List.range i) a0).tmps[t]? := by
      intro t ht
      have hsplit : List.range k = List.range i ++ List.range' i (k - i) := by
        rw [List.range_eq_range', List.range_eq_range', show k = i + (k - i) by omega, ← List.range'_append_1]; simp
      rw [hsplit, putsL_append]
      rw [putsL_tmp (L' := fun _ => false) t (List.range' i (k - i)) _ _ rfl rfl (fun j hj o ho hd => ?_), putsL_false]
      · refine putsL_tmp t _ _ _ rfl rfl (fun j hj o ho hd => ?_)
        have hji := List.mem_range.1 hj
        rcases (okR_pair hok hoi ho (by omega) hd).2 with h | h
        · exact hmask j h (by omega)
        · exact absurd ht h
      · by_cases e : j = i
        · subst e; exact hni
        · exfalso
          rcases (okR_pair hok hoi ho (fun h => e h.symm) hd).2 with h | h
          · have hji := (okM_spec (okR_M hok) (r := j) (Array.getElem?_eq_some_iff.1 ho).1 i _ hoi h).1
            have := (List.mem_range'_1.1 hj).1
            omega
          · exact h ht
    have hsel := okR_sel hok hoi
    have hob' := hob vs i _ hik hoi w hb (fun j hjs hj => hr j (by
      have := (okM_spec (okR_M hok) (r := j) hjs i _ hoi hj).1
      omega) (hmask j hj hjs))
    have next : ∀ v w', Below w.heap.size w w' → Rs i v w' → wpAny P .any ops Q fuel (listed.setIfInBounds i true) ((putsL ops vs (fun j => listed.getD j false) (List.range k) a0).put (ops[i]).dst v) w' := by
      intro v w' hb' hv
      have hL : (fun j => if j = i then true else listed.getD j false) = (fun j => (listed.setIfInBounds i true).getD j false) := by
        funext j
        by_cases e : j = i
        · subst e; simp [hs, his]
        · rw [if_neg e, getD_set_ne false (fun h => e h.symm)]
      rw [← putsL_set hoi (List.range k) a0 List.nodup_range (List.mem_range.2 hik) (fun j hj hji o' ho' b u x => Act.put_comm b u x (fun d hd => (okR_pair hok ho' hoi hji hd).1)) hni]
      rw [hL]
      refine ih _ _ w' (by simp [hs]) ?_ ?_ ?_ (hb.trans (hb'.mono hb.size)) ?_
      · intro j oj hj hl e he hbe
        by_cases hji : i = j
        · subst hji
          cases hoi.symm.trans hj
          exact getD_set_true (hall' _ hoi e he hbe)
        · rw [getD_set_ne false hji] at hl
          exact getD_set_true (hcl j oj hj hl e he hbe)
      · intro j hj
        rw [getD_set_ne false (by omega)]; exact hout j hj
      · rw [leftOf_set hs hR]
        have := hlen
        rw [hR] at this
        simp at this ⊢
        omega
      · intro j hj hl
        by_cases e : j = i
        · subst e; simp only [if_true]; exact hv
        · simp only [if_neg e]
          rw [getD_set_ne false (fun h => e h.symm)] at hl
          exact hst _ _ _ _ hb' (hr j hj hl)
    unfold wpOp
    simp only [hoi]
    rw [wanted_tmp _ hlook]
    split
    · rename_i hw
      rw [if_pos hw] at hob'
      exact .inl (hob'.wp (execOp_tmp _ hsel hlook) (fun v w' h => next v w' h.1 h.2))
    · rename_i hw
      rw [if_neg hw] at hob'
      exact next undef w (Below.refl _ _) hob'
def endsB (ops : Array Oper) (k : Nat) : Bool := (List.range ops.size).all fun i => decide (i < k) || (List.range i).all fun r => ((masks ops).getD i 0).testBit r
theorem endsB_spec {k : Nat} (h : endsB ops k = true) : ∀ i, k ≤ i → i < ops.size → ∀ r, r < i → ((masks ops).getD i 0).testBit r = true := by
  intro i hk hi r hr
  have h1 := List.all_eq_true.1 h i (List.mem_range.2 hi)
  simp only [Bool.or_eq_true, decide_eq_true_eq] at h1
  rcases h1 with h1 | h1
  · omega
  · exact List.all_eq_true.1 h1 r (List.mem_range.2 hr)
/-- THE LAW. -/
theorem wp_region_K {id : Nat} {Q : Exit → Act → World → Prop} {a : Act} {w : World} {l : List Oper} (k : Nat) (Rs : Nat → Value → World → Prop) (hm : P.follows .mixedOrders = true)
    (hok : (okR l.toArray && endsB l.toArray k && Nat.ble k l.length) = true) (hst : ∀ i v w w', Below w.heap.size w w' → Rs i v w → Rs i v w')
    (hob : ∀ vs, ∀ i o, i < k → l[i]? = some o → oblR P l.toArray Rs w.drew vs i o (putsL l.toArray vs (fun _ => true) (List.range i) a))
    (hq : ∀ vs w1, Below w.heap.size w w1 → (∀ i, i < k → Rs i (vs i) w1) → wpOps P l.toArray Q (List.range' k (l.length - k)) (putsL l.toArray vs (fun _ => true) (List.range k) a) w1) : (Code.region id l.toArray true).wp P Q a w := by
  simp only [Bool.and_eq_true] at hok
  have hkl := Nat.le_of_ble_eq_true hok.2
  refine wp_region_any hm ?_
  have := wpAny_K (P := P) (ops := l.toArray) (Rs := Rs) (w0 := w.drew) (a0 := a) (Q := Q) (k := k) (by simpa using hkl) hok.1.1 (endsB_spec hok.1.2) hst
    (fun vs i o hik hi => hob vs i o hik (by simpa using hi))
    (fun vs w1 hb hr => hq vs w1 ((Below.refl w.heap.size w).drew.trans hb) hr)
    l.toArray.size (Array.replicate l.toArray.size false) (fun _ => undef) w.drew (by simp) (fun j oj hj hl => by
      exfalso
      have := repl_false l.toArray.size j
      rw [this] at hl; cases hl) (fun j _ => repl_false _ j) (by rw [leftOf_none]; simp) (Below.refl _ _) (fun j hj hl => by
      exfalso
      have := repl_false l.toArray.size j
      rw [this] at hl; cases hl)
  rw [putsL_congr (vs' := fun _ => undef) (L' := fun _ => false) _ _ (fun j _ => ⟨repl_false _ j, fun h => rfl⟩), putsL_false] at this
  exact this
end
end Go.Proofs.YtcedpdofjbaciaaDoor
