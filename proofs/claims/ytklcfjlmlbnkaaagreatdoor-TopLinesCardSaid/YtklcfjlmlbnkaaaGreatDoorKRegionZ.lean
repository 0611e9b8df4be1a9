/- A region that draws its order, walked in the order of the text; its last operation, which stands behind all the others, need not keep what the others rest on. -/
import Derived.Test.YtklcfjlmlbnkaaaGreatDoorKBunG
namespace Go.Proofs.YtklcfjlmlbnkaaaGreatDoor
open Go.RowKit
section
variable {P : Program} {ops : Array Oper} {Inv : World → Prop} {kf : Op → RK}
def fW (ops : Array Oper) (listed : Array Bool) : List Nat := (List.range (ops.size - 1)).filter fun i => !listed.getD i true
theorem mp (listed : Array Bool) : (fW ops listed).Pairwise (· < ·) := (List.pairwise_lt_range).filter _
theorem qK {listed : Array Bool} {i : Nat} {R1 R2 : List Nat} (hs : listed.size = ops.size) (h : fW ops listed = R1 ++ i :: R2) : fW ops (listed.setIfInBounds i true) = R1 ++ R2 := by
  have hp := mp (ops := ops) listed
  have hi : i ∈ fW ops listed := by rw [h]; simp
  have e : fW ops (listed.setIfInBounds i true) = (fW ops listed).filter fun j => j != i := by
    unfold fW
    rw [List.filter_filter]
    refine List.filter_congr fun j hj => ?_
    have hj' : j < listed.size := by rw [hs]; have := List.mem_range.1 hj; omega
    by_cases hji : j = i
    · subst hji; simp [hj']
    · simp [hji, Array.getElem?_setIfInBounds_ne (Ne.symm hji)]
  rw [e, h, List.filter_append]
  rw [h] at hp
  obtain ⟨_, hp2, hp3⟩ := List.pairwise_append.1 hp
  have hp2' := List.pairwise_cons.1 hp2
  rw [List.filter_eq_self.2 (fun j hj => by have := hp3 j hj i (List.mem_cons_self ..); simp; omega)]
  congr 1
  rw [List.filter_cons]
  simp only [bne_self_eq_false, Bool.false_eq_true, if_false]
  exact List.filter_eq_self.2 (fun j hj => by have := hp2'.1 j hj; simp; omega)
def DF (ops : Array Oper) : Bool := (List.range (ops.size - 1)).all fun r => ((bG ops).getD (ops.size - 1) 0).testBit r
def iW (P : Program) (ops : Array Oper) (o : Oper) (Q : Act → World → Prop) (a : Act) (w : World) : Prop :=
  if Region.wanted o (yielded ops a.tmps) then o.wp P a w Q rJ else Q (a.put o.dst undef) w
theorem yX (hok : Af kf ops = true) (listed : Array Bool) (hs : listed.size = ops.size) (hr : Region.ready .any ops listed = []) : aE ops listed = [] := by
  cases hl : aE ops listed with
  | nil => rfl
  | cons i rest =>
    exfalso
    have hi : i ∈ aE ops listed := by rw [hl]; simp
    obtain ⟨hir, hil⟩ := List.mem_filter.1 hi
    have his := List.mem_range.1 hir
    have hoi := Array.getElem?_eq_getElem his
    have hsort := dA (ops := ops) listed
    rw [hl] at hsort
    have hmin := (List.pairwise_cons.1 hsort).1
    have : i ∈ Region.ready .any ops listed := by
      refine List.mem_filter.2 ⟨hir, ?_⟩
      simp only [hil, Bool.true_and, hoi, Option.map_some, Option.getD_some, Array.all_eq_true']
      intro e he
      cases hb : Region.binds .any e with
      | false => rfl
      | true =>
        simp only [Bool.not_true, Bool.false_or]
        have hlt := ox hok hoi e he hb
        have hel : e.on < listed.size := by rw [hs]; omega
        cases hv : listed.getD e.on false with
        | true => rfl
        | false =>
          have hv' : listed.getD e.on true = false := by simp [hel] at hv ⊢; exact hv
          have hmem : e.on ∈ aE ops listed := List.mem_filter.2 ⟨List.mem_range.2 (by omega), by rw [hv']; rfl⟩
          rw [hl] at hmem
          rcases List.mem_cons.1 hmem with h | h
          · omega
          · have := hmin _ h; omega
    rw [hr] at this; cases this
theorem DG {Q : Exit → Act → World → Prop} {z : Oper} (hz : ops[ops.size - 1]? = some z) (hfin : DF ops = true) (hok : Af kf ops = true) (hm : Av ops = true) :
    ∀ (fuel : Nat) (listed : Array Bool) (a : Act) (w : World), listed.size = ops.size →
      (∀ j oj, ops[j]? = some oj → listed.getD j false = true → ∀ e ∈ oj.after, Region.binds .any e = true → listed.getD e.on false = true) → listed.getD (ops.size - 1) false = false →
      (fW ops listed).length + 1 ≤ fuel → Inv w → yC P ops Inv kf (iW P ops z (Q .normal)) (fW ops listed) a w → wpAny P .any ops Q fuel listed a w := by
  have hpos : ops.size - 1 < ops.size := (Array.getElem?_eq_some_iff.1 hz).1
  intro fuel
  induction fuel with
  | zero => intro listed a w _ _ _ hlen; omega
  | succ fuel ih =>
    intro listed a w hs hcl hun hlen hw h
    refine ⟨fun hr => ?_, fun i hi => ?_⟩
    · exfalso
      have hl := yX (kf := kf) hok listed hs hr
      have : ops.size - 1 ∈ aE ops listed := List.mem_filter.2 ⟨List.mem_range.2 hpos, by
        have hb : ops.size - 1 < listed.size := by rw [hs]; exact hpos
        simp [hb] at hun ⊢; exact hun⟩
      rw [hl] at this; cases this
    · obtain ⟨hir, hil⟩ := List.mem_filter.1 hi
      simp only [Bool.and_eq_true] at hil
      have his := List.mem_range.1 hir
      have hoi := Array.getElem?_eq_getElem his
      have hall : ∀ e ∈ ops[i].after, Region.binds .any e = true → listed.getD e.on false = true := by
        have h2 := hil.2
        simp only [hoi, Option.map_some, Option.getD_some, Array.all_eq_true'] at h2
        intro e he hb
        simpa [hb] using h2 e he
      have hcl' : ∀ (j : Nat) (oj : Oper), ops[j]? = some oj → (listed.setIfInBounds i true).getD j false = true → ∀ e ∈ oj.after, Region.binds .any e = true → (listed.setIfInBounds i true).getD e.on false = true := by
        intro j oj hj hl e he hb
        by_cases hji : i = j
        · subst hji
          cases hoi.symm.trans hj
          exact getD_set_true (hall e he hb)
        · rw [getD_set_ne false hji] at hl
          exact getD_set_true (hcl j oj hj hl e he hb)
      by_cases hlast : i = ops.size - 1
      · subst hlast
        have hzz : ops[ops.size - 1] = z := by rw [hoi] at hz; exact Option.some.inj hz
        have hle : fW ops listed = [] := by
          cases hl : fW ops listed with
          | nil => rfl
          | cons r rest =>
            exfalso
            have hr : r ∈ fW ops listed := by rw [hl]; simp
            obtain ⟨hrr, hrl⟩ := List.mem_filter.1 hr
            have hri := List.mem_range.1 hrr
            have hrs : r < ops.size := by omega
            have hb := List.all_eq_true.1 hfin r (List.mem_range.2 hri)
            have := jp hok hcl (Array.getElem?_eq_getElem hrs) (ops.size - 1) _ hoi hri hall hb (bI hm hrs)
            have hrls : r < listed.size := by rw [hs]; exact hrs
            simp [hrls] at hrl this
            rw [hrl] at this; cases this
        rw [hle] at h
        have h : iW P ops z (Q .normal) a w := h
        have hl2 : aE ops (listed.setIfInBounds (ops.size - 1) true) = [] := by
          refine List.filter_eq_nil_iff.2 fun j hj => ?_
          have hjr := List.mem_range.1 hj
          have hjs : j < listed.size := by rw [hs]; exact hjr
          by_cases hji : j = ops.size - 1
          · subst hji; simp [hjs]
          · have hnot : j ∉ fW ops listed := by rw [hle]; simp
            intro hc
            refine hnot (List.mem_filter.2 ⟨List.mem_range.2 (by omega), ?_⟩)
            simpa [Array.getElem?_setIfInBounds_ne (Ne.symm hji)] using hc
        have fin : ∀ a' w', Q .normal a' w' → wpAny P .any ops Q fuel (listed.setIfInBounds (ops.size - 1) true) a' w' := fun a' w' hq =>
          lW (Inv := fun _ => True) (kf := kf) (Q1 := Q .normal) (fun _ _ _ h => h) hok hm fuel _ a' w' (by simp [hs]) hcl' (by rw [hl2]; simp) trivial (by rw [hl2]; exact hq)
        unfold wpOp
        split
        · rename_i e; rw [hz] at e; cases e
        · rename_i o e
          rw [hz] at e; cases e
          unfold iW at h
          split
          · rename_i hwa
            rw [if_pos hwa] at h
            exact .inl (mM fin _ h)
          · rename_i hwa
            rw [if_neg hwa] at h
            exact fin _ _ h
      · have hmem : i ∈ fW ops listed := List.mem_filter.2 ⟨List.mem_range.2 (by omega), hil.1⟩
        obtain ⟨R1, R2, hR⟩ := List.append_of_mem hmem
        have hsort := mp (ops := ops) listed
        rw [hR] at h hsort
        have hlt : ∀ r ∈ R1, r < i := fun r hr => (List.pairwise_append.1 hsort).2.2 r hr i (List.mem_cons_self ..)
        have hun2 : ∀ r ∈ R1, listed.getD r false = false := by
          intro r hr
          have hmr : r ∈ fW ops listed := by rw [hR]; exact List.mem_append_left _ hr
          obtain ⟨hrr, hrl⟩ := List.mem_filter.1 hmr
          have hrs : r < listed.size := by rw [hs]; have := List.mem_range.1 hrr; omega
          simp [hrs] at hrl ⊢; exact hrl
        have hstep := pull (iW P ops z (Q .normal)) R2 R1 (fun r hr o oi ho hoi' => by
          have hri := hlt r hr
          cases hoi.symm.trans hoi'
          rcases ti hok hoi ho hri with ⟨hb, _⟩ | hc
          · have := jp hok hcl ho i _ hoi hri hall hb (bI hm (by omega))
            rw [hun2 r hr] at this; cases this
          · exact hc) a w h
        refine lm hw (fun a' w' hw' h' => ?_) hstep
        rw [← qK hs hR] at h'
        refine ih _ a' w' (by simp [hs]) hcl' ?_ ?_ hw' h'
        · rw [getD_set_ne false (Ne.symm (Ne.symm hlast))]; exact hun
        · rw [qK hs hR]
          have := hlen
          rw [hR] at this
          simp at this ⊢
          omega
theorem oS : fW ops (Array.replicate ops.size false) = List.range (ops.size - 1) :=
  List.filter_eq_self.2 fun i hi => by have := List.mem_range.1 hi; have h2 : i < ops.size := (by omega); simp [h2]
theorem DH (Q1 : Act → World → Prop) (l : List Oper) : ∀ k, (∀ j, j < l.length → l[j]? = ops[k + j]?) → yC P ops Inv kf Q1 (List.range' k l.length) = nF P ops Inv kf Q1 l := by
  induction l with
  | nil => intro k _; funext a w; simp [yC, nF]
  | cons o l ih =>
    intro k h
    have h0 : ops[k]? = some o := by simpa using (h 0 (by simp)).symm
    have ih' := ih (k + 1) (fun j hj => by have := h (j + 1) (by simpa using hj); simpa [Nat.add_assoc, Nat.add_comm 1 j] using this)
    funext a w
    simp only [List.length_cons, List.range'_succ, yC, io, h0, nF, ih']
theorem tX {id : Nat} {Q : Exit → Act → World → Prop} {a : Act} {w : World} {l : List Oper} {z : Oper} (Inv : World → Prop) (kf : Op → RK) (hm : P.follows .mixedOrders = true)
    (hok : (Af kf (l ++ [z]).toArray && Av (l ++ [z]).toArray && DF (l ++ [z]).toArray) = true) (hw : Inv w.drew) (h : nF P (l ++ [z]).toArray Inv kf (iW P (l ++ [z]).toArray z (Q .normal)) l a w.drew) : (Code.region id (l ++ [z]).toArray true).wp P Q a w := by
  simp only [Bool.and_eq_true] at hok
  have hsz : (l ++ [z]).toArray.size - 1 = l.length := by simp
  refine wp_region_any hm (DG (z := z) (by rw [hsz]; simp) hok.2 hok.1.1 hok.1.2 _ _ _ _ (by simp) (fun j oj hj hl => ?_) (aW _ _) (by rw [oS]; simp) hw ?_)
  · exfalso
    have := aW (l ++ [z]).toArray.size j
    rw [this] at hl; cases hl
  · rw [oS, hsz, List.range_eq_range']
    have := DH (P := P) (Inv := Inv) (kf := kf) (iW P (l ++ [z]).toArray z (Q .normal)) (ops := (l ++ [z]).toArray) l 0 (fun j hj => by simp [hj, List.getElem?_append_left])
    rw [this]; exact h
theorem tY {id : Nat} {Q : Exit → Act → World → Prop} {a : Act} {w : World} {L : List Oper} (Inv : World → Prop) (kf : Op → RK) (hm : P.follows .mixedOrders = true)
    (hok : (Af kf L.toArray && Av L.toArray && DF L.toArray) = true) {l : List Oper} {z : Oper} (hl : L.dropLast = l) (hz : L.getLast? = some z) (hw : Inv w.drew) (h : nF P L.toArray Inv kf (iW P L.toArray z (Q .normal)) l a w.drew) : (Code.region id L.toArray true).wp P Q a w := by
  have e : L = l ++ [z] := by
    subst hl
    rw [List.getLast?_eq_some_iff] at hz
    obtain ⟨l', hz⟩ := hz
    rw [hz]; simp
  subst e
  exact tX Inv kf hm hok hw h
theorem mZ {Q : Act → World → Prop} {a : Act} {w : World} {o : Oper} (hw : Region.wanted o (yielded ops a.tmps) = true)
    (h : ∀ K : Act → World → Prop, (∀ a w, Q a w → K a w) → o.wp P a w K rJ) : iW P ops o Q a w := by
  unfold iW; rw [if_pos hw]; exact h _ fun _ _ h => h
end
end Go.Proofs.YtklcfjlmlbnkaaaGreatDoor
