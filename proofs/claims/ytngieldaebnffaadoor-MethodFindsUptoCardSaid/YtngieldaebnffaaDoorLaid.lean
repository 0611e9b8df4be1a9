/- What the premise on the listed package-level variables gives a walk: the cells of a table of numbers or strings, and of a sentinel error. -/
import Derived.Test.YtngieldaebnffaaDoorChecked
import Derived.LaidMore
import Derived.OpenShut
import Derived.LaidHandle
import Derived.ChangeBears2
import Derived.MakeChecks
namespace Go.Proofs.YtngieldaebnffaaDoor
open Go.RowKit Go.ChangeShapes

theorem laidVars_mem {P : Program} {w : World} : ∀ {l : List (String × DataW Unit)} {ps : List MemPlace} {n : String} {d : DataW Unit}, DataW.LaidVars P w l ps → (n, d) ∈ l →
    ∃ g t cs fuel p, P.globalNamed n = some g ∧ (P.globals[g]?).map (·.type) = some t ∧ w.var? P n = some cs ∧ DataW.trod (fun _ => ()) P w 0 (fun _ => true) false fuel t cs.toList = some (d, p)
  | [], _, _, _, _, h => by cases h
  | (m, e) :: r, ps, n, d, h, hm => by
    obtain ⟨g, t, cs, fuel, p, q, h1, h2, h3, h4, h5, h6⟩ := h
    rcases List.mem_cons.1 hm with hx | hx
    · cases hx; exact ⟨g, t, cs, fuel, p, h1, h2, h3, h4⟩
    · exact laidVars_mem h5 hx
theorem laidMet_at {P : Program} {w : World} {l : List (String × DataW Unit)} {n : String} {d : DataW Unit} {g : Nat} {t : TypeId} (h : laidMet P l w) (hm : (n, d) ∈ l) (hg : P.globalNamed n = some g) (ht : (P.globals[g]?).map (·.type) = some t) :
    ∃ (cs : Array Value) (fuel : Nat) (p : List MemPlace), (∀ i, w.cell? ⟨g, i, none⟩ = cs[i]?) ∧ DataW.trod (fun _ => ()) P w 0 (fun _ => true) false fuel t cs.toList = some (d, p) := by
  obtain ⟨ps, h, _⟩ := h
  obtain ⟨g', t', cs, fuel, p, h1, h2, h3, h4⟩ := laidVars_mem h hm
  obtain rfl := Option.some.inj (hg.symm.trans h1)
  obtain rfl := Option.some.inj (ht.symm.trans h2)
  exact ⟨cs, fuel, p, fun i => World.var?_cell h1 h3 i, h4⟩
theorem flat_one {P : Program} {w : World} {n : Nat} {t e : TypeId} {fuel : Nat} {cs : Array Value} {ds : List (DataW Unit)} {p : List MemPlace} (hu : P.underlying t = some (.array n e)) (hc : P.cellsOf e = 1)
    (h : DataW.trod (fun _ => ()) P w 0 (fun _ => true) false fuel t cs.toList = some (.agg ds, p)) (i : Nat) (hi : i < n) :
    ∃ (m : Nat) (v : Value) (d : DataW Unit) (q : List MemPlace), cs[i]? = some v ∧ ds[i]? = some d ∧ DataW.trod (fun _ => ()) P w 0 (fun _ => true) false m e [v] = some (d, q) := by
  obtain ⟨xs, m, rfl, hx, hl, hn, hel⟩ := DataW.trod_array hu h
  have h0 := hel i hi
  rw [hc, Nat.mul_one] at h0
  have hxi : i < xs.length := by omega
  rw [List.getElem?_eq_getElem hxi] at h0
  simp only [Prod.mk.injEq, DataW.agg.injEq] at hx
  have hne : (cs.toList.drop i).take 1 ≠ [] := by
    intro hnil; rw [hnil] at h0
    cases m with
    | zero => simp [DataW.trod] at h0
    | succ m =>
      unfold DataW.trod at h0
      have : P.cellsOf e ≠ 0 := by omega
      cases hue : P.underlying e with
      | none => rw [hue] at h0; simp at h0
      | some x => rw [hue] at h0; cases x <;> simp_all
  cases hd : cs.toList.drop i with
  | nil => rw [hd] at hne; exact absurd rfl hne
  | cons v r =>
    rw [hd] at h0
    refine ⟨m, v, xs[i].1, xs[i].2, ?_, ?_, h0⟩
    · have := congrArg (fun l : List Value => l[0]?) hd
      simpa using this
    · rw [hx.1, List.getElem?_map, List.getElem?_eq_getElem hxi]; rfl
theorem laid_ints {P : Program} {w : World} {l : List (String × DataW Unit)} {nm : String} {g n : Nat} {t e : TypeId} {k : IntKind} (zs : List Int) (h : laidMet P l w) (hm : (nm, .agg (zs.map fun z => .lit (.int k z))) ∈ l)
    (hg : P.globalNamed nm = some g) (ht : (P.globals[g]?).map (·.type) = some t) (hu : P.underlying t = some (.array n e)) (he : P.underlying e = some (.int k)) (hc : P.cellsOf e = 1) (i : Nat) (hi : i < n) :
    ∃ z, zs[i]? = some z ∧ w.cell? ⟨g, i, none⟩ = some (.int k z) := by
  obtain ⟨cs, fuel, p, h1, h2⟩ := laidMet_at h hm hg ht
  obtain ⟨m, v, d, q, h3, h4, h5⟩ := flat_one hu hc h2 i hi
  obtain ⟨z, e1, e2, _⟩ := DataW.trod_int he h5
  rw [List.getElem?_map] at h4
  cases hz : zs[i]? with
  | none => rw [hz] at h4; cases h4
  | some y =>
    rw [hz] at h4
    simp only [Prod.mk.injEq] at e2
    rw [e2.1] at h4
    simp only [Option.map_some, Option.some.injEq, DataW.lit.injEq, Lit.int.injEq, true_and] at h4
    obtain rfl : v = .int k z := by simpa using e1
    exact ⟨y, rfl, by rw [h1, h3, h4]⟩
theorem laid_strs {P : Program} {w : World} {l : List (String × DataW Unit)} {nm : String} {g n : Nat} {t e : TypeId} (zs : List (List UInt8)) (h : laidMet P l w) (hm : (nm, .agg (zs.map fun z => .lit (.string z))) ∈ l)
    (hg : P.globalNamed nm = some g) (ht : (P.globals[g]?).map (·.type) = some t) (hu : P.underlying t = some (.array n e)) (he : P.underlying e = some .string) (hc : P.cellsOf e = 1) (i : Nat) (hi : i < n) :
    ∃ z, zs[i]? = some z ∧ w.cell? ⟨g, i, none⟩ = some (.string ⟨z.toArray⟩) := by
  obtain ⟨cs, fuel, p, h1, h2⟩ := laidMet_at h hm hg ht
  obtain ⟨m, v, d, q, h3, h4, h5⟩ := flat_one hu hc h2 i hi
  obtain ⟨z, e1, e2, _⟩ := DataW.trod_string he h5
  rw [List.getElem?_map] at h4
  cases hz : zs[i]? with
  | none => rw [hz] at h4; cases h4
  | some y =>
    rw [hz] at h4
    simp only [Prod.mk.injEq] at e2
    rw [e2.1] at h4
    simp only [Option.map_some, Option.some.injEq, DataW.lit.injEq, Lit.string.injEq] at h4
    obtain rfl : v = .string z := by simpa using e1
    exact ⟨y, rfl, by rw [h1, h3, h4]⟩
theorem laid_err {P : Program} {w : World} {l : List (String × DataW Unit)} {nm : String} {d : DataW Unit} {g : Nat} {t : TypeId} {ms : Array (String × TypeId)} (h : laidMet P l w) (hm : (nm, d) ∈ l)
    (hg : P.globalNamed nm = some g) (ht : (P.globals[g]?).map (·.type) = some t) (hu : P.underlying t = some (.interface ms)) :
    ∃ e0, w.cell? ⟨g, 0, none⟩ = some e0 ∧ (e0 = .nilIface ∨ ∃ te pe, e0 = .iface te pe) := by
  obtain ⟨cs, fuel, p, h1, h2⟩ := laidMet_at h hm hg ht
  cases fuel with
  | zero => simp [DataW.trod] at h2
  | succ m =>
    unfold DataW.trod at h2
    rw [hu] at h2
    obtain ⟨L⟩ := cs
    simp only at h2
    split at h2 <;> simp_all
end Go.Proofs.YtngieldaebnffaaDoor
