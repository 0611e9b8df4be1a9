/- What the premise on a listed package-level variable gives a walk: the variable's block, where its datum is made of numbers, strings, arrays and structs alone. -/
import Derived.Test.YtiodkdafoocofaaGreatDoorLaid
namespace Go.Proofs.YtiodkdafoocofaaGreatDoor
open Go.RowKit Go.ChangeShapes

mutual
/-- the cells of a datum that is made of numbers, strings, arrays and structs. -/
def flat : DataW Unit → Option (List Value)
  | .lit (.int k n) => some [.int k n]
  | .lit (.bool b) => some [.bool b]
  | .lit (.string s) => some [.string ⟨s.toArray⟩]
  | .agg ds => flatAll ds
  | _ => none
def flatAll : List (DataW Unit) → Option (List Value)
  | [] => some []
  | d :: r => (flat d).bind fun x => (flatAll r).map (x ++ ·)
end
def tileB (P : Program) : Nat → List Field → Nat → Bool
  | off, [], n => off == n
  | off, g :: r, n => (g.offset == off) && tileB P (off + P.cellsOf g.type) r n
def plainB (P : Program) : Nat → TypeId → Bool
  | 0, _ => false
  | f + 1, t => match P.underlying t with
    | some .bool => true
    | some (.int _) => true
    | some .string => true
    | some (.array n e) => plainB P f e && (P.cellsOf t == n * P.cellsOf e)
    | some (.struct fs) => fs.toList.all (fun g => plainB P f g.type) && tileB P 0 fs.toList (P.cellsOf t)
    | _ => false
theorem flatAll_row {P : Program} {w : World} {m c : Nat} {e : TypeId} (ih : ∀ cs d p, DataW.trod (fun _ => ()) P w 0 (fun _ => true) false m e cs = some (d, p) → flat d = some cs) :
    ∀ (xs : List (DataW Unit × List MemPlace)) (cs : List Value), cs.length = xs.length * c → (∀ i (h : i < xs.length), DataW.trod (fun _ => ()) P w 0 (fun _ => true) false m e ((cs.drop (i * c)).take c) = some xs[i]) → flatAll (xs.map (·.1)) = some cs
  | [], cs, hl, _ => by
    have : cs = [] := List.length_eq_zero_iff.1 (by simpa using hl)
    subst this; rfl
  | x :: xs, cs, hl, h => by
    have h0 := h 0 (by simp)
    simp only [Nat.zero_mul, List.drop_zero, List.getElem_cons_zero] at h0
    have e0 := ih _ x.1 x.2 h0
    have hr := flatAll_row (c := c) ih xs (cs.drop c) (by rw [List.length_drop, hl, List.length_cons, Nat.succ_mul]; omega) (fun i hi => by
      have := h (i + 1) (by simp; omega)
      rw [List.drop_drop, show c + i * c = (i + 1) * c by rw [Nat.succ_mul, Nat.add_comm]]
      simpa using this)
    simp only [List.map_cons, flatAll, e0, Option.bind_some, hr, Option.map_some]
    rw [List.take_append_drop]
theorem flatAll_tile {P : Program} {w : World} {m k : Nat} (cs : List Value) (hp : ∀ t, plainB P k t = true → ∀ cs d p, DataW.trod (fun _ => ()) P w 0 (fun _ => true) false m t cs = some (d, p) → flat d = some cs) :
    ∀ (fs : List Field) (off : Nat) (xs : List (DataW Unit × List MemPlace)), (fs.all fun g => plainB P k g.type) = true → tileB P off fs cs.length = true →
      (fs.mapM fun f => DataW.trod (fun _ => ()) P w 0 (fun _ => true) false m f.type ((cs.drop f.offset).take (P.cellsOf f.type))) = some xs → flatAll (xs.map (·.1)) = some (cs.drop off)
  | [], off, xs, _, ht, hm => by
    have hx : xs = [] := by simpa using hm.symm
    have ho : off = cs.length := by simpa [tileB] using ht
    subst hx; subst ho
    simp [flatAll]
  | g :: r, off, xs, ha, ht, hm => by
    simp only [List.all_cons, Bool.and_eq_true] at ha
    simp only [tileB, Bool.and_eq_true, beq_iff_eq] at ht
    rw [List.mapM_cons] at hm
    cases h1 : DataW.trod (fun _ => ()) P w 0 (fun _ => true) false m g.type ((cs.drop g.offset).take (P.cellsOf g.type)) with
    | none => rw [h1] at hm; simp at hm
    | some x =>
      rw [h1] at hm
      simp only [Option.bind_eq_bind, Option.bind_some, Option.pure_def] at hm
      cases h2 : (r.mapM fun f => DataW.trod (fun _ => ()) P w 0 (fun _ => true) false m f.type ((cs.drop f.offset).take (P.cellsOf f.type))) with
      | none => rw [h2] at hm; simp at hm
      | some ys =>
        rw [h2] at hm
        simp only [Option.bind_some, Option.some.injEq] at hm
        subst hm
        have e0 := hp g.type ha.1 _ x.1 x.2 h1
        have hr := flatAll_tile cs hp r (off + P.cellsOf g.type) ys ha.2 ht.2 h2
        simp only [List.map_cons, flatAll, e0, Option.bind_some, hr, Option.map_some]
        rw [ht.1, ← List.drop_drop, List.take_append_drop]
theorem flat_trod {P : Program} {w : World} : ∀ (m f : Nat) (t : TypeId), plainB P f t = true → ∀ (cs : List Value) (d : DataW Unit) (p : List MemPlace), DataW.trod (fun _ => ()) P w 0 (fun _ => true) false m t cs = some (d, p) → flat d = some cs
  | 0, _, _, _, _, _, _, h => by simp [DataW.trod] at h
  | _ + 1, 0, _, hp, _, _, _, _ => by simp [plainB] at hp
  | m + 1, f + 1, t, hp, cs, d, p, h => by
    unfold plainB at hp
    cases hu : P.underlying t with
    | none => rw [hu] at hp; simp at hp
    | some u =>
      rw [hu] at hp
      cases u with
      | bool =>
        unfold DataW.trod at h; rw [hu] at h
        split at h <;> simp_all
        obtain ⟨rfl, _⟩ := h; rfl
      | int k =>
        obtain ⟨n, rfl, hx, _⟩ := DataW.trod_int hu h
        simp only [Prod.mk.injEq] at hx
        rw [hx.1]; rfl
      | string =>
        obtain ⟨s, rfl, hx, _⟩ := DataW.trod_string hu h
        simp only [Prod.mk.injEq] at hx
        rw [hx.1]; rfl
      | array n e =>
        simp only [Bool.and_eq_true, beq_iff_eq] at hp
        obtain ⟨xs, k, hk, hx, hl, hn, hel⟩ := DataW.trod_array hu h
        obtain rfl : m = k := by omega
        simp only [Prod.mk.injEq] at hx
        rw [hx.1]
        refine flatAll_row (w := w) (c := P.cellsOf e) (fun cs d p h => flat_trod (w := w) m f e hp.1 cs d p h) xs cs (by rw [hl, hp.2, hn]) (fun i hi => ?_)
        rw [hel i (by omega), List.getElem?_eq_getElem hi]
      | struct fs =>
        simp only [Bool.and_eq_true] at hp
        unfold DataW.trod at h; rw [hu] at h
        simp only at h
        split at h
        · rename_i hl
          cases h1 : (fs.toList.mapM fun f => DataW.trod (fun _ => ()) P w 0 (fun _ => true) false m f.type ((cs.drop f.offset).take (P.cellsOf f.type))) with
          | none => rw [h1] at h; simp at h
          | some xs =>
            rw [h1] at h
            simp only [Option.map_some, Option.some.injEq, Prod.mk.injEq] at h
            rw [← h.1]
            have := flatAll_tile (w := w) (k := f) cs (fun t ht cs d p h => flat_trod (w := w) m f t ht cs d p h) fs.toList 0 xs hp.1 (by rw [hl]; exact hp.2) h1
            rw [flat]
            simpa using this
        · cases h
      | _ => simp at hp
theorem laid_block {P : Program} {w : World} {l : List (String × DataW Unit)} {nm : String} {d : DataW Unit} {g : Nat} {t : TypeId} {vs : List Value} (h : laidMet P l w) (hm : (nm, d) ∈ l) (hg : P.globalNamed nm = some g) (ht : (P.globals[g]?).map (·.type) = some t)
    (hp : plainB P 8 t = true) (hf : flat d = some vs) : ∃ ty fz, w.heap[g]? = some (.cells vs.toArray ty fz) := by
  obtain ⟨ps, h, _⟩ := h
  obtain ⟨g', t', cs, fuel, p, h1, h2, h3, h4⟩ := laidVars_mem h hm
  obtain rfl := Option.some.inj (hg.symm.trans h1)
  obtain rfl := Option.some.inj (ht.symm.trans h2)
  have hc := flat_trod fuel 8 t hp _ _ _ h4
  rw [hf] at hc
  have e : cs = vs.toArray := by rw [Option.some.inj hc]
  unfold World.var? at h3
  rw [h1] at h3
  simp only [Option.bind_some] at h3
  split at h3
  · rename_i c ty fz hb
    obtain rfl := Option.some.inj h3
    exact ⟨ty, fz, by rw [hb, e]⟩
  · cases h3
end Go.Proofs.YtiodkdafoocofaaGreatDoor
