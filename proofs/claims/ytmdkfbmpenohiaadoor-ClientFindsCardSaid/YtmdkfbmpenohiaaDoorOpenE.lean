/- Arguments opened, to any depth, the slices bounded by their bytes. -/
import Derived.Test.YtmdkfbmpenohiaaDoorOpenD
namespace Go.Proofs.YtmdkfbmpenohiaaDoor.Y
open Go.RowKit Go.ChangeShapes Go.WideShapes
/-- cells of type t: n levels deep; B: are the sizes told. -/
def okE (P : Program) (T : Tab) (B : Bool) (w : World) : Nat → TypeId → List Value → Prop
  | 0, _, _ => True
  | n + 1, t, cs => match lk t T with
    | some (.int k _) => ∃ m, cs = [.int k m] ∧ (Lit.int k m).wf = true
    | some (.bool _) => ∃ b, cs = [.bool b]
    | some (.str _) => ∃ s : ByteArray, cs = [.string s] ∧ (B = true → s.size ≤ 140737488351232)
    | some (.row m _ fs) => cs.length = m ∧ ∀ i off ty td, nth fs i = some (off, ty) → lk ty T = some td → okE P T B w n ty ((cs.drop off).take td.size)
    | some (.slc e _) => ∃ x len cap, cs = [.slice x len cap] ∧ len ≤ maxLen ∧ (B = true → len * P.bytesOf e ≤ 140737488351232) ∧ ∀ td, lk e T = some td → 0 < td.size → 0 < len → ∃ b off, x = some ⟨b, off, none⟩ ∧ ∀ j, j < len → ∃ cs', w.rangeAt b (off + j * td.size) cs' ∧ cs'.length = td.size ∧ okE P T B w n e cs'
    | _ => True
section
variable {H : Type} {enc : TypeId × Value → H} {P : Program} {w : World} {base : Nat} {spare : Nat → Bool} {held : Bool}
theorem slc_partsE {T : Tab} (hT : TOK P T) (_hby : T.all (fun p => match p.2 with | .slc e _ => decide (1 ≤ P.bytesOf e) | _ => true) = true) {t e : TypeId} {z : Value} {cs : List Value} {x : DataW H × List MemPlace} {fuel : Nat} (hl : lk t T = some (.slc e z)) (hx : DataW.trod enc P w base spare held fuel t cs = some x) (hW : ∀ m ∈ DataW.weights P t x.1, m ≤ reachBytes) :
    ∃ x len cap, cs = [.slice x len cap] ∧ len * P.bytesOf e ≤ 140737488351232 := by
  have hu := tdOf_slc (hT.get hl)
  rcases DataW.trod_slice hu hx with ⟨rfl, _⟩ | ⟨a, len, cap, el, rest, _, _, rfl, rfl, _, _, _, hel, _⟩
  · exact ⟨none, 0, 0, rfl, by omega⟩
  · have h1 := hW ((el.length + rest.length) * P.bytesOf e) (by simp [DataW.weights, hu])
    have h3 : (el.length + rest.length) * P.bytesOf e ≤ 140737488351232 := by simpa [reachBytes] using h1
    refine ⟨some a, len, cap, rfl, Nat.le_trans (Nat.mul_le_mul_right _ ?_) h3⟩
    omega
theorem deep_okE {T : Tab} {B : Bool} (hT : TOK P T) (hby : T.all (fun p => match p.2 with | .slc e _ => decide (1 ≤ P.bytesOf e) | _ => true) = true) : ∀ (n : Nat) {t : TypeId} {cs : List Value} {x : DataW H × List MemPlace} {fuel : Nat}, DataW.trod enc P w base spare held fuel t cs = some x → (B = true → ∀ m ∈ DataW.weights P t x.1, m ≤ reachBytes) → okE P T B w n t cs
  | 0, t, cs, x, fuel, _, _ => trivial
  | n + 1, t, cs, x, fuel, hx, hW => by
    unfold okE
    cases hl : lk t T with
    | none => trivial
    | some d =>
      cases d with
      | int k z =>
        obtain ⟨m, rfl, _, hw⟩ := DataW.trod_int (tdOf_int (hT.get hl)) hx
        exact ⟨m, rfl, hw⟩
      | bool z =>
        obtain ⟨b, rfl, _⟩ := DataW.trod_bool (tdOf_bool (hT.get hl)) hx
        exact ⟨b, rfl⟩
      | str z =>
        obtain ⟨s, rfl, hxs, _⟩ := DataW.trod_string (tdOf_str (hT.get hl)) hx
        exact ⟨s, rfl, fun hb => by
          have hs : s.size ≤ reachBytes := hW hb s.size (by rw [hxs]; simp [DataW.weights])
          simpa [reachBytes] using hs⟩
      | row m z fs =>
        obtain ⟨F, i, hu, hi, _, hsz, rfl⟩ := tdOf_row (hT.get hl)
        obtain ⟨xs, n', _, hxx, hlen, hxl, hg⟩ := DataW.trod_struct hu hx
        have hcl : cs.length = m := by rw [hlen]; simp [Program.cellsOf, hi, hsz]
        refine ⟨hcl, fun j off ty td hj htd => ?_⟩
        rw [nth_eq, List.getElem?_map] at hj
        obtain ⟨f, hf, he⟩ := Option.map_eq_some_iff.1 hj
        obtain ⟨rfl, rfl⟩ := (by simpa using he)
        have hjF : F[j]? = some f := by simpa using hf
        have hgf := hg j f hjF
        have hjx : j < xs.length := by rw [hxl]; exact (Array.getElem?_eq_some_iff.1 hjF).1
        rw [List.getElem?_eq_getElem hjx] at hgf
        obtain ⟨i2, hi2, hs2, _⟩ := tdOf_info (hT.get htd)
        have hc2 : P.cellsOf f.type = td.size := by simp [Program.cellsOf, hi2, hs2]
        rw [hc2] at hgf
        refine deep_okE hT hby n hgf fun hb => ?_
        have hW := hW hb
        rw [hxx] at hW
        exact weights_struct hu rfl hW (by rw [List.getElem?_map, hf]; rfl) (by rw [List.getElem?_map, List.getElem?_eq_getElem hjx]; rfl)
      | slc e z =>
        have hu := tdOf_slc (hT.get hl)
        obtain ⟨x0, n0, c0, e0, hn1⟩ : ∃ x len cap, cs = [.slice x len cap] ∧ len ≤ maxLen := by
          rcases DataW.trod_slice hu hx with ⟨e1, _⟩ | ⟨a, len, cap, elems, rest, n', _, e1, _, _, hlc, hcm, _⟩
          · exact ⟨_, _, _, e1, Nat.zero_le _⟩
          · exact ⟨_, _, _, e1, Nat.le_trans hlc hcm⟩
        have hn0 : B = true → n0 * P.bytesOf e ≤ 140737488351232 := fun hb => by
          obtain ⟨x1, n1, c1, e1, h1⟩ := slc_partsE hT hby hl hx (hW hb)
          rw [e0] at e1; simp at e1; rw [e1.2.1]; exact h1
        refine ⟨x0, n0, c0, e0, hn1, hn0, fun td htd hpos hlen => ?_⟩
        obtain ⟨i2, hi2, hs2, _⟩ := tdOf_info (hT.get htd)
        have hce : P.cellsOf e = td.size := by simp [Program.cellsOf, hi2, hs2]
        rcases DataW.trod_slice hu hx with ⟨e1, _⟩ | ⟨a, len, cap, elems, rest, n', _, e1, hxx, _, hlc, hcm, hel, hget, _⟩
        · rw [e0] at e1; simp at e1; omega
        · rw [e0] at e1
          obtain ⟨rfl, rfl, rfl⟩ := (by simpa using e1)
          have hat : ∀ j, j < n0 → ∃ cs y, w.cells? base (a.add (j * td.size)) td.size = some cs ∧ DataW.trod enc P w base spare held n' e cs = some y ∧ (B = true → ∀ m ∈ DataW.weights P e y.1, m ≤ reachBytes) := by
            intro j hj
            have := hget j hj
            rw [hce, List.getElem?_eq_getElem (by omega)] at this
            obtain ⟨cs, h1, h2⟩ := Option.bind_eq_some_iff.1 this
            refine ⟨cs, _, h1, h2, fun hb m hm => hW hb m ?_⟩
            have hd : x.1 = .slice (elems.map (·.1)) (rest.map (·.1)) := (Prod.ext_iff.1 hxx).1
            rw [hd]
            simp only [DataW.weights, hu, List.mem_cons, List.mem_append]
            right; left
            exact weights_all (List.mem_map.2 ⟨_, List.getElem_mem (by omega), rfl⟩) m hm
          obtain ⟨b, off, sp⟩ := a
          have hsp : sp = none := by
            obtain ⟨cs, y, h1, _, _⟩ := hat 0 hlen
            obtain ⟨_, h2, h3⟩ := World.cells?_some h1
            have hc := h3 0 (by omega)
            rw [Nat.zero_mul] at hc
            have e0 : ((⟨b, off, sp⟩ : Addr).add 0).add 0 = ⟨b, off, sp⟩ := rfl
            rw [e0] at hc
            cases sp with
            | none => rfl
            | some s =>
              exfalso
              have hcn : w.cell? ⟨b, off, some s⟩ = none := by unfold World.cell?; split <;> simp
              rw [hcn] at hc
              have : cs.length = 0 := by
                cases cs with
                | nil => rfl
                | cons c cs => simp at hc
              omega
          subst hsp
          refine ⟨b, off, rfl, fun j hj => ?_⟩
          obtain ⟨cs, y, h1, h2, h3⟩ := hat j hj
          obtain ⟨_, hlen2, h4⟩ := World.cells?_some h1
          refine ⟨cs, fun k v hv => ?_, hlen2, deep_okE hT hby n h2 h3⟩
          have hk' : k < td.size := by have := (List.getElem?_eq_some_iff.1 hv).1; omega
          have := h4 k hk'
          rw [Addr.add_mid, Addr.add_mid, hv] at this
          exact this
      | ptr e z => trivial
      | arr a b c d => trivial
      | one z => trivial
/-- a struct that came in, opened to n levels. -/
theorem open_deepE {T : Tab} (B : Bool) (hT : TOK P T) (n : Nat) {t : TypeId} {r : Reach} {b0 : Nat} {v : Value} {d : DataW H} {p : List MemPlace} {m : Nat} {z : List Value} {fs : List (Nat × TypeId)} (hl : lk t T = some (.row m z fs))
    (hby : T.all (fun p => match p.2 with | .slc e _ => decide (1 ≤ P.bytesOf e) | _ => true) = true) (hW : B = true → ∀ m ∈ DataW.weights P t d, m ≤ reachBytes)
    (hv : Value.okWide P w r b0 t v) (h : DataW.Trod enc P w base spare held t v d p) : ∃ cs, v = .agg ⟨cs⟩ ∧ okE P T B w n t cs := by
  obtain ⟨F, i, hu, _⟩ := tdOf_row (hT.get hl)
  obtain ⟨cs, rfl, _⟩ := okWide_struct hu hv
  obtain ⟨fuel, hf⟩ := h
  obtain ⟨cs⟩ := cs
  exact ⟨cs, rfl, deep_okE hT hby n (by simpa [Value.cells] using hf) hW⟩
end
section
variable {P : Program} {T : Tab} {B : Bool} {w : World} {n : Nat} {t : TypeId} {cs : List Value}
theorem okE_int {k : IntKind} {z : Value} (hl : lk t T = some (.int k z)) (h : okE P T B w (n + 1) t cs) : ∃ m, cs = [.int k m] ∧ (Lit.int k m).wf = true := by
  unfold okE at h; rw [hl] at h; exact h
theorem okE_bool {z : Value} (hl : lk t T = some (.bool z)) (h : okE P T B w (n + 1) t cs) : ∃ b, cs = [.bool b] := by
  unfold okE at h; rw [hl] at h; exact h
theorem okE_str {z : Value} (hl : lk t T = some (.str z)) (h : okE P T B w (n + 1) t cs) : ∃ s : ByteArray, cs = [.string s] ∧ (B = true → s.size ≤ 140737488351232) := by
  unfold okE at h; rw [hl] at h; exact h
theorem okE_row {m : Nat} {z : List Value} {fs : List (Nat × TypeId)} (hl : lk t T = some (.row m z fs)) (h : okE P T B w (n + 1) t cs) : cs.length = m ∧ ∀ i off ty td, nth fs i = some (off, ty) → lk ty T = some td → okE P T B w n ty ((cs.drop off).take td.size) := by
  unfold okE at h; rw [hl] at h; exact h
theorem okE_slc {e : TypeId} {z : Value} (hl : lk t T = some (.slc e z)) (h : okE P T B w (n + 1) t cs) : ∃ x len cap, cs = [.slice x len cap] ∧ len ≤ maxLen ∧ (B = true → len * P.bytesOf e ≤ 140737488351232) ∧ ∀ td, lk e T = some td → 0 < td.size → 0 < len → ∃ b off, x = some ⟨b, off, none⟩ ∧ ∀ j, j < len → ∃ cs', w.rangeAt b (off + j * td.size) cs' ∧ cs'.length = td.size ∧ okE P T B w n e cs' := by
  unfold okE at h; rw [hl] at h; exact h
end
/-- a slice of rows of type e, each told by f. -/
theorem okE_rows {α : Type} {P : Program} {T : Tab} {B : Bool} {w : World} {n : Nat} {t e : TypeId} {cs : List Value} {z : Value} {td : TD} (f : α → List Value) (X : α → Prop) (hl : lk t T = some (.slc e z)) (he : lk e T = some td) (hp : Nat.blt 0 td.size = true) (hf : ∀ cs', okE P T B w n e cs' → ∃ v, cs' = f v ∧ X v) (h : okE P T B w (n + 1) t cs) :
    ∃ x cap, ∃ l : List α, cs = [.slice x l.length cap] ∧ l.length ≤ maxLen ∧ (B = true → l.length * P.bytesOf e ≤ 140737488351232) ∧ (0 < l.length → ∃ b off, x = some ⟨b, off, none⟩ ∧ ∀ j v, l[j]? = some v → w.rangeAt b (off + j * td.size) (f v)) ∧ ∀ v ∈ l, X v := by
  obtain ⟨x, len, cap, rfl, hlen, hlen2, hr⟩ := okE_slc hl h
  by_cases h0 : 0 < len
  · obtain ⟨b, off, hx, hrows⟩ := hr td he (by rw [Nat.blt_eq] at hp; exact hp) h0
    obtain ⟨l, h1, h2⟩ := pick_rows len (R := fun j v => w.rangeAt b (off + j * td.size) (f v) ∧ X v) (fun j hj => by
      obtain ⟨cs', h3, _, h4⟩ := hrows j hj
      obtain ⟨v, rfl, hv⟩ := hf cs' h4
      exact ⟨v, h3, hv⟩)
    subst h1
    refine ⟨x, cap, l, rfl, hlen, hlen2, fun _ => ⟨b, off, hx, fun j v hj => (h2 j v hj).1⟩, fun v hv => ?_⟩
    obtain ⟨j, hj, rfl⟩ := List.mem_iff_getElem.1 hv
    exact (h2 j _ (List.getElem?_eq_getElem hj)).2
  · obtain rfl : len = 0 := by omega
    exact ⟨x, cap, [], rfl, by simp, by simp, fun h => absurd h (Nat.lt_irrefl _), fun v hv => by cases hv⟩
end Go.Proofs.YtmdkfbmpenohiaaDoor.Y
