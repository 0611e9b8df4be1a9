/- A struct argument, opened cell by cell. -/
import Derived.Test.YtcedpdofjbaciaaDoorSxw
import Derived.ChangeArms
import Derived.OpenShut
namespace Go.Proofs.YtcedpdofjbaciaaDoor
open Go.RowKit Go.ChangeShapes Go.WideShapes
inductive CK where
  | int (k : IntKind)
  | bool
  | str
  | any
def flatF (f : TypeId → Option (List CK)) : List (Nat × TypeId) → Nat → Option (List CK × Nat)
  | [], cur => some ([], cur)
  | (off, ty) :: r, cur => match Nat.beq off cur with
    | true => match f ty with
      | some ks => match flatF f r (cur + ks.length) with
        | some (rest, e) => some (ks ++ rest, e)
        | none => none
      | none => none
    | false => none
def flatK (T : Tab) : Nat → TypeId → Option (List CK)
  | 0, _ => none
  | n + 1, t => match lk t T with
    | some (.int k _) => some [.int k]
    | some (.bool _) => some [.bool]
    | some (.str _) => some [.str]
    | some (.row m _ fs) => match flatF (flatK T n) fs 0 with
      | some (ks, e) => match Nat.beq e m with
        | true => some ks
        | false => none
      | none => none
    | some (.slc _ _) => some [.any]
    | _ => none
def cellOk : CK → Value → Prop
  | .int k, v => ∃ n, v = .int k n ∧ (Lit.int k n).wf = true
  | .bool, v => ∃ b, v = .bool b
  | .str, v => ∃ s, v = .string s ∧ s.size ≤ maxLen
  | .any, _ => True
def okL : List CK → List Value → Prop
  | [], [] => True
  | k :: ks, v :: vs => cellOk k v ∧ okL ks vs
  | _, _ => False
theorem okL_cons {k : CK} {ks : List CK} {cs : List Value} (h : okL (k :: ks) cs) : ∃ v vs, cs = v :: vs ∧ cellOk k v ∧ okL ks vs := by
  cases cs with
  | nil => exact h.elim
  | cons v vs => exact ⟨v, vs, rfl, h.1, h.2⟩
theorem okL_nil {cs : List Value} (h : okL [] cs) : cs = [] := by
  cases cs with
  | nil => rfl
  | cons v vs => exact h.elim
theorem okL_len : ∀ {ks : List CK} {cs : List Value}, okL ks cs → cs.length = ks.length
  | [], [], _ => rfl
  | [], _ :: _, h => h.elim
  | _ :: _, [], h => h.elim
  | _ :: ks, _ :: cs, h => by simp [okL_len h.2]
theorem okL_app : ∀ {ks rest : List CK} {l : List Value}, okL ks (l.take ks.length) → okL rest (l.drop ks.length) → okL (ks ++ rest) l
  | [], rest, l, _, h2 => by simpa using h2
  | k :: ks, rest, [], h1, _ => by simp at h1; exact h1.elim
  | k :: ks, rest, v :: l, h1, h2 => by
    simp only [List.length_cons, List.take_succ_cons, List.drop_succ_cons] at h1 h2
    exact ⟨h1.1, okL_app h1.2 h2⟩
section
variable {H : Type} {enc : TypeId × Value → H} {P : Program} {w : World} {base : Nat} {spare : Nat → Bool} {held : Bool}
theorem flat_ok {T : Tab} (hT : TOK P T) : ∀ (n : Nat) {t : TypeId} {ks : List CK} {cs : List Value} {x : DataW H × List MemPlace} {fuel : Nat}, flatK T n t = some ks → DataW.trod enc P w base spare held fuel t cs = some x → okL ks cs
  | 0, t, ks, cs, x, fuel, h, _ => by cases h
  | n + 1, t, ks, cs, x, fuel, h, hx => by
    simp only [flatK] at h
    split at h
    · rename_i k z hl
      obtain rfl := (by simpa using h)
      obtain ⟨m, rfl, _, hw⟩ := DataW.trod_int (tdOf_int (hT.get hl)) hx
      exact ⟨⟨m, rfl, hw⟩, trivial⟩
    · rename_i z hl
      obtain rfl := (by simpa using h)
      obtain ⟨b, rfl, _⟩ := DataW.trod_bool (tdOf_bool (hT.get hl)) hx
      exact ⟨⟨b, rfl⟩, trivial⟩
    · rename_i z hl
      obtain rfl := (by simpa using h)
      obtain ⟨s, rfl, _, hs⟩ := DataW.trod_string (tdOf_str (hT.get hl)) hx
      exact ⟨⟨s, rfl, hs⟩, trivial⟩
    · rename_i m z fs hl
      split at h <;> first | (cases h; done) | skip
      rename_i ks' e hf
      split at h <;> first | (cases h; done) | skip
      rename_i hb
      obtain rfl := (by simpa using h)
      obtain ⟨F, i, hu, hi, _, hsz, rfl⟩ := tdOf_row (hT.get hl)
      obtain ⟨xs, n', _, _, hlen, hxl, hg⟩ := DataW.trod_struct hu hx
      have hcl : cs.length = m := by rw [hlen]; simp [Program.cellsOf, hi, hsz]
      have he := Nat.eq_of_beq_eq_true hb
      have key : ∀ (l : List Field) (cur : Nat) (ks' : List CK) (e : Nat), (∀ f ∈ l, f ∈ F.toList) → flatF (flatK T n) (l.map fun f => (f.offset, f.type)) cur = some (ks', e) → e = cs.length → okL ks' (cs.drop cur) := by
        intro l
        induction l with
        | nil =>
          intro cur ks' e _ hh he'
          obtain ⟨rfl, rfl⟩ := (by simpa [flatF] using hh)
          rw [he', List.drop_length]; trivial
        | cons f l ih =>
          intro cur ks' e hm hh he'
          simp only [List.map_cons, flatF] at hh
          split at hh <;> first | (cases hh; done) | skip
          rename_i hoff
          split at hh <;> first | (cases hh; done) | skip
          rename_i k1 hk1
          split at hh <;> first | (cases hh; done) | skip
          rename_i rest e2 hr
          obtain ⟨rfl, rfl⟩ := (by simpa using hh)
          have hoff' := Nat.eq_of_beq_eq_true hoff
          obtain ⟨j, hj⟩ := List.mem_iff_getElem?.1 (hm f (List.mem_cons_self ..))
          have hjF : F[j]? = some f := by simpa using hj
          have hgf := hg j f hjF
          have hjx : j < xs.length := by rw [hxl]; exact (Array.getElem?_eq_some_iff.1 hjF).1
          rw [List.getElem?_eq_getElem hjx] at hgf
          have hok := flat_ok hT n hk1 hgf
          rw [hoff'] at hok
          have hl1 := okL_len hok
          have htake : (cs.drop cur).take k1.length = (cs.drop cur).take (P.cellsOf f.type) := by
            rw [List.length_take] at hl1
            rw [← hl1]
            by_cases hmin : P.cellsOf f.type ≤ (cs.drop cur).length
            · rw [Nat.min_eq_left hmin]
            · rw [Nat.min_eq_right (by omega), List.take_of_length_le (Nat.le_refl _), List.take_of_length_le (by omega)]
          refine okL_app (by rw [htake]; exact hok) ?_
          rw [List.drop_drop]
          exact ih _ _ _ (fun g hg' => hm g (List.mem_cons_of_mem _ hg')) hr he'
      simpa using key F.toList 0 ks' e (fun f hf => hf) hf (by rw [hcl, he])
    · rename_i e z hl
      obtain rfl := (by simpa using h)
      have hu := tdOf_slc (hT.get hl)
      rcases DataW.trod_slice hu hx with ⟨rfl, _⟩ | ⟨a, len, cap, _, _, _, _, rfl, _⟩
      · exact ⟨trivial, trivial⟩
      · exact ⟨trivial, trivial⟩
    · cases h
/-- the cells of a struct that came in. -/
theorem open_struct {T : Tab} (hT : TOK P T) {t : TypeId} {r : Reach} {b0 : Nat} {v : Value} {d : DataW H} {p : List MemPlace} {ks : List CK} {n : Nat} {z : List Value} {fs : List (Nat × TypeId)} (hl : lk t T = some (.row n z fs)) (hk : flatK T 9 t = some ks)
    (hv : Value.okWide P w r b0 t v) (h : DataW.Trod enc P w base spare held t v d p) : ∃ cs, v = .agg ⟨cs⟩ ∧ okL ks cs := by
  obtain ⟨F, i, hu, _⟩ := tdOf_row (hT.get hl)
  obtain ⟨cs, rfl, _⟩ := okWide_struct hu hv
  obtain ⟨fuel, hf⟩ := h
  obtain ⟨cs⟩ := cs
  exact ⟨cs, rfl, flat_ok hT 9 hk (by simpa [Value.cells] using hf)⟩
/-- the elements of a slice that came in. -/
def RowsIn (w : World) (x : Option Addr) (len m : Nat) (ks : List CK) : Prop := 0 < len → ∃ b off, x = some ⟨b, off, none⟩ ∧ ∀ j, j < len → ∃ cs, okL ks cs ∧ w.rangeAt b (off + j * m) cs
theorem open_rows {T : Tab} (hT : TOK P T) {t e : TypeId} {r : Reach} {b0 : Nat} {v : Value} {d : DataW H} {p : List MemPlace} {ks : List CK} {z : Value} {td : TD} (hl : lk t T = some (.slc e z)) (hk : flatK T 9 e = some ks) (he : lk e T = some td) (hm : Nat.blt 0 td.size = true)
    (hv : Value.okWide P w r b0 t v) (h : DataW.Trod enc P w base spare held t v d p) : ∃ x len cap, v = .slice x len cap ∧ len ≤ maxLen ∧ RowsIn w x len td.size ks := by
  have hu := tdOf_slc (hT.get hl)
  obtain ⟨i2, hi2, hs2, _⟩ := tdOf_info (hT.get he)
  have hce : P.cellsOf e = td.size := by simp [Program.cellsOf, hi2, hs2]
  have hpos : 0 < td.size := Nat.le_of_ble_eq_true hm
  obtain ⟨fuel, hf⟩ := h
  have hone : v.cells.toList = [v] := by
    unfold Value.okWide at hv
    rw [hu] at hv
    cases v <;> first | rfl | (simp [Cell.okWide, Cell.ok, hu] at hv)
  rw [hone] at hf
  rcases DataW.trod_slice hu hf with ⟨e1, _⟩ | ⟨a, len, cap, elems, rest, n, _, e1, _, _, hlc, hcm, hel, hget, _⟩
  · obtain rfl := (by simpa using e1)
    exact ⟨none, 0, 0, rfl, Nat.zero_le _, fun h => absurd h (Nat.lt_irrefl 0)⟩
  · obtain rfl := (by simpa using e1)
    refine ⟨some a, len, cap, rfl, Nat.le_trans hlc hcm, fun hlen => ?_⟩
    have hat : ∀ j, j < len → ∃ cs y, w.cells? base (a.add (j * td.size)) td.size = some cs ∧ DataW.trod enc P w base spare held n e cs = some y := by
      intro j hj
      have := hget j hj
      rw [hce, List.getElem?_eq_getElem (by omega)] at this
      obtain ⟨cs, h1, h2⟩ := Option.bind_eq_some_iff.1 this
      exact ⟨cs, _, h1, h2⟩
    obtain ⟨b, off, sp⟩ := a
    have hsp : sp = none := by
      obtain ⟨cs, y, h1, _⟩ := hat 0 hlen
      obtain ⟨_, h2, h3⟩ := World.cells?_some h1
      have hc := h3 0 (by omega)
      rw [Nat.zero_mul] at hc
      have e0 : ((⟨b, off, sp⟩ : Addr).add 0).add 0 = ⟨b, off, sp⟩ := rfl
      rw [e0] at hc
      cases sp with
      | none => rfl
      | some s =>
        exfalso
        have hcn : w.cell? ⟨b, off, some s⟩ = none := by unfold World.cell?; split <;> simp
        rw [hcn] at hc
        have : cs.length = 0 := by
          cases cs with
          | nil => rfl
          | cons c cs => simp at hc
        omega
    subst hsp
    refine ⟨b, off, rfl, fun j hj => ?_⟩
    obtain ⟨cs, y, h1, h2⟩ := hat j hj
    refine ⟨cs, flat_ok hT 9 hk h2, fun k v hv => ?_⟩
    obtain ⟨_, hlen2, h3⟩ := World.cells?_some h1
    have hk' : k < td.size := by have := (List.getElem?_eq_some_iff.1 hv).1; omega
    have := h3 k hk'
    rw [Addr.add_mid, Addr.add_mid, hv] at this
    exact this
/-- the cells of an array that came in. -/
theorem okL_rep {k : CK} : ∀ {len : Nat} {cs : List Value}, cs.length = len → (∀ (j : Nat) (c : Value), cs[j]? = some c → cellOk k c) → okL (List.replicate len k) cs
  | 0, [], _, _ => trivial
  | 0, _ :: _, h, _ => by cases h
  | _ + 1, [], h, _ => by cases h
  | len + 1, c :: cs, h, hc => by
    rw [List.replicate_succ]
    exact ⟨hc 0 c rfl, okL_rep (len := len) (by simpa using h) fun j x hx => hc (j + 1) x (by simpa using hx)⟩
theorem open_arr {T : Tab} (hT : TOK P T) {t e : TypeId} {r : Reach} {b0 : Nat} {v : Value} {d : DataW H} {p : List MemPlace} {k : CK} {ks : List CK} {n len : Nat} {z : List Value} {td : TD} (hl : lk t T = some (.arr n z len e)) (hk : flatK T 9 e = some [k]) (he : lk e T = some td) (hm : Nat.beq td.size 1 = true) (hn : Nat.beq n len = true) (hr : List.replicate len k = ks)
    (hv : Value.okWide P w r b0 t v) (h : DataW.Trod enc P w base spare held t v d p) : ∃ cs, v = .agg ⟨cs⟩ ∧ okL ks cs := by
  subst hr
  obtain ⟨i, hu, hi, _, hs⟩ := tdOf_arr (hT.get hl)
  obtain ⟨i2, hi2, hs2, _⟩ := tdOf_info (hT.get he)
  have hce : P.cellsOf e = 1 := by simp [Program.cellsOf, hi2, hs2, Nat.eq_of_beq_eq_true hm]
  have hct : P.cellsOf t = len := by simp [Program.cellsOf, hi, hs, Nat.eq_of_beq_eq_true hn]
  obtain ⟨cs, rfl⟩ : ∃ cs, v = .agg cs := by
    simp only [Value.okWide, hu] at hv
    obtain ⟨cs, h1, _⟩ := hv
    exact ⟨cs, h1⟩
  obtain ⟨fuel, hf⟩ := h
  obtain ⟨cs⟩ := cs
  obtain ⟨xs, m, _, _, hlen, hxl, hg⟩ := DataW.trod_array hu (show DataW.trod enc P w base spare held fuel t cs = some _ by simpa [Value.cells] using hf)
  rw [hct] at hlen
  refine ⟨cs, rfl, okL_rep hlen fun j c hc => ?_⟩
  have hj : j < len := by have := (List.getElem?_eq_some_iff.1 hc).1; omega
  have hgj := hg j hj
  rw [hce, Nat.mul_one, List.getElem?_eq_getElem (by omega)] at hgj
  have hok := flat_ok hT 9 hk hgj
  have e1 : (cs.drop j).take 1 = [c] := by
    apply List.ext_getElem?
    intro q
    simp only [List.getElem?_take, List.getElem?_drop]
    cases q with
    | zero => simpa using hc
    | succ q => simp
  rw [e1] at hok
  exact hok.1
end
end Go.Proofs.YtcedpdofjbaciaaDoor
