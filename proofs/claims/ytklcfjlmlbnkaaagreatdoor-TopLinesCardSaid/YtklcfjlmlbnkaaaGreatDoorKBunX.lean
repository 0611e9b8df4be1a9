/- Texts of this claim merged into one: KOpenY, KTpA. -/
import Derived.Test.YtklcfjlmlbnkaaaGreatDoorKSyw
import Derived.ChangeArms
import Derived.OpenShut
import Derived.SizedLaws
import Derived.Test.YtklcfjlmlbnkaaaGreatDoorKBunT5
namespace Go.Proofs.YtklcfjlmlbnkaaaGreatDoor.Y
open Go.RowKit Go.ChangeShapes Go.WideShapes
inductive CK where
  | int (k : IntKind)
  | bool
  | str
  | slc
def pZ (f : TypeId → Option (List CK)) : List (Nat × TypeId) → Nat → Option (List CK × Nat)
  | [], cur => some ([], cur)
  | (off, ty) :: r, cur => match Nat.beq off cur with
    | true => match f ty with
      | some ks => match pZ f r (cur + ks.length) with
        | some (rest, e) => some (ks ++ rest, e)
        | none => none
      | none => none
    | false => none
def qb (T : eo) : Nat → TypeId → Option (List CK)
  | 0, _ => none
  | n + 1, t => match lk t T with
    | some (.int k _) => some [.int k]
    | some (.bool _) => some [.bool]
    | some (.str _) => some [.str]
    | some (.row m _ fs) => match pZ (qb T n) fs 0 with
      | some (ks, e) => match Nat.beq e m with
        | true => some ks
        | false => none
      | none => none
    | some (.slc _ _) => some [.slc]
    | _ => none
def C4 : CK → Value → Prop
  | .int k, v => ∃ n, v = .int k n ∧ (Lit.int k n).wf = true
  | .bool, v => ∃ b, v = .bool b
  | .str, v => ∃ s, v = .string s ∧ s.size ≤ 140737488351232
  | .slc, v => ∃ x n c, v = .slice x n c ∧ n ≤ 140737488351232
def C5 : List CK → List Value → Prop
  | [], [] => True
  | k :: ks, v :: vs => C4 k v ∧ C5 ks vs
  | _, _ => False
theorem mJ {k : CK} {ks : List CK} {cs : List Value} (h : C5 (k :: ks) cs) : ∃ v vs, cs = v :: vs ∧ C4 k v ∧ C5 ks vs := by
  cases cs with
  | nil => exact h.elim
  | cons v vs => exact ⟨v, vs, rfl, h.1, h.2⟩
theorem yx {cs : List Value} (h : C5 [] cs) : cs = [] := by
  cases cs with
  | nil => rfl
  | cons v vs => exact h.elim
theorem yy : ∀ {ks : List CK} {cs : List Value}, C5 ks cs → cs.length = ks.length
  | [], [], _ => rfl
  | [], _ :: _, h => h.elim
  | _ :: _, [], h => h.elim
  | _ :: ks, _ :: cs, h => by simp [yy h.2]
theorem yz : ∀ {ks rest : List CK} {l : List Value}, C5 ks (l.take ks.length) → C5 rest (l.drop ks.length) → C5 (ks ++ rest) l
  | [], rest, l, _, h2 => by simpa using h2
  | k :: ks, rest, [], h1, _ => by simp at h1; exact h1.elim
  | k :: ks, rest, v :: l, h1, h2 => by
    simp only [List.length_cons, List.take_succ_cons, List.drop_succ_cons] at h1 h2
    exact ⟨h1.1, yz h1.2 h2⟩
section
variable {H : Type} {enc : TypeId × Value → H} {P : Program} {w : World} {base : Nat} {spare : Nat → Bool} {held : Bool}
theorem nQ {e : TypeId} : ∀ {ds : List (DataW H)} {d : DataW H}, d ∈ ds → ∀ m ∈ DataW.weights P e d, m ∈ DataW.weightsAll P e ds
  | d0 :: ds, d, h, m, hm => by
    simp only [DataW.weightsAll, List.mem_append]
    rcases List.mem_cons.1 h with rfl | h
    · exact .inl hm
    · exact .inr (nQ h m hm)
theorem qd {ts : List TypeId} {ds : List (DataW H)} {t : TypeId} {fs : Array Field} (hu : P.underlying t = some (.struct fs)) (hts : ts = fs.toList.map (·.type)) {R : Nat} (h : ∀ x ∈ DataW.weights P t (.agg ds), x ≤ R) {j : Nat} {tj : TypeId} {d : DataW H} (h1 : ts[j]? = some tj) (h2 : ds[j]? = some d) : ∀ x ∈ DataW.weights P tj d, x ≤ R := by
  intro x hx
  subst hts
  refine h x ?_
  simp only [DataW.weights, hu]
  exact DataW.weights_mem_each h1 h2 x hx
theorem sS {T : eo} (hT : TOK P T) (hby : T.all (fun p => match p.2 with | .slc e _ => decide (1 ≤ P.bytesOf e) | _ => true) = true) : ∀ (n : Nat) {t : TypeId} {ks : List CK} {cs : List Value} {x : DataW H × List MemPlace} {fuel : Nat}, qb T n t = some ks → DataW.trod enc P w base spare held fuel t cs = some x → (∀ m ∈ DataW.weights P t x.1, m ≤ reachBytes) → C5 ks cs
  | 0, t, ks, cs, x, fuel, h, _, _ => by cases h
  | n + 1, t, ks, cs, x, fuel, h, hx, hW => by
    simp only [qb] at h
    split at h
    · rename_i k z hl
      obtain rfl := (by simpa using h)
      obtain ⟨m, rfl, _, hw⟩ := DataW.trod_int (iQ (hT.get hl)) hx
      exact ⟨⟨m, rfl, hw⟩, trivial⟩
    · rename_i z hl
      obtain rfl := (by simpa using h)
      obtain ⟨b, rfl, _⟩ := DataW.trod_bool (mO (hT.get hl)) hx
      exact ⟨⟨b, rfl⟩, trivial⟩
    · rename_i z hl
      obtain rfl := (by simpa using h)
      obtain ⟨s, rfl, hxs, _⟩ := DataW.trod_string (eu (hT.get hl)) hx
      have hs : s.size ≤ reachBytes := hW s.size (by rw [hxs]; simp [DataW.weights])
      exact ⟨⟨s, rfl, by simpa [reachBytes] using hs⟩, trivial⟩
    · rename_i m z fs hl
      split at h <;> first | (cases h; done) | skip
      rename_i ks' e hf
      split at h <;> first | (cases h; done) | skip
      rename_i hb
      obtain rfl := (by simpa using h)
      obtain ⟨F, i, hu, hi, _, hsz, rfl⟩ := ep (hT.get hl)
      obtain ⟨xs, n', _, hxx, hlen, hxl, hg⟩ := DataW.trod_struct hu hx
      have hW' : ∀ (j : Nat) (tj : TypeId) (y : DataW H × List MemPlace), (F.toList.map (·.type))[j]? = some tj → xs[j]? = some y → ∀ m ∈ DataW.weights P tj y.1, m ≤ reachBytes := by
        intro j tj y h1 h2
        rw [hxx] at hW
        exact qd hu rfl hW h1 (by rw [List.getElem?_map, h2]; rfl)
      have hcl : cs.length = m := by rw [hlen]; simp [Program.cellsOf, hi, hsz]
      have he := Nat.eq_of_beq_eq_true hb
      have key : ∀ (l : List Field) (cur : Nat) (ks' : List CK) (e : Nat), (∀ f ∈ l, f ∈ F.toList) → pZ (qb T n) (l.map fun f => (f.offset, f.type)) cur = some (ks', e) → e = cs.length → C5 ks' (cs.drop cur) := by
        intro l
        induction l with
        | nil =>
          intro cur ks' e _ hh he'
          obtain ⟨rfl, rfl⟩ := (by simpa [pZ] using hh)
          rw [he', List.drop_length]; trivial
        | cons f l ih =>
          intro cur ks' e hm hh he'
          simp only [List.map_cons, pZ] at hh
          split at hh <;> first | (cases hh; done) | skip
          rename_i hoff
          split at hh <;> first | (cases hh; done) | skip
          rename_i k1 hk1
          split at hh <;> first | (cases hh; done) | skip
          rename_i rest e2 hr
          obtain ⟨rfl, rfl⟩ := (by simpa using hh)
          have hoff' := Nat.eq_of_beq_eq_true hoff
          obtain ⟨j, hj⟩ := List.mem_iff_getElem?.1 (hm f (List.mem_cons_self ..))
          have hjF : F[j]? = some f := by simpa using hj
          have hgf := hg j f hjF
          have hjx : j < xs.length := by rw [hxl]; exact (Array.getElem?_eq_some_iff.1 hjF).1
          rw [List.getElem?_eq_getElem hjx] at hgf
          have hok := sS hT hby n hk1 hgf (hW' j f.type _ (by rw [List.getElem?_map]; simp [hj]) (List.getElem?_eq_getElem hjx))
          rw [hoff'] at hok
          have hl1 := yy hok
          have htake : (cs.drop cur).take k1.length = (cs.drop cur).take (P.cellsOf f.type) := by
            rw [List.length_take] at hl1
            rw [← hl1]
            by_cases hmin : P.cellsOf f.type ≤ (cs.drop cur).length
            · rw [Nat.min_eq_left hmin]
            · rw [Nat.min_eq_right (by omega), List.take_of_length_le (Nat.le_refl _), List.take_of_length_le (by omega)]
          refine yz (by rw [htake]; exact hok) ?_
          rw [List.drop_drop]
          exact ih _ _ _ (fun g hg' => hm g (List.mem_cons_of_mem _ hg')) hr he'
      simpa using key F.toList 0 ks' e (fun f hf => hf) hf (by rw [hcl, he])
    · rename_i e z hl
      obtain rfl := (by simpa using h)
      have hu := cw (hT.get hl)
      have hbe : 1 ≤ P.bytesOf e := by
        have hmem : ∀ {T : eo} {t : TypeId} {d : TD}, lk t T = some d → (t, d) ∈ T := by
          intro T
          induction T with
          | nil => intro t d h; cases h
          | cons p r ih =>
            intro t d h
            obtain ⟨k, d'⟩ := p
            rw [dU] at h
            split at h
            · rename_i e; subst e; obtain rfl := (by simpa using h); exact List.mem_cons_self ..
            · exact List.mem_cons_of_mem _ (ih h)
        have := List.all_eq_true.1 hby _ (hmem hl)
        simpa using this
      rcases DataW.trod_slice hu hx with ⟨rfl, _⟩ | ⟨a, len, cap, el, rest, _, _, rfl, rfl, _, _, _, hel, _⟩
      · exact ⟨⟨none, 0, 0, rfl, Nat.zero_le _⟩, trivial⟩
      · have h1 := hW ((el.length + rest.length) * P.bytesOf e) (by simp [DataW.weights, hu])
        have h2 : len ≤ (el.length + rest.length) * P.bytesOf e := by
          rw [← hel]
          exact Nat.le_trans (Nat.le_add_right _ rest.length) (Nat.le_mul_of_pos_right _ hbe)
        exact ⟨⟨some a, len, cap, rfl, by have h3 : (el.length + rest.length) * P.bytesOf e ≤ 140737488351232 := by simpa [reachBytes] using h1
                                          omega⟩, trivial⟩
    · cases h
def xm (w : World) (x : Option Addr) (len m : Nat) (ks : List CK) : Prop := 0 < len → ∃ b off, x = some ⟨b, off, none⟩ ∧ ∀ j, j < len → ∃ cs, C5 ks cs ∧ w.rangeAt b (off + j * m) cs
theorem GA {T : eo} (hT : TOK P T) {t e : TypeId} {r : Reach} {b0 : Nat} {v : Value} {d : DataW H} {p : List MemPlace} {ks : List CK} {z : Value} {td : TD} (hl : lk t T = some (.slc e z)) (hk : qb T 9 e = some ks) (he : lk e T = some td) (hm : Nat.blt 0 td.size = true)
    (hby : T.all (fun p => match p.2 with | .slc e _ => decide (1 ≤ P.bytesOf e) | _ => true) = true) (hW : ∀ m ∈ DataW.weights P t d, m ≤ reachBytes)
    (hv : Value.okWide P w r b0 t v) (h : DataW.Trod enc P w base spare held t v d p) : ∃ x len cap, v = .slice x len cap ∧ len ≤ 140737488351232 ∧ xm w x len td.size ks := by
  have hu := cw (hT.get hl)
  obtain ⟨i2, hi2, hs2, _⟩ := bu (hT.get he)
  have hce : P.cellsOf e = td.size := by simp [Program.cellsOf, hi2, hs2]
  have hpos : 0 < td.size := Nat.le_of_ble_eq_true hm
  obtain ⟨fuel, hf⟩ := h
  have hone : v.cells.toList = [v] := by
    unfold Value.okWide at hv
    rw [hu] at hv
    cases v <;> first | rfl | (simp [Cell.okWide, Cell.ok, hu] at hv)
  rw [hone] at hf
  have hlen0 : ∃ x len cap, v = .slice x len cap ∧ len ≤ 140737488351232 := by
    have hk1 : qb T 9 t = some [.slc] := by simp [qb, hl]
    have := sS hT hby 9 hk1 hf hW
    obtain ⟨_, _, e2, ⟨x, n, c, rfl, hn⟩, _⟩ := mJ this
    exact ⟨x, n, c, by simp only [List.cons.injEq] at e2; exact e2.1, hn⟩
  rcases DataW.trod_slice hu hf with ⟨e1, _⟩ | ⟨a, len, cap, elems, rest, n, _, e1, hxx, _, hlc, hcm, hel, hget, _⟩
  · obtain rfl := (by simpa using e1)
    exact ⟨none, 0, 0, rfl, Nat.zero_le _, fun h => absurd h (Nat.lt_irrefl 0)⟩
  · obtain rfl := (by simpa using e1)
    obtain ⟨x0, n0, c0, e0, hn0⟩ := hlen0
    obtain ⟨rfl, rfl, rfl⟩ := (by simpa using e0)
    refine ⟨some a, len, cap, rfl, hn0, fun hlen => ?_⟩
    have hat : ∀ j, j < len → ∃ cs y, w.cells? base (a.add (j * td.size)) td.size = some cs ∧ DataW.trod enc P w base spare held n e cs = some y ∧ (∀ m ∈ DataW.weights P e y.1, m ≤ reachBytes) := by
      intro j hj
      have := hget j hj
      rw [hce, List.getElem?_eq_getElem (by omega)] at this
      obtain ⟨cs, h1, h2⟩ := Option.bind_eq_some_iff.1 this
      refine ⟨cs, _, h1, h2, fun m hm => hW m ?_⟩
      have hd : d = .slice (elems.map (·.1)) (rest.map (·.1)) := (Prod.ext_iff.1 hxx).1
      rw [hd]
      simp only [DataW.weights, hu, List.mem_cons, List.mem_append]
      right; left
      exact nQ (List.mem_map.2 ⟨_, List.getElem_mem (by omega), rfl⟩) m hm
    obtain ⟨b, off, sp⟩ := a
    have hsp : sp = none := by
      obtain ⟨cs, y, h1, _, _⟩ := hat 0 hlen
      obtain ⟨_, h2, h3⟩ := World.cells?_some h1
      have hc := h3 0 (by omega)
      rw [Nat.zero_mul] at hc
      have e0 : ((⟨b, off, sp⟩ : Addr).add 0).add 0 = ⟨b, off, sp⟩ := rfl
      rw [e0] at hc
      cases sp with
      | none => rfl
      | some s =>
        exfalso
        have hcn : w.cell? ⟨b, off, some s⟩ = none := by unfold World.cell?; split <;> simp
        rw [hcn] at hc
        have : cs.length = 0 := by
          cases cs with
          | nil => rfl
          | cons c cs => simp at hc
        omega
    subst hsp
    refine ⟨b, off, rfl, fun j hj => ?_⟩
    obtain ⟨cs, y, h1, h2, h3⟩ := hat j hj
    refine ⟨cs, sS hT hby 9 hk h2 h3, fun k v hv => ?_⟩
    obtain ⟨_, hlen2, h3⟩ := World.cells?_some h1
    have hk' : k < td.size := by have := (List.getElem?_eq_some_iff.1 hv).1; omega
    have := h3 k hk'
    rw [Addr.add_mid, Addr.add_mid, hv] at this
    exact this
end
end Go.Proofs.YtklcfjlmlbnkaaaGreatDoor.Y
namespace Go.Proofs.YtklcfjlmlbnkaaaGreatDoor.Y
open Go.RowKit Go.ChangeShapes Go.WideShapes
theorem Hw {P : Program} {T : eo} {H : Type} {enc : TypeId × Value → H} {w : World} {base : Nat} {spare : Nat → Bool} {held : Bool} (hT : TOK P T) {t e : TypeId} {r : Reach} {b0 : Nat} {v : Value} {d : DataW H} {p : List MemPlace} {z : Value} (hl : lk t T = some (.slc e z))
    (hv : Value.okWide P w r b0 t v) (h : DataW.Trod enc P w base spare held t v d p) {x : Option Addr} {len cap : Nat} (hx : v = .slice x len cap) : len ≤ cap := by
  have hu := cw (hT.get hl)
  obtain ⟨fuel, hf⟩ := h
  have hone : v.cells.toList = [v] := by
    unfold Value.okWide at hv
    rw [hu] at hv
    cases v <;> first | rfl | (simp [Cell.okWide, Cell.ok, hu] at hv)
  rw [hone] at hf
  rcases DataW.trod_slice hu hf with ⟨e1, _⟩ | ⟨a, len1, cap1, elems, rest, n, _, e1, hxx, _, hlc, hcm, hel, hget, _⟩
  · obtain rfl := (by simpa using e1)
    cases hx
    exact Nat.le_refl _
  · obtain rfl := (by simpa using e1)
    cases hx
    exact hlc
theorem qe {α : Type} {R : Nat → α → Prop} : ∀ (n : Nat), (∀ j, j < n → ∃ a, R j a) → ∃ l : List α, l.length = n ∧ ∀ (j : Nat) (v : α), l[j]? = some v → R j v
  | 0, _ => ⟨[], rfl, fun j v h => by cases h⟩
  | n + 1, h => by
    obtain ⟨l, hl, hr⟩ := qe n fun j hj => h j (by omega)
    obtain ⟨a, ha⟩ := h n (by omega)
    refine ⟨l ++ [a], by rw [List.length_append, hl]; rfl, fun j v hj => ?_⟩
    rw [List.getElem?_append] at hj
    split at hj
    · exact hr j v hj
    · rename_i hn
      have hj2 : j - l.length = 0 := by
        refine Decidable.byContradiction fun h0 => ?_
        obtain ⟨k, hk⟩ : ∃ k, j - l.length = k + 1 := ⟨j - l.length - 1, by omega⟩
        rw [hk] at hj
        cases hj
      rw [hj2] at hj
      obtain rfl : a = v := by simpa using hj
      have : j = n := by omega
      subst this
      exact ha
theorem GB {w : World} {x : Option Addr} {n : Nat} (h : xm w x n 1 [.str]) : ∃ l : List ByteArray, l.length = n ∧ Rws (fun _ => True) w 1 sC x l := by
  by_cases hn : 0 < n
  · obtain ⟨b, off, rfl, hc⟩ := h hn
    obtain ⟨l, hl, hr⟩ := qe (R := fun j (f : ByteArray) => w.rangeAt b (off + j * 1) (sC f)) n (fun j hj => by
      obtain ⟨cs, hok, hrg⟩ := hc j hj
      obtain ⟨_, _, rfl, ⟨d, rfl, _⟩, h1⟩ := mJ hok
      obtain rfl := yx h1
      exact ⟨d, hrg⟩)
    exact ⟨l, hl, EO eb (by decide) fun _ => ⟨b, off, rfl, hr⟩⟩
  · refine ⟨[], by simp; omega, dw⟩
theorem GC {w : World} {x : Option Addr} {n : Nat} (h : xm w x n 2 [.int .i64, .int .i64]) : ∃ l : List (Int × Int), l.length = n ∧ Rws (fun _ => True) w 2 Hs x l := by
  by_cases hn : 0 < n
  · obtain ⟨b, off, rfl, hc⟩ := h hn
    obtain ⟨l, hl, hr⟩ := qe (R := fun j (f : Int × Int) => w.rangeAt b (off + j * 2) (Hs f)) n (fun j hj => by
      obtain ⟨cs, hok, hrg⟩ := hc j hj
      obtain ⟨_, _, rfl, ⟨a, rfl, _⟩, h1⟩ := mJ hok
      obtain ⟨_, _, rfl, ⟨d, rfl, _⟩, h2⟩ := mJ h1
      obtain rfl := yx h2
      exact ⟨(a, d), hrg⟩)
    exact ⟨l, hl, EO EB (by decide) fun _ => ⟨b, off, rfl, hr⟩⟩
  · refine ⟨[], by simp; omega, dw⟩
end Go.Proofs.YtklcfjlmlbnkaaaGreatDoor.Y
