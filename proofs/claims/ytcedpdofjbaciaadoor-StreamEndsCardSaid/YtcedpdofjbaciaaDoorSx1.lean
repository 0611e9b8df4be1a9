/- A walker with a small state. Part 2: types, and operations that answer a value. -/
import Derived.Test.YtcedpdofjbaciaaDoorSx0
namespace Go.Proofs.YtcedpdofjbaciaaDoor
open Go.RowKit

inductive TD where
  | bool (z : Value)
  | int (k : IntKind) (z : Value)
  | str (z : Value)
  | ptr (e : TypeId) (z : Value)
  | slc (e : TypeId) (z : Value)
  | row (n : Nat) (z : List Value) (fs : List (Nat × TypeId))
  | arr (n : Nat) (z : List Value) (len : Nat) (e : TypeId)
  | one (z : Value)
def TD.size : TD → Nat
  | .row n _ _ => n
  | .arr n _ _ _ => n
  | _ => 1
def TD.zero : TD → List Value
  | .row _ z _ => z
  | .arr _ z _ _ => z
  | .bool z => [z]
  | .int _ z => [z]
  | .str z => [z]
  | .ptr _ z => [z]
  | .slc _ z => [z]
  | .one z => [z]
def cellsOfV : Value → List Value
  | .agg cs => cs.toList
  | v => [v]
def tdOf (P : Program) (t : TypeId) : Option TD :=
  match P.underlying t, P.info? t with
  | some d, some i => match d, i.zero, i.size with
    | .struct fs, some (.agg ⟨z⟩), n => some (.row n z (fs.toList.map fun f => (f.offset, f.type)))
    | .array k e, some (.agg ⟨z⟩), n => some (.arr n z k e)
    | .struct _, _, _ => none
    | .array _ _, _, _ => none
    | .bool, some z, 1 => some (.bool z)
    | .int k, some z, 1 => some (.int k z)
    | .string, some z, 1 => some (.str z)
    | .pointer e, some z, 1 => some (.ptr e z)
    | .slice e, some z, 1 => some (.slc e z)
    | _, some z, 1 => some (.one z)
    | _, _, _ => none
  | _, _ => none
abbrev Tab := List (TypeId × TD)
def TOK (P : Program) (T : Tab) : Prop := T.map (fun e => tdOf P e.1) = T.map (fun e => some e.2)
theorem TOK.get {P : Program} : ∀ {T : Tab} {t : TypeId} {d : TD}, TOK P T → lk t T = some d → tdOf P t = some d
  | [], _, _, _, h => by cases h
  | (k, e) :: r, t, d, hT, h => by
    rw [lk_cons] at h
    unfold TOK at hT
    simp only [List.map_cons, List.cons.injEq] at hT
    split at h
    · rename_i e'
      obtain rfl := by simpa using h
      rw [← e']; exact hT.1
    · exact TOK.get (T := r) hT.2 h
theorem tdOf_row {P : Program} {t : TypeId} {n : Nat} {z : List Value} {fs : List (Nat × TypeId)} (h : tdOf P t = some (.row n z fs)) :
    ∃ (F : Array Field) (i : TypeInfo), P.underlying t = some (.struct F) ∧ P.info? t = some i ∧ i.zero = some (.agg ⟨z⟩) ∧ i.size = n ∧ fs = F.toList.map fun f => (f.offset, f.type) := by
  unfold tdOf at h
  split at h
  · rename_i d i hu hi
    split at h <;> (try cases h)
    rename_i F z' n' hz
    exact ⟨_, i, hu, hi, hz, rfl, rfl⟩
  · cases h
theorem tdOf_arr {P : Program} {t : TypeId} {n len : Nat} {z : List Value} {e : TypeId} (h : tdOf P t = some (.arr n z len e)) :
    ∃ (i : TypeInfo), P.underlying t = some (.array len e) ∧ P.info? t = some i ∧ i.zero = some (.agg ⟨z⟩) ∧ i.size = n := by
  unfold tdOf at h
  split at h
  · rename_i d i hu hi
    split at h <;> (try cases h)
    rename_i z' hz
    exact ⟨i, hu, hi, hz, rfl⟩
  · cases h
/-- a type of one cell. -/
def TD.isOne : TD → Bool
  | .row .. => false
  | .arr .. => false
  | _ => true
def TD.zeroV : TD → Value
  | .bool z => z
  | .int _ z => z
  | .str z => z
  | .ptr _ z => z
  | .slc _ z => z
  | .one z => z
  | .row _ z _ => .agg ⟨z⟩
  | .arr _ z _ _ => .agg ⟨z⟩
theorem tdOf_one {P : Program} {t : TypeId} {d : TD} (h : tdOf P t = some d) (h1 : d.isOne = true) :
    ∃ (u : TypeDesc) (i : TypeInfo), P.underlying t = some u ∧ P.info? t = some i ∧ i.zero = some d.zeroV ∧ i.size = 1 ∧ u.isRow = false := by
  unfold tdOf at h
  split at h
  · rename_i u i hu hi
    split at h <;> (try cases h) <;> (try cases h1) <;> refine ⟨_, i, hu, hi, ‹_›, ‹_›, ?_⟩ <;> first | rfl | (rename_i d' _ _ _ _ _ _ _ _ _ _ _ _ _ _; cases d' <;> simp_all [TypeDesc.isRow])
  · cases h
theorem tdOf_int {P : Program} {t : TypeId} {k : IntKind} {z : Value} (h : tdOf P t = some (.int k z)) : P.underlying t = some (.int k) := by
  unfold tdOf at h
  split at h
  · rename_i u i hu hi
    split at h <;> cases h
    exact hu
  · cases h
theorem tdOf_bool {P : Program} {t : TypeId} {z : Value} (h : tdOf P t = some (.bool z)) : P.underlying t = some .bool := by
  unfold tdOf at h
  split at h
  · rename_i u i hu hi
    split at h <;> cases h
    exact hu
  · cases h
theorem tdOf_str {P : Program} {t : TypeId} {z : Value} (h : tdOf P t = some (.str z)) : P.underlying t = some .string := by
  unfold tdOf at h
  split at h
  · rename_i u i hu hi
    split at h <;> cases h
    exact hu
  · cases h
theorem tdOf_ptr {P : Program} {t e : TypeId} {z : Value} (h : tdOf P t = some (.ptr e z)) : P.underlying t = some (.pointer e) := by
  unfold tdOf at h
  split at h
  · rename_i u i hu hi
    split at h <;> cases h
    exact hu
  · cases h
theorem tdOf_slc {P : Program} {t e : TypeId} {z : Value} (h : tdOf P t = some (.slc e z)) : P.underlying t = some (.slice e) := by
  unfold tdOf at h
  split at h
  · rename_i u i hu hi
    split at h <;> cases h
    exact hu
  · cases h
theorem tdOf_info {P : Program} {t : TypeId} {d : TD} (h : tdOf P t = some d) : ∃ i, P.info? t = some i ∧ i.size = d.size ∧ i.zero = some d.zeroV := by
  cases d with
  | row n z fs => obtain ⟨F, i, _, hi, hz, hs, _⟩ := tdOf_row h; exact ⟨i, hi, hs, hz⟩
  | arr n z len e => obtain ⟨i, _, hi, hz, hs⟩ := tdOf_arr h; exact ⟨i, hi, hs, hz⟩
  | _ => obtain ⟨u, i, _, hi, hz, hs, _⟩ := tdOf_one h rfl; exact ⟨i, hi, hs, hz⟩

/-- n cells from the head of a list. -/
def tk : List Value → Nat → Option (List Value)
  | _, 0 => some []
  | [], _ + 1 => none
  | x :: r, n + 1 => match tk r n with
    | some r' => some (x :: r')
    | none => none
def sub : List Value → Nat → Nat → Option (List Value)
  | l, 0, n => tk l n
  | [], _ + 1, _ => none
  | _ :: r, k + 1, n => sub r k n
theorem tk_eq : ∀ {l : List Value} {n : Nat} {r : List Value}, tk l n = some r → r = l.take n ∧ n ≤ l.length
  | l, 0, r, h => by cases l <;> (obtain rfl := (by simpa [tk] using h); simp)
  | [], n + 1, r, h => by cases h
  | x :: l, n + 1, r, h => by
    simp only [tk] at h
    cases hr : tk l n with
    | none => rw [hr] at h; cases h
    | some r' =>
      rw [hr] at h
      obtain rfl := by simpa using h
      obtain ⟨e, hl⟩ := tk_eq hr
      exact ⟨by simp [e], by simpa using hl⟩
theorem sub_eq : ∀ {l : List Value} {k n : Nat} {r : List Value}, sub l k n = some r → r = (l.drop k).take n ∧ k + n ≤ l.length
  | l, 0, n, r, h => by
    have h' : tk l n = some r := by cases l <;> simpa [sub] using h
    obtain ⟨e, hl⟩ := tk_eq h'
    exact ⟨by simpa using e, by omega⟩
  | [], k + 1, n, r, h => by cases h
  | x :: l, k + 1, n, r, h => by
    simp only [sub] at h
    obtain ⟨e, hl⟩ := sub_eq h
    exact ⟨by simpa using e, by simp; omega⟩
/-- the value of type t at offset o of these cells. -/
def pickT (T : Tab) (t : TypeId) (cs : List Value) (o : Nat) : Option Value :=
  match lk t T with
  | some (.row n _ _) => match sub cs o n with
    | some r => some (.agg ⟨r⟩)
    | none => none
  | some (.arr n _ _ _) => match sub cs o n with
    | some r => some (.agg ⟨r⟩)
    | none => none
  | some (.bool _) => nth cs o
  | some (.int _ _) => nth cs o
  | some (.str _) => nth cs o
  | some (.ptr _ _) => nth cs o
  | some (.slc _ _) => nth cs o
  | some (.one _) => nth cs o
  | none => none
theorem run_isAgg {P : Program} {t : TypeId} {u : TypeDesc} (h : P.underlying t = some u) (w : World) : (isAgg t).run P w = .ok u.isRow w := by
  unfold isAgg
  rw [Sem.run_bind, run_underlying h w]
  cases u <;> simp [TypeDesc.isRow]
theorem run_sizeOf {P : Program} {t : TypeId} {i : TypeInfo} (h : P.info? t = some i) (w : World) : (sizeOf t).run P w = .ok i.size w := by
  simp [sizeOf, typeInfo, h]
theorem run_zeroV {P : Program} {t : TypeId} {i : TypeInfo} {z : Value} (h : P.info? t = some i) (hz : i.zero = some z) (w : World) : (zeroValue t).run P w = .ok z w := by
  simp [zeroValue, typeInfo, h, hz]
theorem pickT_cases {T : Tab} {t : TypeId} {cs : List Value} {o : Nat} {v : Value} (h : pickT T t cs o = some v) :
    ∃ d, lk t T = some d ∧ ((d.isOne = true ∧ nth cs o = some v) ∨ (d.isOne = false ∧ ∃ r, sub cs o d.size = some r ∧ v = .agg ⟨r⟩)) := by
  unfold pickT at h
  cases hl : lk t T with
  | none => rw [hl] at h; cases h
  | some d =>
    rw [hl] at h
    refine ⟨d, rfl, ?_⟩
    cases d <;> simp only at h <;> first
      | exact .inl ⟨rfl, h⟩
      | (right; refine ⟨rfl, ?_⟩; split at h
         · rename_i r hr; obtain rfl := (by simpa using h); exact ⟨r, hr, rfl⟩
         · cases h)
theorem pickT_part {P : Program} {T : Tab} (hT : TOK P T) {t : TypeId} {cs : List Value} {o : Nat} {v : Value} (h : pickT T t cs o = some v) (w : World) : (part t ⟨cs⟩ o).run P w = .ok v w := by
  obtain ⟨d, hl, h⟩ := pickT_cases h
  have htd := hT.get hl
  rcases h with ⟨h1, h2⟩ | ⟨h1, r, h2, rfl⟩
  · obtain ⟨u, i, hu, _, _, _, hr⟩ := tdOf_one htd h1
    rw [nth_eq] at h2
    have h2' : (⟨cs⟩ : Array Value)[o]? = some v := by simpa using h2
    simp [part, Sem.run_bind, run_isAgg hu, hr, h2']
  · obtain ⟨e, hle⟩ := sub_eq h2
    obtain ⟨i, hi, hs, _⟩ := tdOf_info htd
    have hu : ∃ u, P.underlying t = some u ∧ u.isRow = true := by
      cases d with
      | row n z fs => obtain ⟨F, _, hu, _⟩ := tdOf_row htd; exact ⟨_, hu, rfl⟩
      | arr n z len e => obtain ⟨_, hu, _⟩ := tdOf_arr htd; exact ⟨_, hu, rfl⟩
      | _ => cases h1
    obtain ⟨u, hu, hr⟩ := hu
    simp [part, Sem.run_bind, run_isAgg hu, hr, run_sizeOf hi, hs, e]
theorem pickT_load {P : Program} {T : Tab} (hT : TOK P T) {t : TypeId} {cs : List Value} {o g : Nat} {v : Value} {B : TypeId} {w : World} (hb : Bk w g B ⟨cs⟩) (h : pickT T t cs o = some v) : (loadVar t ⟨g, o, none⟩).run P w = .ok v w := by
  obtain ⟨d, hl, h⟩ := pickT_cases h
  have htd := hT.get hl
  rcases h with ⟨h1, h2⟩ | ⟨h1, r, h2, rfl⟩
  · obtain ⟨u, i, hu, _, _, _, hr⟩ := tdOf_one htd h1
    rw [nth_eq] at h2
    have hc : w.cell? ⟨g, o, none⟩ = some v := hb.at_ o (by simpa using h2)
    simp [loadVar, Sem.run_bind, run_isAgg hu, hr, hc]
  · obtain ⟨e, hle⟩ := sub_eq h2
    obtain ⟨i, hi, hs, _⟩ := tdOf_info htd
    have hu : ∃ u, P.underlying t = some u ∧ u.isRow = true := by
      cases d with
      | row n z fs => obtain ⟨F, _, hu, _⟩ := tdOf_row htd; exact ⟨_, hu, rfl⟩
      | arr n z len e => obtain ⟨_, hu, _⟩ := tdOf_arr htd; exact ⟨_, hu, rfl⟩
      | _ => cases h1
    obtain ⟨u, hu, hr⟩ := hu
    have hlen : r.length = d.size := by rw [e]; simp; omega
    have := run_loadVar_mid (P := P) w g o t r u (fun j v hv => hb.at_ (o + j) (by
      rw [e] at hv
      simp only [List.getElem?_take, List.getElem?_drop] at hv
      split at hv
      · simpa using hv
      · cases hv)) hu hr (by rw [hi]; simp [hs, hlen])
    simpa using this

/-! pure operations -/
def VO (P : Program) (w0 : World) (S : Sts) (M : List Ent) (L : Cd) (o : Oper) (v : Value) : Prop :=
  ∀ n a w, Sl n a S → Mem w0 w M → holdsC L = true → (execOp a.eval o).run P w = .ok (.value v) w
def pUn (T : Tab) : Op → Value → Option Value
  | .move _, v => some v
  | .assign _, v => some v
  | .extract _ i, .tuple ⟨vs⟩ => nth vs i
  | .unOp .not _ _, .bool b => some (.bool (!b))
  | .unOp .neg _ _, .int k n => some (.int k (k.wrap (0 - n)))
  | .field t _ f, .agg ⟨cs⟩ => match lk t T with
    | some (.row _ _ fs) => match nth fs f with
      | some (off, ty) => pickT T ty cs off
      | none => none
    | _ => none
  | .fieldAddr s _ f, .pointer (some ⟨g, o, none⟩) => match lk s T with
    | some (.row _ _ fs) => match nth fs f with
      | some (off, ty) => match lk ty T with
        | some d => match d.size with
          | 0 => none
          | _ + 1 => some (.pointer (some ⟨g, o + off, none⟩))
        | none => none
      | none => none
    | _ => none
  | .nilCheck _, .pointer (some a) => some (.pointer (some a))
  | .convert src dst _, .int _ n => match lk src T with
    | some (.int _ _) => match lk dst T with
      | some (.int k _) => some (.int k (k.wrap n))
      | _ => none
    | _ => none
  | .convert src dst _, .string s => match lk src T with
    | some (.str _) => match lk dst T with
      | some (.str _) => some (.string s)
      | _ => none
    | _ => none
  | _, _ => none
def un : Op → Option Operand
  | .move x => some x
  | .assign x => some x
  | .extract x _ => some x
  | .unOp _ _ x => some x
  | .field _ x _ => some x
  | .fieldAddr _ x _ => some x
  | .nilCheck x => some x
  | .convert _ _ x => some x
  | _ => none
theorem vo_un {P : Program} {T : Tab} (hT : TOK P T) {w0 : World} {S : Sts} {M : List Ent} {L L1 : Cd} {o : Oper} {x : Operand} {v1 v : Value} (h1 : un o.op = some x) (h2 : ev S x = some (L1, v1)) (h3 : Suf L1 L) (h4 : pUn T o.op v1 = some v) : VO P w0 S M L o v := by
  intro n a w hS hM hL
  have hx := ev_spec hS h2 (h3.holds hL)
  unfold execOp
  cases hop : o.op <;> rw [hop] at h1 h4 <;> simp only [un] at h1 <;> cases h1 <;> simp only [hx]
  case move => obtain rfl := (by simpa [pUn] using h4); rfl
  case assign => obtain rfl := (by simpa [pUn] using h4); rfl
  case nilCheck =>
    cases v1 <;> first | (simp [pUn] at h4; done) | skip
    rename_i p
    cases p <;> first | (simp [pUn] at h4; done) | skip
    obtain rfl := (by simpa [pUn] using h4); rfl
  case unOp op t =>
    cases op <;> cases v1 <;> first | (simp [pUn] at h4; done) | (obtain rfl := (by simpa [pUn] using h4); simp [Op.unary, Op.intArith])
  case convert src dst =>
    cases v1 <;> first | (simp [pUn] at h4; done) | skip
    · rename_i k m
      simp only [pUn] at h4
      split at h4 <;> first | (cases h4; done) | skip
      rename_i hs
      split at h4 <;> first | (cases h4; done) | skip
      rename_i hd
      obtain rfl := (by simpa using h4)
      simp [Go.convert, Sem.run_bind, run_underlying (tdOf_int (hT.get hs)), run_underlying (tdOf_int (hT.get hd)), Conv.intToInt]
    · rename_i s
      simp only [pUn] at h4
      split at h4 <;> first | (cases h4; done) | skip
      rename_i hs
      split at h4 <;> first | (cases h4; done) | skip
      rename_i hd
      obtain rfl := (by simpa using h4)
      simp [Go.convert, Sem.run_bind, run_underlying (tdOf_str (hT.get hs)), run_underlying (tdOf_str (hT.get hd))]
  case extract i =>
    cases v1 <;> first | (simp [pUn] at h4; done) | skip
    rename_i vs
    obtain ⟨vs⟩ := vs
    simp only [pUn] at h4
    rw [nth_eq] at h4
    simp [Instr.extract, h4]
  case field t f =>
    cases v1 <;> first | (simp [pUn] at h4; done) | skip
    rename_i cs
    obtain ⟨cs⟩ := cs
    simp only [pUn] at h4
    split at h4 <;> first | (cases h4; done) | skip
    rename_i fs hl
    split at h4 <;> first | (cases h4; done) | skip
    rename_i off ty hf
    obtain ⟨F, i, hu, _, _, _, rfl⟩ := tdOf_row (hT.get hl)
    rw [nth_eq] at hf
    simp only [List.getElem?_map, Option.map_eq_some_iff] at hf
    obtain ⟨fd, hfd, he⟩ := hf
    obtain ⟨rfl, rfl⟩ := (by simpa using he)
    have hfd' : F[f]? = some fd := by simpa using hfd
    simp [Instr.field, Sem.run_bind, run_underlying hu, hfd', asAgg, pickT_part hT h4]
  case fieldAddr s f =>
    cases v1 <;> first | (simp [pUn] at h4; done) | skip
    rename_i p
    cases p <;> first | (simp [pUn] at h4; done) | skip
    rename_i p
    obtain ⟨g, o', sp⟩ := p
    cases sp <;> first | (simp [pUn] at h4; done) | skip
    simp only [pUn] at h4
    split at h4 <;> first | (cases h4; done) | skip
    rename_i fs hl
    split at h4 <;> first | (cases h4; done) | skip
    rename_i off ty hf
    split at h4 <;> first | (cases h4; done) | skip
    rename_i d hd
    split at h4 <;> first | (cases h4; done) | skip
    rename_i k hk
    obtain ⟨F, i, hu, _, _, _, rfl⟩ := tdOf_row (hT.get hl)
    obtain ⟨i2, hi2, hs2, _⟩ := tdOf_info (hT.get hd)
    rw [nth_eq] at hf
    simp only [List.getElem?_map, Option.map_eq_some_iff] at hf
    obtain ⟨fd, hfd, he⟩ := hf
    obtain ⟨rfl, rfl⟩ := (by simpa using he)
    have hfd' : F[f]? = some fd := by simpa using hfd
    have hne : ¬ i2.size = 0 := by omega
    obtain rfl := (by simpa using h4)
    simp [Instr.fieldAt, Sem.run_bind, run_underlying hu, hfd', Instr.sureAddr, fieldPlace, run_sizeOf hi2, hne, Addr.add_mid]
end Go.Proofs.YtcedpdofjbaciaaDoor
