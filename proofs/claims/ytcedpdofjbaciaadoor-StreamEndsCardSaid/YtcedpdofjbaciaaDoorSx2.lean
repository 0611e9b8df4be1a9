/- A walker with a small state. Part 3: operations of two operands, choices, loads, structs. -/
import Derived.Test.YtcedpdofjbaciaaDoorSx1
import Derived.Laws.StructEq
import Derived.WalkSpells
namespace Go.Proofs.YtcedpdofjbaciaaDoor
open Go.RowKit

def pInt : BinOp → IntKind → Int → Int → Option Value
  | .add, k, a, b => some (.int k (k.wrap (a + b)))
  | .sub, k, a, b => some (.int k (k.wrap (a - b)))
  | .mul, k, a, b => some (.int k (k.wrap (a * b)))
  | .eql, _, a, b => some (.bool (a == b))
  | .neq, _, a, b => some (.bool (a != b))
  | .lss, _, a, b => some (.bool (decide (a < b)))
  | .leq, _, a, b => some (.bool (decide (a ≤ b)))
  | .gtr, _, a, b => some (.bool (decide (a > b)))
  | .geq, _, a, b => some (.bool (decide (a ≥ b)))
  | _, _, _, _ => none
def pStr : BinOp → ByteArray → ByteArray → Option Value
  | .eql, a, b => some (.bool (a.toList == b.toList))
  | .neq, a, b => some (.bool (!(a.toList == b.toList)))
  | .lss, a, b => some (.bool (Op.bytesLess a.toList b.toList))
  | .leq, a, b => some (.bool (Op.bytesLess a.toList b.toList || a.toList == b.toList))
  | .gtr, a, b => some (.bool (!(Op.bytesLess a.toList b.toList || a.toList == b.toList)))
  | .geq, a, b => some (.bool (!Op.bytesLess a.toList b.toList))
  | _, _, _ => none
def kEq : IntKind → IntKind → Bool
  | .i8, .i8 => true
  | .i16, .i16 => true
  | .i32, .i32 => true
  | .i64, .i64 => true
  | .u8, .u8 => true
  | .u16, .u16 => true
  | .u32, .u32 => true
  | .u64, .u64 => true
  | _, _ => false
theorem kEq_eq {a b : IntKind} (h : kEq a b = true) : a = b := by cases a <;> cases b <;> first | rfl | cases h
def pBool : BinOp → Bool → Bool → Option Value
  | .eql, a, b => some (.bool (a == b))
  | .neq, a, b => some (.bool (!(a == b)))
  | _, _, _ => none
def p2 (T : Tab) (op : BinOp) (t : TypeId) : Value → Value → Option Value
  | .int k a, .int k' b => match kEq k k' with
    | true => pInt op k a b
    | false => none
  | .string a, .string b => pStr op a b
  | .bool a, .bool b => match lk t T with
    | some (.bool _) => pBool op a b
    | _ => none
  | .slice a _ _, .slice none _ _ => match lk t T with
    | some (.slc _ _) => match op with
      | .eql => some (.bool a.isNone)
      | .neq => some (.bool !a.isNone)
      | _ => none
    | _ => none
  | _, _ => none
theorem p2_spec {P : Program} {T : Tab} (hT : TOK P T) {op : BinOp} {t : TypeId} {x y : Operand} {v1 v2 v : Value} (h : p2 T op t v1 v2 = some v) (w : World) :
    (do eqGuard op t x y v1 v2; binOp op t v1 v2).run P w = .ok v w := by
  cases v1 <;> cases v2 <;> first | (simp [p2] at h; done) | skip
  · rename_i a b
    simp only [p2] at h
    split at h <;> first | (cases h; done) | skip
    rename_i hl
    have hu := tdOf_bool (hT.get hl)
    cases op <;> simp only [pBool] at h <;> first | (cases h; done) | skip
    all_goals (obtain rfl := (by simpa using h))
    · simp [eqGuard, run_eql_bool w t a b hu]
    · simp [eqGuard, run_neq_bool w t a b hu]
  · rename_i k a k' b
    simp only [p2] at h
    split at h <;> first | (cases h; done) | skip
    rename_i hk
    obtain rfl := kEq_eq hk
    cases op <;> simp only [pInt] at h <;> first | (cases h; done) | skip
    all_goals (obtain rfl := (by simpa using h); simp [eqGuard, binOp, Op.intArith, Op.intCmp])
  · rename_i a b
    simp only [p2] at h
    cases op <;> simp only [pStr] at h <;> first | (cases h; done) | skip
    all_goals (obtain rfl := (by simpa using h); simp [eqGuard, binOp, Op.stringOp])
  · rename_i a n c b n' c'
    cases b with
    | some b => cases h
    | none =>
      simp only [p2] at h
      split at h <;> first | (cases h; done) | skip
      rename_i hl
      have hu := tdOf_slc (hT.get hl)
      split at h <;> first | (cases h; done) | skip
      · obtain rfl := (by simpa using h)
        simp [eqGuard, Lib.run_eql_slice_nil w t _ a n c n' c' hu]
      · obtain rfl := (by simpa using h)
        simp [eqGuard, run_neq_slice_nil_any w t _ a n c n' c' hu]
theorem vo_bin {P : Program} {T : Tab} (hT : TOK P T) {w0 : World} {S : Sts} {M : List Ent} {L L1 L2 : Cd} {o : Oper} {op : BinOp} {t ty : TypeId} {x y : Operand} {v1 v2 v : Value} (h1 : o.op = .binOp op t x y ty)
    (h2 : ev S x = some (L1, v1)) (h3 : Suf L1 L) (h4 : ev S y = some (L2, v2)) (h5 : Suf L2 L) (h6 : p2 T op t v1 v2 = some v) : VO P w0 S M L o v := by
  intro n a w hS hM hL
  unfold execOp
  simp only [h1, ev_spec hS h2 (h3.holds hL), ev_spec hS h4 (h5.holds hL)]
  rw [Sem.run_bind, p2_spec hT h6 w]; rfl
/-- addition and subtraction that do not wrap. -/
theorem vo_add {P : Program} {w0 : World} {S : Sts} {M : List Ent} {L L1 L2 : Cd} {o : Oper} {t ty : TypeId} {x y : Operand} {a b : Int} (h1 : o.op = .binOp .add t x y ty)
    (h2 : ev S x = some (L1, .int .i64 a)) (h3 : Suf L1 L) (h4 : ev S y = some (L2, .int .i64 b)) (h5 : Suf L2 L) (hr : -9223372036854775808 ≤ a + b ∧ a + b ≤ 9223372036854775807) : VO P w0 S M L o (.int .i64 (a + b)) := by
  intro n ac w hS hM hL
  unfold execOp
  simp only [h1, ev_spec hS h2 (h3.holds hL), ev_spec hS h4 (h5.holds hL)]
  simp [eqGuard, binOp, Op.intArith, IntWalk.i64_in _ hr]
theorem vo_sub {P : Program} {w0 : World} {S : Sts} {M : List Ent} {L L1 L2 : Cd} {o : Oper} {t ty : TypeId} {x y : Operand} {a b : Int} (h1 : o.op = .binOp .sub t x y ty)
    (h2 : ev S x = some (L1, .int .i64 a)) (h3 : Suf L1 L) (h4 : ev S y = some (L2, .int .i64 b)) (h5 : Suf L2 L) (hr : -9223372036854775808 ≤ a - b ∧ a - b ≤ 9223372036854775807) : VO P w0 S M L o (.int .i64 (a - b)) := by
  intro n ac w hS hM hL
  unfold execOp
  simp only [h1, ev_spec hS h2 (h3.holds hL), ev_spec hS h4 (h5.holds hL)]
  simp [eqGuard, binOp, Op.intArith, IntWalk.i64_in _ hr]
/-- 'a || b' and 'a && b'. -/
theorem vo_or {P : Program} {w0 : World} {S : Sts} {M : List Ent} {L L1 L2 : Cd} {o : Oper} {c y : Operand} {b1 b2 : Bool} (h1 : o.op = .pick c (.const (.bool true)) y)
    (h2 : ev S c = some (L1, .bool b1)) (h3 : Suf L1 L) (h4 : ev S y = some (L2, .bool b2)) (h5 : Suf L2 ((b1, false) :: L)) : VO P w0 S M L o (.bool (b1 || b2)) := by
  intro n a w hS hM hL
  unfold execOp
  simp only [h1, ev_spec hS h2 (h3.holds hL)]
  cases b1 with
  | true => simp [asBool, Act.eval]
  | false => simp [asBool, ev_spec hS h4 (h5.holds (by simp [holdsC, hL]))]
theorem vo_and {P : Program} {w0 : World} {S : Sts} {M : List Ent} {L L1 L2 : Cd} {o : Oper} {c y : Operand} {b1 b2 : Bool} (h1 : o.op = .pick c y (.const (.bool false)))
    (h2 : ev S c = some (L1, .bool b1)) (h3 : Suf L1 L) (h4 : ev S y = some (L2, .bool b2)) (h5 : Suf L2 ((b1, true) :: L)) : VO P w0 S M L o (.bool (b1 && b2)) := by
  intro n a w hS hM hL
  unfold execOp
  simp only [h1, ev_spec hS h2 (h3.holds hL)]
  cases b1 with
  | false => simp [asBool, Act.eval]
  | true => simp [asBool, ev_spec hS h4 (h5.holds (by simp [holdsC, hL]))]
/-- a load from a block of the call's own. -/
theorem vo_load {P : Program} {T : Tab} (hT : TOK P T) (i : Nat) {w0 : World} {S : Sts} {M : List Ent} {L L1 : Cd} {o : Oper} {t : TypeId} {x : Operand} {g off : Nat} {B : TypeId} {cs : List Value} {v : Value} (h1 : o.op = .load t x)
    (h2 : ev S x = some (L1, .pointer (some ⟨g, off, none⟩))) (h3 : Suf L1 L) (h4 : nth M i = some (g, B, cs)) (h5 : pickT T t cs off = some v) : VO P w0 S M L o v := by
  intro n a w hS hM hL
  unfold execOp
  simp only [h1, ev_spec hS h2 (h3.holds hL)]
  simp only [Instr.loadAt, Instr.sureAddr, Sem.run_bind, Sem.run_pure, Result.andThen_ok, pickT_load hT (hM.2.get h4).2 h5]
/-- a load of one cell from memory that was there at the call. -/
theorem vo_old {P : Program} {T : Tab} (hT : TOK P T) {w0 : World} {S : Sts} {M : List Ent} {L L1 : Cd} {o : Oper} {t : TypeId} {x : Operand} {a0 : Addr} {d : TD} {v : Value} (h1 : o.op = .load t x)
    (h2 : ev S x = some (L1, .pointer (some a0))) (h3 : Suf L1 L) (h4 : lk t T = some d) (h5 : d.isOne = true) (hc : w0.cell? a0 = some v) : VO P w0 S M L o v := by
  intro n a w hS hM hL
  have hlt := block_lt_of_cell hc
  have hc' : w.cell? a0 = some v := (hM.1.cell hlt).trans hc
  obtain ⟨u, i, hu, _, _, _, hr⟩ := tdOf_one (hT.get h4) h5
  unfold execOp
  simp only [h1, ev_spec hS h2 (h3.holds hL)]
  simp [Instr.loadAt, Instr.sureAddr, loadVar, Sem.run_bind, run_isAgg hu, hr, hc']
/-- a load of a struct from memory that was there at the call. -/
theorem vo_oldrow {P : Program} {T : Tab} (hT : TOK P T) {w0 : World} {S : Sts} {M : List Ent} {L L1 : Cd} {o : Oper} {t : TypeId} {x : Operand} {b off n' : Nat} {z : List Value} {fs : List (Nat × TypeId)} {cs : List Value} (h1 : o.op = .load t x)
    (h2 : ev S x = some (L1, .pointer (some ⟨b, off, none⟩))) (h3 : Suf L1 L) (h4 : lk t T = some (.row n' z fs)) (h5 : cs.length = n') (hc : w0.rangeAt b off cs) : VO P w0 S M L o (.agg ⟨cs⟩) := by
  intro n a w hS hM hL
  obtain ⟨F, i, hu, hi, _, hs, _⟩ := tdOf_row (hT.get h4)
  have hc' : w.rangeAt b off cs := fun j v hv => by
    have h := hc j v hv
    exact (hM.1.cell (block_lt_of_cell h)).trans h
  unfold execOp
  simp only [h1, ev_spec hS h2 (h3.holds hL)]
  have := run_loadVar_mid (P := P) w b off t cs _ hc' hu rfl (by rw [hi]; simp [hs, h5])
  simp [Instr.loadAt, Instr.sureAddr, this]
/-- the length of a string or a slice. -/
def lenV : Value → Option Value
  | .string s => some (.int .i64 s.size)
  | .slice _ n _ => some (.int .i64 n)
  | _ => none
theorem vo_len {P : Program} {T : Tab} (hT : TOK P T) {w0 : World} {S : Sts} {M : List Ent} {L L1 : Cd} {o : Oper} {t : TypeId} {x : Operand} {v1 v : Value} {d : TD} (h1 : o.op = .call ⟨.builtin .len, #[x], #[t]⟩)
    (h2 : ev S x = some (L1, v1)) (h3 : Suf L1 L) (h4 : lk t T = some d) (h5 : (match d with | .str _ => true | .slc _ _ => true | _ => false) = true) (h6 : lenV v1 = some v) (h7 : (match d, v1 with | .str _, .string _ => true | .slc _ _, .slice _ _ _ => true | _, _ => false) = true) : VO P w0 S M L o v := by
  intro n a w hS hM hL
  unfold execOp
  have hx := ev_spec hS h2 (h3.holds hL)
  cases d <;> first | (cases h5; done) | skip
  all_goals (cases v1 <;> first | (cases h7; done) | skip)
  · obtain rfl := (by simpa [lenV] using h6)
    simp [h1, resolve, invoke, builtin, Builtin.len_, hx, Sem.run_bind, run_underlying (tdOf_str (hT.get h4)), goInt]
  · obtain rfl := (by simpa [lenV] using h6)
    simp [h1, resolve, invoke, builtin, Builtin.len_, hx, Sem.run_bind, run_underlying (tdOf_slc (hT.get h4)), goInt]
theorem vo_max {P : Program} {w0 : World} {S : Sts} {M : List Ent} {L L1 L2 : Cd} {o : Oper} {ts : Array TypeId} {x y : Operand} {k k' : IntKind} {a b : Int} (h1 : o.op = .call ⟨.builtin .max, #[x, y], ts⟩)
    (h2 : ev S x = some (L1, .int k a)) (h3 : Suf L1 L) (h4 : ev S y = some (L2, .int k' b)) (h5 : Suf L2 L) : VO P w0 S M L o (.int k (if b > a then b else a)) := by
  intro n ac w hS hM hL
  unfold execOp
  simp [h1, resolve, invoke, builtin, Builtin.max_, Builtin.max2, ev_spec hS h2 (h3.holds hL), ev_spec hS h4 (h5.holds hL)]
theorem vo_min {P : Program} {w0 : World} {S : Sts} {M : List Ent} {L L1 L2 : Cd} {o : Oper} {ts : Array TypeId} {x y : Operand} {k k' : IntKind} {a b : Int} (h1 : o.op = .call ⟨.builtin .min, #[x, y], ts⟩)
    (h2 : ev S x = some (L1, .int k a)) (h3 : Suf L1 L) (h4 : ev S y = some (L2, .int k' b)) (h5 : Suf L2 L) : VO P w0 S M L o (.int k (if b < a then b else a)) := by
  intro n ac w hS hM hL
  unfold execOp
  simp [h1, resolve, invoke, builtin, Builtin.min_, Builtin.min2, ev_spec hS h2 (h3.holds hL), ev_spec hS h4 (h5.holds hL)]
/-- a byte of a string. -/
theorem vo_sidx {P : Program} {T : Tab} (hT : TOK P T) {w0 : World} {S : Sts} {M : List Ent} {L L1 L2 : Cd} {o : Oper} {t : TypeId} {x y : Operand} {s : ByteArray} {ik : IntKind} {i : Int} (k : Nat) (c : UInt8) {z : Value} (h1 : o.op = .index t x y)
    (h2 : ev S x = some (L1, .string s)) (h3 : Suf L1 L) (h4 : ev S y = some (L2, .int ik i)) (h5 : Suf L2 L) (h6 : lk t T = some (.str z)) (hi : i = (k : Int)) (hc : s.data.toList[k]? = some c) : VO P w0 S M L o (.int .u8 c.toNat) := by
  intro n a w hS hM hL
  subst hi
  have hlt : k < s.size := by have h0 := (List.getElem?_eq_some_iff.1 hc).1; simpa using h0
  have hg : s[k]? = some c := by
    rw [getElem?_pos s k hlt]
    have := (List.getElem?_eq_some_iff.1 hc).2
    rw [← this]; rfl
  unfold execOp
  simp only [h1, ev_spec hS h2 (h3.holds hL), ev_spec hS h4 (h5.holds hL)]
  simp [Instr.index, asIntOf, Sem.run_bind, run_underlying (tdOf_str (hT.get h6)), hg]
/-- a part of a string. -/
def bnd (S : Sts) : Option Operand → Option (Cd × Option Value)
  | none => some ([], none)
  | some x => match ev S x with
    | some (L, v) => some (L, some v)
    | none => none
theorem vo_ssub {P : Program} {T : Tab} (hT : TOK P T) {w0 : World} {S : Sts} {M : List Ent} {L L1 L2 L3 : Cd} {o : Oper} {t : TypeId} {x : Operand} {lo hi : Option Operand} {s : ByteArray} {vl vh : Option Value} (l h : Nat) {z : Value} (h1 : o.op = .slice t x lo hi none)
    (h2 : ev S x = some (L1, .string s)) (h3 : Suf L1 L) (h4 : bnd S lo = some (L2, vl)) (h5 : Suf L2 L) (h4' : bnd S hi = some (L3, vh)) (h5' : Suf L3 L) (h6 : lk t T = some (.str z))
    (hl : match vl with | none => l = 0 | some (.int _ n) => n = (l : Int) | _ => False) (hh : match vh with | none => h = s.size | some (.int _ n) => n = (h : Int) | _ => False) (hle : l ≤ h) (hhs : h ≤ s.size) : VO P w0 S M L o (.string (s.extract l h)) := by
  intro n a w hS hM hL
  have hb : ∀ {b : Option Operand} {Lb : Cd} {vb : Option Value}, bnd S b = some (Lb, vb) → Suf Lb L → b.map a.eval = vb := by
    intro b Lb vb hb hs
    cases b with
    | none => obtain ⟨rfl, rfl⟩ := (by simpa [bnd] using hb); rfl
    | some y =>
      simp only [bnd] at hb
      split at hb
      · rename_i L' v' he
        obtain ⟨rfl, rfl⟩ := (by simpa using hb)
        simp [ev_spec hS he (hs.holds hL)]
      · cases hb
  unfold execOp
  simp only [h1, ev_spec hS h2 (h3.holds hL), hb h4 h5, hb h4' h5']
  have hlow : ∀ w, (match vl with | some v => Instr.sliceBound v h .sliceB | none => pure 0 : Sem Nat).run P w = .ok l w := by
    intro w
    split at hl
    · subst hl; rfl
    · subst hl; simp [Instr.sliceBound, asIntOf]; intro h'; omega
    · exact hl.elim
  have hhigh : ∀ w, (match vh with | some v => Instr.sliceBound v s.size .sliceAlen | none => pure s.size : Sem Nat).run P w = .ok h w := by
    intro w
    split at hh
    · subst hh; rfl
    · subst hh; simp [Instr.sliceBound, asIntOf]; intro h'; omega
    · exact hh.elim
  cases vl with
  | none =>
    cases vh with
    | none =>
      subst hl; subst hh
      simp [Instr.sliceAt, Instr.slice, Instr.sliceBounds, Sem.run_bind, run_underlying (tdOf_str (hT.get h6))]
    | some v =>
      have := hhigh w
      simp only at this
      subst hl
      simp [Instr.sliceAt, Instr.slice, Instr.sliceBounds, Sem.run_bind, run_underlying (tdOf_str (hT.get h6)), this]
  | some u =>
    have hlw := hlow w
    simp only at hlw
    cases vh with
    | none =>
      subst hh
      simp [Instr.sliceAt, Instr.slice, Instr.sliceBounds, Sem.run_bind, run_underlying (tdOf_str (hT.get h6)), hlw]
    | some v =>
      have := hhigh w
      simp only at this
      simp [Instr.sliceAt, Instr.slice, Instr.sliceBounds, Sem.run_bind, run_underlying (tdOf_str (hT.get h6)), this, hlw]
/-- a function value. -/
theorem vo_func {P : Program} {w0 : World} {S : Sts} {M : List Ent} {L : Cd} {o : Oper} {fn : Fn} {first captured : List Operand} {L1 L2 : List Cd} {vs us : List Value} (h1 : o.op = .makeFunc fn first.toArray captured.toArray)
    (h2 : evL S first = some (L1, vs)) (h3 : SufA L L1) (h4 : evL S captured = some (L2, us)) (h5 : SufA L L2) : VO P w0 S M L o (.func fn ⟨vs⟩ ⟨us⟩) := by
  intro n a w hS hM hL
  unfold execOp
  simp [h1, Instr.makeFunc, evL_spec hS hL _ h2 h3, evL_spec hS hL _ h4 h5]
/-! structs: a value put together, and compared. -/
def spl : List Value → Nat → List Value → Option (List Value)
  | l, 0, [] => some l
  | [], 0, _ :: _ => none
  | _ :: r, 0, v :: vs => match spl r 0 vs with
    | some r' => some (v :: r')
    | none => none
  | [], _ + 1, _ => none
  | x :: r, k + 1, vs => match spl r k vs with
    | some r' => some (x :: r')
    | none => none
theorem spl_eq : ∀ {l : List Value} {k : Nat} {vs r : List Value}, spl l k vs = some r → r = l.take k ++ vs ++ l.drop (k + vs.length) ∧ k + vs.length ≤ l.length
  | l, 0, [], r, h => by cases l <;> (obtain rfl := (by simpa [spl] using h); simp)
  | [], 0, v :: vs, r, h => by cases h
  | x :: l, 0, v :: vs, r, h => by
    simp only [spl] at h
    cases hr : spl l 0 vs with
    | none => rw [hr] at h; cases h
    | some r' =>
      rw [hr] at h
      obtain rfl := (by simpa using h)
      obtain ⟨e, hl⟩ := spl_eq hr
      exact ⟨by simp [e], by simp; omega⟩
  | [], k + 1, vs, r, h => by cases vs <;> cases h
  | x :: l, k + 1, vs, r, h => by
    have h' : (match spl l k vs with | some r' => some (x :: r') | none => none) = some r := by cases vs <;> exact h
    cases hr : spl l k vs with
    | none => rw [hr] at h'; cases h'
    | some r' =>
      rw [hr] at h'
      obtain rfl := (by simpa using h')
      obtain ⟨e, hl⟩ := spl_eq hr
      refine ⟨by rw [e]; simp [Nat.add_right_comm], by simp; omega⟩
theorem foldl_spl (off : Nat) : ∀ (vs : List Value) (k : Nat) (cs : Array Value), off + k + vs.length ≤ cs.size →
    ((vs.zipIdx k).foldl (fun cs (p : Value × Nat) => cs.setIfInBounds (off + p.2) p.1) cs) = (cs.toList.take (off + k) ++ vs ++ cs.toList.drop (off + k + vs.length)).toArray
  | [], k, cs, h => by simp
  | v :: vs, k, cs, h => by
    simp only [List.zipIdx_cons, List.foldl_cons]
    rw [foldl_spl off vs (k + 1) _ (by simp at h ⊢; omega)]
    congr 1
    have hlt : off + k < cs.toList.length := by simp at h ⊢; omega
    have e1 : (cs.setIfInBounds (off + k) v).toList = cs.toList.set (off + k) v := by simp
    rw [e1, show off + (k + 1) = off + k + 1 from rfl]
    have h1 : (cs.toList.set (off + k) v).take (off + k + 1) = cs.toList.take (off + k) ++ [v] := by
      apply List.ext_getElem?
      intro j
      simp only [List.getElem?_take, List.getElem?_set, List.getElem?_append, List.length_take]
      have : min (off + k) cs.toList.length = off + k := by omega
      rw [this]
      by_cases hj : j < off + k
      · simp [hj, Nat.lt_succ_of_lt hj]; intro hh; omega
      · by_cases hj2 : j = off + k
        · subst hj2; simp; simpa using hlt
        · simp [hj, show ¬ j < off + k + 1 by omega]
          cases hx : j - (off + k) with
          | zero => omega
          | succ m => simp
    have h2 : (cs.toList.set (off + k) v).drop (off + k + 1 + vs.length) = cs.toList.drop (off + k + (vs.length + 1)) := by
      apply List.ext_getElem?
      intro j
      simp only [List.getElem?_drop, List.getElem?_set]
      rw [if_neg (by omega)]
      congr 1; omega
    rw [h1, h2]
    simp
/-- the parts of a struct literal, written over the zero value. -/
def fillT (T : Tab) (fs : List (Nat × TypeId)) : List Nat → List Value → List Value → Option (List Value)
  | [], [], cs => some cs
  | i :: is, v :: vs, cs => match nth fs i with
    | some (off, ty) => match lk ty T with
      | some d => match Nat.beq (cellsOfV v).length d.size with
        | true => match spl cs off (cellsOfV v) with
          | some cs' => fillT T fs is vs cs'
          | none => none
        | false => none
      | none => none
    | none => none
  | _, _, _ => none
theorem cells_eq (v : Value) : v.cells.toList = cellsOfV v := by cases v <;> rfl
theorem fillT_eq {P : Program} {T : Tab} (hT : TOK P T) {fs : List (Nat × TypeId)} {place : Nat → Option (Nat × Nat)} (hp : ∀ i off ty d, nth fs i = some (off, ty) → lk ty T = some d → place i = some (off, d.size)) :
    ∀ {is : List Nat} {vs cs r : List Value}, fillT T fs is vs cs = some r → Instr.fill place ⟨cs⟩ (is.zip vs) = some ⟨r⟩
  | [], [], cs, r, h => by obtain rfl := (by simpa [fillT] using h); rfl
  | [], _ :: _, cs, r, h => by cases h
  | _ :: _, [], cs, r, h => by cases h
  | i :: is, v :: vs, cs, r, h => by
    simp only [fillT] at h
    split at h <;> first | (cases h; done) | skip
    rename_i off ty hn
    split at h <;> first | (cases h; done) | skip
    rename_i d hd
    split at h <;> first | (cases h; done) | skip
    rename_i hb
    split at h <;> first | (cases h; done) | skip
    rename_i cs' hs
    have hsz : v.cells.size = d.size := by
      have := Nat.eq_of_beq_eq_true hb
      rw [← cells_eq] at this; simpa using this
    obtain ⟨e, hl⟩ := spl_eq hs
    have hfill := foldl_spl off v.cells.toList 0 ⟨cs⟩ (by rw [cells_eq]; simpa using hl)
    simp only [Nat.add_zero] at hfill
    rw [List.zip_cons_cons]
    unfold Instr.fill
    simp only [hp i off ty d hn hd]
    rw [if_neg (by
      rw [← cells_eq] at hl
      have h2 : v.cells.toList.length = v.cells.size := by simp
      have h3 : (⟨cs⟩ : Array Value).size = cs.length := rfl
      rw [h2] at hl
      rw [h3]
      simp only [ne_eq, hsz, not_true, decide_false, Bool.false_or, decide_eq_true_eq]
      omega)]
    have : (v.cells.zipIdx.foldl (fun (cs : Array Value) (p : Value × Nat) => cs.setIfInBounds (off + p.2) p.1) (⟨cs⟩ : Array Value)) = (⟨cs'⟩ : Array Value) := by
      rw [← Array.foldl_toList]
      simp only [Array.toList_zipIdx]
      rw [hfill, e, cells_eq]
    have h9 := fillT_eq (place := place) hT hp h
    rw [← this] at h9
    exact h9
theorem mapM_place {P : Program} {T : Tab} (hT : TOK P T) (w : World) : ∀ (l : List Field), (∀ f ∈ l, ∃ d, lk f.type T = some d) →
    ∃ r : List (Nat × Nat), (l.mapM fun f => do pure (f.offset, ← sizeOf f.type) : Sem (List (Nat × Nat))).run P w = .ok r w ∧ ∀ (i off : Nat) (ty : TypeId) (d : TD), (l.map fun (f : Field) => (f.offset, f.type))[i]? = some (off, ty) → lk ty T = some d → r[i]? = some (off, d.size)
  | [], _ => ⟨[], rfl, fun i off ty d h => by simp at h⟩
  | f :: l, h => by
    obtain ⟨r, hr, hs⟩ := mapM_place hT w l (fun x hx => h x (List.mem_cons_of_mem _ hx))
    obtain ⟨d0, hd0⟩ := h f (List.mem_cons_self ..)
    obtain ⟨i0, hi0, hs0, _⟩ := tdOf_info (hT.get hd0)
    refine ⟨(f.offset, d0.size) :: r, ?_, ?_⟩
    · simp only [List.mapM_cons, Sem.run_bind, run_sizeOf hi0, Result.andThen_ok, Sem.run_pure, hr, hs0]
    · intro i off ty d hi hd
      cases i with
      | zero =>
        simp only [List.map_cons, List.getElem?_cons_zero, Option.some.injEq, Prod.mk.injEq] at hi
        obtain ⟨rfl, rfl⟩ := hi
        rw [hd0] at hd
        obtain rfl := (by simpa using hd)
        simp
      | succ i => simpa using hs i off ty d (by simpa using hi) hd
def allTy (T : Tab) : List (Nat × TypeId) → Bool
  | [] => true
  | (_, ty) :: r => match lk ty T with
    | some _ => allTy T r
    | none => false
theorem allTy_spec {T : Tab} : ∀ {fs : List (Nat × TypeId)}, allTy T fs = true → ∀ p ∈ fs, ∃ d, lk p.2 T = some d
  | [], _, p, hp => by cases hp
  | (o, ty) :: r, h, p, hp => by
    simp only [allTy] at h
    split at h <;> first | (cases h; done) | skip
    rename_i d hd
    rcases List.mem_cons.1 hp with rfl | hp
    · exact ⟨d, hd⟩
    · exact allTy_spec h p hp
theorem vo_build {P : Program} {T : Tab} (hT : TOK P T) {w0 : World} {S : Sts} {M : List Ent} {L : Cd} {o : Oper} {t : TypeId} {parts : List (Nat × Operand)} {n' : Nat} {z : List Value} {fs : List (Nat × TypeId)} {Ls : List Cd} {vs r : List Value} (h1 : o.op = .build t parts.toArray)
    (h2 : evL S (parts.map (·.2)) = some (Ls, vs)) (h3 : SufA L Ls) (h4 : lk t T = some (.row n' z fs)) (h5 : allTy T fs = true) (h6 : fillT T fs (parts.map (·.1)) vs z = some r) : VO P w0 S M L o (.agg ⟨r⟩) := by
  intro n a w hS hM hL
  obtain ⟨F, i, hu, hi, hz, _, rfl⟩ := tdOf_row (hT.get h4)
  have hvs := evL_spec hS hL _ h2 h3
  obtain ⟨pl, hpl, hps⟩ := mapM_place hT w F.toList (fun f hf => by
    obtain ⟨d, hd⟩ := allTy_spec h5 (f.offset, f.type) (List.mem_map.2 ⟨f, hf, rfl⟩)
    exact ⟨d, hd⟩)
  have hfl := fillT_eq (place := fun (i : Nat) => pl[i]?) hT (fun i off ty d hn hd => hps i off ty d (by rw [nth_eq] at hn; exact hn) hd) h6
  have hzip : (parts.map fun p => (p.1, a.eval p.2)) = (parts.map (·.1)).zip vs := by
    rw [← hvs, List.map_map]
    induction parts with
    | nil => rfl
    | cons p ps ih => simp [List.zip_map']
  unfold execOp
  simp only [h1]
  have hmp : (F.mapM fun f => do pure (f.offset, ← sizeOf f.type) : Sem (Array (Nat × Nat))).run P w = .ok pl.toArray w := by
    rw [Array.mapM_eq_mapM_toList]
    simp only [Sem.run_map, hpl, Result.andThen_ok]
  have harr : (parts.toArray.map fun (x : Nat × Operand) => match x with | (i, x) => (i, a.eval x)).toList = (parts.map (·.1)).zip vs := by
    rw [← hzip]; simp
  have hfun : (fun (x : Nat) => pl.toArray[x]?) = (fun (i : Nat) => pl[i]?) := by funext i; simp
  simp only [Instr.build, Sem.run_bind, run_zeroV hi hz, Result.andThen_ok, run_underlying hu, hmp, Value.cells, harr, hfun, hfl, Sem.run_pure]
/-- a struct against a struct. -/
def eqOk (P : Program) (t : TypeId) : Bool := !P.stoodInHeld t && (P.fieldsOf t).toList.all fun f => f.name != "_"
def eqF (T : Tab) (f : TypeId → Value → Value → Option Bool) (xs ys : List Value) : List (Nat × TypeId) → Option Bool
  | [] => some true
  | (off, ty) :: r => match pickT T ty xs off with
    | some a => match pickT T ty ys off with
      | some b => match f ty a b with
        | some c => match eqF T f xs ys r with
          | some d => some (c && d)
          | none => none
        | none => none
      | none => none
    | none => none
def eqT (T : Tab) (E : List TypeId) : Nat → TypeId → Value → Value → Option Bool
  | 0, _, _, _ => none
  | n + 1, t, x, y => match lk t T with
    | some (.int _ _) => match x, y with
      | .int k a, .int k' b => match kEq k k' with
        | true => some (a == b)
        | false => none
      | _, _ => none
    | some (.bool _) => match x, y with
      | .bool a, .bool b => some (a == b)
      | _, _ => none
    | some (.str _) => match x, y with
      | .string a, .string b => some (a.toList == b.toList)
      | _, _ => none
    | some (.row _ _ fs) => match E.contains t with
      | true => match x, y with
        | .agg ⟨xs⟩, .agg ⟨ys⟩ => eqF T (eqT T E n) xs ys fs
        | _, _ => none
      | false => none
    | _ => none
theorem eq_all {P : Program} {T : Tab} (hT : TOK P T) {E : List TypeId} (hE : E.all (eqOk P) = true) (n : Nat) :
    (∀ (d : Nat) (t : TypeId) (x y : Value) (c : Bool) (w : World), n ≤ d → eqT T E n t x y = some c → (Op.equalIn d t x y).run P w = .ok c w) ∧
    (∀ (d : Nat) (xs ys : List Value) (F : List Field) (c : Bool) (w : World), n ≤ d → (F.all fun f => f.name != "_") = true → eqF T (eqT T E n) xs ys (F.map fun f => (f.offset, f.type)) = some c → (Op.eqFields d ⟨xs⟩ ⟨ys⟩ F).run P w = .ok c w) := by
  induction n with
  | zero =>
    refine ⟨fun d t x y c w _ h => by simp [eqT] at h, ?_⟩
    intro d xs ys F c w hd hF h
    cases F with
    | nil => obtain rfl := (by simpa [eqF] using h); rfl
    | cons f F => simp only [List.map_cons, eqF, eqT] at h; (repeat' split at h) <;> cases h
  | succ n ih =>
    have hA : ∀ (d : Nat) (t : TypeId) (x y : Value) (c : Bool) (w : World), n + 1 ≤ d → eqT T E (n + 1) t x y = some c → (Op.equalIn d t x y).run P w = .ok c w := by
      intro d t x y c w hd h
      obtain ⟨d, rfl⟩ : ∃ d', d = d' + 1 := ⟨d - 1, by omega⟩
      simp only [eqT] at h
      split at h
      · rename_i hl
        split at h <;> first | (cases h; done) | skip
        split at h <;> first | (cases h; done) | skip
        rename_i hk
        obtain rfl := kEq_eq hk
        obtain rfl := (by simpa using h)
        exact run_equalIn_int w d t _ _ _ _ (tdOf_int (hT.get hl))
      · rename_i hl
        split at h <;> first | (cases h; done) | skip
        obtain rfl := (by simpa using h)
        exact run_equalIn_bool w d t _ _ (tdOf_bool (hT.get hl))
      · rename_i hl
        split at h <;> first | (cases h; done) | skip
        obtain rfl := (by simpa using h)
        exact run_equalIn_string w d t _ _ (tdOf_str (hT.get hl))
      · rename_i fs hl
        split at h <;> first | (cases h; done) | skip
        rename_i hc
        split at h <;> first | (cases h; done) | skip
        rename_i xs ys
        obtain ⟨F, i, hu, _, _, _, rfl⟩ := tdOf_row (hT.get hl)
        have hok := List.all_eq_true.1 hE t (by simpa using hc)
        simp only [eqOk, Bool.and_eq_true, Bool.not_eq_true'] at hok
        have hfo : P.fieldsOf t = F := by simp [Program.fieldsOf, hu]
        rw [run_equalIn_struct w d t _ _ (by rw [hfo]; exact hu) hok.1, hfo]
        rw [hfo] at hok
        exact ih.2 d xs ys F.toList c w (by omega) hok.2 h
      · cases h
    refine ⟨hA, ?_⟩
    intro d xs ys F
    induction F with
    | nil => intro c w hd hF h; obtain rfl := (by simpa [eqF] using h); rfl
    | cons f F ihF =>
      intro c w hd hF h
      simp only [List.map_cons, eqF] at h
      split at h <;> first | (cases h; done) | skip
      rename_i a ha
      split at h <;> first | (cases h; done) | skip
      rename_i b hb
      split at h <;> first | (cases h; done) | skip
      rename_i c1 hc1
      split at h <;> first | (cases h; done) | skip
      rename_i c2 hc2
      obtain rfl := (by simpa using h)
      simp only [List.all_cons, Bool.and_eq_true, bne_iff_ne] at hF
      have h2 := ihF c2 w hd hF.2 hc2
      simp only [Op.eqFields, if_pos hF.1, Sem.run_bind, pickT_part hT ha, pickT_part hT hb, Result.andThen_ok, hA d f.type a b c1 w hd hc1, Sem.run_ite]
      cases c1 <;> simp [h2]
theorem vo_eqs {P : Program} {T : Tab} (hT : TOK P T) {E : List TypeId} (hE : E.all (eqOk P) = true) {w0 : World} {S : Sts} {M : List Ent} {L L1 L2 : Cd} {o : Oper} {t ty : TypeId} {x y : Operand} {xs ys : Array Value} {c : Bool} (h1 : o.op = .binOp .eql t x y ty)
    (h2 : ev S x = some (L1, .agg xs)) (h3 : Suf L1 L) (h4 : ev S y = some (L2, .agg ys)) (h5 : Suf L2 L) (h6 : eqT T E 9 t (.agg xs) (.agg ys) = some c) (h7 : P.eqGuardType P.depth t = false) : VO P w0 S M L o (.bool c) := by
  intro n a w hS hM hL
  unfold execOp
  simp only [h1, ev_spec hS h2 (h3.holds hL), ev_spec hS h4 (h5.holds hL)]
  have := (eq_all hT hE 9).1 10000 t _ _ c w (by omega) h6
  simp only [Sem.run_bind, run_eqGuard_agg w .eql t x y xs ys h7, Result.andThen_ok, run_eql_struct, this, Sem.run_pure]
theorem vo_nes {P : Program} {T : Tab} (hT : TOK P T) {E : List TypeId} (hE : E.all (eqOk P) = true) {w0 : World} {S : Sts} {M : List Ent} {L L1 L2 : Cd} {o : Oper} {t ty : TypeId} {x y : Operand} {xs ys : Array Value} {c : Bool} (h1 : o.op = .binOp .neq t x y ty)
    (h2 : ev S x = some (L1, .agg xs)) (h3 : Suf L1 L) (h4 : ev S y = some (L2, .agg ys)) (h5 : Suf L2 L) (h6 : eqT T E 9 t (.agg xs) (.agg ys) = some c) (h7 : P.eqGuardType P.depth t = false) : VO P w0 S M L o (.bool (!c)) := by
  intro n a w hS hM hL
  unfold execOp
  simp only [h1, ev_spec hS h2 (h3.holds hL), ev_spec hS h4 (h5.holds hL)]
  have := (eq_all hT hE 9).1 10000 t _ _ c w (by omega) h6
  simp only [Sem.run_bind, run_eqGuard_agg w .neq t x y xs ys h7, Result.andThen_ok, run_neq_struct, this, Sem.run_pure]
end Go.Proofs.YtcedpdofjbaciaaDoor
