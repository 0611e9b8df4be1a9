/- A walker with a small state. Part 4: the steps. -/
import Derived.Test.YtcedpdofjbaciaaDoorSx2
import Derived.Test.YtcedpdofjbaciaaDoorRegionF
namespace Go.Proofs.YtcedpdofjbaciaaDoor
open Go.RowKit

def cellsO : Value → Option (List Value)
  | .agg ⟨l⟩ => some l
  | v => some [v]
theorem cellsO_eq {v : Value} {l : List Value} (h : cellsO v = some l) : v.cells = ⟨l⟩ := by
  cases v <;> (simp only [cellsO] at h; obtain rfl := (by simpa using h); rfl)
def zeroO : TD → Option (List Value)
  | .row _ z _ => some z
  | .arr _ z _ _ => some z
  | .bool z => cellsO z
  | .int _ z => cellsO z
  | .str z => cellsO z
  | .ptr _ z => cellsO z
  | .slc _ z => cellsO z
  | .one z => cellsO z
theorem zeroO_eq {d : TD} {l : List Value} (h : zeroO d = some l) : d.zeroV.cells = ⟨l⟩ := by
  cases d <;> simp only [zeroO] at h <;> first | exact cellsO_eq h | (obtain rfl := (by simpa using h); rfl)
def oneAll : List Value → Bool
  | [] => true
  | .agg _ :: _ => false
  | .tuple _ :: _ => false
  | _ :: r => oneAll r
theorem oneAll_spec : ∀ {l : List Value}, oneAll l = true → ∀ v ∈ l, v.oneCell' = true
  | [], _, v, hv => by cases hv
  | x :: r, h, v, hv => by
    cases x <;> first
      | (cases h; done)
      | (rcases List.mem_cons.1 hv with rfl | hv
         · rfl
         · exact oneAll_spec (l := r) h v hv)
/-- a function that has a body. -/
def entB (P : Program) (f : FuncId) : Bool := match P.funcs[f]? with
  | some fn => !(fn.name == "runtime.NumGoroutine") && fn.body.isSome
  | none => false
theorem run_enter {P : Program} {f : FuncId} (h : entB P f = true) (args : Array Value) (w : World) : (callFunc f args).run P w = .ok (.enter f args) w := by
  unfold entB at h
  split at h
  · rename_i fn hf
    simp only [Bool.and_eq_true, Bool.not_eq_true', beq_eq_false_iff_ne] at h
    obtain ⟨h1, h2⟩ := h
    cases hb : fn.body with
    | none => rw [hb] at h2; cases h2
    | some c => simp [callFunc, hf, h1, hb]
  · cases h
def appO : List Value → List Value → Option (List Value)
  | [], r => some r
  | x :: l, r => match appO l r with
    | some t => some (x :: t)
    | none => none
theorem appO_eq : ∀ {l r t : List Value}, appO l r = some t → t = l ++ r
  | [], r, t, h => by obtain rfl := (by simpa [appO] using h); rfl
  | x :: l, r, t, h => by
    simp only [appO] at h
    cases hr : appO l r with
    | none => rw [hr] at h; cases h
    | some t' => rw [hr] at h; obtain rfl := (by simpa using h); simp [appO_eq hr]
/-- first, arguments, captured. -/
def argO (fs vs : List Value) : List Value → Option (List Value)
  | [] => appO fs vs
  | c :: cs => match appO vs (c :: cs) with
    | some t => appO fs t
    | none => none
theorem argO_eq {fs vs cs t : List Value} (h : argO fs vs cs = some t) : t = fs ++ vs ++ cs := by
  cases cs with
  | nil => simpa [argO] using appO_eq h
  | cons c cs =>
    simp only [argO] at h
    cases hr : appO vs (c :: cs) with
    | none => rw [hr] at h; cases h
    | some t' => rw [hr] at h; rw [appO_eq h, appO_eq hr]; simp
/-- an operation that calls a Go function. -/
structure CallOp (P : Program) (S : Sts) (L : Cd) (o : Oper) (f : FuncId) (args : List Value) : Prop where
  ok : ∀ n a w, Sl n a S → holdsC L = true → (execOp a.eval o).run P w = .ok (.enter f ⟨args⟩) w
theorem callOp {P : Program} {S : Sts} {L L1 : Cd} {o : Oper} {fx : Operand} {xs : List Operand} {ts : Array TypeId} {f : FuncId} {fs cs vs args : List Value} {Ls : List Cd} (h1 : o.op = .call ⟨.value fx, xs.toArray, ts⟩)
    (h2 : ev S fx = some (L1, .func (.func f) ⟨fs⟩ ⟨cs⟩)) (h3 : Suf L1 L) (h4 : evL S xs = some (Ls, vs)) (h5 : SufA L Ls) (h6 : argO fs vs cs = some args) (h7 : entB P f = true) : CallOp P S L o f args := by
  refine ⟨fun n a w hS hL => ?_⟩
  unfold execOp
  have hv := evL_spec hS hL _ h4 h5
  simp [h1, resolve, invoke, ev_spec hS h2 (h3.holds hL), Deferred.ofValue, hv, run_enter h7, argO_eq h6]

/-! plain regions -/
structure SL (P : Program) (l0 : List Oper) (Q : Exit → Act → World → Prop) (l : List Oper) (n : Nat) (w0 : World) (S : Sts) (M : List Ent) : Prop where
  run : ∀ a w, Sl n a S → Mem w0 w M → wpN P l0.toArray (Q .normal) l a w
structure SC (P : Program) (c : Code) (Q : Exit → Act → World → Prop) (n : Nat) (w0 : World) (S : Sts) (M : List Ent) : Prop where
  run : ∀ a w, Sl n a S → Mem w0 w M → c.wp P Q a w
structure SQ (Q : Exit → Act → World → Prop) (e : Exit) (n : Nat) (w0 : World) (S : Sts) (M : List Ent) : Prop where
  run : ∀ a w, Sl n a S → Mem w0 w M → Q e a w

section
variable {P : Program} {l0 rest : List Oper} {Q : Exit → Act → World → Prop} {n : Nat} {w0 : World} {S : Sts} {M M' : List Ent} {L L1 L2 : Cd} {o : Oper} {d : Nat}
theorem sx_nil (h : SQ Q .normal n w0 S M) : SL P l0 Q [] n w0 S M := ⟨fun a w hS hM => h.run a w hS hM⟩
/-- the same for every operation: what it does if it is wanted. -/
theorem sx_step (hg : gd l0 S o.guard = some L) (hw : holdsC L = true → ∀ a w, Sl n a S → Mem w0 w M → Vals P o a w fun v w' => wpN P l0.toArray (Q .normal) rest (a.put o.dst v) w')
    (hn : holdsC L = false → ∀ a w, Sl n a S → Mem w0 w M → wpN P l0.toArray (Q .normal) rest (a.put o.dst undef) w) : SL P l0 Q (o :: rest) n w0 S M := by
  refine ⟨fun a w hS hM => ?_⟩
  unfold wpN
  rw [gd_spec hS hg]
  cases hL : holdsC L with
  | true => simp only [if_true]; exact hw hL a w hS hM
  | false => simp only [Bool.false_eq_true, if_false]; exact hn hL a w hS hM
theorem sx_v {v : Value} (hg : gd l0 S o.guard = some L) (hv : VO P w0 S M L o v) (hd : o.dst = some d) (hn : Nat.blt d n = true) (h : SL P l0 Q rest n w0 ((d, L, v) :: S) M) : SL P l0 Q (o :: rest) n w0 S M := by
  have hdn : d < n := Nat.le_of_ble_eq_true hn
  refine sx_step hg (fun hL a w hS hM => vals_value (hv n a w hS hM hL) (h.run _ _ ?_ hM)) (fun hL a w hS hM => h.run _ _ ?_ hM)
  · rw [hd]; exact hS.put hdn (by simp [hL])
  · rw [hd]; exact hS.put hdn (by simp [hL])
theorem sx_call {f : FuncId} {args : List Value} {v : Value} (hg : gd l0 S o.guard = some L) (ho : CallOp P S L o f args) (hc : ∀ w, Mem w0 w M → Calls P f ⟨args⟩ w fun e w' => e = .returned v ∧ Below w.heap.size w w')
    (hd : o.dst = some d) (hn : Nat.blt d n = true) (h : SL P l0 Q rest n w0 ((d, L, v) :: S) M) : SL P l0 Q (o :: rest) n w0 S M := by
  have hdn : d < n := Nat.le_of_ble_eq_true hn
  refine sx_step hg (fun hL a w hS hM => vals_enter (ho.ok n a w hS hL) ((hc w hM).mono ?_)) (fun hL a w hS hM => h.run _ _ ?_ hM)
  · rintro e w' ⟨rfl, hb⟩
    refine ⟨v, rfl, h.run _ _ ?_ (hM.keep hb)⟩
    rw [hd]; exact hS.put hdn (by simp [hL])
  · rw [hd]; exact hS.put hdn (by simp [hL])
/-- a call whose result is known up to something, and which may change blocks. -/
theorem sx_callR {σ : Type} {f : FuncId} {args : List Value} (Φ : σ → Prop) (V : σ → Value) (N : σ → List Ent) {R : World → Ending → World → Prop} (hg : o.guard = none) (ho : CallOp P S [] o f args) (hc : ∀ w, Mem w0 w M → Calls P f ⟨args⟩ w (R w))
    (hR : ∀ w e w', Mem w0 w M → R w e w' → ∃ p, Φ p ∧ e = .returned (V p) ∧ Mem w0 w' (N p))
    (hd : o.dst = some d) (hn : Nat.blt d n = true) (h : ∀ p, Φ p → SL P l0 Q rest n w0 ((d, [], V p) :: S) (N p)) : SL P l0 Q (o :: rest) n w0 S M := by
  have hdn : d < n := Nat.le_of_ble_eq_true hn
  refine sx_step (L := []) (by rw [hg]; rfl) (fun hL a w hS hM => vals_enter (ho.ok n a w hS hL) ((hc w hM).mono ?_)) (fun hL => by cases hL)
  intro e w' hr
  obtain ⟨p, hp, rfl, hM'⟩ := hR w e w' hM hr
  refine ⟨V p, rfl, (h p hp).run _ _ ?_ hM'⟩
  rw [hd]; exact hS.put hdn (by simp [holdsC])
theorem sx_call0 {f : FuncId} {args : List Value} {R : World → Ending → World → Prop} (hg : o.guard = none) (ho : CallOp P S [] o f args) (hc : ∀ w, Mem w0 w M → Calls P f ⟨args⟩ w (R w))
    (hR : ∀ w e w', Mem w0 w M → R w e w' → (∃ v, e = .returned v) ∧ Mem w0 w' M')
    (hd : o.dst = none) (h : SL P l0 Q rest n w0 S M') : SL P l0 Q (o :: rest) n w0 S M := by
  refine sx_step (L := []) (by rw [hg]; rfl) (fun hL a w hS hM => vals_enter (ho.ok n a w hS hL) ((hc w hM).mono ?_)) (fun hL => by cases hL)
  intro e w' hr
  obtain ⟨⟨v, rfl⟩, hM'⟩ := hR w e w' hM hr
  refine ⟨v, rfl, h.run _ _ ?_ hM'⟩
  rw [hd]; exact hS
theorem sx_box {t : TypeId} {x : Operand} {v : Value} {cs : List Value} (h1 : o.op = .box t x) (hg : o.guard = none) (h2 : ev S x = some ([], v)) (h3 : cellsO v = some cs) (hd : o.dst = some d) (hn : Nat.blt d n = true)
    (h : ∀ g, SL P l0 Q rest n w0 ((d, [], .pointer (some ⟨g, 0, none⟩)) :: S) ((g, t, cs) :: M)) : SL P l0 Q (o :: rest) n w0 S M := by
  have hdn : d < n := Nat.le_of_ble_eq_true hn
  refine sx_step (L := []) (by rw [hg]; rfl) (fun hL a w hS hM => ?_) (fun hL => by cases hL)
  have hrun : (execOp a.eval o).run P w = .ok (.value (.pointer (some ⟨w.heap.size, 0, none⟩))) (w.alloc (.cells ⟨cs⟩ t)) := by
    unfold execOp
    simp only [h1, ev_spec hS h2 rfl, Instr.box, newVar, newRow, cellsO_eq h3, Sem.run_bind]
    rfl
  refine vals_value hrun ((h _).run _ _ ?_ (hM.new t cs))
  rw [hd]; exact hS.put hdn (by simp [holdsC])
theorem sx_alloc {T : Tab} (hT : TOK P T) {t : TypeId} {td : TD} {cs : List Value} (h1 : o.op = .alloc t) (hg : o.guard = none) (h2 : lk t T = some td) (h3 : zeroO td = some cs) (hd : o.dst = some d) (hn : Nat.blt d n = true)
    (h : ∀ g, SL P l0 Q rest n w0 ((d, [], .pointer (some ⟨g, 0, none⟩)) :: S) ((g, t, cs) :: M)) : SL P l0 Q (o :: rest) n w0 S M := by
  have hdn : d < n := Nat.le_of_ble_eq_true hn
  refine sx_step (L := []) (by rw [hg]; rfl) (fun hL a w hS hM => ?_) (fun hL => by cases hL)
  obtain ⟨i, hi, _, hz⟩ := tdOf_info (hT.get h2)
  have hrun : (execOp a.eval o).run P w = .ok (.value (.pointer (some ⟨w.heap.size, 0, none⟩))) (w.alloc (.cells ⟨cs⟩ t)) := by
    unfold execOp
    simp only [h1, Instr.alloc, Sem.run_bind, run_zeroV hi hz, Result.andThen_ok, newVar, newRow, zeroO_eq h3]
    rfl
  refine vals_value hrun ((h _).run _ _ ?_ (hM.new t cs))
  rw [hd]; exact hS.put hdn (by simp [holdsC])
theorem run_storeAt {T : Tab} (hT : TOK P T) {t : TypeId} {td : TD} {w : World} {g off : Nat} {B : TypeId} {v : Value} {cs cs' vs : List Value} (hb : Bk w g B ⟨cs⟩) (h4 : cellsO v = some vs) (h5 : lk t T = some td) (h6 : Nat.beq vs.length td.size = true) (h7 : oneAll vs = true) (h8 : spl cs off vs = some cs') :
    (Instr.storeAt t (.pointer (some ⟨g, off, none⟩)) v).run P w = .ok () (w.setRow g ⟨cs'⟩) := by
  obtain ⟨i, hi, hs, _⟩ := tdOf_info (hT.get h5)
  obtain ⟨e, hl⟩ := spl_eq h8
  have hlen := Nat.eq_of_beq_eq_true h6
  have := run_storeCells_at (P := P) g off B vs 0 ⟨cs⟩ w hb (by simpa using hl) (oneAll_spec h7)
  simp only [Nat.add_zero] at this
  simp only [Instr.storeAt, Instr.sureAddr, storeVar, cellsO_eq h4, Sem.run_bind, Sem.run_pure, Result.andThen_ok, run_sizeOf hi]
  have hsz : (⟨vs⟩ : Array Value).size = i.size := by simp [hs, hlen]
  simp only [hsz, ne_eq, not_true, if_false]
  rw [this, e]
theorem sx_store {T : Tab} (hT : TOK P T) (i : Nat) {t : TypeId} {td : TD} {x y : Operand} {g off : Nat} {B : TypeId} {v : Value} {cs cs' vs : List Value} (h1 : o.op = .store t x y) (hg : o.guard = none) (h2 : ev S x = some ([], .pointer (some ⟨g, off, none⟩))) (h3 : ev S y = some ([], v))
    (hm : nth M i = some (g, B, cs)) (h4 : cellsO v = some vs) (h5 : lk t T = some td) (h6 : Nat.beq vs.length td.size = true) (h7 : oneAll vs = true) (h8 : spl cs off vs = some cs') (h9 : setM M i cs' = some M') (hd : o.dst = none)
    (h : SL P l0 Q rest n w0 S M') : SL P l0 Q (o :: rest) n w0 S M := by
  refine sx_step (L := []) (by rw [hg]; rfl) (fun hL a w hS hM => ?_) (fun hL => by cases hL)
  have hrun : (execOp a.eval o).run P w = .ok .skip (w.setRow g ⟨cs'⟩) := by
    unfold execOp
    simp only [h1, ev_spec hS h2 rfl, ev_spec hS h3 rfl, Sem.run_bind, run_storeAt hT (hM.2.get hm).2 h4 h5 h6 h7 h8]
    rfl
  unfold Vals
  rw [hrun]
  refine h.run _ _ ?_ (hM.set hm h9)
  rw [hd]; exact hS

/-! code -/
theorem sc_region {id : Nat} {l : List Oper} (h : SL P l Q l n w0 S M) : SC P (.region id l.toArray false) Q n w0 S M := ⟨fun a w hS hM => wp_region_lit (wpList_of_wpN (h.run a w hS hM))⟩
theorem sc_seq {x y : Code} (h : SC P x (Exit.then (y.wp P Q) Q) n w0 S M) : SC P (.seq x y) Q n w0 S M := ⟨fun a w hS hM => wp_seq (h.run a w hS hM)⟩
theorem sc_block {id : Nat} {c : Code} (h : SC P c (Exit.inBlock id Q) n w0 S M) : SC P (.block id c) Q n w0 S M := ⟨fun a w hS hM => wp_block (h.run a w hS hM)⟩
theorem sc_skip (h : SQ Q .normal n w0 S M) : SC P .skip Q n w0 S M := ⟨fun a w hS hM => wp_skip (h.run a w hS hM)⟩
theorem sc_exit {id : Nat} (h : SQ Q (.exit id) n w0 S M) : SC P (.exit id) Q n w0 S M := ⟨fun a w hS hM => wp_exit (h.run a w hS hM)⟩
theorem sc_ret (h : SQ Q .ret n w0 S M) : SC P .ret Q n w0 S M := ⟨fun a w hS hM => wp_ret (h.run a w hS hM)⟩
theorem sc_cond {c : Operand} {x y : Code} {b : Bool} (h1 : ev S c = some ([], .bool b)) (ht : b = true → SC P x Q n w0 S M) (hf : b = false → SC P y Q n w0 S M) : SC P (.cond c x y) Q n w0 S M :=
  ⟨fun a w hS hM => wp_cond_split (ev_spec hS h1 rfl) (fun hb => (ht hb).run a w hS hM) (fun hb => (hf hb).run a w hS hM)⟩
theorem sc_true {c : Operand} {x y : Code} {b : Bool} (h1 : ev S c = some ([], .bool b)) (hb : b = true) (ht : SC P x Q n w0 S M) : SC P (.cond c x y) Q n w0 S M :=
  sc_cond h1 (fun _ => ht) (fun h => by rw [hb] at h; cases h)
theorem sc_false {c : Operand} {x y : Code} {b : Bool} (h1 : ev S c = some ([], .bool b)) (hb : b = false) (ht : SC P y Q n w0 S M) : SC P (.cond c x y) Q n w0 S M :=
  sc_cond h1 (fun h => by rw [hb] at h; cases h) (fun _ => ht)
theorem sq_then {y : Code} (h : SC P y Q n w0 S M) : SQ (Exit.then (y.wp P Q) Q) .normal n w0 S M := ⟨fun a w hS hM => h.run a w hS hM⟩
theorem sq_pass_exit {K : Act → World → Prop} {id : Nat} (h : SQ Q (.exit id) n w0 S M) : SQ (Exit.then K Q) (.exit id) n w0 S M := ⟨fun a w hS hM => h.run a w hS hM⟩
theorem sq_pass_ret {K : Act → World → Prop} (h : SQ Q .ret n w0 S M) : SQ (Exit.then K Q) .ret n w0 S M := ⟨fun a w hS hM => h.run a w hS hM⟩
theorem sq_blk_normal {id : Nat} (h : SQ Q .normal n w0 S M) : SQ (Exit.inBlock id Q) .normal n w0 S M := ⟨fun a w hS hM => h.run a w hS hM⟩
theorem sq_blk_ret {id : Nat} (h : SQ Q .ret n w0 S M) : SQ (Exit.inBlock id Q) .ret n w0 S M := ⟨fun a w hS hM => h.run a w hS hM⟩
theorem sq_blk_hit {id : Nat} (h : SQ Q .normal n w0 S M) : SQ (Exit.inBlock id Q) (.exit id) n w0 S M := ⟨fun a w hS hM => by simp only [Exit.inBlock, if_true]; exact h.run a w hS hM⟩
theorem sq_blk_miss {id id' : Nat} (hne : Nat.beq id' id = false) (h : SQ Q (.exit id') n w0 S M) : SQ (Exit.inBlock id Q) (.exit id') n w0 S M := ⟨fun a w hS hM => by
  simp only [Exit.inBlock]
  rw [if_neg (fun e => by subst e; simp at hne)]
  exact h.run a w hS hM⟩
end
/-- the function is entered: its arguments lie in the first slots. -/
def arg0 : List Value → Nat → Sts
  | [], _ => []
  | v :: vs, k => (k, [], v) :: arg0 vs (k + 1)
theorem arg0_spec : ∀ (vs : List Value) (k t : Nat) {L : Cd} {v : Value}, lk t (arg0 vs k) = some (L, v) → L = [] ∧ k ≤ t ∧ vs[t - k]? = some v
  | [], _, _, _, _, h => by cases h
  | x :: vs, k, t, L, v, h => by
    simp only [arg0] at h
    rw [lk_cons] at h
    split at h
    · rename_i e
      subst e
      obtain ⟨rfl, rfl⟩ := (by simpa using h)
      exact ⟨rfl, Nat.le_refl _, by simp⟩
    · obtain ⟨h1, h2, h3⟩ := arg0_spec vs (k + 1) t h
      refine ⟨h1, by omega, ?_⟩
      have : t - k = (t - (k + 1)) + 1 := by omega
      rw [this]; simpa using h3
def arg0O : List Value → Nat → Option Sts
  | [], _ => some []
  | v :: vs, k => match arg0O vs (k + 1) with
    | some S => some ((k, [], v) :: S)
    | none => none
theorem arg0O_eq : ∀ {vs : List Value} {k : Nat} {S : Sts}, arg0O vs k = some S → S = arg0 vs k
  | [], _, S, h => by obtain rfl := (by simpa [arg0O] using h); rfl
  | v :: vs, k, S, h => by
    simp only [arg0O] at h
    split at h <;> first | (cases h; done) | skip
    rename_i S' hs
    obtain rfl := (by simpa using h)
    rw [arg0O_eq hs]; rfl
theorem sx_enter {P : Program} {f : FuncId} {fn : Func} {c : Code} {args : List Value} {w : World} {R : Ending → World → Prop} {n : Nat} {S : Sts} (hf : P.funcs[f]? = some fn) (hb : fn.body = some c) (hn : fn.ntmps = n) (ha : Nat.ble args.length n = true)
    (hs : arg0O args 0 = some S) (h : SC P c (bodyPost P fn R) n w S []) : Calls P f ⟨args⟩ w R := by
  rw [arg0O_eq hs] at h
  refine calls_of_wp hf hb (h.run _ _ ⟨rfl, ?_, fun t L v ht => ?_⟩ ⟨Below.refl _ _, trivial⟩)
  · have := Nat.le_of_ble_eq_true ha
    simp [hn]; omega
  · obtain ⟨rfl, _, h3⟩ := arg0_spec args 0 t ht
    have hlt := (List.getElem?_eq_some_iff.1 h3).1
    simp only [Nat.sub_zero] at h3 hlt
    rw [Array.getElem?_append_left (by simpa using hlt)]
    simpa [holdsC] using h3
/-- what is returned. -/
def resO (S : Sts) (M : List Ent) (T : Tab) (ix : Nat → Nat) : List ResultVar → Option (List Value)
  | [] => some []
  | .tmp t :: r => match lk t S with
    | some ([], v) => match resO S M T ix r with
      | some vs => some (v :: vs)
      | none => none
    | _ => none
  | .cell t ty :: r => match lk t S with
    | some ([], .pointer (some ⟨_, off, none⟩)) => match nth M (ix t) with
      | some (_, _, cs) => match pickT T ty cs off with
        | some v => match resO S M T ix r with
          | some vs => some (v :: vs)
          | none => none
        | none => none
      | none => none
    | _ => none
def resG (S : Sts) (M : List Ent) (ix : Nat → Nat) : List ResultVar → Prop
  | [] => True
  | .tmp _ :: r => resG S M ix r
  | .cell t _ :: r => (match lk t S, nth M (ix t) with
    | some ([], .pointer (some ⟨g, _, none⟩)), some (g', _, _) => g = g'
    | _, _ => False) ∧ resG S M ix r
def tupO : List Value → Option Value
  | [v] => some v
  | vs => some (.tuple ⟨vs⟩)
theorem resO_spec {P : Program} {T : Tab} (hT : TOK P T) {n : Nat} {w0 w : World} {a : Act} {S : Sts} {M : List Ent} (hS : Sl n a S) (hM : Mem w0 w M) {ix : Nat → Nat} : ∀ {rs : List ResultVar} {vs : List Value}, resO S M T ix rs = some vs → resG S M ix rs →
    (rs.mapM fun | .tmp t => pure (a.tmps.getD t undef) | .cell b t => do loadVar t (← asAddr (a.tmps.getD b undef)) : Sem (List Value)).run P w = .ok vs w
  | [], vs, h, _ => by obtain rfl := (by simpa [resO] using h); rfl
  | .tmp t :: r, vs, h, hg => by
    simp only [resO] at h
    split at h <;> first | (cases h; done) | skip
    rename_i v hl
    split at h <;> first | (cases h; done) | skip
    rename_i vs' hr
    obtain rfl := (by simpa using h)
    have hv := hS.2.2 t _ _ hl
    have ih := resO_spec hT hS hM hr hg
    have hv' : a.tmps.getD t undef = v := by rw [Array.getD_eq_getD_getElem?, hv]; simp [holdsC]
    simp only [List.mapM_cons, Sem.run_bind, Sem.run_pure, Result.andThen_ok, ih, hv']
  | .cell t ty :: r, vs, h, hg => by
    simp only [resO] at h
    split at h <;> first | (cases h; done) | skip
    rename_i g off hl
    split at h <;> first | (cases h; done) | skip
    rename_i g' B cs hm
    split at h <;> first | (cases h; done) | skip
    rename_i v hp
    split at h <;> first | (cases h; done) | skip
    rename_i vs' hr
    obtain rfl := (by simpa using h)
    obtain ⟨hg1, hg2⟩ := hg
    simp only [hl, hm] at hg1
    subst hg1
    have hv := hS.2.2 t _ _ hl
    have ih := resO_spec hT hS hM hr hg2
    have hv' : a.tmps.getD t undef = .pointer (some ⟨g, off, none⟩) := by rw [Array.getD_eq_getD_getElem?, hv]; simp [holdsC]
    have hload := pickT_load (w := w) hT (hM.2.get hm).2 hp
    have hadr : (asAddr (.pointer (some ⟨g, off, none⟩))).run P w = .ok ⟨g, off, none⟩ w := rfl
    simp only [List.mapM_cons, Sem.run_bind, Sem.run_pure, Result.andThen_ok, ih, hv', hadr, hload]
theorem sq_ret {P : Program} {T : Tab} (hT : TOK P T) (ix : Nat → Nat) {fn : Func} {R : Ending → World → Prop} {n : Nat} {w0 : World} {S : Sts} {M : List Ent} {rs : List ResultVar} {vs : List Value} {v : Value} (hr : fn.results = rs.toArray) (h1 : resO S M T ix rs = some vs) (hg : resG S M ix rs) (h2 : tupO vs = some v)
    (h : ∀ w, Mem w0 w M → R (.returned v) w) : SQ (bodyPost P fn R) .ret n w0 S M := by
  refine ⟨fun a w hS hM => ?_⟩
  refine ⟨hS.1, v, ?_, h w hM⟩
  have hm := resO_spec hT hS hM h1 hg
  have hlen : (results fn a.tmps).run P w = (do let vs ← (rs.mapM fun | .tmp t => pure (a.tmps.getD t undef) | .cell b t => do loadVar t (← asAddr (a.tmps.getD b undef)) : Sem (List Value)); pure (if h : vs.toArray.size = 1 then vs.toArray[0] else .tuple vs.toArray) : Sem Value).run P w := by
    unfold results
    rw [hr, Array.mapM_eq_mapM_toList]
    simp only [Sem.run_bind, Sem.run_map]
    generalize (Sem.run P _ w) = r
    cases r <;> rfl
  rw [hlen, Sem.run_bind, hm]
  simp only [Result.andThen_ok, Sem.run_pure]
  match vs, h2 with
  | [], h2 => obtain rfl := (by simpa [tupO] using h2); simp
  | [x], h2 => obtain rfl := (by simpa [tupO] using h2); simp
  | x :: y :: r, h2 => obtain rfl := (by simpa [tupO] using h2); simp
theorem sq_end {P : Program} {T : Tab} (hT : TOK P T) (ix : Nat → Nat) {fn : Func} {R : Ending → World → Prop} {n : Nat} {w0 : World} {S : Sts} {M : List Ent} {rs : List ResultVar} {vs : List Value} {v : Value} (hr : fn.results = rs.toArray) (h1 : resO S M T ix rs = some vs) (hg : resG S M ix rs) (h2 : tupO vs = some v)
    (h : ∀ w, Mem w0 w M → R (.returned v) w) : SQ (bodyPost P fn R) .normal n w0 S M := ⟨fun a w hS hM => (sq_ret hT ix hr h1 hg h2 h).run a w hS hM⟩
end Go.Proofs.YtcedpdofjbaciaaDoor
