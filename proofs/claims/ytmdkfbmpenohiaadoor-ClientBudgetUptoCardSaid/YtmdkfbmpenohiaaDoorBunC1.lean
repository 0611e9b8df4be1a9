/- Texts of this claim merged into one: Cl1, Cl2, Cl3. -/
import Derived.Test.YtmdkfbmpenohiaaDoorBunBl
/- client.copied, client.cloned. -/
namespace Go.Proofs.YtmdkfbmpenohiaaDoor.Y
open Go.RowKit
theorem MemL.perm {B : Nat} {w : World} {M M' : List Ent} (hp : M.Perm M') : MemL B w M → MemL B w M' := by
  induction hp with
  | nil => exact id
  | cons x p ih => exact fun h => ⟨h.1, fun f hf => h.2.1 f (p.mem_iff.2 hf), ih h.2.2⟩
  | swap x y l => exact fun h => ⟨h.2.2.1, fun f hf => by
      rcases List.mem_cons.1 hf with rfl | hf
      · exact (h.2.1 x (List.mem_cons_self ..)).symm
      · exact h.2.2.2.1 f hf, h.1, fun f hf => h.2.1 f (List.mem_cons_of_mem _ hf), h.2.2.2.2⟩
  | trans _ _ ih1 ih2 => exact fun h => ih2 (ih1 h)
theorem Mem.perm {w0 w : World} {M M' : List Ent} (h : Mem w0 w M) (hp : M.Perm M') : Mem w0 w M' := ⟨h.1, h.2.perm hp⟩
theorem sq_conv {Q : Exit → Act → World → Prop} {n : Nat} {w0 : World} {S : Sts} {M M' : List Ent} {e : Exit} (hc : ∀ w, Mem w0 w M → Mem w0 w M') (h : SQ Q e n w0 S M') : SQ Q e n w0 S M := ⟨fun a w h1 h2 => h.run a w h1 (hc w h2)⟩
theorem sl_conv {P : Program} {Q : Exit → Act → World → Prop} {l0 l : List Oper} {n : Nat} {w0 : World} {S : Sts} {M M' : List Ent} (hc : ∀ w, Mem w0 w M → Mem w0 w M') (h : SL P l0 Q l n w0 S M') : SL P l0 Q l n w0 S M := ⟨fun a w h1 h2 => h.run a w h1 (hc w h2)⟩
/-- the memory that a call holds. -/
def EQ (v : QV) : List Ent := [.own v.a v.ac 9 1 v.q.an.length (v.q.an.flatMap sC), .own v.s v.sc 9 1 v.q.mg.length (v.q.mg.flatMap sC), .own v.m v.mc 98 2 v.q.ms.length (v.q.ms.flatMap mC)]
def isRep : Ent → Bool
  | .rep _ _ => true
  | _ => false
theorem EQ_rep (l : List QV) : ∀ e ∈ l.flatMap EQ, isRep e = false := fun e he => by
  obtain ⟨v, _, h⟩ := List.mem_flatMap.1 he
  simp only [EQ, List.mem_cons, List.not_mem_nil, or_false] at h
  rcases h with rfl | rfl | rfl <;> rfl
theorem Made.own {w0 w : World} {E : List Ent} (h : Mem w0 w E) (hf : ∀ e ∈ E, isRep e = false) : Made w0 w E := Made.of h fun e he F p hep => by have := hf e he; rw [hep] at this; cases this
theorem own_ex {w w' : World} {e : Ending} {T : TypeId} {size n : Nat} {xs : List Value} (h : ∃ p : Option Addr × Nat, True ∧ e = .returned (.slice p.1 n p.2) ∧ Made w w' [.own p.1 p.2 T size n xs]) :
    (∃ s : Option Addr × Nat, True ∧ e = .returned (.slice s.1 n s.2) ∧ MemL w.heap.size w' [.own s.1 s.2 T size n xs] ∧ (∀ f ∈ [Ent.own s.1 s.2 T size n xs], ∀ b, f.foot b → vB (.slice s.1 n s.2) b) ∧ ∀ b, vB (.slice s.1 n s.2) b → w.heap.size ≤ b ∧ b < w'.heap.size) ∧ Below w.heap.size w w' := by
  obtain ⟨⟨a, c⟩, _, h2, h3⟩ := h
  have hfo : ∀ b, vB (.slice a n c) b ↔ (Ent.own a c T size n xs).foot b := fun b => by cases a <;> rfl
  refine ⟨⟨(a, c), trivial, h2, h3.mem, fun f hf b hb => ?_, fun b hb => ?_⟩, h3.below⟩
  · obtain rfl := List.mem_singleton.1 hf
    exact (hfo b).2 hb
  · exact own_foot h3.mem.1 ((hfo b).1 hb)
theorem QOk.own {N : Nat} {w : World} {v : QV} (h : MemL N w (EQ v)) : QOk (fun b => N ≤ b) w v := ⟨Rws.own mC_len h.2.2.2.2.1, Rws.own sC_len h.2.2.1, Rws.own sC_len h.1⟩
theorem MemL.sub {B : Nat} {w : World} {M M' : List Ent} (hs : M'.Sublist M) (h : MemL B w M) : MemL B w M' := by
  induction hs with
  | slnil => exact h
  | cons a _ ih => exact ih h.2.2
  | cons_cons a hs ih => exact ⟨h.1, fun f hf => h.2.1 f (hs.subset hf), ih h.2.2⟩
theorem EQ_in {N : Nat} {w : World} {l : List QV} (h : MemL N w (l.flatMap EQ)) {v : QV} (hv : v ∈ l) : MemL N w (EQ v) := by
  induction l with
  | nil => cases hv
  | cons a l ih =>
    obtain ⟨h1, h2, _⟩ := MemL.split (M1 := EQ a) h
    rcases List.mem_cons.1 hv with rfl | hv
    · exact h1
    · exact ih h2 hv
/-- the memory of a client that was cloned. -/
def EC (v : CV) : List Ent := .own v.x v.xc 37 15 v.qv.length (v.qv.flatMap QC) :: .own v.b v.bc 66 6 v.c.bs.length (v.c.bs.flatMap bC) :: v.qv.flatMap EQ
theorem EC_rep (v : CV) : ∀ e ∈ EC v, isRep e = false := fun e he => by
  rcases List.mem_cons.1 he with rfl | he
  · rfl
  · rcases List.mem_cons.1 he with rfl | he
    · rfl
    · exact EQ_rep _ e he
theorem COk.own {N : Nat} {w : World} {v : CV} (h : MemL N w (EC v)) (he : v.c.qs = v.qv.map (·.q)) : COk (fun b => N ≤ b) w v :=
  ⟨Rws.own bC_len h.2.2.1, Rws.own QC_len h.1, he, fun _ hq => QOk.own (EQ_in h.2.2.2.2 hq)⟩
theorem copied_vB {v v' : QV} (_h : v'.q = v.q) : ∀ f ∈ EQ v', ∀ b, f.foot b → vB (.agg ⟨QC v'⟩) b := fun f hf b hb => by
  simp only [EQ, List.mem_cons, List.not_mem_nil, or_false] at hf
  rcases hf with rfl | rfl | rfl
  · refine ⟨.slice v'.a v'.q.an.length v'.ac, by simp [QC], ?_⟩
    cases h : v'.a with
    | none => simp [Ent.foot, Ent.mut, h] at hb
    | some a => simpa [Ent.foot, Ent.mut, h, cB1] using hb
  · refine ⟨.slice v'.s v'.q.mg.length v'.sc, by simp [QC], ?_⟩
    cases h : v'.s with
    | none => simp [Ent.foot, Ent.mut, h] at hb
    | some a => simpa [Ent.foot, Ent.mut, h, cB1] using hb
  · refine ⟨.slice v'.m v'.q.ms.length v'.mc, by simp [QC], ?_⟩
    cases h : v'.m with
    | none => simp [Ent.foot, Ent.mut, h] at hb
    | some a => simpa [Ent.foot, Ent.mut, h, cB1] using hb
theorem copied_vB2 {N : Nat} {w : World} {v : QV} (h : MemL N w (EQ v)) : ∀ b, vB (.agg ⟨QC v⟩) b → N ≤ b ∧ b < w.heap.size := fun b hb => by
  obtain ⟨c, hc, hcb⟩ := hb
  simp only [QC, List.mem_cons, List.not_mem_nil, or_false] at hc
  have key : ∀ {a : Option Addr} {cap n : Nat} {T : TypeId} {size : Nat} {xs : List Value}, w.ownsRow N T size (.slice a n cap) n xs → cB1 (.slice a n cap) b → N ≤ b ∧ b < w.heap.size := fun {a _ _ _ _ _} ho hb => own_foot ho (by cases a <;> first | exact hb.elim | exact hb)
  rcases hc with rfl | rfl | rfl | rfl | rfl | rfl | rfl | rfl | rfl | rfl | rfl | rfl | rfl | rfl | rfl
  all_goals first
    | exact hcb.elim
    | exact key h.1 hcb
    | exact key h.2.2.1 hcb
    | exact key h.2.2.2.2.1 hcb
set_option maxRecDepth 100000 in
set_option maxHeartbeats 8000000 in
theorem copied_any {A : Nat → Prop} (v : QV) (w : World) (hQ : QOk A w v) (hz : SzQ v.q) : Calls Tryd.prog 21 #[.agg #[.int .i64 v.q.id, .string v.q.sv, .string v.q.mt, .int .i64 v.q.late, .slice v.m v.q.ms.length v.mc, .int .i64 v.q.sh, .slice v.s v.q.mg.length v.sc, .int .i64 v.q.att, .string v.q.bk, .int .i64 v.q.st, .int .i64 v.q.nx, .slice v.a v.q.an.length v.ac, .bool v.q.dn, .int .i64 v.q.cd, .string v.q.tx]] w fun e w' => ∃ v' : QV, v'.q = v.q ∧ e = .returned (.agg ⟨QC v'⟩) ∧ Made w w' (EQ v') := by
  obtain ⟨hz1, hz2, hz3⟩ := hz
  refine sx_enter Tryd.func21 rfl Tryd.ntmps21 rfl rfl ?_
  refine sc_seq ?_
  refine sc_region ?_
  (refine sx_box rfl rfl rfl rfl rfl rfl ?_; intro g1)
  (refine sx_alloc tok rfl rfl rfl rfl rfl rfl ?_; intro g2)
  repeat' (first | refine sc_seq ?_ | refine sc_region ?_ | refine sq_then ?_ | refine sx_nil ?_ | ((refine' sx_v rfl ?_ rfl rfl ?_); rotate_left; first | exact vo_un tok rfl rfl rfl rfl | exact vo_load tok 1 rfl rfl rfl rfl rfl))
  refine sx_callM (σ := Option Addr × Nat) (fun _ => True) (fun p => .slice p.1 v.q.ms.length p.2) (fun p => [.own p.1 p.2 98 2 v.q.ms.length (v.q.ms.flatMap mC)]) rfl (callOp rfl rfl rfl rfl ⟨rfl, trivial⟩ rfl (by kernel_rfl)) (fun w1 hm => cloneMetaR v.m v.q.ms v.mc w1 (hQ.1.below hm.below) (by omega)) rfl rfl ?_
  rintro ⟨pm, pmc⟩ -
  dsimp only [List.cons_append, List.nil_append]
  iterate 5 (first | refine sq_then ?_ | (((refine' sx_v rfl ?_ rfl rfl ?_); rotate_left; exact vo_un tok rfl rfl rfl rfl)) | refine sx_store tok 2 rfl rfl rfl rfl rfl rfl rfl rfl rfl rfl rfl rfl ?_ | refine sx_nil ?_)
  refine sc_seq ?_
  refine sc_regionXK 7 [11, 14] follows_any rfl (by kernel_rfl) ?_
  iterate 2 (((refine' srx_v rfl ?_ rfl rfl ?_); rotate_left; first | exact vo_un tok rfl rfl rfl rfl | exact vo_load tok 2 rfl rfl rfl rfl rfl))
  refine srx_callE (σ := Option Addr × Nat) (fun _ => True) (fun s => .slice s.1 v.q.mg.length s.2) (fun s => [.own s.1 s.2 9 1 v.q.mg.length (v.q.mg.flatMap sC)]) rfl (callOp rfl rfl rfl rfl ⟨rfl, trivial⟩ rfl (by kernel_rfl)) (fun w hm => (cloneStrR v.s v.q.mg v.sc w (hQ.2.1.below hm.below) (by omega)).mono fun e w1 h => own_ex h) rfl rfl rfl rfl ?_
  iterate 2 (((refine' srx_v rfl ?_ rfl rfl ?_); rotate_left; first | exact vo_un tok rfl rfl rfl rfl | exact vo_load tok 2 rfl rfl rfl rfl rfl))
  refine srx_callE (σ := Option Addr × Nat) (fun _ => True) (fun s => .slice s.1 v.q.an.length s.2) (fun s => [.own s.1 s.2 9 1 v.q.an.length (v.q.an.flatMap sC)]) rfl (callOp rfl rfl rfl rfl ⟨rfl, trivial⟩ rfl (by kernel_rfl)) (fun w hm => (cloneStrR v.a v.q.an v.ac w (hQ.2.2.below hm.below) (by omega)).mono fun e w1 h => own_ex h) rfl rfl rfl rfl ?_
  ((refine' srx_v rfl ?_ rfl rfl ?_); rotate_left; exact vo_un tok rfl rfl rfl rfl)
  refine srx_nil ?_
  rintro ⟨ps, psc⟩ - ⟨pa, pac⟩ -
  dsimp only [List.cons_append, List.nil_append]
  repeat' (first | refine sc_seq ?_ | refine sc_region ?_ | refine sq_then ?_ | refine sc_ret ?_ | refine sx_nil ?_ | ((refine' sx_v rfl ?_ rfl rfl ?_); rotate_left; first | exact vo_un tok rfl rfl rfl rfl | exact vo_load tok 4 rfl rfl rfl rfl rfl) | refine sx_store tok 3 rfl rfl rfl rfl rfl rfl rfl rfl rfl rfl rfl rfl ?_ | refine sx_store tok 4 rfl rfl rfl rfl rfl rfl rfl rfl rfl rfl rfl rfl ?_)
  (refine sq_ret tok (fun _ => 3) rfl rfl ⟨rfl, trivial⟩ rfl fun w1 hm => ⟨⟨v.q, pm, pmc, ps, psc, pa, pac⟩, rfl, ?_, ?_⟩)
  · rfl
  · exact Made.own (hm.mask [true, true, true, false, false] rfl) (fun e he => by
      rcases List.mem_cons.1 he with rfl | he
      · rfl
      · rcases List.mem_cons.1 he with rfl | he
        · rfl
        · rcases List.mem_cons.1 he with rfl | he
          · rfl
          · cases he)
theorem copied_ex {w w' : World} {e : Ending} {q : QR} (h : ∃ v' : QV, v'.q = q ∧ e = .returned (.agg ⟨QC v'⟩) ∧ Made w w' (EQ v')) :
    (∃ v' : QV, v'.q = q ∧ e = .returned (.agg ⟨QC v'⟩) ∧ MemL w.heap.size w' (EQ v') ∧ (∀ f ∈ EQ v', ∀ b, f.foot b → vB (.agg ⟨QC v'⟩) b) ∧ ∀ b, vB (.agg ⟨QC v'⟩) b → w.heap.size ≤ b ∧ b < w'.heap.size) ∧ Below w.heap.size w w' := by
  obtain ⟨v', h1, h2, h3⟩ := h
  exact ⟨⟨v', h1, h2, h3.mem, copied_vB (v := v') rfl, copied_vB2 h3.mem⟩, h3.below⟩
theorem set_len {α : Type} {d : List α} {l : List α} {j : Nat} {v u : α} (hd : d.length = j) (h : l[j]? = some v) : (d ++ l.drop j).set j u = (d ++ [u]) ++ l.drop (j + 1) := by
  subst hd
  rw [drop_at h]
  simp
theorem at_len {α : Type} {d : List α} {l : List α} {j : Nat} {v : α} (hd : d.length = j) (h : l[j]? = some v) : (d ++ l.drop j)[j]? = some v := by
  rw [List.getElem?_append_right (by omega), hd, Nat.sub_self, drop_at h]; rfl
theorem rot (A C D : List Ent) : (A ++ (C ++ D)).Perm (C ++ (D ++ A)) := by
  rw [← List.append_assoc C D A]
  exact List.perm_append_comm
set_option maxRecDepth 100000 in
set_option maxHeartbeats 8000000 in
theorem cloned_any {A : Nat → Prop} (v : CV) (w : World) (hC : COk A w v) (hzb : v.c.bs.length ≤ 2513169434916) (hzq : v.qv.length ≤ 703687441776) (hz : ∀ u ∈ v.qv, SzQ u.q) : Calls Tryd.prog 36 #[.agg #[.slice v.b v.c.bs.length v.bc, .int .i64 v.c.ra, .int .i64 v.c.rb, .int .i64 v.c.rc, .int .i64 v.c.rk, .int .i64 v.c.tk, .int .i64 v.c.mo, .int .i64 v.c.gn, .slice v.x v.qv.length v.xc, .int .i64 v.c.nx]] w fun e w' => ∃ v' : CV, (v'.c = v.c ∧ v'.qv.map (·.q) = v.qv.map (·.q)) ∧ e = .returned (.agg ⟨CC v'⟩) ∧ Made w w' (EC v') := by
  refine sx_enter Tryd.func36 rfl Tryd.ntmps36 rfl rfl ?_
  refine sc_seq ?_
  refine sc_region ?_
  (refine sx_box rfl rfl rfl rfl rfl rfl ?_; intro g1)
  (refine sx_alloc tok rfl rfl rfl rfl rfl rfl ?_; intro g2)
  repeat' (first | refine sc_seq ?_ | refine sc_region ?_ | refine sq_then ?_ | refine sx_nil ?_ | ((refine' sx_v rfl ?_ rfl rfl ?_); rotate_left; first | exact vo_un tok rfl rfl rfl rfl | exact vo_load tok 1 rfl rfl rfl rfl rfl))
  refine sx_callM (σ := Option Addr × Nat) (fun _ => True) (fun p => .slice p.1 v.c.bs.length p.2) (fun p => [.own p.1 p.2 66 6 v.c.bs.length (v.c.bs.flatMap bC)]) rfl (callOp rfl rfl rfl rfl ⟨rfl, trivial⟩ rfl (by kernel_rfl)) (fun w1 hm => cloneBackR v.b v.c.bs v.bc w1 (hC.bk.below hm.below) (by omega)) rfl rfl ?_
  rintro ⟨ba, bc⟩ -
  dsimp only [List.cons_append, List.nil_append]
  repeat' (first | refine sc_seq ?_ | refine sc_region ?_ | refine sq_then ?_ | refine sx_nil ?_ | ((refine' sx_v rfl ?_ rfl rfl ?_); rotate_left; first | exact vo_un tok rfl rfl rfl rfl | exact vo_load tok 2 rfl rfl rfl rfl rfl) | refine sx_store tok 2 rfl rfl rfl rfl rfl rfl rfl rfl rfl rfl rfl rfl ?_)
  refine sx_callM (σ := Option Addr × Nat) (fun _ => True) (fun p => .slice p.1 v.qv.length p.2) (fun p => [.own p.1 p.2 37 15 v.qv.length (v.qv.flatMap QC)]) rfl (callOp rfl rfl rfl rfl ⟨rfl, trivial⟩ rfl (by kernel_rfl)) (fun w1 hm => cloneReqR v.x v.qv v.xc w1 (hC.qs.below hm.below) (by omega)) rfl rfl ?_
  rintro ⟨xa, xc⟩ -
  dsimp only [List.cons_append, List.nil_append]
  repeat' (first | refine sc_seq ?_ | refine sc_region ?_ | refine sq_then ?_ | refine sc_block ?_ | refine sx_nil ?_ | ((refine' sx_v rfl ?_ rfl rfl ?_); rotate_left; first | exact vo_un tok rfl rfl rfl rfl | exact vo_load tok 3 rfl rfl rfl rfl rfl | exact vo_len tok rfl rfl rfl rfl rfl rfl rfl) | refine sx_store tok 3 rfl rfl rfl rfl rfl rfl rfl rfl rfl rfl rfl rfl ?_)
  refine sc_loop (σ := Nat × List QV) (fun p => p.1 ≤ v.qv.length ∧ p.2.length = p.1 ∧ p.2.map (·.q) = (v.qv.take p.1).map (·.q)) (fun p => [(16, [], .int .i64 ((p.1 : Nat) : Int)), (15, [], .int .i64 ((v.qv.length : Nat) : Int)), (14, [], .slice xa v.qv.length xc), (1, [], .pointer (some ⟨g1, 0, none⟩)), (2, [], .pointer (some ⟨g2, 0, none⟩))]) (fun p => .own xa xc 37 15 v.qv.length ((p.2 ++ v.qv.drop p.1).flatMap QC) :: .own ba bc 66 6 v.c.bs.length (v.c.bs.flatMap bC) :: .cl g2 29 [.slice none 0 0, .int .i64 0, .int .i64 0, .int .i64 0, .int .i64 0, .int .i64 0, .int .i64 0, .int .i64 0, .slice none 0 0, .int .i64 0] :: .cl g1 29 [.slice ba v.c.bs.length bc, .int .i64 v.c.ra, .int .i64 v.c.rb, .int .i64 v.c.rc, .int .i64 v.c.rk, .int .i64 v.c.tk, .int .i64 v.c.mo, .int .i64 v.c.gn, .slice xa v.qv.length xc, .int .i64 v.c.nx] :: p.2.flatMap EQ) (fun p => v.qv.length - p.1) (0, []) [true, true, true, true] ⟨Nat.zero_le _, rfl, rfl⟩ ⟨rfl, rfl, rfl, rfl, rfl, trivial⟩ rfl ?_
  rintro ⟨j, d⟩ ⟨hj0, hd, hmap⟩
  dsimp only at hj0 hd hmap ⊢
  by_cases hj : j < v.qv.length
  · obtain ⟨u, hu0⟩ : ∃ u, v.qv[j]? = some u := ⟨v.qv[j], List.getElem?_eq_getElem hj⟩
    have hu := List.mem_of_getElem? hu0
    have hat := at_len hd hu0
    refine sc_own 0 rfl (by omega) ?_
    rintro gx rfl
    repeat' (first | refine sc_seq ?_ | refine sc_region ?_ | refine sq_then ?_ | refine sx_nil ?_ | ((refine' sx_v rfl ?_ rfl rfl ?_); rotate_left; exact vo_bin tok rfl rfl rfl rfl rfl rfl))
    refine sc_true rfl (by simp; omega) ?_
    repeat' (first | refine sc_seq ?_ | refine sc_region ?_ | refine sq_then ?_ | refine sc_skip ?_ | refine sc_block ?_ | refine sx_nil ?_ | (refine sx_alloc tok rfl rfl rfl rfl rfl rfl ?_; intro g4) | ((refine' sx_v rfl ?_ rfl rfl ?_); rotate_left; first | exact vo_ixa tok (m := 15) j rfl rfl rfl rfl rfl rfl rfl rfl (fun _ => rfl) (fun _ => hj) | exact vo_orow tok 0 (cs := QC u) rfl rfl rfl rfl rfl rfl (fun _ k c hc => by rw [Nat.zero_add]; exact flat_get QC_len hat hc) | exact vo_un tok rfl rfl rfl rfl) | refine sx_store tok 0 rfl rfl rfl rfl rfl rfl rfl rfl rfl rfl rfl rfl ?_)
    refine sc_regionXK 6 [25] follows_any rfl (by kernel_rfl) ?_
    iterate 4 (((refine' srx_v rfl ?_ rfl rfl ?_); rotate_left; first | exact vo_un tok rfl rfl rfl rfl | exact vo_load tok 0 rfl rfl rfl rfl rfl | exact vo_load tok 4 rfl rfl rfl rfl rfl))
    refine srx_callE (σ := QV) (fun s => s.q = u.q) (fun s => .agg ⟨QC s⟩) EQ rfl (callOp rfl rfl rfl rfl ⟨rfl, trivial⟩ rfl (by kernel_rfl)) (fun w hm => (copied_any u w ((hC.ok u hu).below hm.below) (hz u hu)).mono fun e w1 h => copied_ex h) rfl rfl rfl rfl ?_
    ((refine' srx_v rfl ?_ rfl rfl ?_); rotate_left; exact vo_ixa tok (m := 15) j rfl rfl rfl rfl rfl rfl rfl rfl (fun _ => rfl) (fun _ => hj))
    refine srx_nil ?_
    rintro v1 hv1
    dsimp only [EQ, List.cons_append, List.nil_append]
    refine sx_ostore tok 4 rfl rfl rfl rfl rfl rfl rfl rfl rfl (show spl _ (0 + j * 15) _ = _ from by rw [Nat.zero_add]; exact flat_set QC_len _ j 0 u v1 _ hat rfl) rfl rfl ?_
    repeat' (first | refine sc_region ?_ | refine sq_then ?_ | refine sq_blk_normal ?_ | refine sx_nil ?_ | ((refine' sx_v rfl ?_ rfl rfl ?_); rotate_left; first | exact vo_add rfl rfl rfl rfl rfl (by omega) | exact vo_un tok rfl rfl rfl rfl))
    refine sq_conv (M' := .own (some ⟨gx, 0, none⟩) xc 37 15 v.qv.length (((d ++ [v1]) ++ v.qv.drop (j + 1)).flatMap QC) :: .own ba bc 66 6 v.c.bs.length (v.c.bs.flatMap bC) :: .cl g2 29 [.slice none 0 0, .int .i64 0, .int .i64 0, .int .i64 0, .int .i64 0, .int .i64 0, .int .i64 0, .int .i64 0, .slice none 0 0, .int .i64 0] :: .cl g1 29 [.slice ba v.c.bs.length bc, .int .i64 v.c.ra, .int .i64 v.c.rb, .int .i64 v.c.rc, .int .i64 v.c.rk, .int .i64 v.c.tk, .int .i64 v.c.mo, .int .i64 v.c.gn, .slice (some ⟨gx, 0, none⟩) v.qv.length xc, .int .i64 v.c.nx] :: (d ++ [v1]).flatMap EQ) (fun w hM => ?_) ?_
    · rw [set_len hd hu0] at hM
      have h1 := (hM.mask [true, true, true, false] rfl).perm (rot (EQ v1) [_, _, _, _] (d.flatMap EQ))
      rw [List.flatMap_append (xs := d), List.flatMap_singleton (f := EQ)]
      exact h1
    · refine sq_again (j + 1, d ++ [v1]) [] ⟨hj, by simp [hd], by rw [List.take_add_one, hu0]; simp [hmap]; exact hv1⟩ (show v.qv.length - (j + 1) < v.qv.length - j by omega) ⟨rfl, rfl, rfl, rfl, rfl, trivial⟩ rfl
  · have hjl : j = v.qv.length := by omega
    subst hjl
    repeat' (first | refine sc_seq ?_ | refine sc_region ?_ | refine sq_then ?_ | refine sx_nil ?_ | ((refine' sx_v rfl ?_ rfl rfl ?_); rotate_left; exact vo_bin tok rfl rfl rfl rfl rfl rfl))
    refine sc_false rfl (by simp) ?_
    repeat' (first | refine sc_seq ?_ | refine sc_region ?_ | refine sq_then ?_ | refine sc_ret ?_ | refine sc_exit ?_ | refine sq_pass_exit ?_ | refine sq_blk_hit ?_ | refine sx_nil ?_ | ((refine' sx_v rfl ?_ rfl rfl ?_); rotate_left; exact vo_load tok 3 rfl rfl rfl rfl rfl) | refine sx_store tok 2 rfl rfl rfl rfl rfl rfl rfl rfl rfl rfl rfl rfl ?_)
    (refine sq_ret tok (fun _ => 2) rfl rfl ⟨rfl, trivial⟩ rfl fun w1 hm => ⟨⟨v.c, ba, bc, xa, xc, d⟩, ⟨rfl, ?_⟩, ?_, ?_⟩)
    · rw [hmap, List.take_length]
    · show Ending.returned (Value.agg ⟨[.slice ba v.c.bs.length bc, .int .i64 v.c.ra, .int .i64 v.c.rb, .int .i64 v.c.rc, .int .i64 v.c.rk, .int .i64 v.c.tk, .int .i64 v.c.mo, .int .i64 v.c.gn, .slice xa v.qv.length xc, .int .i64 v.c.nx]⟩) = _
      rw [← hd]; rfl
    · refine Made.own ?_ (EC_rep _)
      have h1 := hm.mask [true, true, false, false] rfl
      rw [List.drop_length, List.append_nil] at h1
      unfold EC
      rw [show (⟨v.c, ba, bc, xa, xc, d⟩ : CV).qv = d from rfl, hd]
      exact h1
end Go.Proofs.YtmdkfbmpenohiaaDoor.Y

/- client.Active, places, Find and others. -/
namespace Go.Proofs.YtmdkfbmpenohiaaDoor.Y
open Go.RowKit
theorem byInt : ByteOf Tryd.prog 3 8 := by unfold ByteOf; kernel_rfl
def iC (n : Int) : List Value := [.int .i64 n]
theorem iC_len (a : Int) : (iC a).length = 1 := rfl
theorem actL_len (l : List QR) : (actL l).length ≤ l.length := by
  induction l with
  | nil => exact Nat.le_refl _
  | cons q r ih => unfold actL; split <;> simp <;> omega
theorem actL_app : ∀ (a b : List QR), actL (a ++ b) = actL a ++ actL b
  | [], b => rfl
  | q :: a, b => by
    have ih := actL_app a b
    simp only [List.cons_append, actL]
    split <;> simp [ih]
theorem take_snoc {α : Type} {l : List α} {j : Nat} {v : α} (h : l[j]? = some v) : l.take (j + 1) = l.take j ++ [v] := by
  rw [List.take_add_one, h]; rfl
/-! the numbers of the calls, in a map -/
def lkF (id : Int) : List (Int × Nat) → Option Nat
  | [] => none
  | (a, i) :: r => if a = id then some i else lkF id r
def PM (es : List MapEntry) (l : List QR) : Prop := ∃ F : List (Int × Nat), es.map (fun e => (e.key, e.val)) = F.map (fun p => (.int .i64 p.1, .int .i64 ((p.2 : Nat) : Int))) ∧ ∀ id, lkF id F = finQ id l 0
theorem findNow_F (id : Int) : ∀ (es : List MapEntry) (F : List (Int × Nat)) (k : Nat), es.map (fun e => (e.key, e.val)) = F.map (fun p => (Value.int .i64 p.1, Value.int .i64 ((p.2 : Nat) : Int))) → ∃ r : Option (Nat × Value), Instr.findNow (.int .i64) (.int .i64 id) es k = some r ∧ r.map (·.2) = (lkF id F).map (fun i => Value.int .i64 ((i : Nat) : Int))
  | [], [], _, _ => ⟨none, rfl, rfl⟩
  | [], _ :: _, _, h => by cases h
  | _ :: _, [], _, h => by cases h
  | e :: es, (a, i) :: F, k, h => by
    simp only [List.map_cons, List.cons.injEq, Prod.mk.injEq] at h
    obtain ⟨⟨h1, h2⟩, h3⟩ := h
    obtain ⟨r, h4, h5⟩ := findNow_F id es F (k + 1) h3
    by_cases hh : a = id
    · subst hh
      refine ⟨some (k, e.val), ?_, ?_⟩
      · unfold Instr.findNow; rw [h1]; simp [Instr.sameNow]
      · unfold lkF; rw [if_pos rfl]; simp [h2]
    · refine ⟨r, ?_, ?_⟩
      · have hb : (id == a) = false := by simp; exact fun e => hh e.symm
        unfold Instr.findNow; rw [h1]; simp [Instr.sameNow, hb, h4]
      · unfold lkF; rw [if_neg hh]; exact h5
theorem PM.find {es : List MapEntry} {l : List QR} (h : PM es l) (id : Int) : ∃ r : Option (Nat × Value), Instr.findNow (.int .i64) (.int .i64 id) es 0 = some r ∧ r.map (·.2) = (finQ id l 0).map (fun i => Value.int .i64 ((i : Nat) : Int)) := by
  obtain ⟨F, h1, h2⟩ := h
  obtain ⟨r, h3, h4⟩ := findNow_F id es F 0 h1
  exact ⟨r, h3, by rw [h4, h2]⟩
theorem finQ_snoc (id : Int) (q : QR) : ∀ (l : List QR) (k : Nat), finQ id (l ++ [q]) k = match finQ id l k with | some i => some i | none => if q.id = id then some (k + l.length) else none
  | [], k => by simp [finQ]
  | a :: l, k => by
    simp only [List.cons_append, finQ]
    by_cases h : a.id = id
    · rw [if_pos h, if_pos h]
    · rw [if_neg h, if_neg h, finQ_snoc id q l (k + 1)]
      simp [Nat.add_comm, Nat.add_left_comm]
theorem lkF_snoc (id a : Int) (i : Nat) : ∀ F : List (Int × Nat), lkF id (F ++ [(a, i)]) = match lkF id F with | some j => some j | none => if a = id then some i else none
  | [] => by simp [lkF]
  | (b, j) :: F => by
    simp only [List.cons_append, lkF]
    by_cases h : b = id
    · rw [if_pos h, if_pos h]
    · rw [if_neg h, if_neg h, lkF_snoc id a i F]
theorem PM.nil : PM [] [] := ⟨[], rfl, fun _ => rfl⟩
theorem PM.old {es : List MapEntry} {l : List QR} {q : QR} (h : PM es l) (hs : (finQ q.id l 0).isSome = true) : PM es (l ++ [q]) := by
  obtain ⟨F, h1, h2⟩ := h
  refine ⟨F, h1, fun id => ?_⟩
  rw [finQ_snoc, h2]
  cases hf : finQ id l 0 with
  | some i => rfl
  | none =>
    by_cases he : q.id = id
    · subst he; rw [hf] at hs; cases hs
    · simp [he]
theorem PM.new {es : List MapEntry} {l : List QR} {q : QR} (h : PM es l) (c : Nat) : PM (es ++ [⟨.int .i64 q.id, .int .i64 ((l.length : Nat) : Int), c⟩]) (l ++ [q]) := by
  obtain ⟨F, h1, h2⟩ := h
  refine ⟨F ++ [(q.id, l.length)], by simp [h1], fun id => ?_⟩
  rw [finQ_snoc, lkF_snoc, h2, Nat.zero_add]
def ixV (o : Option Nat) : Value := .tuple #[.int .i64 ((o.getD 0 : Nat) : Int), .bool o.isSome]
theorem vo_mapix {P : Program} {w0 : World} {S : Sts} {M : List Ent} {L L1 L2 : Cd} {o : Oper} (i : Nat) (r : Option (Nat × Value)) (ix : Option Nat) {t kt et : TypeId} {x y : Operand} {g : Nat} {es : Array MapEntry} {clock : Nat} {key : Value} {u : TypeDesc} (h1 : o.op = .lookup t x y true)
    (h2 : ev S x = some (L1, .map (some g))) (h3 : Suf L1 L) (h4 : ev S y = some (L2, key)) (h5 : Suf L2 L) (h6 : nth M i = some (.obj g (.map es clock)))
    (hu : P.underlying t = some (.map kt et)) (hk : P.underlying kt = some u) (hkk : (match u with | .int _ => true | .string => true | .bool => true | _ => false) = true) (hz : (P.info? et).map (·.zero) = some (some (.int .i64 0)))
    (hf : Instr.findNow u key es.toList 0 = some r) (hr : r.map (·.2) = ix.map (fun i => Value.int .i64 ((i : Nat) : Int))) : VO P w0 S M L o (ixV ix) := by
  cases r with
  | none => cases ix with
    | none => exact vo_lookup i none h1 h2 h3 h4 h5 h6 hu hk hkk hz hf rfl
    | some i => cases hr
  | some p => cases ix with
    | none => cases hr
    | some j =>
      obtain ⟨k, v⟩ := p
      obtain rfl : v = .int .i64 ((j : Nat) : Int) := by simpa using hr
      exact vo_lookup i _ h1 h2 h3 h4 h5 h6 hu hk hkk hz hf rfl
set_option maxRecDepth 100000 in
set_option maxHeartbeats 8000000 in
theorem pass_any (v : QV) (now : Int) (w : World) : Calls Tryd.prog 39 #[.agg #[.int .i64 v.q.id, .string v.q.sv, .string v.q.mt, .int .i64 v.q.late, .slice v.m v.q.ms.length v.mc, .int .i64 v.q.sh, .slice v.s v.q.mg.length v.sc, .int .i64 v.q.att, .string v.q.bk, .int .i64 v.q.st, .int .i64 v.q.nx, .slice v.a v.q.an.length v.ac, .bool v.q.dn, .int .i64 v.q.cd, .string v.q.tx], .int .i64 now] w fun e w' => e = .returned (.bool (passL v.q now)) ∧ Below w.heap.size w w' := by
  refine sx_enter Tryd.func39 rfl Tryd.ntmps39 rfl rfl ?_
  repeat' (first | refine sc_seq ?_ | refine sc_region ?_ | refine sq_then ?_ | refine sc_ret ?_ | refine sx_nil ?_ | ((refine' sx_v rfl ?_ rfl rfl ?_); rotate_left; first | exact vo_un tok rfl rfl rfl rfl | exact vo_bin tok rfl rfl rfl rfl rfl rfl | exact vo_and rfl rfl rfl rfl rfl | exact vo_load tok 0 rfl rfl rfl rfl rfl) | (refine sx_box rfl rfl rfl rfl rfl rfl ?_; intro g))
  refine sq_ret tok (fun _ => 0) rfl rfl trivial rfl fun w hm => ⟨?_, hm.below⟩
  refine ret_boolP ?_
  unfold passL
  clear hm
  rfl
def permI (n least most : Int) : Bool := decide (least ≤ n) && (decide (most < 0) || decide (n ≤ most))
set_option maxRecDepth 100000 in
set_option maxHeartbeats 8000000 in
theorem perm_any (n a b : Int) (w : World) : Calls Tryd.prog 62 #[.int .i64 n, .int .i64 a, .int .i64 b] w fun e w' => e = .returned (.bool (permI n a b)) ∧ Below w.heap.size w w' := by
  refine sx_enter Tryd.func62 rfl Tryd.ntmps62 rfl rfl ?_
  repeat' (first | refine sc_seq ?_ | refine sc_region ?_ | refine sq_then ?_ | refine sc_ret ?_ | refine sx_nil ?_ | ((refine' sx_v rfl ?_ rfl rfl ?_); rotate_left; first | exact vo_un tok rfl rfl rfl rfl | exact vo_bin tok rfl rfl rfl rfl rfl rfl | exact vo_or rfl rfl rfl rfl rfl | exact vo_and rfl rfl rfl rfl rfl))
  refine sq_ret tok (fun _ => 0) rfl rfl trivial rfl fun w hm => ⟨?_, hm.below⟩
  refine ret_boolP ?_
  unfold permI
  clear hm
  simp
set_option maxRecDepth 100000 in
set_option maxHeartbeats 8000000 in
theorem act_any {A : Nat → Prop} (v : CV) (w : World) (hC : COk A w v) (hzq : v.qv.length ≤ 703687441776) : Calls Tryd.prog 11 #[.agg #[.slice v.b v.c.bs.length v.bc, .int .i64 v.c.ra, .int .i64 v.c.rb, .int .i64 v.c.rc, .int .i64 v.c.rk, .int .i64 v.c.tk, .int .i64 v.c.mo, .int .i64 v.c.gn, .slice v.x v.qv.length v.xc, .int .i64 v.c.nx]] w fun e w' => ∃ p : Option Addr × Nat, True ∧ e = .returned (.slice p.1 (actL v.c.qs).length p.2) ∧ Made w w' [.own p.1 p.2 3 1 (actL v.c.qs).length ((actL v.c.qs).flatMap iC)] := by
  refine sx_enter Tryd.func11 rfl Tryd.ntmps11 rfl rfl ?_
  have hl := hC.lenq
  repeat' (first | refine sc_seq ?_ | refine sc_region ?_ | refine sq_then ?_ | refine sc_block ?_ | refine sx_nil ?_ | ((refine' sx_v rfl ?_ rfl rfl ?_); rotate_left; first | exact vo_un tok rfl rfl rfl rfl | exact vo_load tok 0 rfl rfl rfl rfl rfl | exact vo_len tok rfl rfl rfl rfl rfl rfl rfl) | (refine sx_box rfl rfl rfl rfl rfl rfl ?_; intro g))
  refine sc_nil 3 1 ?_
  refine sc_loop (σ := Nat × Option Addr × Nat) (fun p => p.1 ≤ v.qv.length) (fun p => [(9, [], .int .i64 ((p.1 : Nat) : Int)), (8, [], .int .i64 ((v.qv.length : Nat) : Int)), (7, [], .slice v.x v.qv.length v.xc), (3, [], .slice p.2.1 (actL (v.c.qs.take p.1)).length p.2.2)]) (fun p => [.own p.2.1 p.2.2 3 1 (actL (v.c.qs.take p.1)).length ((actL (v.c.qs.take p.1)).flatMap iC)]) (fun p => v.qv.length - p.1) (0, none, 0) [true, false] (Nat.zero_le _) ⟨rfl, rfl, rfl, rfl, trivial⟩ rfl ?_
  rintro ⟨j, pa, pc⟩ hj0
  dsimp only at hj0 ⊢
  by_cases hj : j < v.qv.length
  · skip
    obtain ⟨u, hu0⟩ : ∃ u, v.qv[j]? = some u := ⟨v.qv[j], List.getElem?_eq_getElem hj⟩
    obtain ⟨bb, off, hx, _, _, hrows⟩ := hC.qs (by omega)
    have hrow : w.rangeAt bb (off + j * 15) (QC u) := hrows j u hu0
    rw [hx]
    have hq : v.c.qs[j]? = some u.q := by rw [hC.eq, List.getElem?_map, hu0]; rfl
    have hsn := take_snoc hq
    have hal := actL_len (v.c.qs.take j)
    rw [List.length_take] at hal
    repeat' (first | refine sc_seq ?_ | refine sc_region ?_ | refine sq_then ?_ | refine sx_nil ?_ | ((refine' sx_v rfl ?_ rfl rfl ?_); rotate_left; exact vo_bin tok rfl rfl rfl rfl rfl rfl))
    refine sc_true rfl (by simp; omega) ?_
    repeat' (first | refine sc_seq ?_ | refine sc_region ?_ | refine sq_then ?_ | refine sc_skip ?_ | refine sc_block ?_ | refine sx_nil ?_ | (refine sx_alloc tok rfl rfl rfl rfl rfl rfl ?_; intro g5) | ((refine' sx_v rfl ?_ rfl rfl ?_); rotate_left; first | exact vo_ixa tok (m := 15) j rfl rfl rfl rfl rfl rfl rfl rfl (fun _ => rfl) (fun _ => hj) | exact vo_oldrowC tok (cs := QC u) rfl rfl rfl rfl rfl (fun _ => hrow) | exact vo_un tok rfl rfl rfl rfl | exact vo_load tok 0 rfl rfl rfl rfl rfl) | refine sx_store tok 0 rfl rfl rfl rfl rfl rfl rfl rfl rfl rfl rfl rfl ?_)
    cases hdn : u.q.dn with
    | true =>
      refine sc_false rfl (by simp) ?_
      repeat' (first | refine sc_region ?_ | refine sq_then ?_ | refine sc_skip ?_ | refine sq_blk_normal ?_ | refine sx_nil ?_ | ((refine' sx_v rfl ?_ rfl rfl ?_); rotate_left; first | exact vo_add rfl rfl rfl rfl rfl (by omega) | exact vo_un tok rfl rfl rfl rfl))
      refine sq_again (j + 1, pa, pc) [false, true] hj (show v.qv.length - (j + 1) < v.qv.length - j by omega) ⟨rfl, rfl, rfl, ?_, trivial⟩ ?_
      · dsimp only; rw [hsn, actL_app]; simp [actL, hdn, lk]
      · dsimp only; rw [hsn, actL_app]; simp [actL, hdn, maskM]
    | false =>
      refine sc_true rfl (by simp) ?_
      repeat' (first | refine sc_region ?_ | refine sq_then ?_ | refine sq_blk_normal ?_ | refine sx_nil ?_ | (refine sx_bslice tok rfl rfl rfl ⟨rfl, trivial⟩ rfl rfl rfl rfl rfl rfl rfl rfl ?_; intro g) | (refine sx_append tok 2 0 rfl rfl rfl rfl rfl rfl rfl rfl rfl (fun _ _ => rfl) byInt rfl rfl (by unfold maxLen; omega) (by omega) rfl rfl ?_; intro sa sc) | ((refine' sx_v rfl ?_ rfl rfl ?_); rotate_left; first | exact vo_add rfl rfl rfl rfl rfl (by omega) | exact vo_un tok rfl rfl rfl rfl | exact vo_load tok 0 rfl rfl rfl rfl rfl))
      refine sq_again (j + 1, sa, sc) [false, false, true] hj (show v.qv.length - (j + 1) < v.qv.length - j by omega) ⟨rfl, rfl, rfl, ?_, trivial⟩ ?_
      · dsimp only; rw [hsn, actL_app]; simp [actL, hdn, lk]
      · dsimp only; rw [hsn, actL_app]; simp [actL, hdn, maskM, iC]; rfl
  · have hjl : j = v.qv.length := by omega
    have htk : v.c.qs.take j = v.c.qs := List.take_of_length_le (by omega)
    rw [htk]
    repeat' (first | refine sc_seq ?_ | refine sc_region ?_ | refine sq_then ?_ | refine sx_nil ?_ | ((refine' sx_v rfl ?_ rfl rfl ?_); rotate_left; exact vo_bin tok rfl rfl rfl rfl rfl rfl))
    refine sc_false rfl (by simp; omega) ?_
    repeat' (first | refine sc_seq ?_ | refine sc_region ?_ | refine sq_then ?_ | refine sc_ret ?_ | refine sc_exit ?_ | refine sq_pass_exit ?_ | refine sq_blk_hit ?_ | refine sx_nil ?_ | ((refine' sx_v rfl ?_ rfl rfl ?_); rotate_left; exact vo_un tok rfl rfl rfl rfl))
    refine sq_ret tok (fun _ => 0) rfl rfl trivial rfl fun w1 hm => ⟨(pa, pc), trivial, rfl, Made.own hm (fun e he => by obtain rfl := List.mem_singleton.1 he; rfl)⟩
set_option maxRecDepth 100000 in
set_option maxHeartbeats 8000000 in
theorem places_any {A : Nat → Prop} (v : CV) (w : World) (hC : COk A w v) (hzq : v.qv.length ≤ 703687441776) : Calls Tryd.prog 20 #[.agg #[.slice v.b v.c.bs.length v.bc, .int .i64 v.c.ra, .int .i64 v.c.rb, .int .i64 v.c.rc, .int .i64 v.c.rk, .int .i64 v.c.tk, .int .i64 v.c.mo, .int .i64 v.c.gn, .slice v.x v.qv.length v.xc, .int .i64 v.c.nx]] w fun e w' => ∃ s : Nat × List MapEntry × Nat, PM s.2.1 v.c.qs ∧ e = .returned (.map (some s.1)) ∧ Made w w' [.obj s.1 (.map s.2.1.toArray s.2.2)] := by
  refine sx_enter Tryd.func20 rfl Tryd.ntmps20 rfl rfl ?_
  have hl := hC.lenq
  repeat' (first | refine sc_seq ?_ | refine sc_region ?_ | refine sq_then ?_ | refine sc_block ?_ | refine sx_nil ?_ | (refine sx_box rfl rfl rfl rfl rfl rfl ?_; intro g1) | (refine sx_mkmap rfl rfl rfl rfl ?_; intro g) | ((refine' sx_v rfl ?_ rfl rfl ?_); rotate_left; first | exact vo_un tok rfl rfl rfl rfl | exact vo_load tok 1 rfl rfl rfl rfl rfl | exact vo_len tok rfl rfl rfl rfl rfl rfl rfl))
  refine sc_loop (σ := Nat × List MapEntry × Nat) (fun p => p.1 ≤ v.qv.length ∧ PM p.2.1 (v.c.qs.take p.1)) (fun p => [(12, [], .int .i64 ((p.1 : Nat) : Int)), (11, [], .int .i64 ((v.qv.length : Nat) : Int)), (10, [], .slice v.x v.qv.length v.xc), (3, [], .map (some g))]) (fun p => [.obj g (.map p.2.1.toArray p.2.2), .cl g1 29 [.slice v.b v.c.bs.length v.bc, .int .i64 v.c.ra, .int .i64 v.c.rb, .int .i64 v.c.rc, .int .i64 v.c.rk, .int .i64 v.c.tk, .int .i64 v.c.mo, .int .i64 v.c.gn, .slice v.x v.qv.length v.xc, .int .i64 v.c.nx]]) (fun p => v.qv.length - p.1) (0, [], 0) [true, true] ⟨Nat.zero_le _, PM.nil⟩ ⟨rfl, rfl, rfl, rfl, trivial⟩ rfl ?_
  rintro ⟨j, es, ck⟩ ⟨hj0, hpm⟩
  dsimp only at hj0 hpm ⊢
  by_cases hj : j < v.qv.length
  · skip
    obtain ⟨u, hu0⟩ : ∃ u, v.qv[j]? = some u := ⟨v.qv[j], List.getElem?_eq_getElem hj⟩
    obtain ⟨bb, off, hx, _, _, hrows⟩ := hC.qs (by omega)
    have hrow : w.rangeAt bb (off + j * 15) (QC u) := hrows j u hu0
    rw [hx]
    have hq : v.c.qs[j]? = some u.q := by rw [hC.eq, List.getElem?_map, hu0]; rfl
    have hsn := take_snoc hq
    have htl : (v.c.qs.take j).length = j := by rw [List.length_take]; omega
    obtain ⟨r, hr1, hr2⟩ := hpm.find u.q.id
    cases hf : finQ u.q.id (v.c.qs.take j) 0 with
    | some i =>
      rw [hf] at hr2
      repeat' (first | refine sc_seq ?_ | refine sc_region ?_ | refine sq_then ?_ | refine sx_nil ?_ | ((refine' sx_v rfl ?_ rfl rfl ?_); rotate_left; exact vo_bin tok rfl rfl rfl rfl rfl rfl))
      refine sc_true rfl (by simp; omega) ?_
      repeat' (first | refine sc_seq ?_ | refine sc_region ?_ | refine sq_then ?_ | refine sc_skip ?_ | refine sc_block ?_ | refine sx_nil ?_ | (refine sx_alloc tok rfl rfl rfl rfl rfl rfl ?_; intro g5) | ((refine' sx_v rfl ?_ rfl rfl ?_); rotate_left; first | exact vo_ixa tok (m := 15) j rfl rfl rfl rfl rfl rfl rfl rfl (fun _ => rfl) (fun _ => hj) | exact vo_oldrowC tok (cs := QC u) rfl rfl rfl rfl rfl (fun _ => hrow) | exact vo_mapix 1 r (some i) rfl rfl rfl rfl rfl rfl Tryd.underlying68 Tryd.underlying3 rfl rfl hr1 hr2 | exact vo_un tok rfl rfl rfl rfl | exact vo_load tok 0 rfl rfl rfl rfl rfl) | refine sx_store tok 0 rfl rfl rfl rfl rfl rfl rfl rfl rfl rfl rfl rfl ?_)
      refine sc_false rfl (by simp) ?_
      repeat' (first | refine sc_region ?_ | refine sq_then ?_ | refine sc_skip ?_ | refine sq_blk_normal ?_ | refine sx_nil ?_ | ((refine' sx_v rfl ?_ rfl rfl ?_); rotate_left; first | exact vo_add rfl rfl rfl rfl rfl (by omega) | exact vo_un tok rfl rfl rfl rfl))
      refine sq_again (j + 1, es, ck) [false, true, true] ⟨hj, by rw [hsn]; exact hpm.old (by rw [hf]; rfl)⟩ (show v.qv.length - (j + 1) < v.qv.length - j by omega) ⟨rfl, rfl, rfl, rfl, trivial⟩ rfl
    | none =>
      have hr0 : r = none := by
        rw [hf] at hr2
        cases r with
        | none => rfl
        | some p => cases hr2
      subst hr0
      rw [hf] at hr2
      repeat' (first | refine sc_seq ?_ | refine sc_region ?_ | refine sq_then ?_ | refine sx_nil ?_ | ((refine' sx_v rfl ?_ rfl rfl ?_); rotate_left; exact vo_bin tok rfl rfl rfl rfl rfl rfl))
      refine sc_true rfl (by simp; omega) ?_
      repeat' (first | refine sc_seq ?_ | refine sc_region ?_ | refine sq_then ?_ | refine sc_skip ?_ | refine sc_block ?_ | refine sx_nil ?_ | (refine sx_alloc tok rfl rfl rfl rfl rfl rfl ?_; intro g5) | ((refine' sx_v rfl ?_ rfl rfl ?_); rotate_left; first | exact vo_ixa tok (m := 15) j rfl rfl rfl rfl rfl rfl rfl rfl (fun _ => rfl) (fun _ => hj) | exact vo_oldrowC tok (cs := QC u) rfl rfl rfl rfl rfl (fun _ => hrow) | exact vo_mapix 1 none (none) rfl rfl rfl rfl rfl rfl Tryd.underlying68 Tryd.underlying3 rfl rfl hr1 hr2 | exact vo_un tok rfl rfl rfl rfl | exact vo_load tok 0 rfl rfl rfl rfl rfl) | refine sx_store tok 0 rfl rfl rfl rfl rfl rfl rfl rfl rfl rfl rfl rfl ?_)
      refine sc_true rfl (by simp) ?_
      repeat' (first | refine sc_region ?_ | refine sq_then ?_ | refine sq_blk_normal ?_ | refine sx_nil ?_ | refine sx_mapnew 1 ⟨_, rfl, .inl rfl⟩ rfl rfl rfl rfl rfl Tryd.underlying68 Tryd.underlying3 rfl hr1 rfl rfl ?_ | ((refine' sx_v rfl ?_ rfl rfl ?_); rotate_left; first | exact vo_add rfl rfl rfl rfl rfl (by omega) | exact vo_un tok rfl rfl rfl rfl | exact vo_load tok 0 rfl rfl rfl rfl rfl))
      refine sq_again (j + 1, es ++ [⟨.int .i64 u.q.id, .int .i64 ((j : Nat) : Int), ck⟩], ck + 1) [false, true, true] ⟨hj, by
        have h9 := hpm.new (q := u.q) ck
        rw [htl] at h9
        rw [hsn]; exact h9⟩ (show v.qv.length - (j + 1) < v.qv.length - j by omega) ⟨rfl, rfl, rfl, rfl, trivial⟩ (by simp [maskM])
  · have hjl : j = v.qv.length := by omega
    have htk : v.c.qs.take j = v.c.qs := List.take_of_length_le (by omega)
    rw [htk] at hpm
    repeat' (first | refine sc_seq ?_ | refine sc_region ?_ | refine sq_then ?_ | refine sx_nil ?_ | ((refine' sx_v rfl ?_ rfl rfl ?_); rotate_left; exact vo_bin tok rfl rfl rfl rfl rfl rfl))
    refine sc_false rfl (by simp; omega) ?_
    repeat' (first | refine sc_seq ?_ | refine sc_region ?_ | refine sq_then ?_ | refine sc_ret ?_ | refine sc_exit ?_ | refine sq_pass_exit ?_ | refine sq_blk_hit ?_ | refine sx_nil ?_ | ((refine' sx_v rfl ?_ rfl rfl ?_); rotate_left; exact vo_un tok rfl rfl rfl rfl))
    refine sq_ret tok (fun _ => 0) rfl rfl trivial rfl fun w1 hm => ⟨(g, es, ck), hpm, rfl, Made.own (hm.mask [true, false] rfl) (fun e he => by obtain rfl := List.mem_singleton.1 he; rfl)⟩
end Go.Proofs.YtmdkfbmpenohiaaDoor.Y

/- client.running, Find. -/
namespace Go.Proofs.YtmdkfbmpenohiaaDoor.Y
open Go.RowKit
theorem finQ_at {id : Int} : ∀ {l : List QR} {i : Nat}, finQ id l 0 = some i → ∃ q, l[i]? = some q ∧ q.id = id := by
  have key : ∀ (l : List QR) (k i : Nat), finQ id l k = some i → k ≤ i ∧ ∃ q, l[i - k]? = some q ∧ q.id = id := by
    intro l
    induction l with
    | nil => intro k i h; cases h
    | cons a l ih =>
      intro k i h
      unfold finQ at h
      split at h
      · obtain rfl := (by simpa using h : k = i)
        exact ⟨Nat.le_refl _, a, by simp, by assumption⟩
      · obtain ⟨h1, q, h2, h3⟩ := ih (k + 1) i h
        refine ⟨by omega, q, ?_, h3⟩
        rw [show i - k = i - (k + 1) + 1 by omega]; simpa using h2
  intro l i h
  obtain ⟨_, q, h2, h3⟩ := key l 0 i h
  exact ⟨q, by simpa using h2, h3⟩
theorem emp_toList : (⟨#[]⟩ : ByteArray).toList = [] := size_zero.1 rfl
theorem emp_eq (s : ByteArray) : (s.toList == (⟨#[]⟩ : ByteArray).toList) = decide (s.size = 0) := by
  rw [emp_toList]
  by_cases h : s.size = 0
  · rw [size_zero.1 h]; simp [h]
  · have h2 : ¬ s.toList = [] := fun e => h (size_zero.2 e)
    simp [h, h2]
theorem runE_none {c : CL} {id : Int} (h : finQ id c.qs 0 = none) : runE c id = 10 ∧ runI c id = 0 := by
  have h1 : runE c id = 10 := by unfold runE; rw [h]
  exact ⟨h1, by unfold runI; rw [h1]; rfl⟩
theorem runE_some {c : CL} {id : Int} {i : Nat} {q : QR} (h : finQ id c.qs 0 = some i) (hq : c.qs[i]? = some q) : runE c id = (if q.bk.size = 0 then 20 else 0) ∧ runI c id = (if q.bk.size = 0 then 0 else i) := by
  have h1 : runE c id = (if q.bk.size = 0 then 20 else 0) := by unfold runE; rw [h]; simp only [hq]
  refine ⟨h1, ?_⟩
  unfold runI
  rw [h1, h]
  split <;> simp_all
set_option maxRecDepth 100000 in
set_option maxHeartbeats 8000000 in
theorem run_any {A : Nat → Prop} (v : CV) (id : Int) (w : World) (hC : COk A w v) (hzq : v.qv.length ≤ 703687441776) : Calls Tryd.prog 33 #[.agg #[.slice v.b v.c.bs.length v.bc, .int .i64 v.c.ra, .int .i64 v.c.rb, .int .i64 v.c.rc, .int .i64 v.c.rk, .int .i64 v.c.tk, .int .i64 v.c.mo, .int .i64 v.c.gn, .slice v.x v.qv.length v.xc, .int .i64 v.c.nx], .int .i64 id] w fun e w' => e = .returned (.tuple #[.int .i64 ((runI v.c id : Nat) : Int), .int .i64 (runE v.c id)]) ∧ Below w.heap.size w w' := by
  refine sx_enter Tryd.func33 rfl Tryd.ntmps33 rfl rfl ?_
  repeat' (first | refine sc_seq ?_ | refine sc_region ?_ | refine sq_then ?_ | refine sx_nil ?_ | (refine sx_box rfl rfl rfl rfl rfl rfl ?_; intro g2) | ((refine' sx_v rfl ?_ rfl rfl ?_); rotate_left; first | exact vo_un tok rfl rfl rfl rfl | exact vo_load tok 0 rfl rfl rfl rfl rfl))
  refine sx_callM (σ := Nat × List MapEntry × Nat) (fun s => PM s.2.1 v.c.qs) (fun s => .map (some s.1)) (fun s => [.obj s.1 (.map s.2.1.toArray s.2.2)]) rfl (callOp rfl rfl rfl rfl ⟨rfl, trivial⟩ rfl (by kernel_rfl)) (fun w1 hm => places_any v w1 (hC.below hm.below) hzq) rfl rfl ?_
  rintro ⟨g, es, ck⟩ hpm
  dsimp only [List.cons_append, List.nil_append] at hpm ⊢
  obtain ⟨r, hr1, hr2⟩ := hpm.find id
  clear hpm
  cases hf : finQ id v.c.qs 0 with
  | none =>
    rw [hf] at hr2
    rw [(runE_none hf).1, (runE_none hf).2]
    repeat' (first | refine sc_seq ?_ | refine sc_region ?_ | refine sq_then ?_ | refine sc_block ?_ | refine sx_nil ?_ | ((refine' sx_v rfl ?_ rfl rfl ?_); rotate_left; first | exact vo_mapix 0 r (none) rfl rfl rfl rfl rfl rfl Tryd.underlying68 Tryd.underlying3 rfl rfl hr1 hr2 | exact vo_un tok rfl rfl rfl rfl))
    refine sc_true rfl rfl ?_
    repeat' (first | refine sc_seq ?_ | refine sc_region ?_ | refine sq_then ?_ | refine sc_ret ?_ | refine sq_pass_ret ?_ | refine sq_blk_ret ?_ | refine sx_nil ?_ | ((refine' sx_v rfl ?_ rfl rfl ?_); rotate_left; exact vo_un tok rfl rfl rfl rfl))
    refine sq_ret tok (fun _ => 0) rfl rfl trivial rfl fun w hm => ⟨?_, hm.below⟩
    rfl
  | some k =>
    rw [hf] at hr2
    obtain ⟨q0, hq0, hqid⟩ := finQ_at hf
    obtain ⟨u, hu0, hu1⟩ : ∃ u, v.qv[k]? = some u ∧ u.q = q0 := by rw [hC.eq, List.getElem?_map] at hq0; simpa using hq0
    have hk : k < v.qv.length := (List.getElem?_eq_some_iff.1 hu0).1
    have hu := List.mem_of_getElem? hu0
    obtain ⟨bb, off, hx, _, _, hrows⟩ := hC.qs (by omega)
    have hrow : w.rangeAt bb (off + k * 15) (QC u) := hrows k u hu0
    rw [hx]
    rw [(runE_some hf hq0).1, (runE_some hf hq0).2]
    subst hu1
    repeat' (first | refine sc_seq ?_ | refine sc_region ?_ | refine sq_then ?_ | refine sc_block ?_ | refine sx_nil ?_ | ((refine' sx_v rfl ?_ rfl rfl ?_); rotate_left; first | exact vo_mapix 0 r (some k) rfl rfl rfl rfl rfl rfl Tryd.underlying68 Tryd.underlying3 rfl rfl hr1 hr2 | exact vo_un tok rfl rfl rfl rfl))
    refine sc_false rfl rfl ?_
    repeat' (first | refine sc_seq ?_ | refine sc_region ?_ | refine sq_then ?_ | refine sx_nil ?_ | ((refine' sx_v rfl ?_ rfl rfl ?_); rotate_left; first | exact vo_ixa tok (m := 15) k rfl rfl rfl rfl rfl rfl rfl rfl (fun _ => rfl) (fun _ => hk) | exact vo_oldC tok (v := .string u.q.bk) rfl rfl rfl rfl rfl (fun _ => hrow 8 _ rfl) | exact vo_un tok rfl rfl rfl rfl | exact vo_bin tok rfl rfl rfl rfl rfl rfl | exact vo_load tok 1 rfl rfl rfl rfl rfl))
    by_cases hb : u.q.bk.size = 0
    · refine sc_true rfl (by rw [emp_eq]; simpa using hb) ?_
      repeat' (first | refine sc_seq ?_ | refine sc_region ?_ | refine sq_then ?_ | refine sc_ret ?_ | refine sq_pass_ret ?_ | refine sq_blk_ret ?_ | refine sx_nil ?_ | ((refine' sx_v rfl ?_ rfl rfl ?_); rotate_left; exact vo_un tok rfl rfl rfl rfl))
      refine sq_ret tok (fun _ => 0) rfl rfl trivial rfl fun w hm => ⟨?_, hm.below⟩
      rw [if_pos hb, if_pos hb]; rfl
    · refine sc_false rfl (by rw [emp_eq]; simpa using hb) ?_
      repeat' (first | refine sc_seq ?_ | refine sc_region ?_ | refine sq_then ?_ | refine sc_ret ?_ | refine sc_skip ?_ | refine sq_blk_normal ?_ | refine sx_nil ?_ | ((refine' sx_v rfl ?_ rfl rfl ?_); rotate_left; exact vo_un tok rfl rfl rfl rfl))
      refine sq_ret tok (fun _ => 0) rfl rfl trivial rfl fun w hm => ⟨?_, hm.below⟩
      rw [if_neg hb, if_neg hb]; rfl
def zQV : QV := ⟨zReq, none, 0, none, 0, none, 0⟩
theorem made_zero {w0 w : World} {M : List Ent} (h : Mem w0 w M) : Made w0 w (EQ zQV) :=
  Made.own (mem_nil w0 9 1 (mem_nil w0 9 1 (mem_nil w0 98 2 (M := []) ⟨h.1, trivial⟩))) (fun e he => EQ_rep [zQV] e (by simpa [EQ] using he))
set_option maxRecDepth 100000 in
set_option maxHeartbeats 8000000 in
theorem findC_any {A : Nat → Prop} (v : CV) (id : Int) (w : World) (hC : COk A w v) (hzq : v.qv.length ≤ 703687441776) (hz : ∀ u ∈ v.qv, SzQ u.q) : Calls Tryd.prog 7 #[.agg #[.slice v.b v.c.bs.length v.bc, .int .i64 v.c.ra, .int .i64 v.c.rb, .int .i64 v.c.rc, .int .i64 v.c.rk, .int .i64 v.c.tk, .int .i64 v.c.mo, .int .i64 v.c.gn, .slice v.x v.qv.length v.xc, .int .i64 v.c.nx], .int .i64 id] w fun e w' => ∃ v' : QV, v'.q = (findL v.c id).1 ∧ e = .returned (.tuple #[.agg ⟨QC v'⟩, .bool (findL v.c id).2]) ∧ Made w w' (EQ v') := by
  refine sx_enter Tryd.func7 rfl Tryd.ntmps7 rfl rfl ?_
  repeat' (first | refine sc_seq ?_ | refine sc_region ?_ | refine sq_then ?_ | refine sx_nil ?_ | (refine sx_box rfl rfl rfl rfl rfl rfl ?_; intro g2) | (refine sx_alloc tok rfl rfl rfl rfl rfl rfl ?_; intro g4) | ((refine' sx_v rfl ?_ rfl rfl ?_); rotate_left; first | exact vo_un tok rfl rfl rfl rfl | exact vo_load tok 1 rfl rfl rfl rfl rfl))
  refine sx_callM (σ := Nat × List MapEntry × Nat) (fun s => PM s.2.1 v.c.qs) (fun s => .map (some s.1)) (fun s => [.obj s.1 (.map s.2.1.toArray s.2.2)]) rfl (callOp rfl rfl rfl rfl ⟨rfl, trivial⟩ rfl (by kernel_rfl)) (fun w1 hm => places_any v w1 (hC.below hm.below) hzq) rfl rfl ?_
  rintro ⟨g, es, ck⟩ hpm
  dsimp only [List.cons_append, List.nil_append] at hpm ⊢
  obtain ⟨r, hr1, hr2⟩ := hpm.find id
  clear hpm
  cases hf : finQ id v.c.qs 0 with
  | none =>
    rw [hf] at hr2
    have hfl : findL v.c id = (zReq, false) := by unfold findL; rw [hf]
    rw [hfl]
    repeat' (first | refine sc_seq ?_ | refine sc_region ?_ | refine sq_then ?_ | refine sx_nil ?_ | ((refine' sx_v rfl ?_ rfl rfl ?_); rotate_left; first | exact vo_mapix 0 r (none) rfl rfl rfl rfl rfl rfl Tryd.underlying68 Tryd.underlying3 rfl rfl hr1 hr2 | exact vo_un tok rfl rfl rfl rfl))
    refine sc_true rfl rfl ?_
    repeat' (first | refine sc_seq ?_ | refine sc_region ?_ | refine sq_then ?_ | refine sc_ret ?_ | refine sq_pass_ret ?_ | refine sx_nil ?_ | ((refine' sx_v rfl ?_ rfl rfl ?_); rotate_left; first | exact vo_un tok rfl rfl rfl rfl | exact vo_build tok rfl rfl trivial rfl rfl rfl) | refine sx_store tok 1 rfl rfl rfl rfl rfl rfl rfl rfl rfl rfl rfl rfl ?_)
    (refine sq_ret tok (fun _ => 1) rfl rfl ⟨rfl, trivial⟩ rfl fun w1 hm => ⟨zQV, rfl, ?_, made_zero hm⟩)
    rfl
  | some k =>
    rw [hf] at hr2
    obtain ⟨q0, hq0, hqid⟩ := finQ_at hf
    obtain ⟨u, hu0, hu1⟩ : ∃ u, v.qv[k]? = some u ∧ u.q = q0 := by rw [hC.eq, List.getElem?_map] at hq0; simpa using hq0
    have hk : k < v.qv.length := (List.getElem?_eq_some_iff.1 hu0).1
    have hu := List.mem_of_getElem? hu0
    obtain ⟨bb, off, hx, _, _, hrows⟩ := hC.qs (by omega)
    have hrow : w.rangeAt bb (off + k * 15) (QC u) := hrows k u hu0
    rw [hx]
    have hfl : findL v.c id = (u.q, true) := by unfold findL; rw [hf]; simp only [atQ, List.getD_eq_getElem?_getD, hq0, hu1]; rfl
    rw [hfl]
    repeat' (first | refine sc_seq ?_ | refine sc_region ?_ | refine sq_then ?_ | refine sx_nil ?_ | ((refine' sx_v rfl ?_ rfl rfl ?_); rotate_left; first | exact vo_mapix 0 r (some k) rfl rfl rfl rfl rfl rfl Tryd.underlying68 Tryd.underlying3 rfl rfl hr1 hr2 | exact vo_un tok rfl rfl rfl rfl))
    refine sc_false rfl rfl ?_
    repeat' (first | refine sc_seq ?_ | refine sc_region ?_ | refine sq_then ?_ | refine sc_skip ?_ | ((refine' sx_v rfl ?_ rfl rfl ?_); rotate_left; first | exact vo_ixa tok (m := 15) k rfl rfl rfl rfl rfl rfl rfl rfl (fun _ => rfl) (fun _ => hk) | exact vo_oldrowC tok (cs := QC u) rfl rfl rfl rfl rfl (fun _ => hrow) | exact vo_un tok rfl rfl rfl rfl | exact vo_load tok 2 rfl rfl rfl rfl rfl))
    refine sx_callM (σ := QV) (fun s => s.q = u.q) (fun s => .agg ⟨QC s⟩) EQ rfl (callOp rfl rfl rfl rfl ⟨rfl, trivial⟩ rfl (by kernel_rfl)) (fun w hm => copied_any u w ((hC.ok u hu).below hm.below) (hz u hu)) rfl rfl ?_
    rintro v1 hv1
    dsimp only [EQ, List.cons_append, List.nil_append]
    repeat' (first | refine sq_then ?_ | refine sc_ret ?_ | refine sx_nil ?_ | ((refine' sx_v rfl ?_ rfl rfl ?_); rotate_left; exact vo_un tok rfl rfl rfl rfl) | refine sx_store tok 4 rfl rfl rfl rfl rfl rfl rfl rfl rfl rfl rfl rfl ?_)
    (refine sq_ret tok (fun _ => 4) rfl rfl ⟨rfl, trivial⟩ rfl fun w1 hm => ⟨v1, hv1, ?_, Made.own (hm.mask [true, true, true, false, false, false] rfl) (fun e he => EQ_rep [v1] e (by simpa [EQ] using he))⟩)
    rfl
end Go.Proofs.YtmdkfbmpenohiaaDoor.Y
