/- Texts of this claim merged into one: Cl1, Cl2, Cl3. -/
import Derived.Test.YtmdkfbmpenohiaaGreatDoorBunB
namespace Go.Proofs.YtmdkfbmpenohiaaGreatDoor.Y
open Go.RowKit
theorem MemL.perm {B : Nat} {w : World} {M M' : List Ent} (hp : M.Perm M') : MemL B w M → MemL B w M' := by
  induction hp with
  | nil => exact id
  | cons x p ih => exact fun h => ⟨h.1, fun f hf => h.2.1 f (p.mem_iff.2 hf), ih h.2.2⟩
  | swap x y l => exact fun h => ⟨h.2.2.1, fun f hf => by
      rcases List.mem_cons.1 hf with rfl | hf
      · exact (h.2.1 x (List.mem_cons_self ..)).symm
      · exact h.2.2.2.1 f hf, h.1, fun f hf => h.2.1 f (List.mem_cons_of_mem _ hf), h.2.2.2.2⟩
  | trans _ _ ih1 ih2 => exact fun h => ih2 (ih1 h)
theorem Mem.perm {w0 w : World} {M M' : List Ent} (h : Mem w0 w M) (hp : M.Perm M') : Mem w0 w M' := ⟨h.1, h.2.perm hp⟩
theorem kE {Q : Exit → Act → World → Prop} {n : Nat} {w0 : World} {S : bM} {M M' : List Ent} {e : Exit} (hc : ∀ w, Mem w0 w M → Mem w0 w M') (h : SQ Q e n w0 S M') : SQ Q e n w0 S M := ⟨fun a w h1 h2 => h.run a w h1 (hc w h2)⟩
theorem dN {P : Program} {Q : Exit → Act → World → Prop} {l0 l : List Oper} {n : Nat} {w0 : World} {S : bM} {M M' : List Ent} (hc : ∀ w, Mem w0 w M → Mem w0 w M') (h : SL P l0 Q l n w0 S M') : SL P l0 Q l n w0 S M := ⟨fun a w h1 h2 => h.run a w h1 (hc w h2)⟩
def EQ (v : QV) : List Ent := [.own v.a v.ac 9 1 v.q.an.length (v.q.an.flatMap sC), .own v.s v.sc 9 1 v.q.mg.length (v.q.mg.flatMap sC), .own v.m v.mc 119 2 v.q.ms.length (v.q.ms.flatMap mC)]
def tD : Ent → Bool
  | .rep _ _ => true
  | _ => false
theorem p7 (l : List QV) : ∀ e ∈ l.flatMap EQ, tD e = false := fun e he => by
  obtain ⟨v, _, h⟩ := List.mem_flatMap.1 he
  simp only [EQ, List.mem_cons, List.not_mem_nil, or_false] at h
  rcases h with rfl | rfl | rfl <;> rfl
theorem Made.own {w0 w : World} {E : List Ent} (h : Mem w0 w E) (hf : ∀ e ∈ E, tD e = false) : Made w0 w E := Made.of h fun e he F p hep => by have := hf e he; rw [hep] at this; cases this
theorem lz {w w' : World} {e : Ending} {T : TypeId} {size n : Nat} {xs : List Value} (h : ∃ p : Option Addr × Nat, True ∧ e = .returned (.slice p.1 n p.2) ∧ Made w w' [.own p.1 p.2 T size n xs]) :
    (∃ s : Option Addr × Nat, True ∧ e = .returned (.slice s.1 n s.2) ∧ MemL w.heap.size w' [.own s.1 s.2 T size n xs] ∧ (∀ f ∈ [Ent.own s.1 s.2 T size n xs], ∀ b, f.foot b → vB (.slice s.1 n s.2) b) ∧ ∀ b, vB (.slice s.1 n s.2) b → w.heap.size ≤ b ∧ b < w'.heap.size) ∧ Below w.heap.size w w' := by
  obtain ⟨⟨a, c⟩, _, h2, h3⟩ := h
  have hfo : ∀ b, vB (.slice a n c) b ↔ (Ent.own a c T size n xs).foot b := fun b => by cases a <;> rfl
  refine ⟨⟨(a, c), trivial, h2, h3.mem, fun f hf b hb => ?_, fun b hb => ?_⟩, h3.below⟩
  · obtain rfl := List.mem_singleton.1 hf
    exact (hfo b).2 hb
  · exact ln h3.mem.1 ((hfo b).1 hb)
theorem QOk.own {N : Nat} {w : World} {v : QV} (h : MemL N w (EQ v)) : QOk (fun b => N ≤ b) w v := ⟨Rws.own jV h.2.2.2.2.1, Rws.own eC h.2.2.1, Rws.own eC h.1⟩
theorem MemL.sub {B : Nat} {w : World} {M M' : List Ent} (hs : M'.Sublist M) (h : MemL B w M) : MemL B w M' := by
  induction hs with
  | slnil => exact h
  | cons a _ ih => exact ih h.2.2
  | cons_cons a hs ih => exact ⟨h.1, fun f hf => h.2.1 f (hs.subset hf), ih h.2.2⟩
theorem qN {N : Nat} {w : World} {l : List QV} (h : MemL N w (l.flatMap EQ)) {v : QV} (hv : v ∈ l) : MemL N w (EQ v) := by
  induction l with
  | nil => cases hv
  | cons a l ih =>
    obtain ⟨h1, h2, _⟩ := MemL.split (M1 := EQ a) h
    rcases List.mem_cons.1 hv with rfl | hv
    · exact h1
    · exact ih h2 hv
def EC (v : CV) : List Ent := .own v.x v.xc 50 15 v.qv.length (v.qv.flatMap QC) :: .own v.b v.bc 64 6 v.c.bs.length (v.c.bs.flatMap bC) :: v.qv.flatMap EQ
theorem xi (v : CV) : ∀ e ∈ EC v, tD e = false := fun e he => by
  rcases List.mem_cons.1 he with rfl | he
  · rfl
  · rcases List.mem_cons.1 he with rfl | he
    · rfl
    · exact p7 _ e he
theorem COk.own {N : Nat} {w : World} {v : CV} (h : MemL N w (EC v)) (he : v.c.qs = v.qv.map (·.q)) : COk (fun b => N ≤ b) w v :=
  ⟨Rws.own cr h.2.2.1, Rws.own bj h.1, he, fun _ hq => QOk.own (qN h.2.2.2.2 hq)⟩
theorem rS {v v' : QV} (_h : v'.q = v.q) : ∀ f ∈ EQ v', ∀ b, f.foot b → vB (.agg ⟨QC v'⟩) b := fun f hf b hb => by
  simp only [EQ, List.mem_cons, List.not_mem_nil, or_false] at hf
  rcases hf with rfl | rfl | rfl
  · refine ⟨.slice v'.a v'.q.an.length v'.ac, by simp [QC], ?_⟩
    cases h : v'.a with
    | none => simp [Ent.foot, Ent.mut, h] at hb
    | some a => simpa [Ent.foot, Ent.mut, h, xR] using hb
  · refine ⟨.slice v'.s v'.q.mg.length v'.sc, by simp [QC], ?_⟩
    cases h : v'.s with
    | none => simp [Ent.foot, Ent.mut, h] at hb
    | some a => simpa [Ent.foot, Ent.mut, h, xR] using hb
  · refine ⟨.slice v'.m v'.q.ms.length v'.mc, by simp [QC], ?_⟩
    cases h : v'.m with
    | none => simp [Ent.foot, Ent.mut, h] at hb
    | some a => simpa [Ent.foot, Ent.mut, h, xR] using hb
theorem p8 {N : Nat} {w : World} {v : QV} (h : MemL N w (EQ v)) : ∀ b, vB (.agg ⟨QC v⟩) b → N ≤ b ∧ b < w.heap.size := fun b hb => by
  obtain ⟨c, hc, hcb⟩ := hb
  simp only [QC, List.mem_cons, List.not_mem_nil, or_false] at hc
  have key : ∀ {a : Option Addr} {cap n : Nat} {T : TypeId} {size : Nat} {xs : List Value}, w.ownsRow N T size (.slice a n cap) n xs → xR (.slice a n cap) b → N ≤ b ∧ b < w.heap.size := fun {a _ _ _ _ _} ho hb => ln ho (by cases a <;> first | exact hb.elim | exact hb)
  rcases hc with rfl | rfl | rfl | rfl | rfl | rfl | rfl | rfl | rfl | rfl | rfl | rfl | rfl | rfl | rfl
  all_goals first
    | exact hcb.elim
    | exact key h.1 hcb
    | exact key h.2.2.1 hcb
    | exact key h.2.2.2.2.1 hcb
set_option maxRecDepth 100000 in
set_option maxHeartbeats 8000000 in
theorem fB {A : Nat → Prop} (v : QV) (w : World) (hQ : QOk A w v) (hz : eP v.q) : Calls Tryz.prog 49 #[.agg #[.int .i64 v.q.id, .string v.q.sv, .string v.q.mt, .int .i64 v.q.late, .slice v.m v.q.ms.length v.mc, .int .i64 v.q.sh, .slice v.s v.q.mg.length v.sc, .int .i64 v.q.att, .string v.q.bk, .int .i64 v.q.st, .int .i64 v.q.nx, .slice v.a v.q.an.length v.ac, .bool v.q.dn, .int .i64 v.q.cd, .string v.q.tx]] w fun e w' => ∃ v' : QV, v'.q = v.q ∧ e = .returned (.agg ⟨QC v'⟩) ∧ Made w w' (EQ v') := by
  obtain ⟨hz1, hz2, hz3⟩ := hz
  refine aD Tryz.func49 rfl Tryz.ntmps49 J J ?_
  refine ag ?_
  refine aa ?_
  (refine aT J J J J J J ?_; intro g1)
  (refine aF af J J J J J J ?_; intro g2)
  repeat' (first | refine ag ?_ | refine aa ?_ | refine ab ?_ | refine ae ?_ | ((refine' ak rfl ?_ J J ?_); rotate_left; first | exact ai af J J J J | exact ah af 1 J J J J J))
  refine bf (σ := Option Addr × Nat) (fun _ => True) (fun p => .slice p.1 v.q.ms.length p.2) (fun p => [.own p.1 p.2 119 2 v.q.ms.length (v.q.ms.flatMap mC)]) rfl (ay J J J J ⟨J, trivial⟩ rfl (by kernel_rfl)) (fun w1 hm => pV v.m v.q.ms v.mc w1 (hQ.1.below hm.below) (by omega)) J J ?_
  rintro ⟨pm, pmc⟩ -
  dsimp only [List.cons_append, List.nil_append]
  iterate 5 (first | refine ab ?_ | (((refine' ak rfl ?_ J J ?_); rotate_left; exact ai af J J J J)) | refine aj af 2 J J J J J J J J J J J J ?_ | refine ae ?_)
  refine ag ?_
  refine fN 7 [11, 14] aK rfl (by kernel_rfl) ?_
  iterate 2 (((refine' jp rfl ?_ J J ?_); rotate_left; first | exact ai af J J J J | exact ah af 2 J J J J J))
  refine iB (σ := Option Addr × Nat) (fun _ => True) (fun s => .slice s.1 v.q.mg.length s.2) (fun s => [.own s.1 s.2 9 1 v.q.mg.length (v.q.mg.flatMap sC)]) rfl (ay J J J J ⟨J, trivial⟩ rfl (by kernel_rfl)) (fun w hm => (mw v.s v.q.mg v.sc w (hQ.2.1.below hm.below) (by omega)).mono fun e w1 h => lz h) J J J J ?_
  iterate 2 (((refine' jp rfl ?_ J J ?_); rotate_left; first | exact ai af J J J J | exact ah af 2 J J J J J))
  refine iB (σ := Option Addr × Nat) (fun _ => True) (fun s => .slice s.1 v.q.an.length s.2) (fun s => [.own s.1 s.2 9 1 v.q.an.length (v.q.an.flatMap sC)]) rfl (ay J J J J ⟨J, trivial⟩ rfl (by kernel_rfl)) (fun w hm => (mw v.a v.q.an v.ac w (hQ.2.2.below hm.below) (by omega)).mono fun e w1 h => lz h) J J J J ?_
  ((refine' jp rfl ?_ J J ?_); rotate_left; exact ai af J J J J)
  refine kD ?_
  rintro ⟨ps, psc⟩ - ⟨pa, pac⟩ -
  dsimp only [List.cons_append, List.nil_append]
  repeat' (first | refine ag ?_ | refine aa ?_ | refine ab ?_ | refine aA ?_ | refine ae ?_ | ((refine' ak rfl ?_ J J ?_); rotate_left; first | exact ai af J J J J | exact ah af 4 J J J J J) | refine aj af 3 J J J J J J J J J J J J ?_ | refine aj af 4 J J J J J J J J J J J J ?_)
  (refine aB af (fun _ => 3) J J ⟨J, trivial⟩ rfl fun w1 hm => ⟨⟨v.q, pm, pmc, ps, psc, pa, pac⟩, rfl, ?_, ?_⟩)
  · rfl
  · exact Made.own (hm.mask [true, true, true, false, false] rfl) (fun e he => by
      rcases List.mem_cons.1 he with rfl | he
      · rfl
      · rcases List.mem_cons.1 he with rfl | he
        · rfl
        · rcases List.mem_cons.1 he with rfl | he
          · rfl
          · cases he)
theorem rT {w w' : World} {e : Ending} {q : QR} (h : ∃ v' : QV, v'.q = q ∧ e = .returned (.agg ⟨QC v'⟩) ∧ Made w w' (EQ v')) :
    (∃ v' : QV, v'.q = q ∧ e = .returned (.agg ⟨QC v'⟩) ∧ MemL w.heap.size w' (EQ v') ∧ (∀ f ∈ EQ v', ∀ b, f.foot b → vB (.agg ⟨QC v'⟩) b) ∧ ∀ b, vB (.agg ⟨QC v'⟩) b → w.heap.size ≤ b ∧ b < w'.heap.size) ∧ Below w.heap.size w w' := by
  obtain ⟨v', h1, h2, h3⟩ := h
  exact ⟨⟨v', h1, h2, h3.mem, rS (v := v') rfl, p8 h3.mem⟩, h3.below⟩
theorem vw {α : Type} {d : List α} {l : List α} {j : Nat} {v u : α} (hd : d.length = j) (h : l[j]? = some v) : (d ++ l.drop j).set j u = (d ++ [u]) ++ l.drop (j + 1) := by
  subst hd
  rw [cn h]
  simp
theorem xj {α : Type} {d : List α} {l : List α} {j : Nat} {v : α} (hd : d.length = j) (h : l[j]? = some v) : (d ++ l.drop j)[j]? = some v := by
  rw [List.getElem?_append_right (by omega), hd, Nat.sub_self, cn h]; rfl
theorem yv (A C D : List Ent) : (A ++ (C ++ D)).Perm (C ++ (D ++ A)) := by
  rw [← List.append_assoc C D A]
  exact List.perm_append_comm
set_option maxRecDepth 100000 in
set_option maxHeartbeats 8000000 in
theorem dR {A : Nat → Prop} (v : CV) (w : World) (hC : COk A w v) (hzb : v.c.bs.length ≤ 2513169434916) (hzq : v.qv.length ≤ 703687441776) (hz : ∀ u ∈ v.qv, eP u.q) : Calls Tryz.prog 48 #[.agg #[.slice v.b v.c.bs.length v.bc, .int .i64 v.c.ra, .int .i64 v.c.rb, .int .i64 v.c.rc, .int .i64 v.c.rk, .int .i64 v.c.tk, .int .i64 v.c.mo, .int .i64 v.c.gn, .slice v.x v.qv.length v.xc, .int .i64 v.c.nx]] w fun e w' => ∃ v' : CV, (v'.c = v.c ∧ v'.qv.map (·.q) = v.qv.map (·.q)) ∧ e = .returned (.agg ⟨CC v'⟩) ∧ Made w w' (EC v') := by
  refine aD Tryz.func48 rfl Tryz.ntmps48 J J ?_
  refine ag ?_
  refine aa ?_
  (refine aT J J J J J J ?_; intro g1)
  (refine aF af J J J J J J ?_; intro g2)
  repeat' (first | refine ag ?_ | refine aa ?_ | refine ab ?_ | refine ae ?_ | ((refine' ak rfl ?_ J J ?_); rotate_left; first | exact ai af J J J J | exact ah af 1 J J J J J))
  refine bf (σ := Option Addr × Nat) (fun _ => True) (fun p => .slice p.1 v.c.bs.length p.2) (fun p => [.own p.1 p.2 64 6 v.c.bs.length (v.c.bs.flatMap bC)]) rfl (ay J J J J ⟨J, trivial⟩ rfl (by kernel_rfl)) (fun w1 hm => gD v.b v.c.bs v.bc w1 (hC.bk.below hm.below) (by omega)) J J ?_
  rintro ⟨ba, bc⟩ -
  dsimp only [List.cons_append, List.nil_append]
  repeat' (first | refine ag ?_ | refine aa ?_ | refine ab ?_ | refine ae ?_ | ((refine' ak rfl ?_ J J ?_); rotate_left; first | exact ai af J J J J | exact ah af 2 J J J J J) | refine aj af 2 J J J J J J J J J J J J ?_)
  refine bf (σ := Option Addr × Nat) (fun _ => True) (fun p => .slice p.1 v.qv.length p.2) (fun p => [.own p.1 p.2 50 15 v.qv.length (v.qv.flatMap QC)]) rfl (ay J J J J ⟨J, trivial⟩ rfl (by kernel_rfl)) (fun w1 hm => rN v.x v.qv v.xc w1 (hC.qs.below hm.below) (by omega)) J J ?_
  rintro ⟨xa, xc⟩ -
  dsimp only [List.cons_append, List.nil_append]
  repeat' (first | refine ag ?_ | refine aa ?_ | refine ab ?_ | refine aE ?_ | refine ae ?_ | ((refine' ak rfl ?_ J J ?_); rotate_left; first | exact ai af J J J J | exact ah af 3 J J J J J | exact aO af J J J J J J J) | refine aj af 3 J J J J J J J J J J J J ?_)
  refine bF (σ := Nat × List QV) (fun p => p.1 ≤ v.qv.length ∧ p.2.length = p.1 ∧ p.2.map (·.q) = (v.qv.take p.1).map (·.q)) (fun p => [(16, [], .int .i64 ((p.1 : Nat) : Int)), (15, [], .int .i64 ((v.qv.length : Nat) : Int)), (14, [], .slice xa v.qv.length xc), (1, [], .pointer (some ⟨g1, 0, none⟩)), (2, [], .pointer (some ⟨g2, 0, none⟩))]) (fun p => .own xa xc 50 15 v.qv.length ((p.2 ++ v.qv.drop p.1).flatMap QC) :: .own ba bc 64 6 v.c.bs.length (v.c.bs.flatMap bC) :: .cl g2 32 [.slice none 0 0, .int .i64 0, .int .i64 0, .int .i64 0, .int .i64 0, .int .i64 0, .int .i64 0, .int .i64 0, .slice none 0 0, .int .i64 0] :: .cl g1 32 [.slice ba v.c.bs.length bc, .int .i64 v.c.ra, .int .i64 v.c.rb, .int .i64 v.c.rc, .int .i64 v.c.rk, .int .i64 v.c.tk, .int .i64 v.c.mo, .int .i64 v.c.gn, .slice xa v.qv.length xc, .int .i64 v.c.nx] :: p.2.flatMap EQ) (fun p => v.qv.length - p.1) (0, []) [true, true, true, true] ⟨Nat.zero_le _, rfl, rfl⟩ ⟨J, J, J, J, J, trivial⟩ rfl ?_
  rintro ⟨j, d⟩ ⟨hj0, hd, hmap⟩
  dsimp only at hj0 hd hmap ⊢
  by_cases hj : j < v.qv.length
  · obtain ⟨u, hu0⟩ : ∃ u, v.qv[j]? = some u := ⟨v.qv[j], List.getElem?_eq_getElem hj⟩
    have hu := List.mem_of_getElem? hu0
    have hat := xj hd hu0
    refine jL 0 rfl (by omega) ?_
    rintro gx rfl
    repeat' (first | refine ag ?_ | refine aa ?_ | refine ab ?_ | refine ae ?_ | ((refine' ak rfl ?_ J J ?_); rotate_left; exact aq af J J J J J J))
    refine aw rfl (by simp; omega) ?_
    repeat' (first | refine ag ?_ | refine aa ?_ | refine ab ?_ | refine au ?_ | refine aE ?_ | refine ae ?_ | (refine aF af J J J J J J ?_; intro g4) | ((refine' ak rfl ?_ J J ?_); rotate_left; first | exact bA af (m := 15) j J J J J J J J J (fun _ => rfl) (fun _ => hj) | exact iu af 0 (cs := QC u) J J J J J J (fun _ k c hc => by rw [Nat.zero_add]; exact br bj hat hc) | exact ai af J J J J) | refine aj af 0 J J J J J J J J J J J J ?_)
    refine fN 6 [25] aK rfl (by kernel_rfl) ?_
    iterate 4 (((refine' jp rfl ?_ J J ?_); rotate_left; first | exact ai af J J J J | exact ah af 0 J J J J J | exact ah af 4 J J J J J))
    refine iB (σ := QV) (fun s => s.q = u.q) (fun s => .agg ⟨QC s⟩) EQ rfl (ay J J J J ⟨J, trivial⟩ rfl (by kernel_rfl)) (fun w hm => (fB u w ((hC.ok u hu).below hm.below) (hz u hu)).mono fun e w1 h => rT h) J J J J ?_
    ((refine' jp rfl ?_ J J ?_); rotate_left; exact bA af (m := 15) j J J J J J J J J (fun _ => rfl) (fun _ => hj))
    refine kD ?_
    rintro v1 hv1
    dsimp only [EQ, List.cons_append, List.nil_append]
    refine ce af 4 J J J J J J J J J (show gQ _ (0 + j * 15) _ = _ from by rw [Nat.zero_add]; exact bS bj _ j 0 u v1 _ hat rfl) J J ?_
    repeat' (first | refine aa ?_ | refine ab ?_ | refine ax ?_ | refine ae ?_ | ((refine' ak rfl ?_ J J ?_); rotate_left; first | exact a6 J J J J J (by omega) | exact ai af J J J J))
    refine kE (M' := .own (some ⟨gx, 0, none⟩) xc 50 15 v.qv.length (((d ++ [v1]) ++ v.qv.drop (j + 1)).flatMap QC) :: .own ba bc 64 6 v.c.bs.length (v.c.bs.flatMap bC) :: .cl g2 32 [.slice none 0 0, .int .i64 0, .int .i64 0, .int .i64 0, .int .i64 0, .int .i64 0, .int .i64 0, .int .i64 0, .slice none 0 0, .int .i64 0] :: .cl g1 32 [.slice ba v.c.bs.length bc, .int .i64 v.c.ra, .int .i64 v.c.rb, .int .i64 v.c.rc, .int .i64 v.c.rk, .int .i64 v.c.tk, .int .i64 v.c.mo, .int .i64 v.c.gn, .slice (some ⟨gx, 0, none⟩) v.qv.length xc, .int .i64 v.c.nx] :: (d ++ [v1]).flatMap EQ) (fun w hM => ?_) ?_
    · rw [vw hd hu0] at hM
      have h1 := (hM.mask [true, true, true, false] rfl).perm (yv (EQ v1) [_, _, _, _] (d.flatMap EQ))
      rw [List.flatMap_append (xs := d), List.flatMap_singleton (f := EQ)]
      exact h1
    · refine aR (j + 1, d ++ [v1]) [] ⟨hj, by simp [hd], by rw [List.take_add_one, hu0]; simp [hmap]; exact hv1⟩ (show v.qv.length - (j + 1) < v.qv.length - j by omega) ⟨J, J, J, J, J, trivial⟩ rfl
  · have hjl : j = v.qv.length := by omega
    subst hjl
    repeat' (first | refine ag ?_ | refine aa ?_ | refine ab ?_ | refine ae ?_ | ((refine' ak rfl ?_ J J ?_); rotate_left; exact aq af J J J J J J))
    refine am rfl (by simp) ?_
    repeat' (first | refine ag ?_ | refine aa ?_ | refine ab ?_ | refine aA ?_ | refine a8 ?_ | refine aH ?_ | refine aN ?_ | refine ae ?_ | ((refine' ak rfl ?_ J J ?_); rotate_left; exact ah af 3 J J J J J) | refine aj af 2 J J J J J J J J J J J J ?_)
    (refine aB af (fun _ => 2) J J ⟨J, trivial⟩ rfl fun w1 hm => ⟨⟨v.c, ba, bc, xa, xc, d⟩, ⟨rfl, ?_⟩, ?_, ?_⟩)
    · rw [hmap, List.take_length]
    · show Ending.returned (Value.agg ⟨[.slice ba v.c.bs.length bc, .int .i64 v.c.ra, .int .i64 v.c.rb, .int .i64 v.c.rc, .int .i64 v.c.rk, .int .i64 v.c.tk, .int .i64 v.c.mo, .int .i64 v.c.gn, .slice xa v.qv.length xc, .int .i64 v.c.nx]⟩) = _
      rw [← hd]; rfl
    · refine Made.own ?_ (xi _)
      have h1 := hm.mask [true, true, false, false] rfl
      rw [List.drop_length, List.append_nil] at h1
      unfold EC
      rw [show (⟨v.c, ba, bc, xa, xc, d⟩ : CV).qv = d from rfl, hd]
      exact h1
end Go.Proofs.YtmdkfbmpenohiaaGreatDoor.Y
namespace Go.Proofs.YtmdkfbmpenohiaaGreatDoor.Y
open Go.RowKit
theorem qO : ez Tryz.prog 3 8 := by unfold ez; kernel_rfl
def iC (n : Int) : List Value := [.int .i64 n]
theorem nw (a : Int) : (iC a).length = 1 := rfl
theorem jr (l : List QR) : (bQ l).length ≤ l.length := by
  induction l with
  | nil => exact Nat.le_refl _
  | cons q r ih => unfold bQ; split <;> simp <;> omega
theorem dL : ∀ (a b : List QR), bQ (a ++ b) = bQ a ++ bQ b
  | [], b => rfl
  | q :: a, b => by
    have ih := dL a b
    simp only [List.cons_append, bQ]
    split <;> simp [ih]
theorem dW {α : Type} {l : List α} {j : Nat} {v : α} (h : l[j]? = some v) : l.take (j + 1) = l.take j ++ [v] := by
  rw [List.take_add_one, h]; rfl
def vx (id : Int) : List (Int × Nat) → Option Nat
  | [] => none
  | (a, i) :: r => if a = id then some i else vx id r
def PM (es : List MapEntry) (l : List QR) : Prop := ∃ F : List (Int × Nat), es.map (fun e => (e.key, e.val)) = F.map (fun p => (.int .i64 p.1, .int .i64 ((p.2 : Nat) : Int))) ∧ ∀ id, vx id F = dh id l 0
theorem mz (id : Int) : ∀ (es : List MapEntry) (F : List (Int × Nat)) (k : Nat), es.map (fun e => (e.key, e.val)) = F.map (fun p => (Value.int .i64 p.1, Value.int .i64 ((p.2 : Nat) : Int))) → ∃ r : Option (Nat × Value), Instr.findNow (.int .i64) (.int .i64 id) es k = some r ∧ r.map (·.2) = (vx id F).map (fun i => Value.int .i64 ((i : Nat) : Int))
  | [], [], _, _ => ⟨none, rfl, rfl⟩
  | [], _ :: _, _, h => by cases h
  | _ :: _, [], _, h => by cases h
  | e :: es, (a, i) :: F, k, h => by
    simp only [List.map_cons, List.cons.injEq, Prod.mk.injEq] at h
    obtain ⟨⟨h1, h2⟩, h3⟩ := h
    obtain ⟨r, h4, h5⟩ := mz id es F (k + 1) h3
    by_cases hh : a = id
    · subst hh
      refine ⟨some (k, e.val), ?_, ?_⟩
      · unfold Instr.findNow; rw [h1]; simp [Instr.sameNow]
      · unfold vx; rw [if_pos rfl]; simp [h2]
    · refine ⟨r, ?_, ?_⟩
      · have hb : (id == a) = false := by simp; exact fun e => hh e.symm
        unfold Instr.findNow; rw [h1]; simp [Instr.sameNow, hb, h4]
      · unfold vx; rw [if_neg hh]; exact h5
theorem PM.find {es : List MapEntry} {l : List QR} (h : PM es l) (id : Int) : ∃ r : Option (Nat × Value), Instr.findNow (.int .i64) (.int .i64 id) es 0 = some r ∧ r.map (·.2) = (dh id l 0).map (fun i => Value.int .i64 ((i : Nat) : Int)) := by
  obtain ⟨F, h1, h2⟩ := h
  obtain ⟨r, h3, h4⟩ := mz id es F 0 h1
  exact ⟨r, h3, by rw [h4, h2]⟩
theorem jW (id : Int) (q : QR) : ∀ (l : List QR) (k : Nat), dh id (l ++ [q]) k = match dh id l k with | some i => some i | none => if q.id = id then some (k + l.length) else none
  | [], k => by simp [dh]
  | a :: l, k => by
    simp only [List.cons_append, dh]
    by_cases h : a.id = id
    · rw [if_pos h, if_pos h]
    · rw [if_neg h, if_neg h, jW id q l (k + 1)]
      simp [Nat.add_comm, Nat.add_left_comm]
theorem oD (id a : Int) (i : Nat) : ∀ F : List (Int × Nat), vx id (F ++ [(a, i)]) = match vx id F with | some j => some j | none => if a = id then some i else none
  | [] => by simp [vx]
  | (b, j) :: F => by
    simp only [List.cons_append, vx]
    by_cases h : b = id
    · rw [if_pos h, if_pos h]
    · rw [if_neg h, if_neg h, oD id a i F]
theorem PM.nil : PM [] [] := ⟨[], rfl, fun _ => rfl⟩
theorem PM.old {es : List MapEntry} {l : List QR} {q : QR} (h : PM es l) (hs : (dh q.id l 0).isSome = true) : PM es (l ++ [q]) := by
  obtain ⟨F, h1, h2⟩ := h
  refine ⟨F, h1, fun id => ?_⟩
  rw [jW, h2]
  cases hf : dh id l 0 with
  | some i => rfl
  | none =>
    by_cases he : q.id = id
    · subst he; rw [hf] at hs; cases hs
    · simp [he]
theorem PM.new {es : List MapEntry} {l : List QR} {q : QR} (h : PM es l) (c : Nat) : PM (es ++ [⟨.int .i64 q.id, .int .i64 ((l.length : Nat) : Int), c⟩]) (l ++ [q]) := by
  obtain ⟨F, h1, h2⟩ := h
  refine ⟨F ++ [(q.id, l.length)], by simp [h1], fun id => ?_⟩
  rw [jW, oD, h2, Nat.zero_add]
def zp (o : Option Nat) : Value := .tuple #[.int .i64 ((o.getD 0 : Nat) : Int), .bool o.isSome]
theorem eN {P : Program} {w0 : World} {S : bM} {M : List Ent} {L L1 L2 : Cd} {o : Oper} (i : Nat) (r : Option (Nat × Value)) (ix : Option Nat) {t kt et : TypeId} {x y : Operand} {g : Nat} {es : Array MapEntry} {clock : Nat} {key : Value} {u : TypeDesc} (h1 : o.op = .lookup t x y true)
    (h2 : ev S x = some (L1, .map (some g))) (h3 : Suf L1 L) (h4 : ev S y = some (L2, key)) (h5 : Suf L2 L) (h6 : dY M i = some (.obj g (.map es clock)))
    (hu : P.underlying t = some (.map kt et)) (hk : P.underlying kt = some u) (hkk : (match u with | .int _ => true | .string => true | .bool => true | _ => false) = true) (hz : (P.info? et).map (·.zero) = some (some (.int .i64 0)))
    (hf : Instr.findNow u key es.toList 0 = some r) (hr : r.map (·.2) = ix.map (fun i => Value.int .i64 ((i : Nat) : Int))) : VO P w0 S M L o (zp ix) := by
  cases r with
  | none => cases ix with
    | none => exact l9 i none h1 h2 h3 h4 h5 h6 hu hk hkk hz hf rfl
    | some i => cases hr
  | some p => cases ix with
    | none => cases hr
    | some j =>
      obtain ⟨k, v⟩ := p
      obtain rfl : v = .int .i64 ((j : Nat) : Int) := by simpa using hr
      exact l9 i _ h1 h2 h3 h4 h5 h6 hu hk hkk hz hf rfl
set_option maxRecDepth 100000 in
set_option maxHeartbeats 8000000 in
theorem lA (v : QV) (now : Int) (w : World) : Calls Tryz.prog 50 #[.agg #[.int .i64 v.q.id, .string v.q.sv, .string v.q.mt, .int .i64 v.q.late, .slice v.m v.q.ms.length v.mc, .int .i64 v.q.sh, .slice v.s v.q.mg.length v.sc, .int .i64 v.q.att, .string v.q.bk, .int .i64 v.q.st, .int .i64 v.q.nx, .slice v.a v.q.an.length v.ac, .bool v.q.dn, .int .i64 v.q.cd, .string v.q.tx], .int .i64 now] w fun e w' => e = .returned (.bool (dC v.q now)) ∧ Below w.heap.size w w' := by
  refine aD Tryz.func50 rfl Tryz.ntmps50 J J ?_
  repeat' (first | refine ag ?_ | refine aa ?_ | refine ab ?_ | refine aA ?_ | refine ae ?_ | ((refine' ak rfl ?_ J J ?_); rotate_left; first | exact ai af J J J J | exact aq af J J J J J J | exact bx J J J J J | exact ah af 0 J J J J J) | (refine aT J J J J J J ?_; intro g))
  refine aB af (fun _ => 0) J J trivial rfl fun w hm => ⟨?_, hm.below⟩
  refine bi ?_
  unfold dC
  clear hm
  rfl
def tE (n least most : Int) : Bool := decide (least ≤ n) && (decide (most < 0) || decide (n ≤ most))
set_option maxRecDepth 100000 in
set_option maxHeartbeats 8000000 in
theorem tF (n a b : Int) (w : World) : Calls Tryz.prog 80 #[.int .i64 n, .int .i64 a, .int .i64 b] w fun e w' => e = .returned (.bool (tE n a b)) ∧ Below w.heap.size w w' := by
  refine aD Tryz.func80 rfl Tryz.ntmps80 J J ?_
  repeat' (first | refine ag ?_ | refine aa ?_ | refine ab ?_ | refine aA ?_ | refine ae ?_ | ((refine' ak rfl ?_ J J ?_); rotate_left; first | exact ai af J J J J | exact aq af J J J J J J | exact bp J J J J J | exact bx J J J J J))
  refine aB af (fun _ => 0) J J trivial rfl fun w hm => ⟨?_, hm.below⟩
  refine bi ?_
  unfold tE
  clear hm
  simp
set_option maxRecDepth 100000 in
set_option maxHeartbeats 8000000 in
theorem ny {A : Nat → Prop} (v : CV) (w : World) (hC : COk A w v) (hzq : v.qv.length ≤ 703687441776) : Calls Tryz.prog 14 #[.agg #[.slice v.b v.c.bs.length v.bc, .int .i64 v.c.ra, .int .i64 v.c.rb, .int .i64 v.c.rc, .int .i64 v.c.rk, .int .i64 v.c.tk, .int .i64 v.c.mo, .int .i64 v.c.gn, .slice v.x v.qv.length v.xc, .int .i64 v.c.nx]] w fun e w' => ∃ p : Option Addr × Nat, True ∧ e = .returned (.slice p.1 (bQ v.c.qs).length p.2) ∧ Made w w' [.own p.1 p.2 3 1 (bQ v.c.qs).length ((bQ v.c.qs).flatMap iC)] := by
  refine aD Tryz.func14 rfl Tryz.ntmps14 J J ?_
  have hl := hC.lenq
  repeat' (first | refine ag ?_ | refine aa ?_ | refine ab ?_ | refine aE ?_ | refine ae ?_ | ((refine' ak rfl ?_ J J ?_); rotate_left; first | exact ai af J J J J | exact ah af 0 J J J J J | exact aO af J J J J J J J) | (refine aT J J J J J J ?_; intro g))
  refine iT 3 1 ?_
  refine bF (σ := Nat × Option Addr × Nat) (fun p => p.1 ≤ v.qv.length) (fun p => [(9, [], .int .i64 ((p.1 : Nat) : Int)), (8, [], .int .i64 ((v.qv.length : Nat) : Int)), (7, [], .slice v.x v.qv.length v.xc), (3, [], .slice p.2.1 (bQ (v.c.qs.take p.1)).length p.2.2)]) (fun p => [.own p.2.1 p.2.2 3 1 (bQ (v.c.qs.take p.1)).length ((bQ (v.c.qs.take p.1)).flatMap iC)]) (fun p => v.qv.length - p.1) (0, none, 0) [true, false] (Nat.zero_le _) ⟨J, J, J, J, trivial⟩ rfl ?_
  rintro ⟨j, pa, pc⟩ hj0
  dsimp only at hj0 ⊢
  by_cases hj : j < v.qv.length
  · skip
    obtain ⟨u, hu0⟩ : ∃ u, v.qv[j]? = some u := ⟨v.qv[j], List.getElem?_eq_getElem hj⟩
    obtain ⟨bb, off, hx, _, _, hrows⟩ := hC.qs (by omega)
    have hrow : w.rangeAt bb (off + j * 15) (QC u) := hrows j u hu0
    rw [hx]
    have hq : v.c.qs[j]? = some u.q := by rw [hC.eq, List.getElem?_map, hu0]; rfl
    have hsn := dW hq
    have hal := jr (v.c.qs.take j)
    rw [List.length_take] at hal
    repeat' (first | refine ag ?_ | refine aa ?_ | refine ab ?_ | refine ae ?_ | ((refine' ak rfl ?_ J J ?_); rotate_left; exact aq af J J J J J J))
    refine aw rfl (by simp; omega) ?_
    repeat' (first | refine ag ?_ | refine aa ?_ | refine ab ?_ | refine au ?_ | refine aE ?_ | refine ae ?_ | (refine aF af J J J J J J ?_; intro g5) | ((refine' ak rfl ?_ J J ?_); rotate_left; first | exact bA af (m := 15) j J J J J J J J J (fun _ => rfl) (fun _ => hj) | exact a7 af (cs := QC u) J J J J J (fun _ => hrow) | exact ai af J J J J | exact ah af 0 J J J J J) | refine aj af 0 J J J J J J J J J J J J ?_)
    cases hdn : u.q.dn with
    | true =>
      refine am rfl (by simp) ?_
      repeat' (first | refine aa ?_ | refine ab ?_ | refine au ?_ | refine ax ?_ | refine ae ?_ | ((refine' ak rfl ?_ J J ?_); rotate_left; first | exact a6 J J J J J (by omega) | exact ai af J J J J))
      refine aR (j + 1, pa, pc) [false, true] hj (show v.qv.length - (j + 1) < v.qv.length - j by omega) ⟨rfl, rfl, rfl, ?_, trivial⟩ ?_
      · dsimp only; rw [hsn, dL]; simp [bQ, hdn, lk]
      · dsimp only; rw [hsn, dL]; simp [bQ, hdn, dV]
    | false =>
      refine aw rfl (by simp) ?_
      repeat' (first | refine aa ?_ | refine ab ?_ | refine ax ?_ | refine ae ?_ | (refine bq af J J J ⟨J, trivial⟩ J J J J J J J J ?_; intro g) | (refine bK af 2 0 J J J J J J J J J (fun _ _ => rfl) qO J J (by unfold maxLen; omega) (by omega) J J ?_; intro sa sc) | ((refine' ak rfl ?_ J J ?_); rotate_left; first | exact a6 J J J J J (by omega) | exact ai af J J J J | exact ah af 0 J J J J J))
      refine aR (j + 1, sa, sc) [false, false, true] hj (show v.qv.length - (j + 1) < v.qv.length - j by omega) ⟨rfl, rfl, rfl, ?_, trivial⟩ ?_
      · dsimp only; rw [hsn, dL]; simp [bQ, hdn, lk]
      · dsimp only; rw [hsn, dL]; simp [bQ, hdn, dV, iC]; rfl
  · have hjl : j = v.qv.length := by omega
    have htk : v.c.qs.take j = v.c.qs := List.take_of_length_le (by omega)
    rw [htk]
    repeat' (first | refine ag ?_ | refine aa ?_ | refine ab ?_ | refine ae ?_ | ((refine' ak rfl ?_ J J ?_); rotate_left; exact aq af J J J J J J))
    refine am rfl (by simp; omega) ?_
    repeat' (first | refine ag ?_ | refine aa ?_ | refine ab ?_ | refine aA ?_ | refine a8 ?_ | refine aH ?_ | refine aN ?_ | refine ae ?_ | ((refine' ak rfl ?_ J J ?_); rotate_left; exact ai af J J J J))
    refine aB af (fun _ => 0) J J trivial rfl fun w1 hm => ⟨(pa, pc), trivial, rfl, Made.own hm (fun e he => by obtain rfl := List.mem_singleton.1 he; rfl)⟩
set_option maxRecDepth 100000 in
set_option maxHeartbeats 8000000 in
theorem iZ {A : Nat → Prop} (v : CV) (w : World) (hC : COk A w v) (hzq : v.qv.length ≤ 703687441776) : Calls Tryz.prog 58 #[.agg #[.slice v.b v.c.bs.length v.bc, .int .i64 v.c.ra, .int .i64 v.c.rb, .int .i64 v.c.rc, .int .i64 v.c.rk, .int .i64 v.c.tk, .int .i64 v.c.mo, .int .i64 v.c.gn, .slice v.x v.qv.length v.xc, .int .i64 v.c.nx]] w fun e w' => ∃ s : Nat × List MapEntry × Nat, PM s.2.1 v.c.qs ∧ e = .returned (.map (some s.1)) ∧ Made w w' [.obj s.1 (.map s.2.1.toArray s.2.2)] := by
  refine aD Tryz.func58 rfl Tryz.ntmps58 J J ?_
  have hl := hC.lenq
  repeat' (first | refine ag ?_ | refine aa ?_ | refine ab ?_ | refine aE ?_ | refine ae ?_ | (refine aT J J J J J J ?_; intro g1) | (refine sQ J J J J ?_; intro g) | ((refine' ak rfl ?_ J J ?_); rotate_left; first | exact ai af J J J J | exact ah af 1 J J J J J | exact aO af J J J J J J J))
  refine bF (σ := Nat × List MapEntry × Nat) (fun p => p.1 ≤ v.qv.length ∧ PM p.2.1 (v.c.qs.take p.1)) (fun p => [(12, [], .int .i64 ((p.1 : Nat) : Int)), (11, [], .int .i64 ((v.qv.length : Nat) : Int)), (10, [], .slice v.x v.qv.length v.xc), (3, [], .map (some g))]) (fun p => [.obj g (.map p.2.1.toArray p.2.2), .cl g1 32 [.slice v.b v.c.bs.length v.bc, .int .i64 v.c.ra, .int .i64 v.c.rb, .int .i64 v.c.rc, .int .i64 v.c.rk, .int .i64 v.c.tk, .int .i64 v.c.mo, .int .i64 v.c.gn, .slice v.x v.qv.length v.xc, .int .i64 v.c.nx]]) (fun p => v.qv.length - p.1) (0, [], 0) [true, true] ⟨Nat.zero_le _, PM.nil⟩ ⟨J, J, J, J, trivial⟩ rfl ?_
  rintro ⟨j, es, ck⟩ ⟨hj0, hpm⟩
  dsimp only at hj0 hpm ⊢
  by_cases hj : j < v.qv.length
  · skip
    obtain ⟨u, hu0⟩ : ∃ u, v.qv[j]? = some u := ⟨v.qv[j], List.getElem?_eq_getElem hj⟩
    obtain ⟨bb, off, hx, _, _, hrows⟩ := hC.qs (by omega)
    have hrow : w.rangeAt bb (off + j * 15) (QC u) := hrows j u hu0
    rw [hx]
    have hq : v.c.qs[j]? = some u.q := by rw [hC.eq, List.getElem?_map, hu0]; rfl
    have hsn := dW hq
    have htl : (v.c.qs.take j).length = j := by rw [List.length_take]; omega
    obtain ⟨r, hr1, hr2⟩ := hpm.find u.q.id
    cases hf : dh u.q.id (v.c.qs.take j) 0 with
    | some i =>
      rw [hf] at hr2
      repeat' (first | refine ag ?_ | refine aa ?_ | refine ab ?_ | refine ae ?_ | ((refine' ak rfl ?_ J J ?_); rotate_left; exact aq af J J J J J J))
      refine aw rfl (by simp; omega) ?_
      repeat' (first | refine ag ?_ | refine aa ?_ | refine ab ?_ | refine au ?_ | refine aE ?_ | refine ae ?_ | (refine aF af J J J J J J ?_; intro g5) | ((refine' ak rfl ?_ J J ?_); rotate_left; first | exact bA af (m := 15) j J J J J J J J J (fun _ => rfl) (fun _ => hj) | exact a7 af (cs := QC u) J J J J J (fun _ => hrow) | exact eN 1 r (some i) J J J J J J Tryz.underlying100 Tryz.underlying3 J J hr1 hr2 | exact ai af J J J J | exact ah af 0 J J J J J) | refine aj af 0 J J J J J J J J J J J J ?_)
      refine am rfl (by simp) ?_
      repeat' (first | refine aa ?_ | refine ab ?_ | refine au ?_ | refine ax ?_ | refine ae ?_ | ((refine' ak rfl ?_ J J ?_); rotate_left; first | exact a6 J J J J J (by omega) | exact ai af J J J J))
      refine aR (j + 1, es, ck) [false, true, true] ⟨hj, by rw [hsn]; exact hpm.old (by rw [hf]; rfl)⟩ (show v.qv.length - (j + 1) < v.qv.length - j by omega) ⟨J, J, J, J, trivial⟩ rfl
    | none =>
      have hr0 : r = none := by
        rw [hf] at hr2
        cases r with
        | none => rfl
        | some p => cases hr2
      subst hr0
      rw [hf] at hr2
      repeat' (first | refine ag ?_ | refine aa ?_ | refine ab ?_ | refine ae ?_ | ((refine' ak rfl ?_ J J ?_); rotate_left; exact aq af J J J J J J))
      refine aw rfl (by simp; omega) ?_
      repeat' (first | refine ag ?_ | refine aa ?_ | refine ab ?_ | refine au ?_ | refine aE ?_ | refine ae ?_ | (refine aF af J J J J J J ?_; intro g5) | ((refine' ak rfl ?_ J J ?_); rotate_left; first | exact bA af (m := 15) j J J J J J J J J (fun _ => rfl) (fun _ => hj) | exact a7 af (cs := QC u) J J J J J (fun _ => hrow) | exact eN 1 none (none) J J J J J J Tryz.underlying100 Tryz.underlying3 J J hr1 hr2 | exact ai af J J J J | exact ah af 0 J J J J J) | refine aj af 0 J J J J J J J J J J J J ?_)
      refine aw rfl (by simp) ?_
      repeat' (first | refine aa ?_ | refine ab ?_ | refine ax ?_ | refine ae ?_ | refine rB 1 ⟨_, rfl, .inl rfl⟩ J J J J J Tryz.underlying100 Tryz.underlying3 rfl hr1 J J ?_ | ((refine' ak rfl ?_ J J ?_); rotate_left; first | exact a6 J J J J J (by omega) | exact ai af J J J J | exact ah af 0 J J J J J))
      refine aR (j + 1, es ++ [⟨.int .i64 u.q.id, .int .i64 ((j : Nat) : Int), ck⟩], ck + 1) [false, true, true] ⟨hj, by
        have h9 := hpm.new (q := u.q) ck
        rw [htl] at h9
        rw [hsn]; exact h9⟩ (show v.qv.length - (j + 1) < v.qv.length - j by omega) ⟨J, J, J, J, trivial⟩ (by simp [dV])
  · have hjl : j = v.qv.length := by omega
    have htk : v.c.qs.take j = v.c.qs := List.take_of_length_le (by omega)
    rw [htk] at hpm
    repeat' (first | refine ag ?_ | refine aa ?_ | refine ab ?_ | refine ae ?_ | ((refine' ak rfl ?_ J J ?_); rotate_left; exact aq af J J J J J J))
    refine am rfl (by simp; omega) ?_
    repeat' (first | refine ag ?_ | refine aa ?_ | refine ab ?_ | refine aA ?_ | refine a8 ?_ | refine aH ?_ | refine aN ?_ | refine ae ?_ | ((refine' ak rfl ?_ J J ?_); rotate_left; exact ai af J J J J))
    refine aB af (fun _ => 0) J J trivial rfl fun w1 hm => ⟨(g, es, ck), hpm, rfl, Made.own (hm.mask [true, false] rfl) (fun e he => by obtain rfl := List.mem_singleton.1 he; rfl)⟩
end Go.Proofs.YtmdkfbmpenohiaaGreatDoor.Y
namespace Go.Proofs.YtmdkfbmpenohiaaGreatDoor.Y
open Go.RowKit
theorem ej {id : Int} : ∀ {l : List QR} {i : Nat}, dh id l 0 = some i → ∃ q, l[i]? = some q ∧ q.id = id := by
  have key : ∀ (l : List QR) (k i : Nat), dh id l k = some i → k ≤ i ∧ ∃ q, l[i - k]? = some q ∧ q.id = id := by
    intro l
    induction l with
    | nil => intro k i h; cases h
    | cons a l ih =>
      intro k i h
      unfold dh at h
      split at h
      · obtain rfl := (by simpa using h : k = i)
        exact ⟨Nat.le_refl _, a, by simp, by assumption⟩
      · obtain ⟨h1, q, h2, h3⟩ := ih (k + 1) i h
        refine ⟨by omega, q, ?_, h3⟩
        rw [show i - k = i - (k + 1) + 1 by omega]; simpa using h2
  intro l i h
  obtain ⟨_, q, h2, h3⟩ := key l 0 i h
  exact ⟨q, by simpa using h2, h3⟩
theorem p9 : (⟨#[]⟩ : ByteArray).toList = [] := eZ.1 rfl
theorem cI (s : ByteArray) : (s.toList == (⟨#[]⟩ : ByteArray).toList) = decide (s.size = 0) := by
  rw [p9]
  by_cases h : s.size = 0
  · rw [eZ.1 h]; simp [h]
  · have h2 : ¬ s.toList = [] := fun e => h (eZ.2 e)
    simp [h, h2]
theorem fa {c : CL} {id : Int} (h : dh id c.qs 0 = none) : el c id = 10 ∧ dZ c id = 0 := by
  have h1 : el c id = 10 := by unfold el; rw [h]
  exact ⟨h1, by unfold dZ; rw [h1]; rfl⟩
theorem jX {c : CL} {id : Int} {i : Nat} {q : QR} (h : dh id c.qs 0 = some i) (hq : c.qs[i]? = some q) : el c id = (if q.bk.size = 0 then 20 else 0) ∧ dZ c id = (if q.bk.size = 0 then 0 else i) := by
  have h1 : el c id = (if q.bk.size = 0 then 20 else 0) := by unfold el; rw [h]; simp only [hq]
  refine ⟨h1, ?_⟩
  unfold dZ
  rw [h1, h]
  split <;> simp_all
set_option maxRecDepth 100000 in
set_option maxHeartbeats 8000000 in
theorem vy {A : Nat → Prop} (v : CV) (id : Int) (w : World) (hC : COk A w v) (hzq : v.qv.length ≤ 703687441776) : Calls Tryz.prog 54 #[.agg #[.slice v.b v.c.bs.length v.bc, .int .i64 v.c.ra, .int .i64 v.c.rb, .int .i64 v.c.rc, .int .i64 v.c.rk, .int .i64 v.c.tk, .int .i64 v.c.mo, .int .i64 v.c.gn, .slice v.x v.qv.length v.xc, .int .i64 v.c.nx], .int .i64 id] w fun e w' => e = .returned (.tuple #[.int .i64 ((dZ v.c id : Nat) : Int), .int .i64 (el v.c id)]) ∧ Below w.heap.size w w' := by
  refine aD Tryz.func54 rfl Tryz.ntmps54 J J ?_
  repeat' (first | refine ag ?_ | refine aa ?_ | refine ab ?_ | refine ae ?_ | (refine aT J J J J J J ?_; intro g2) | ((refine' ak rfl ?_ J J ?_); rotate_left; first | exact ai af J J J J | exact ah af 0 J J J J J))
  refine bf (σ := Nat × List MapEntry × Nat) (fun s => PM s.2.1 v.c.qs) (fun s => .map (some s.1)) (fun s => [.obj s.1 (.map s.2.1.toArray s.2.2)]) rfl (ay J J J J ⟨J, trivial⟩ rfl (by kernel_rfl)) (fun w1 hm => iZ v w1 (hC.below hm.below) hzq) J J ?_
  rintro ⟨g, es, ck⟩ hpm
  dsimp only [List.cons_append, List.nil_append] at hpm ⊢
  obtain ⟨r, hr1, hr2⟩ := hpm.find id
  clear hpm
  cases hf : dh id v.c.qs 0 with
  | none =>
    rw [hf] at hr2
    rw [(fa hf).1, (fa hf).2]
    repeat' (first | refine ag ?_ | refine aa ?_ | refine ab ?_ | refine aE ?_ | refine ae ?_ | ((refine' ak rfl ?_ J J ?_); rotate_left; first | exact eN 0 r (none) J J J J J J Tryz.underlying100 Tryz.underlying3 J J hr1 hr2 | exact ai af J J J J))
    refine aw J J ?_
    repeat' (first | refine ag ?_ | refine aa ?_ | refine ab ?_ | refine aA ?_ | refine ar ?_ | refine aQ ?_ | refine ae ?_ | ((refine' ak rfl ?_ J J ?_); rotate_left; exact ai af J J J J))
    refine aB af (fun _ => 0) J J trivial rfl fun w hm => ⟨?_, hm.below⟩
    rfl
  | some k =>
    rw [hf] at hr2
    obtain ⟨q0, hq0, hqid⟩ := ej hf
    obtain ⟨u, hu0, hu1⟩ : ∃ u, v.qv[k]? = some u ∧ u.q = q0 := by rw [hC.eq, List.getElem?_map] at hq0; simpa using hq0
    have hk : k < v.qv.length := (List.getElem?_eq_some_iff.1 hu0).1
    have hu := List.mem_of_getElem? hu0
    obtain ⟨bb, off, hx, _, _, hrows⟩ := hC.qs (by omega)
    have hrow : w.rangeAt bb (off + k * 15) (QC u) := hrows k u hu0
    rw [hx]
    rw [(jX hf hq0).1, (jX hf hq0).2]
    subst hu1
    repeat' (first | refine ag ?_ | refine aa ?_ | refine ab ?_ | refine aE ?_ | refine ae ?_ | ((refine' ak rfl ?_ J J ?_); rotate_left; first | exact eN 0 r (some k) J J J J J J Tryz.underlying100 Tryz.underlying3 J J hr1 hr2 | exact ai af J J J J))
    refine am J J ?_
    repeat' (first | refine ag ?_ | refine aa ?_ | refine ab ?_ | refine ae ?_ | ((refine' ak rfl ?_ J J ?_); rotate_left; first | exact bA af (m := 15) k J J J J J J J J (fun _ => rfl) (fun _ => hk) | exact bT af (v := .string u.q.bk) J J J J J (fun _ => hrow 8 _ rfl) | exact ai af J J J J | exact aq af J J J J J J | exact ah af 1 J J J J J))
    by_cases hb : u.q.bk.size = 0
    · refine aw rfl (by rw [cI]; simpa using hb) ?_
      repeat' (first | refine ag ?_ | refine aa ?_ | refine ab ?_ | refine aA ?_ | refine ar ?_ | refine aQ ?_ | refine ae ?_ | ((refine' ak rfl ?_ J J ?_); rotate_left; exact ai af J J J J))
      refine aB af (fun _ => 0) J J trivial rfl fun w hm => ⟨?_, hm.below⟩
      rw [if_pos hb, if_pos hb]; rfl
    · refine am rfl (by rw [cI]; simpa using hb) ?_
      repeat' (first | refine ag ?_ | refine aa ?_ | refine ab ?_ | refine aA ?_ | refine au ?_ | refine ax ?_ | refine ae ?_ | ((refine' ak rfl ?_ J J ?_); rotate_left; exact ai af J J J J))
      refine aB af (fun _ => 0) J J trivial rfl fun w hm => ⟨?_, hm.below⟩
      rw [if_neg hb, if_neg hb]; rfl
def zq : QV := ⟨vg, none, 0, none, 0, none, 0⟩
theorem rU {w0 w : World} {M : List Ent} (h : Mem w0 w M) : Made w0 w (EQ zq) :=
  Made.own (ir w0 9 1 (ir w0 9 1 (ir w0 119 2 (M := []) ⟨h.1, trivial⟩))) (fun e he => p7 [zq] e (by simpa [EQ] using he))
set_option maxRecDepth 100000 in
set_option maxHeartbeats 8000000 in
theorem rV {A : Nat → Prop} (v : CV) (id : Int) (w : World) (hC : COk A w v) (hzq : v.qv.length ≤ 703687441776) (hz : ∀ u ∈ v.qv, eP u.q) : Calls Tryz.prog 28 #[.agg #[.slice v.b v.c.bs.length v.bc, .int .i64 v.c.ra, .int .i64 v.c.rb, .int .i64 v.c.rc, .int .i64 v.c.rk, .int .i64 v.c.tk, .int .i64 v.c.mo, .int .i64 v.c.gn, .slice v.x v.qv.length v.xc, .int .i64 v.c.nx], .int .i64 id] w fun e w' => ∃ v' : QV, v'.q = (gq v.c id).1 ∧ e = .returned (.tuple #[.agg ⟨QC v'⟩, .bool (gq v.c id).2]) ∧ Made w w' (EQ v') := by
  refine aD Tryz.func28 rfl Tryz.ntmps28 J J ?_
  repeat' (first | refine ag ?_ | refine aa ?_ | refine ab ?_ | refine ae ?_ | (refine aT J J J J J J ?_; intro g2) | (refine aF af J J J J J J ?_; intro g4) | ((refine' ak rfl ?_ J J ?_); rotate_left; first | exact ai af J J J J | exact ah af 1 J J J J J))
  refine bf (σ := Nat × List MapEntry × Nat) (fun s => PM s.2.1 v.c.qs) (fun s => .map (some s.1)) (fun s => [.obj s.1 (.map s.2.1.toArray s.2.2)]) rfl (ay J J J J ⟨J, trivial⟩ rfl (by kernel_rfl)) (fun w1 hm => iZ v w1 (hC.below hm.below) hzq) J J ?_
  rintro ⟨g, es, ck⟩ hpm
  dsimp only [List.cons_append, List.nil_append] at hpm ⊢
  obtain ⟨r, hr1, hr2⟩ := hpm.find id
  clear hpm
  cases hf : dh id v.c.qs 0 with
  | none =>
    rw [hf] at hr2
    have hfl : gq v.c id = (vg, false) := by unfold gq; rw [hf]
    rw [hfl]
    repeat' (first | refine ag ?_ | refine aa ?_ | refine ab ?_ | refine ae ?_ | ((refine' ak rfl ?_ J J ?_); rotate_left; first | exact eN 0 r (none) J J J J J J Tryz.underlying100 Tryz.underlying3 J J hr1 hr2 | exact ai af J J J J))
    refine aw J J ?_
    repeat' (first | refine ag ?_ | refine aa ?_ | refine ab ?_ | refine aA ?_ | refine ar ?_ | refine ae ?_ | ((refine' ak rfl ?_ J J ?_); rotate_left; first | exact ai af J J J J | exact aC af J J trivial J J J) | refine aj af 1 J J J J J J J J J J J J ?_)
    (refine aB af (fun _ => 1) J J ⟨J, trivial⟩ rfl fun w1 hm => ⟨zq, rfl, ?_, rU hm⟩)
    rfl
  | some k =>
    rw [hf] at hr2
    obtain ⟨q0, hq0, hqid⟩ := ej hf
    obtain ⟨u, hu0, hu1⟩ : ∃ u, v.qv[k]? = some u ∧ u.q = q0 := by rw [hC.eq, List.getElem?_map] at hq0; simpa using hq0
    have hk : k < v.qv.length := (List.getElem?_eq_some_iff.1 hu0).1
    have hu := List.mem_of_getElem? hu0
    obtain ⟨bb, off, hx, _, _, hrows⟩ := hC.qs (by omega)
    have hrow : w.rangeAt bb (off + k * 15) (QC u) := hrows k u hu0
    rw [hx]
    have hfl : gq v.c id = (u.q, true) := by unfold gq; rw [hf]; simp only [i9, List.getD_eq_getElem?_getD, hq0, hu1]; rfl
    rw [hfl]
    repeat' (first | refine ag ?_ | refine aa ?_ | refine ab ?_ | refine ae ?_ | ((refine' ak rfl ?_ J J ?_); rotate_left; first | exact eN 0 r (some k) J J J J J J Tryz.underlying100 Tryz.underlying3 J J hr1 hr2 | exact ai af J J J J))
    refine am J J ?_
    repeat' (first | refine ag ?_ | refine aa ?_ | refine ab ?_ | refine au ?_ | ((refine' ak rfl ?_ J J ?_); rotate_left; first | exact bA af (m := 15) k J J J J J J J J (fun _ => rfl) (fun _ => hk) | exact a7 af (cs := QC u) J J J J J (fun _ => hrow) | exact ai af J J J J | exact ah af 2 J J J J J))
    refine bf (σ := QV) (fun s => s.q = u.q) (fun s => .agg ⟨QC s⟩) EQ rfl (ay J J J J ⟨J, trivial⟩ rfl (by kernel_rfl)) (fun w hm => fB u w ((hC.ok u hu).below hm.below) (hz u hu)) J J ?_
    rintro v1 hv1
    dsimp only [EQ, List.cons_append, List.nil_append]
    repeat' (first | refine ab ?_ | refine aA ?_ | refine ae ?_ | ((refine' ak rfl ?_ J J ?_); rotate_left; exact ai af J J J J) | refine aj af 4 J J J J J J J J J J J J ?_)
    (refine aB af (fun _ => 4) J J ⟨J, trivial⟩ rfl fun w1 hm => ⟨v1, hv1, ?_, Made.own (hm.mask [true, true, true, false, false, false] rfl) (fun e he => p7 [v1] e (by simpa [EQ] using he))⟩)
    rfl
end Go.Proofs.YtmdkfbmpenohiaaGreatDoor.Y
