/- Texts of this claim merged into one: R14, VcB, RunL. -/
import Derived.Test.YtmdkfbmpenohiaaGreatDoorBunRA
import Derived.Test.YtmdkfbmpenohiaaGreatDoorBunL
import Derived.Test.YtmdkfbmpenohiaaGreatDoorBunF
namespace Go.Proofs.YtmdkfbmpenohiaaGreatDoor.Y
open Go.RowKit
attribute [local irreducible] Calls
set_option maxRecDepth 100000 in
set_option maxHeartbeats 8000000 in
theorem pt {A A' : Nat → Prop} (s t : SV) (r : xt) (w : World) (hR : Rws A w 15 QC s.la s.l) (hR' : Rws A' w 15 QC t.la t.l) (he : s.l.map (·.q) = t.l.map (·.q)) (ho : ∀ u ∈ s.l, QOk A w u) (ho' : ∀ u ∈ t.l, QOk A' w u) (hz : ∀ u ∈ s.l, eP u.q) (hlen : s.l.length ≤ 9000000000000000000) (hI : Rws A w 1 iC s.ia r.ids) (hI' : Rws A' w 1 iC t.ia r.ids) (hil : r.ids.length ≤ 9000000000000000000) : Calls Tryz.prog 11 #[.agg #[.int .i64 r.e, .int .i64 r.id, .slice s.la s.l.length s.lc, .slice s.ia r.ids.length s.ic], .agg #[.int .i64 r.e, .int .i64 r.id, .slice t.la t.l.length t.lc, .slice t.ia r.ids.length t.ic]] w fun e w' => e = .returned (.bool true) ∧ Below w.heap.size w w' := by
  refine aD Tryz.func11 rfl Tryz.ntmps11 J J ?_
  repeat' (first | refine ag ?_ | refine aa ?_ | refine ab ?_ | refine aA ?_ | refine au ?_ | refine aE ?_ | refine a8 ?_ | refine ar ?_ | refine aH ?_ | refine ax ?_ | refine aQ ?_ | refine aN ?_ | refine cu rfl ?_ | refine aY aK rfl (by kernel_rfl) ?_ | refine ae ?_ | refine bz ?_ | (refine ea ?_; intro g) | ((first | refine' ak rfl ?_ J J ?_ | refine' dm rfl ?_ J J J ?_); rotate_left; first | exact ai af J J J J | exact aq af J J J J J J | exact bp J J J J J | exact bx J J J J J | exact ah af 0 J J J J J | exact ah af 1 J J J J J | exact ah af 2 J J J J J | exact fX af fm J J J J J J (by kernel_rfl) | exact ew af fm J J J J J J (by kernel_rfl) | exact aO af J J J J J J J | exact d9 J J J J J | exact cV J J J J J | exact jd J J J J J J J | exact aC af J J trivial J J J | exact aC af J J ⟨J, trivial⟩ J J J | exact aC af J J ⟨J, J, trivial⟩ J J J | exact aC af J J ⟨J, J, J, trivial⟩ J J J | exact aC af J J ⟨J, J, J, J, trivial⟩ J J J | exact aC af J J ⟨J, J, J, J, J, trivial⟩ J J J | exact aC af J J ⟨J, J, J, J, J, J, trivial⟩ J J J | exact aC af J J ⟨J, J, J, J, J, J, J, trivial⟩ J J J | exact aC af J J ⟨J, J, J, J, J, J, J, J, trivial⟩ J J J) | refine aG rfl (ay J J J J ⟨J, J, trivial⟩ rfl (by kernel_rfl)) (fun w hm => j9 s.la t.la s.lc t.lc s.l t.l w (hR.below hm.below) (hR'.below hm.below) he (fun y hy => (ho y hy).below hm.below) (fun y hy => (ho' y hy).below hm.below) hz hlen) J J ?_ | refine bY rfl (ay J J J J ⟨J, J, trivial⟩ rfl (by kernel_rfl)) rfl (fun w hm => j9 s.la t.la s.lc t.lc s.l t.l w (hR.below hm.below) (hR'.below hm.below) he (fun y hy => (ho y hy).below hm.below) (fun y hy => (ho' y hy).below hm.below) hz hlen) J J ?_ | refine aG rfl (ay J J J J ⟨J, J, trivial⟩ rfl (by kernel_rfl)) (fun w hm => lL s.ia t.ia s.ic t.ic r.ids w (hI.below hm.below) (hI'.below hm.below) hil) J J ?_ | refine bY rfl (ay J J J J ⟨J, J, trivial⟩ rfl (by kernel_rfl)) rfl (fun w hm => lL s.ia t.ia s.ic t.ic r.ids w (hI.below hm.below) (hI'.below hm.below) hil) J J ?_ | (refine aT J J J J J J ?_; intro g) | (refine aF af J J J J J J ?_; intro g) | refine dJ af J J J J J J ?_ | refine gA J J J J J J ?_ | refine aj af 0 J J J J J J J J J J J J ?_ | refine aj af 1 J J J J J J J J J J J J ?_ | refine aj af 2 J J J J J J J J J J J J ?_)
  refine aB af (fun _ => 0) J J trivial rfl fun w hm => ⟨?_, hm.below⟩
  refine bi ?_
  simp
attribute [local semireducible] Calls
theorem sw {w w1 : World} {F : Nat → Prop} (v : CV) (o : OV) (hC : COk F w1 v) (hw : eE v) (hQ : QOk (fun _ => True) w o.q) (hb : Below w.heap.size w w1) (hV : VC v.c) (hzq : v.c.qs.length ≤ 703687441775) (han : ∀ q ∈ v.c.qs, q.an.length < 8796093022208) (hsz : eP o.q.q) (hhd : dH o.q.q.hd) (htx : o.tx.size ≤ 4611686018427387900) : Calls Tryz.prog 10 #[.agg #[.slice v.b v.c.bs.length v.bc, .int .i64 v.c.ra, .int .i64 v.c.rb, .int .i64 v.c.rc, .int .i64 v.c.rk, .int .i64 v.c.tk, .int .i64 v.c.mo, .int .i64 v.c.gn, .slice v.x v.qv.length v.xc, .int .i64 v.c.nx], .agg #[.int .i64 o.kd, .int .i64 o.id, .int .i64 o.n, .int .i64 o.now, .int .i64 o.q.q.id, .string o.q.q.sv, .string o.q.q.mt, .int .i64 o.q.q.late, .slice o.q.m o.q.q.ms.length o.q.mc, .int .i64 o.q.q.sh, .slice o.q.s o.q.q.mg.length o.q.sc, .int .i64 o.q.q.att, .string o.q.q.bk, .int .i64 o.q.q.st, .int .i64 o.q.q.nx, .slice o.q.a o.q.q.an.length o.q.ac, .bool o.q.q.dn, .int .i64 o.q.q.cd, .string o.q.q.tx, .string o.msg, .int .i64 o.cd, .string o.tx, .bool o.safe]] w1 fun e w' => (∃ s : SV × (Nat → Prop), ∃ g : Nat → Prop, ((s.1.c.c = (aX v.c o.d).1 ∧ s.1.l.map (·.q) = (aX v.c o.d).2.qs) ∧ eE s.1.c) ∧ e = .returned (.tuple ⟨[.agg ⟨CC s.1.c⟩, .agg ⟨RC s.1 (aX v.c o.d).2⟩]⟩) ∧ MemL w1.heap.size w' [.rep s.2 (fun w => StOk s.2 w s.1 (aX v.c o.d).2.ids)] ∧ (∀ f ∈ [Ent.rep s.2 (fun w => StOk s.2 w s.1 (aX v.c o.d).2.ids)], ∀ b, f.mut b → g b) ∧ (∀ f ∈ [Ent.rep s.2 (fun w => StOk s.2 w s.1 (aX v.c o.d).2.ids)], ∀ b, f.foot b → g b ∨ (F b ∨ b < w.heap.size)) ∧ ∀ b, g b → w1.heap.size ≤ b ∧ b < w'.heap.size) ∧ Below w1.heap.size w1 w' := by
  have hQ' : QOk (fun b => F b ∨ b < w.heap.size) w1 o.q := ((hQ.lt).mono fun b hb => .inr hb.2).below hb
  refine (mZ (A := fun b => F b ∨ b < w.heap.size) v o w1 (hC.mono fun _ => .inl) hw hQ' hV (by rw [← hC.lenq]; exact hzq) han hsz hhd htx).mono fun e w' ⟨s, F1, ⟨h1, h6⟩, h2, h3, h4, h5⟩ => ⟨⟨(s, fun b => F1 b ∧ b < w'.heap.size), fun b => w1.heap.size ≤ b ∧ b < w'.heap.size, ⟨h2, h6⟩, h3, ⟨⟨fun _ h => h.2, h4.lt, fun w3 w4 hk h => h.agree hk⟩, fun f hf => (by cases hf), trivial⟩, fun f hf b hm => ?_, fun f hf b hm => ?_, fun _ h => h⟩, h5⟩
  · obtain rfl := List.mem_singleton.1 hf
    exact hm.elim
  · obtain rfl := List.mem_singleton.1 hf
    have hm' : F1 b ∧ b < w'.heap.size := hm
    rcases h1 b hm'.1 with h | h
    · exact .inr h
    · exact .inl ⟨h, hm'.2⟩
theorem ux (b : BG) (w w1 : World) {M : List Ent} (hm : Mem w w1 M) (hB : Rws (fun _ => True) w 6 bC b.x b.l) (hl : b.l.length ≤ 1048576) : Calls Tryz.prog 6 #[.slice b.x b.l.length b.xc, .agg #[.int .i64 b.ra, .int .i64 b.rb, .int .i64 b.rc, .int .i64 b.rk], .agg #[.int .i64 b.tk, .int .i64 b.mo, .int .i64 b.gn]] w1 fun e w' => ∃ s : CV, ∃ F : Nat → Prop, (s.c = (nT b).1 ∧ eE s) ∧ e = .returned (.tuple ⟨[.agg ⟨CC s⟩, .int .i64 (nT b).2]⟩) ∧ Mem w w' (.rep F (fun w => COk F w s) :: M) := by
  refine (uo (A := fun b => True ∧ b < w.heap.size) b.x b.l b.xc b.ra b.rb b.rc b.rk b.tk b.mo b.gn w1 ((hB.lt).below hm.below) (by omega)).mono fun e w2 ⟨v', h1, h3, h4, h5⟩ => ⟨v', _, ⟨h1, h5⟩, h3, Mem.out hm (A := fun b => True ∧ b < w.heap.size) (fun b hb f hf => cE hm hb.2 hf) h4.2 (fun F w => COk F w v') h4.1.lt (fun F w3 w4 hk h => h.agree hk)⟩
end Go.Proofs.YtmdkfbmpenohiaaGreatDoor.Y
namespace Go.Proofs.YtmdkfbmpenohiaaGreatDoor.Y
open Go.RowKit
theorem xL {ra : Int} {bs : List BV} {q : QR} (h : VQ ra bs q) : nO ra bs q = true := by
  have e1 : wL q = false := by
    have hp : iP q.sh q.mg.length = true := by
      cases hpp : iP q.sh q.mg.length with
      | true => rfl
      | false =>
        rcases (qy _ _).1 hpp with h1 | h1
        · unfold c2 at h1
          rw [if_pos h.sh] at h1
          split at h1 <;> cases h1
        · rw [h.pm] at h1; cases h1
    unfold wL
    rw [h.hd, hp, h.lg, h.la, show si q.sh q.an.length = true from h.ans]; rfl
  have e2 : xY ra q = false := by
    have h1 := h.att
    have h2 := h.st
    have h3 := h.nx
    unfold xY
    simp
    omega
  have e3 : wM bs q = false := by
    unfold wM
    rw [cI]
    by_cases hb : q.bk.size = 0
    · rw [h.idle hb]; simp [hb]
    · obtain ⟨hn, ha, hd⟩ := h.busy hb
      obtain ⟨i, hi⟩ := j4 (k := 0) hn
      rw [hi, hd]
      simp [hb]
      omega
  unfold nO
  rw [e1, e2, e3]
  cases hdn : q.dn with
  | true => simp [h.over hdn]
  | false =>
    obtain ⟨hc, ht⟩ := h.yet hdn
    have e4 : wN ra q = false := by
      unfold wN
      rw [cI]
      by_cases hb : q.bk.size = 0
      · obtain ⟨a1, a2⟩ := h.rest hdn hb
        have e41 : decide ((q.an.length : Int) > 0) = false := decide_eq_false (by omega)
        have e42 : decide (q.att ≥ ra) = false := decide_eq_false (by omega)
        rw [e41, e42]
        simp
      · simp [hb]
    have e5 : xZ q = true := by
      unfold xZ
      rw [cI, hc]
      simp [ht]
    simp [e4, e5]
theorem rq {c : CL} : ∀ (l : List QR) (p : Option Int), (∀ q ∈ l, 1 ≤ q.id ∧ q.id < c.nx) → l.Pairwise (fun a b => a.id < b.id) → (∀ q ∈ l, VQ c.ra c.bs q) → (∀ x, p = some x → ∀ q ∈ l, x < q.id) → vcGo c p l = true
  | [], _, _, _, _, _ => by rw [vcGo.eq_def]
  | q :: r, p, h1, h2, h3, h4 => by
    have hq := h1 q (List.mem_cons_self ..)
    have hr := List.pairwise_cons.1 h2
    have hv := xL (h3 q (List.mem_cons_self ..))
    have d1 : decide (q.id < 1) = false := decide_eq_false (by omega)
    have d2 : decide (q.id ≥ c.nx) = false := decide_eq_false (by omega)
    have hy : vcGo c p (q :: r) = vcGo c (some q.id) r := by
      cases p with
      | none => exact ii (by rw [hv, d1, d2]; rfl)
      | some x =>
        have := h4 x rfl q (List.mem_cons_self ..)
        have d3 : decide (x ≥ q.id) = false := decide_eq_false (by omega)
        exact ii (by dsimp only; rw [hv, d1, d2, d3]; rfl)
    rw [hy]
    exact rq r (some q.id) (fun x hx => h1 x (List.mem_cons_of_mem _ hx)) hr.2 (fun x hx => h3 x (List.mem_cons_of_mem _ hx)) (fun y hy x hx => by obtain rfl := Option.some.inj hy; exact hr.1 x hx)
theorem xM {c : CL} (h : VC c) : sE c = true := by
  have e1 : wO c = false := by
    have hb : ¬ c.bs.length = 0 := fun h9 => h.bl (List.eq_nil_of_length_eq_zero h9)
    unfold wO
    rw [h.cb, h.re, h.bu]
    simp
    exact h.bl
  have e2 : wP c = false := by
    have h1 := h.nx
    have h2 := h.ac
    unfold wP
    simp
    omega
  unfold sE
  rw [e1, e2]
  exact rq c.qs none h.lo h.ord h.qs (fun x hx => by cases hx)
theorem xN (b : BG) : (nT b).1.bs.length ≤ b.l.length ∧ (nT b).1.qs = [] := by
  unfold nT dQ
  repeat' split
  all_goals exact ⟨by first | exact Nat.zero_le _ | exact Nat.le_refl _, rfl⟩
end Go.Proofs.YtmdkfbmpenohiaaGreatDoor.Y
namespace Go.Proofs.YtmdkfbmpenohiaaGreatDoor.Y
open Go.RowKit
theorem pu : ∀ (l : List (ByteArray × ByteArray)) (i : Nat) (p : ByteArray), dp i p l = 0 → ∀ m ∈ l, m.1.size < 4294967281 ∧ m.2.size < 4294967281
  | [], _, _, _, m, hm => by cases hm
  | (k, v) :: r, i, p, h, m, hm => by
    rw [dp] at h
    split at h
    · cases h
    rename_i hk
    split at h
    · cases h
    rename_i hv
    split at h
    · cases h
    split at h
    · cases h
    rcases List.mem_cons.1 hm with rfl | hm
    · have hk1 : fL k.data.toList = true := by simpa using hk
      unfold fL at hk1
      simp only [Bool.and_eq_true, decide_eq_true_eq] at hk1
      have h2 : k.data.toList.length = k.size := rfl
      have h1 := hk1.1.2
      exact ⟨by show k.size < _; omega, by show v.size < _; omega⟩
    · exact pu r _ _ h m hm
theorem uy {h : kB} (he : bH h = 0) : dH h := by
  unfold bH at he
  split at he
  · cases he
  rename_i h1
  split at he
  · cases he
  split at he
  · cases he
  have ha : cj h.svc.data.toList = true := by
    cases hf : cj h.svc.data.toList with
    | true => rfl
    | false => exact absurd (.inl hf) h1
  have hb : bn h.mth.data.toList = true := by
    cases hf : bn h.mth.data.toList with
    | true => rfl
    | false => exact absurd (.inr hf) h1
  unfold cj at ha
  unfold bn at hb
  simp only [Bool.and_eq_true, decide_eq_true_eq] at ha hb
  have e1 : h.svc.data.toList.length = h.svc.size := rfl
  have e2 : h.mth.data.toList.length = h.mth.size := rfl
  have h3 := ha.1
  have h4 := hb.1.1.2
  exact ⟨by omega, by omega, pu _ _ _ he⟩
theorem VQ.tx {ra : Int} {bs : List BV} {q : QR} (h : VQ ra bs q) : q.tx.size ≤ 4611686018427387900 := by
  cases hd : q.dn with
  | true =>
    have h1 := h.over hd
    unfold be at h1
    split at h1
    · cases h1
    split at h1
    · cases h1
    split at h1
    · cases h1
    omega
  | false =>
    have := (h.yet hd).2
    omega
theorem uz {A : Nat → Prop} (v : CV) (w : World) (hC : COk A w v) (hV : VC v.c) (hzq : v.c.qs.length ≤ 703687441775) (hz : ∀ q ∈ v.c.qs, eP q) : Calls Tryz.prog 12 #[.agg #[.slice v.b v.c.bs.length v.bc, .int .i64 v.c.ra, .int .i64 v.c.rb, .int .i64 v.c.rc, .int .i64 v.c.rk, .int .i64 v.c.tk, .int .i64 v.c.mo, .int .i64 v.c.gn, .slice v.x v.qv.length v.xc, .int .i64 v.c.nx]] w fun e w' => e = .returned (.bool true) ∧ Below w.heap.size w w' := by
  have h1 := lO v w hC (by have := (gH hV.cb).1; omega) (by rw [← hC.lenq]; exact hzq) (gI hC hz) (fun x hx => uy (hV.qs _ (by rw [hC.eq]; exact List.mem_map_of_mem hx)).hd) (fun x hx => (hV.qs _ (by rw [hC.eq]; exact List.mem_map_of_mem hx)).tx)
  rw [xM hV] at h1
  exact h1
theorem uA {A A2 : Nat → Prop} (v u : CV) (w : World) (hC : COk A w v) (hD : COk A2 w u) (he : v.c = u.c) (hbl : v.c.bs.length ≤ 2513169434916) (hzq : v.c.qs.length ≤ 703687441775) (hz : ∀ q ∈ v.c.qs, eP q) : Calls Tryz.prog 7 #[.agg #[.slice v.b v.c.bs.length v.bc, .int .i64 v.c.ra, .int .i64 v.c.rb, .int .i64 v.c.rc, .int .i64 v.c.rk, .int .i64 v.c.tk, .int .i64 v.c.mo, .int .i64 v.c.gn, .slice v.x v.qv.length v.xc, .int .i64 v.c.nx], .agg #[.slice u.b u.c.bs.length u.bc, .int .i64 u.c.ra, .int .i64 u.c.rb, .int .i64 u.c.rc, .int .i64 u.c.rk, .int .i64 u.c.tk, .int .i64 u.c.mo, .int .i64 u.c.gn, .slice u.x u.qv.length u.xc, .int .i64 u.c.nx]] w fun e w' => e = .returned (.bool true) ∧ Below w.heap.size w w' := ss v u w hC hD he hbl (by rw [← hC.lenq]; exact hzq) (gI hC hz)
theorem gK (now mo gn : Int) : ∀ (l : List QR) (bs : List BV) (tk : Int), (∀ q ∈ l, eP q) → (∀ q ∈ (bB now mo gn l bs tk).out, eP q) ∧ (bB now mo gn l bs tk).out.length ≤ l.length
  | [], _, _, _ => ⟨fun q hq => (by cases hq), Nat.le_refl _⟩
  | q :: r, bs, tk, h => by
    cases hp : (if fG now q = true then cK now bs else none) with
    | none =>
      rw [gG hp]
      have ih := gK now mo gn r bs tk (fun x hx => h x (List.mem_cons_of_mem _ hx))
      exact ⟨ih.1, Nat.le_succ_of_le ih.2⟩
    | some k =>
      rw [fR hp]
      have ih := gK now mo gn r (bR cG bs k) (if q.att + 1 = 1 then dt tk mo gn else tk) (fun x hx => h x (List.mem_cons_of_mem _ hx))
      refine ⟨fun x hx => ?_, Nat.succ_le_succ ih.2⟩
      rcases List.mem_cons.1 hx with rfl | hx
      · exact h q (List.mem_cons_self ..)
      · exact ih.1 x hx
theorem kj (now : Int) : ∀ (n i : Nat) (c : CL), (eb now n i c).2.length ≤ n
  | 0, _, _ => Nat.le_refl _
  | n + 1, i, c => by
    rw [eb]
    dsimp only
    split
    · exact Nat.succ_le_succ (kj now n (i + 1) _)
    · exact Nat.le_succ_of_le (kj now n (i + 1) c)
theorem pw {c : CL} (o : y4) (hz : ∀ q ∈ c.qs, eP q) : (∀ q ∈ (aX c o).2.qs, eP q) ∧ (aX c o).2.qs.length ≤ c.qs.length ∧ (aX c o).2.ids.length ≤ c.qs.length := by
  unfold aX
  repeat' split
  all_goals first
    | exact ⟨(gK _ _ _ _ _ _ hz).1, (gK _ _ _ _ _ _ hz).2, Nat.zero_le _⟩
    | exact ⟨fun q hq => (by cases hq), Nat.zero_le _, kj _ _ _ _⟩
    | exact ⟨fun q hq => (by cases hq), Nat.zero_le _, Nat.zero_le _⟩
end Go.Proofs.YtmdkfbmpenohiaaGreatDoor.Y
