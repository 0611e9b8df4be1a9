/- Clients in memory. slices.Clone at the four types. -/
import Derived.Test.YtmdkfbmpenohiaaDoorCliD
import Derived.Test.YtmdkfbmpenohiaaDoorClone
import Derived.Test.YtmdkfbmpenohiaaDoorRep
namespace Go.Proofs.YtmdkfbmpenohiaaDoor.Y
open Go.RowKit
def sC (s : ByteArray) : List Value := [.string s]
def mC (m : ByteArray × ByteArray) : List Value := [.string m.1, .string m.2]
def bC (b : BV) : List Value := [.string b.nm, .int .i64 b.ld, .int .i64 b.bs, .int .i64 b.wt, .int .i64 b.fl, .int .i64 b.ot]
/-- a call in memory. -/
structure QV where
  q : QR
  m : Option Addr
  mc : Nat
  s : Option Addr
  sc : Nat
  a : Option Addr
  ac : Nat
def QC (v : QV) : List Value := [.int .i64 v.q.id, .string v.q.sv, .string v.q.mt, .int .i64 v.q.late, .slice v.m v.q.ms.length v.mc, .int .i64 v.q.sh, .slice v.s v.q.mg.length v.sc, .int .i64 v.q.att, .string v.q.bk, .int .i64 v.q.st, .int .i64 v.q.nx, .slice v.a v.q.an.length v.ac, .bool v.q.dn, .int .i64 v.q.cd, .string v.q.tx]
theorem sC_len (a : ByteArray) : (sC a).length = 1 := rfl
theorem mC_len (a : ByteArray × ByteArray) : (mC a).length = 2 := rfl
theorem bC_len (a : BV) : (bC a).length = 6 := rfl
theorem QC_len (a : QV) : (QC a).length = 15 := rfl
def QOk (A : Nat → Prop) (w : World) (v : QV) : Prop := Rws A w 2 mC v.m v.q.ms ∧ Rws A w 1 sC v.s v.q.mg ∧ Rws A w 1 sC v.a v.q.an
def SzQ (q : QR) : Prop := q.ms.length ≤ 4398046511104 ∧ q.mg.length ≤ 8796093022208 ∧ q.an.length ≤ 8796093022208
/-- a client in memory. -/
structure CV where
  c : CL
  b : Option Addr
  bc : Nat
  x : Option Addr
  xc : Nat
  qv : List QV
def CC (v : CV) : List Value := [.slice v.b v.c.bs.length v.bc, .int .i64 v.c.ra, .int .i64 v.c.rb, .int .i64 v.c.rc, .int .i64 v.c.rk, .int .i64 v.c.tk, .int .i64 v.c.mo, .int .i64 v.c.gn, .slice v.x v.qv.length v.xc, .int .i64 v.c.nx]
structure COk (A : Nat → Prop) (w : World) (v : CV) : Prop where
  bk : Rws A w 6 bC v.b v.c.bs
  qs : Rws A w 15 QC v.x v.qv
  eq : v.c.qs = v.qv.map (·.q)
  ok : ∀ q ∈ v.qv, QOk A w q
structure SzC (c : CL) : Prop where
  bk : c.bs.length ≤ 2513169434916
  qs : c.qs.length ≤ 703687441776
  ok : ∀ q ∈ c.qs, SzQ q
section
variable {A : Nat → Prop} {w w' : World}
theorem QOk.keep {v : QV} (h : QOk A w v) (hs : w.heap.size ≤ w'.heap.size) (hk : ∀ b, A b → b < w.heap.size → w'.heap[b]? = w.heap[b]?) : QOk A w' v := ⟨h.1.keep hs hk, h.2.1.keep hs hk, h.2.2.keep hs hk⟩
theorem QOk.below {v : QV} (h : QOk A w v) (hb : Below w.heap.size w w') : QOk A w' v := ⟨h.1.below hb, h.2.1.below hb, h.2.2.below hb⟩
theorem QOk.mono {A' : Nat → Prop} {v : QV} (h : QOk A w v) (hA : ∀ b, A b → A' b) : QOk A' w v := ⟨h.1.mono hA, h.2.1.mono hA, h.2.2.mono hA⟩
theorem COk.keep {v : CV} (h : COk A w v) (hs : w.heap.size ≤ w'.heap.size) (hk : ∀ b, A b → b < w.heap.size → w'.heap[b]? = w.heap[b]?) : COk A w' v := ⟨h.bk.keep hs hk, h.qs.keep hs hk, h.eq, fun q hq => (h.ok q hq).keep hs hk⟩
theorem COk.below {v : CV} (h : COk A w v) (hb : Below w.heap.size w w') : COk A w' v := ⟨h.bk.below hb, h.qs.below hb, h.eq, fun q hq => (h.ok q hq).below hb⟩
theorem COk.mono {A' : Nat → Prop} {v : CV} (h : COk A w v) (hA : ∀ b, A b → A' b) : COk A' w v := ⟨h.bk.mono hA, h.qs.mono hA, h.eq, fun q hq => (h.ok q hq).mono hA⟩
theorem COk.lenq {v : CV} (h : COk A w v) : v.c.qs.length = v.qv.length := by rw [h.eq, List.length_map]
end
theorem byBack : ByteOf Tryd.prog 66 56 := by unfold ByteOf; kernel_rfl
set_option maxRecDepth 100000 in
set_option maxHeartbeats 4000000 in
theorem cloneBack_any (x : Option Addr) (n c : Nat) (cs : List Value) (w : World) (hx : x = none → n = 0) (hin : ∀ ad, x = some ad → ∀ j u, cs[j]? = some u → w.cell? (ad.add j) = some u) (hlen : cs.length = n * 6) (hone : ∀ u ∈ cs, u.oneCell' = true) (hb : n * 56 ≤ 140737488355328) : Calls Tryd.prog 29 #[.slice x n c] w fun e w' => ∃ p : Option Addr × Nat, e = .returned (.slice p.1 n p.2) ∧ w'.ownsRow w.heap.size 66 6 (.slice p.1 n p.2) n cs ∧ Below w.heap.size w w' := by
  refine sx_enter Tryd.func29 rfl Tryd.ntmps29 rfl rfl ?_
  cases x with
  | none =>
    obtain rfl := hx rfl
    obtain rfl : cs = [] := List.eq_nil_of_length_eq_zero (by omega)
    repeat' (first | refine sc_seq ?_ | refine sc_region ?_ | refine sq_then ?_ | refine sx_nil ?_ | ((refine' sx_v rfl ?_ rfl rfl ?_); rotate_left; first | exact vo_un tok rfl rfl rfl rfl | exact vo_bin tok rfl rfl rfl rfl rfl rfl))
    refine sc_true rfl rfl ?_
    repeat' (first | refine sc_seq ?_ | refine sc_region ?_ | refine sq_then ?_ | refine sc_ret ?_ | refine sq_pass_ret ?_ | refine sx_nil ?_ | ((refine' sx_v rfl ?_ rfl rfl ?_); rotate_left; exact vo_un tok rfl rfl rfl rfl))
    refine sq_ret tok (fun _ => 0) rfl rfl trivial rfl fun w1 hm => ⟨(none, 0), rfl, World.ownsRow_nil _ _ _ _, hm.below⟩
  | some ad =>
    repeat' (first | refine sc_seq ?_ | refine sc_region ?_ | refine sq_then ?_ | refine sx_nil ?_ | ((refine' sx_v rfl ?_ rfl rfl ?_); rotate_left; first | exact vo_un tok rfl rfl rfl rfl | exact vo_bin tok rfl rfl rfl rfl rfl rfl))
    refine sc_false rfl rfl ?_
    repeat' (first | refine sc_seq ?_ | refine sc_region ?_ | refine sq_then ?_ | refine sc_skip ?_ | (refine sx_bslice tok rfl rfl rfl trivial rfl rfl rfl rfl rfl rfl rfl rfl ?_; intro g) | ((refine' sx_v rfl ?_ rfl rfl ?_); rotate_left; exact vo_un tok rfl rfl rfl rfl))
    refine sl_clown 0 6 rfl (Nat.zero_le _) ?_
    skip
    refine sx_app tok 0 rfl rfl rfl rfl rfl rfl rfl rfl (fun _ _ => rfl) byBack (fun w1 hm j u hu => ?_) (.inr hone) hlen (by unfold maxLen; omega) (by omega) rfl rfl ?_
    · have h1 := hin ad rfl j u hu
      exact (hm.below.cell (block_lt_of_cell h1)).trans h1
    intro sa sc
    repeat' (first | refine sq_then ?_ | refine sc_ret ?_ | refine sx_nil ?_ | ((refine' sx_v rfl ?_ rfl rfl ?_); rotate_left; exact vo_un tok rfl rfl rfl rfl))
    refine sq_ret tok (fun _ => 0) rfl rfl trivial rfl fun w1 hm => ⟨(sa, sc), by rw [Nat.zero_add], ?_, hm.below⟩
    have h1 := hm.2.get (i := 0) rfl
    rw [Nat.zero_add, List.nil_append] at h1
    exact h1
theorem byReq : ByteOf Tryd.prog 37 200 := by unfold ByteOf; kernel_rfl
set_option maxRecDepth 100000 in
set_option maxHeartbeats 4000000 in
theorem cloneReq_any (x : Option Addr) (n c : Nat) (cs : List Value) (w : World) (hx : x = none → n = 0) (hin : ∀ ad, x = some ad → ∀ j u, cs[j]? = some u → w.cell? (ad.add j) = some u) (hlen : cs.length = n * 15) (hone : ∀ u ∈ cs, u.oneCell' = true) (hb : n * 200 ≤ 140737488355328) : Calls Tryd.prog 51 #[.slice x n c] w fun e w' => ∃ p : Option Addr × Nat, e = .returned (.slice p.1 n p.2) ∧ w'.ownsRow w.heap.size 37 15 (.slice p.1 n p.2) n cs ∧ Below w.heap.size w w' := by
  refine sx_enter Tryd.func51 rfl Tryd.ntmps51 rfl rfl ?_
  cases x with
  | none =>
    obtain rfl := hx rfl
    obtain rfl : cs = [] := List.eq_nil_of_length_eq_zero (by omega)
    repeat' (first | refine sc_seq ?_ | refine sc_region ?_ | refine sq_then ?_ | refine sx_nil ?_ | ((refine' sx_v rfl ?_ rfl rfl ?_); rotate_left; first | exact vo_un tok rfl rfl rfl rfl | exact vo_bin tok rfl rfl rfl rfl rfl rfl))
    refine sc_true rfl rfl ?_
    repeat' (first | refine sc_seq ?_ | refine sc_region ?_ | refine sq_then ?_ | refine sc_ret ?_ | refine sq_pass_ret ?_ | refine sx_nil ?_ | ((refine' sx_v rfl ?_ rfl rfl ?_); rotate_left; exact vo_un tok rfl rfl rfl rfl))
    refine sq_ret tok (fun _ => 0) rfl rfl trivial rfl fun w1 hm => ⟨(none, 0), rfl, World.ownsRow_nil _ _ _ _, hm.below⟩
  | some ad =>
    repeat' (first | refine sc_seq ?_ | refine sc_region ?_ | refine sq_then ?_ | refine sx_nil ?_ | ((refine' sx_v rfl ?_ rfl rfl ?_); rotate_left; first | exact vo_un tok rfl rfl rfl rfl | exact vo_bin tok rfl rfl rfl rfl rfl rfl))
    refine sc_false rfl rfl ?_
    repeat' (first | refine sc_seq ?_ | refine sc_region ?_ | refine sq_then ?_ | refine sc_skip ?_ | (refine sx_bslice tok rfl rfl rfl trivial rfl rfl rfl rfl rfl rfl rfl rfl ?_; intro g) | ((refine' sx_v rfl ?_ rfl rfl ?_); rotate_left; exact vo_un tok rfl rfl rfl rfl))
    refine sl_clown 0 15 rfl (Nat.zero_le _) ?_
    skip
    refine sx_app tok 0 rfl rfl rfl rfl rfl rfl rfl rfl (fun _ _ => rfl) byReq (fun w1 hm j u hu => ?_) (.inr hone) hlen (by unfold maxLen; omega) (by omega) rfl rfl ?_
    · have h1 := hin ad rfl j u hu
      exact (hm.below.cell (block_lt_of_cell h1)).trans h1
    intro sa sc
    repeat' (first | refine sq_then ?_ | refine sc_ret ?_ | refine sx_nil ?_ | ((refine' sx_v rfl ?_ rfl rfl ?_); rotate_left; exact vo_un tok rfl rfl rfl rfl))
    refine sq_ret tok (fun _ => 0) rfl rfl trivial rfl fun w1 hm => ⟨(sa, sc), by rw [Nat.zero_add], ?_, hm.below⟩
    have h1 := hm.2.get (i := 0) rfl
    rw [Nat.zero_add, List.nil_append] at h1
    exact h1
theorem oneStr (l : List (ByteArray)) : ∀ u ∈ l.flatMap sC, u.oneCell' = true := by
  intro u hu
  obtain ⟨a, _, hu⟩ := List.mem_flatMap.1 hu
  simp only [sC, List.mem_cons, List.not_mem_nil, or_false] at hu
  (repeat' (rcases hu with hu | hu)) <;> rfl
theorem cloneStrR {A : Nat → Prop} (x : Option Addr) (l : List (ByteArray)) (c : Nat) (w : World) (h : Rws A w 1 sC x l) (hb : l.length * 16 ≤ 140737488355328) : Calls Tryd.prog 45 #[.slice x l.length c] w fun e w' => ∃ p : Option Addr × Nat, True ∧ e = .returned (.slice p.1 l.length p.2) ∧ Made w w' [.own p.1 p.2 9 1 l.length (l.flatMap sC)] := by
  refine (cloneStr_any x l.length c (l.flatMap sC) w (fun hx => ?_) (fun ad hx j u hu => ?_) (flat_len sC_len l) (oneStr l) hb).mono fun e w' ⟨p, h1, h2, h3⟩ => ⟨p, trivial, h1, Made.one h2 h3⟩
  · by_cases h0 : 0 < l.length
    · obtain ⟨b, off, h1, _⟩ := h h0
      rw [hx] at h1; cases h1
    · omega
  · have hj := (List.getElem?_eq_some_iff.1 hu).1
    rw [flat_len sC_len l] at hj
    have h0 : 0 < l.length := by omega
    obtain ⟨b, off, h1, _, _, h4⟩ := h h0
    rw [hx] at h1
    obtain rfl := (by simpa using h1 : ad = _)
    have hjl : j / 1 < l.length := by omega
    have hk := h4 (j / 1) _ (List.getElem?_eq_getElem hjl)
    have hmod : j % 1 < (sC l[j / 1]).length := by rw [sC_len]; omega
    have h5 := hk (j % 1) _ (List.getElem?_eq_getElem hmod)
    have h6 := flat_get sC_len (List.getElem?_eq_getElem hjl) (List.getElem?_eq_getElem hmod)
    have e1 : j / 1 * 1 + j % 1 = j := by omega
    rw [e1, hu] at h6
    rw [Option.some.inj h6, Addr.add_mid, show off + j = off + j / 1 * 1 + j % 1 by omega]
    exact h5
theorem oneMeta (l : List (ByteArray × ByteArray)) : ∀ u ∈ l.flatMap mC, u.oneCell' = true := by
  intro u hu
  obtain ⟨a, _, hu⟩ := List.mem_flatMap.1 hu
  simp only [mC, List.mem_cons, List.not_mem_nil, or_false] at hu
  (repeat' (rcases hu with hu | hu)) <;> rfl
theorem cloneMetaR {A : Nat → Prop} (x : Option Addr) (l : List (ByteArray × ByteArray)) (c : Nat) (w : World) (h : Rws A w 2 mC x l) (hb : l.length * 32 ≤ 140737488355328) : Calls Tryd.prog 44 #[.slice x l.length c] w fun e w' => ∃ p : Option Addr × Nat, True ∧ e = .returned (.slice p.1 l.length p.2) ∧ Made w w' [.own p.1 p.2 98 2 l.length (l.flatMap mC)] := by
  refine (cloneMeta_any x l.length c (l.flatMap mC) w (fun hx => ?_) (fun ad hx j u hu => ?_) (flat_len mC_len l) (oneMeta l) hb).mono fun e w' ⟨p, h1, h2, h3⟩ => ⟨p, trivial, h1, Made.one h2 h3⟩
  · by_cases h0 : 0 < l.length
    · obtain ⟨b, off, h1, _⟩ := h h0
      rw [hx] at h1; cases h1
    · omega
  · have hj := (List.getElem?_eq_some_iff.1 hu).1
    rw [flat_len mC_len l] at hj
    have h0 : 0 < l.length := by omega
    obtain ⟨b, off, h1, _, _, h4⟩ := h h0
    rw [hx] at h1
    obtain rfl := (by simpa using h1 : ad = _)
    have hjl : j / 2 < l.length := by omega
    have hk := h4 (j / 2) _ (List.getElem?_eq_getElem hjl)
    have hmod : j % 2 < (mC l[j / 2]).length := by rw [mC_len]; omega
    have h5 := hk (j % 2) _ (List.getElem?_eq_getElem hmod)
    have h6 := flat_get mC_len (List.getElem?_eq_getElem hjl) (List.getElem?_eq_getElem hmod)
    have e1 : j / 2 * 2 + j % 2 = j := by omega
    rw [e1, hu] at h6
    rw [Option.some.inj h6, Addr.add_mid, show off + j = off + j / 2 * 2 + j % 2 by omega]
    exact h5
theorem oneBack (l : List (BV)) : ∀ u ∈ l.flatMap bC, u.oneCell' = true := by
  intro u hu
  obtain ⟨a, _, hu⟩ := List.mem_flatMap.1 hu
  simp only [bC, List.mem_cons, List.not_mem_nil, or_false] at hu
  (repeat' (rcases hu with hu | hu)) <;> rfl
theorem cloneBackR {A : Nat → Prop} (x : Option Addr) (l : List (BV)) (c : Nat) (w : World) (h : Rws A w 6 bC x l) (hb : l.length * 56 ≤ 140737488355328) : Calls Tryd.prog 29 #[.slice x l.length c] w fun e w' => ∃ p : Option Addr × Nat, True ∧ e = .returned (.slice p.1 l.length p.2) ∧ Made w w' [.own p.1 p.2 66 6 l.length (l.flatMap bC)] := by
  refine (cloneBack_any x l.length c (l.flatMap bC) w (fun hx => ?_) (fun ad hx j u hu => ?_) (flat_len bC_len l) (oneBack l) hb).mono fun e w' ⟨p, h1, h2, h3⟩ => ⟨p, trivial, h1, Made.one h2 h3⟩
  · by_cases h0 : 0 < l.length
    · obtain ⟨b, off, h1, _⟩ := h h0
      rw [hx] at h1; cases h1
    · omega
  · have hj := (List.getElem?_eq_some_iff.1 hu).1
    rw [flat_len bC_len l] at hj
    have h0 : 0 < l.length := by omega
    obtain ⟨b, off, h1, _, _, h4⟩ := h h0
    rw [hx] at h1
    obtain rfl := (by simpa using h1 : ad = _)
    have hjl : j / 6 < l.length := by omega
    have hk := h4 (j / 6) _ (List.getElem?_eq_getElem hjl)
    have hmod : j % 6 < (bC l[j / 6]).length := by rw [bC_len]; omega
    have h5 := hk (j % 6) _ (List.getElem?_eq_getElem hmod)
    have h6 := flat_get bC_len (List.getElem?_eq_getElem hjl) (List.getElem?_eq_getElem hmod)
    have e1 : j / 6 * 6 + j % 6 = j := by omega
    rw [e1, hu] at h6
    rw [Option.some.inj h6, Addr.add_mid, show off + j = off + j / 6 * 6 + j % 6 by omega]
    exact h5
theorem oneReq (l : List (QV)) : ∀ u ∈ l.flatMap QC, u.oneCell' = true := by
  intro u hu
  obtain ⟨a, _, hu⟩ := List.mem_flatMap.1 hu
  simp only [QC, List.mem_cons, List.not_mem_nil, or_false] at hu
  (repeat' (rcases hu with hu | hu)) <;> rfl
theorem cloneReqR {A : Nat → Prop} (x : Option Addr) (l : List (QV)) (c : Nat) (w : World) (h : Rws A w 15 QC x l) (hb : l.length * 200 ≤ 140737488355328) : Calls Tryd.prog 51 #[.slice x l.length c] w fun e w' => ∃ p : Option Addr × Nat, True ∧ e = .returned (.slice p.1 l.length p.2) ∧ Made w w' [.own p.1 p.2 37 15 l.length (l.flatMap QC)] := by
  refine (cloneReq_any x l.length c (l.flatMap QC) w (fun hx => ?_) (fun ad hx j u hu => ?_) (flat_len QC_len l) (oneReq l) hb).mono fun e w' ⟨p, h1, h2, h3⟩ => ⟨p, trivial, h1, Made.one h2 h3⟩
  · by_cases h0 : 0 < l.length
    · obtain ⟨b, off, h1, _⟩ := h h0
      rw [hx] at h1; cases h1
    · omega
  · have hj := (List.getElem?_eq_some_iff.1 hu).1
    rw [flat_len QC_len l] at hj
    have h0 : 0 < l.length := by omega
    obtain ⟨b, off, h1, _, _, h4⟩ := h h0
    rw [hx] at h1
    obtain rfl := (by simpa using h1 : ad = _)
    have hjl : j / 15 < l.length := by omega
    have hk := h4 (j / 15) _ (List.getElem?_eq_getElem hjl)
    have hmod : j % 15 < (QC l[j / 15]).length := by rw [QC_len]; omega
    have h5 := hk (j % 15) _ (List.getElem?_eq_getElem hmod)
    have h6 := flat_get QC_len (List.getElem?_eq_getElem hjl) (List.getElem?_eq_getElem hmod)
    have e1 : j / 15 * 15 + j % 15 = j := by omega
    rw [e1, hu] at h6
    rw [Option.some.inj h6, Addr.add_mid, show off + j = off + j / 15 * 15 + j % 15 by omega]
    exact h5
end Go.Proofs.YtmdkfbmpenohiaaDoor.Y
