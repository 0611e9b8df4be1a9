/- Texts of this claim merged into one: CliR, Pol. -/
import Derived.Test.YtmdkfbmpenohiaaGreatDoorBunD
import Derived.Test.YtmdkfbmpenohiaaGreatDoorBunE
import Derived.Laws.BitsLemmas
import Derived.IntWalk
namespace Go.Proofs.YtmdkfbmpenohiaaGreatDoor.Y
open Go.RowKit
def sC (s : ByteArray) : List Value := [.string s]
def mC (m : ByteArray × ByteArray) : List Value := [.string m.1, .string m.2]
def bC (b : BV) : List Value := [.string b.nm, .int .i64 b.ld, .int .i64 b.bs, .int .i64 b.wt, .int .i64 b.fl, .int .i64 b.ot]
structure QV where
  q : QR
  m : Option Addr
  mc : Nat
  s : Option Addr
  sc : Nat
  a : Option Addr
  ac : Nat
def QC (v : QV) : List Value := [.int .i64 v.q.id, .string v.q.sv, .string v.q.mt, .int .i64 v.q.late, .slice v.m v.q.ms.length v.mc, .int .i64 v.q.sh, .slice v.s v.q.mg.length v.sc, .int .i64 v.q.att, .string v.q.bk, .int .i64 v.q.st, .int .i64 v.q.nx, .slice v.a v.q.an.length v.ac, .bool v.q.dn, .int .i64 v.q.cd, .string v.q.tx]
theorem eC (a : ByteArray) : (sC a).length = 1 := rfl
theorem jV (a : ByteArray × ByteArray) : (mC a).length = 2 := rfl
theorem cr (a : BV) : (bC a).length = 6 := rfl
theorem bj (a : QV) : (QC a).length = 15 := rfl
def QOk (A : Nat → Prop) (w : World) (v : QV) : Prop := Rws A w 2 mC v.m v.q.ms ∧ Rws A w 1 sC v.s v.q.mg ∧ Rws A w 1 sC v.a v.q.an
def eP (q : QR) : Prop := q.ms.length ≤ 4398046511104 ∧ q.mg.length ≤ 8796093022208 ∧ q.an.length ≤ 8796093022208
structure CV where
  c : CL
  b : Option Addr
  bc : Nat
  x : Option Addr
  xc : Nat
  qv : List QV
def CC (v : CV) : List Value := [.slice v.b v.c.bs.length v.bc, .int .i64 v.c.ra, .int .i64 v.c.rb, .int .i64 v.c.rc, .int .i64 v.c.rk, .int .i64 v.c.tk, .int .i64 v.c.mo, .int .i64 v.c.gn, .slice v.x v.qv.length v.xc, .int .i64 v.c.nx]
structure COk (A : Nat → Prop) (w : World) (v : CV) : Prop where
  bk : Rws A w 6 bC v.b v.c.bs
  qs : Rws A w 15 QC v.x v.qv
  eq : v.c.qs = v.qv.map (·.q)
  ok : ∀ q ∈ v.qv, QOk A w q
structure Am (c : CL) : Prop where
  bk : c.bs.length ≤ 2513169434916
  qs : c.qs.length ≤ 703687441776
  ok : ∀ q ∈ c.qs, eP q
section
variable {A : Nat → Prop} {w w' : World}
theorem QOk.keep {v : QV} (h : QOk A w v) (hs : w.heap.size ≤ w'.heap.size) (hk : ∀ b, A b → b < w.heap.size → w'.heap[b]? = w.heap[b]?) : QOk A w' v := ⟨h.1.keep hs hk, h.2.1.keep hs hk, h.2.2.keep hs hk⟩
theorem QOk.below {v : QV} (h : QOk A w v) (hb : Below w.heap.size w w') : QOk A w' v := ⟨h.1.below hb, h.2.1.below hb, h.2.2.below hb⟩
theorem QOk.mono {A' : Nat → Prop} {v : QV} (h : QOk A w v) (hA : ∀ b, A b → A' b) : QOk A' w v := ⟨h.1.mono hA, h.2.1.mono hA, h.2.2.mono hA⟩
theorem COk.keep {v : CV} (h : COk A w v) (hs : w.heap.size ≤ w'.heap.size) (hk : ∀ b, A b → b < w.heap.size → w'.heap[b]? = w.heap[b]?) : COk A w' v := ⟨h.bk.keep hs hk, h.qs.keep hs hk, h.eq, fun q hq => (h.ok q hq).keep hs hk⟩
theorem COk.below {v : CV} (h : COk A w v) (hb : Below w.heap.size w w') : COk A w' v := ⟨h.bk.below hb, h.qs.below hb, h.eq, fun q hq => (h.ok q hq).below hb⟩
theorem COk.mono {A' : Nat → Prop} {v : CV} (h : COk A w v) (hA : ∀ b, A b → A' b) : COk A' w v := ⟨h.bk.mono hA, h.qs.mono hA, h.eq, fun q hq => (h.ok q hq).mono hA⟩
theorem COk.lenq {v : CV} (h : COk A w v) : v.c.qs.length = v.qv.length := by rw [h.eq, List.length_map]
end
theorem pU : ez Tryz.prog 64 56 := by unfold ez; kernel_rfl
set_option maxRecDepth 100000 in
set_option maxHeartbeats 4000000 in
theorem lY (x : Option Addr) (n c : Nat) (cs : List Value) (w : World) (hx : x = none → n = 0) (hin : ∀ ad, x = some ad → ∀ j u, cs[j]? = some u → w.cell? (ad.add j) = some u) (hlen : cs.length = n * 6) (hone : ∀ u ∈ cs, u.oneCell' = true) (hb : n * 56 ≤ 140737488355328) : Calls Tryz.prog 19 #[.slice x n c] w fun e w' => ∃ p : Option Addr × Nat, e = .returned (.slice p.1 n p.2) ∧ w'.ownsRow w.heap.size 64 6 (.slice p.1 n p.2) n cs ∧ Below w.heap.size w w' := by
  refine aD Tryz.func19 rfl Tryz.ntmps19 J J ?_
  cases x with
  | none =>
    obtain rfl := hx rfl
    obtain rfl : cs = [] := List.eq_nil_of_length_eq_zero (by omega)
    repeat' (first | refine ag ?_ | refine aa ?_ | refine ab ?_ | refine ae ?_ | ((refine' ak rfl ?_ J J ?_); rotate_left; first | exact ai af J J J J | exact aq af J J J J J J))
    refine aw J J ?_
    repeat' (first | refine ag ?_ | refine aa ?_ | refine ab ?_ | refine aA ?_ | refine ar ?_ | refine ae ?_ | ((refine' ak rfl ?_ J J ?_); rotate_left; exact ai af J J J J))
    refine aB af (fun _ => 0) J J trivial rfl fun w1 hm => ⟨(none, 0), rfl, World.ownsRow_nil _ _ _ _, hm.below⟩
  | some ad =>
    repeat' (first | refine ag ?_ | refine aa ?_ | refine ab ?_ | refine ae ?_ | ((refine' ak rfl ?_ J J ?_); rotate_left; first | exact ai af J J J J | exact aq af J J J J J J))
    refine am J J ?_
    repeat' (first | refine ag ?_ | refine aa ?_ | refine ab ?_ | refine au ?_ | (refine bq af J J J trivial J J J J J J J J ?_; intro g) | ((refine' ak rfl ?_ J J ?_); rotate_left; exact ai af J J J J))
    refine jo 0 6 rfl (Nat.zero_le _) ?_
    skip
    refine fZ af 0 J J J J J J J J (fun _ _ => rfl) pU (fun w1 hm j u hu => ?_) (.inr hone) hlen (by unfold maxLen; omega) (by omega) J J ?_
    · have h1 := hin ad rfl j u hu
      exact (hm.below.cell (block_lt_of_cell h1)).trans h1
    intro sa sc
    repeat' (first | refine ab ?_ | refine aA ?_ | refine ae ?_ | ((refine' ak rfl ?_ J J ?_); rotate_left; exact ai af J J J J))
    refine aB af (fun _ => 0) J J trivial rfl fun w1 hm => ⟨(sa, sc), by rw [Nat.zero_add], ?_, hm.below⟩
    have h1 := hm.2.get (i := 0) rfl
    rw [Nat.zero_add, List.nil_append] at h1
    exact h1
theorem eR : ez Tryz.prog 50 200 := by unfold ez; kernel_rfl
set_option maxRecDepth 100000 in
set_option maxHeartbeats 4000000 in
theorem nt (x : Option Addr) (n c : Nat) (cs : List Value) (w : World) (hx : x = none → n = 0) (hin : ∀ ad, x = some ad → ∀ j u, cs[j]? = some u → w.cell? (ad.add j) = some u) (hlen : cs.length = n * 15) (hone : ∀ u ∈ cs, u.oneCell' = true) (hb : n * 200 ≤ 140737488355328) : Calls Tryz.prog 82 #[.slice x n c] w fun e w' => ∃ p : Option Addr × Nat, e = .returned (.slice p.1 n p.2) ∧ w'.ownsRow w.heap.size 50 15 (.slice p.1 n p.2) n cs ∧ Below w.heap.size w w' := by
  refine aD Tryz.func82 rfl Tryz.ntmps82 J J ?_
  cases x with
  | none =>
    obtain rfl := hx rfl
    obtain rfl : cs = [] := List.eq_nil_of_length_eq_zero (by omega)
    repeat' (first | refine ag ?_ | refine aa ?_ | refine ab ?_ | refine ae ?_ | ((refine' ak rfl ?_ J J ?_); rotate_left; first | exact ai af J J J J | exact aq af J J J J J J))
    refine aw J J ?_
    repeat' (first | refine ag ?_ | refine aa ?_ | refine ab ?_ | refine aA ?_ | refine ar ?_ | refine ae ?_ | ((refine' ak rfl ?_ J J ?_); rotate_left; exact ai af J J J J))
    refine aB af (fun _ => 0) J J trivial rfl fun w1 hm => ⟨(none, 0), rfl, World.ownsRow_nil _ _ _ _, hm.below⟩
  | some ad =>
    repeat' (first | refine ag ?_ | refine aa ?_ | refine ab ?_ | refine ae ?_ | ((refine' ak rfl ?_ J J ?_); rotate_left; first | exact ai af J J J J | exact aq af J J J J J J))
    refine am J J ?_
    repeat' (first | refine ag ?_ | refine aa ?_ | refine ab ?_ | refine au ?_ | (refine bq af J J J trivial J J J J J J J J ?_; intro g) | ((refine' ak rfl ?_ J J ?_); rotate_left; exact ai af J J J J))
    refine jo 0 15 rfl (Nat.zero_le _) ?_
    skip
    refine fZ af 0 J J J J J J J J (fun _ _ => rfl) eR (fun w1 hm j u hu => ?_) (.inr hone) hlen (by unfold maxLen; omega) (by omega) J J ?_
    · have h1 := hin ad rfl j u hu
      exact (hm.below.cell (block_lt_of_cell h1)).trans h1
    intro sa sc
    repeat' (first | refine ab ?_ | refine aA ?_ | refine ae ?_ | ((refine' ak rfl ?_ J J ?_); rotate_left; exact ai af J J J J))
    refine aB af (fun _ => 0) J J trivial rfl fun w1 hm => ⟨(sa, sc), by rw [Nat.zero_add], ?_, hm.below⟩
    have h1 := hm.2.get (i := 0) rfl
    rw [Nat.zero_add, List.nil_append] at h1
    exact h1
theorem tl (l : List (ByteArray)) : ∀ u ∈ l.flatMap sC, u.oneCell' = true := by
  intro u hu
  obtain ⟨a, _, hu⟩ := List.mem_flatMap.1 hu
  simp only [sC, List.mem_cons, List.not_mem_nil, or_false] at hu
  (repeat' (rcases hu with hu | hu)) <;> rfl
theorem mw {A : Nat → Prop} (x : Option Addr) (l : List (ByteArray)) (c : Nat) (w : World) (h : Rws A w 1 sC x l) (hb : l.length * 16 ≤ 140737488355328) : Calls Tryz.prog 84 #[.slice x l.length c] w fun e w' => ∃ p : Option Addr × Nat, True ∧ e = .returned (.slice p.1 l.length p.2) ∧ Made w w' [.own p.1 p.2 9 1 l.length (l.flatMap sC)] := by
  refine (ns x l.length c (l.flatMap sC) w (fun hx => ?_) (fun ad hx j u hu => ?_) (cH eC l) (tl l) hb).mono fun e w' ⟨p, h1, h2, h3⟩ => ⟨p, trivial, h1, Made.one h2 h3⟩
  · by_cases h0 : 0 < l.length
    · obtain ⟨b, off, h1, _⟩ := h h0
      rw [hx] at h1; cases h1
    · omega
  · have hj := (List.getElem?_eq_some_iff.1 hu).1
    rw [cH eC l] at hj
    have h0 : 0 < l.length := by omega
    obtain ⟨b, off, h1, _, _, h4⟩ := h h0
    rw [hx] at h1
    obtain rfl := (by simpa using h1 : ad = _)
    have hjl : j / 1 < l.length := by omega
    have hk := h4 (j / 1) _ (List.getElem?_eq_getElem hjl)
    have hmod : j % 1 < (sC l[j / 1]).length := by rw [eC]; omega
    have h5 := hk (j % 1) _ (List.getElem?_eq_getElem hmod)
    have h6 := br eC (List.getElem?_eq_getElem hjl) (List.getElem?_eq_getElem hmod)
    have e1 : j / 1 * 1 + j % 1 = j := by omega
    rw [e1, hu] at h6
    rw [Option.some.inj h6, Addr.add_mid, show off + j = off + j / 1 * 1 + j % 1 by omega]
    exact h5
theorem vk (l : List (ByteArray × ByteArray)) : ∀ u ∈ l.flatMap mC, u.oneCell' = true := by
  intro u hu
  obtain ⟨a, _, hu⟩ := List.mem_flatMap.1 hu
  simp only [mC, List.mem_cons, List.not_mem_nil, or_false] at hu
  (repeat' (rcases hu with hu | hu)) <;> rfl
theorem pV {A : Nat → Prop} (x : Option Addr) (l : List (ByteArray × ByteArray)) (c : Nat) (w : World) (h : Rws A w 2 mC x l) (hb : l.length * 32 ≤ 140737488355328) : Calls Tryz.prog 83 #[.slice x l.length c] w fun e w' => ∃ p : Option Addr × Nat, True ∧ e = .returned (.slice p.1 l.length p.2) ∧ Made w w' [.own p.1 p.2 119 2 l.length (l.flatMap mC)] := by
  refine (lW x l.length c (l.flatMap mC) w (fun hx => ?_) (fun ad hx j u hu => ?_) (cH jV l) (vk l) hb).mono fun e w' ⟨p, h1, h2, h3⟩ => ⟨p, trivial, h1, Made.one h2 h3⟩
  · by_cases h0 : 0 < l.length
    · obtain ⟨b, off, h1, _⟩ := h h0
      rw [hx] at h1; cases h1
    · omega
  · have hj := (List.getElem?_eq_some_iff.1 hu).1
    rw [cH jV l] at hj
    have h0 : 0 < l.length := by omega
    obtain ⟨b, off, h1, _, _, h4⟩ := h h0
    rw [hx] at h1
    obtain rfl := (by simpa using h1 : ad = _)
    have hjl : j / 2 < l.length := by omega
    have hk := h4 (j / 2) _ (List.getElem?_eq_getElem hjl)
    have hmod : j % 2 < (mC l[j / 2]).length := by rw [jV]; omega
    have h5 := hk (j % 2) _ (List.getElem?_eq_getElem hmod)
    have h6 := br jV (List.getElem?_eq_getElem hjl) (List.getElem?_eq_getElem hmod)
    have e1 : j / 2 * 2 + j % 2 = j := by omega
    rw [e1, hu] at h6
    rw [Option.some.inj h6, Addr.add_mid, show off + j = off + j / 2 * 2 + j % 2 by omega]
    exact h5
theorem vm (l : List (BV)) : ∀ u ∈ l.flatMap bC, u.oneCell' = true := by
  intro u hu
  obtain ⟨a, _, hu⟩ := List.mem_flatMap.1 hu
  simp only [bC, List.mem_cons, List.not_mem_nil, or_false] at hu
  (repeat' (rcases hu with hu | hu)) <;> rfl
theorem gD {A : Nat → Prop} (x : Option Addr) (l : List (BV)) (c : Nat) (w : World) (h : Rws A w 6 bC x l) (hb : l.length * 56 ≤ 140737488355328) : Calls Tryz.prog 19 #[.slice x l.length c] w fun e w' => ∃ p : Option Addr × Nat, True ∧ e = .returned (.slice p.1 l.length p.2) ∧ Made w w' [.own p.1 p.2 64 6 l.length (l.flatMap bC)] := by
  refine (lY x l.length c (l.flatMap bC) w (fun hx => ?_) (fun ad hx j u hu => ?_) (cH cr l) (vm l) hb).mono fun e w' ⟨p, h1, h2, h3⟩ => ⟨p, trivial, h1, Made.one h2 h3⟩
  · by_cases h0 : 0 < l.length
    · obtain ⟨b, off, h1, _⟩ := h h0
      rw [hx] at h1; cases h1
    · omega
  · have hj := (List.getElem?_eq_some_iff.1 hu).1
    rw [cH cr l] at hj
    have h0 : 0 < l.length := by omega
    obtain ⟨b, off, h1, _, _, h4⟩ := h h0
    rw [hx] at h1
    obtain rfl := (by simpa using h1 : ad = _)
    have hjl : j / 6 < l.length := by omega
    have hk := h4 (j / 6) _ (List.getElem?_eq_getElem hjl)
    have hmod : j % 6 < (bC l[j / 6]).length := by rw [cr]; omega
    have h5 := hk (j % 6) _ (List.getElem?_eq_getElem hmod)
    have h6 := br cr (List.getElem?_eq_getElem hjl) (List.getElem?_eq_getElem hmod)
    have e1 : j / 6 * 6 + j % 6 = j := by omega
    rw [e1, hu] at h6
    rw [Option.some.inj h6, Addr.add_mid, show off + j = off + j / 6 * 6 + j % 6 by omega]
    exact h5
theorem lu (l : List (QV)) : ∀ u ∈ l.flatMap QC, u.oneCell' = true := by
  intro u hu
  obtain ⟨a, _, hu⟩ := List.mem_flatMap.1 hu
  simp only [QC, List.mem_cons, List.not_mem_nil, or_false] at hu
  (repeat' (rcases hu with hu | hu)) <;> rfl
theorem rN {A : Nat → Prop} (x : Option Addr) (l : List (QV)) (c : Nat) (w : World) (h : Rws A w 15 QC x l) (hb : l.length * 200 ≤ 140737488355328) : Calls Tryz.prog 82 #[.slice x l.length c] w fun e w' => ∃ p : Option Addr × Nat, True ∧ e = .returned (.slice p.1 l.length p.2) ∧ Made w w' [.own p.1 p.2 50 15 l.length (l.flatMap QC)] := by
  refine (nt x l.length c (l.flatMap QC) w (fun hx => ?_) (fun ad hx j u hu => ?_) (cH bj l) (lu l) hb).mono fun e w' ⟨p, h1, h2, h3⟩ => ⟨p, trivial, h1, Made.one h2 h3⟩
  · by_cases h0 : 0 < l.length
    · obtain ⟨b, off, h1, _⟩ := h h0
      rw [hx] at h1; cases h1
    · omega
  · have hj := (List.getElem?_eq_some_iff.1 hu).1
    rw [cH bj l] at hj
    have h0 : 0 < l.length := by omega
    obtain ⟨b, off, h1, _, _, h4⟩ := h h0
    rw [hx] at h1
    obtain rfl := (by simpa using h1 : ad = _)
    have hjl : j / 15 < l.length := by omega
    have hk := h4 (j / 15) _ (List.getElem?_eq_getElem hjl)
    have hmod : j % 15 < (QC l[j / 15]).length := by rw [bj]; omega
    have h5 := hk (j % 15) _ (List.getElem?_eq_getElem hmod)
    have h6 := br bj (List.getElem?_eq_getElem hjl) (List.getElem?_eq_getElem hmod)
    have e1 : j / 15 * 15 + j % 15 = j := by omega
    rw [e1, hu] at h6
    rw [Option.some.inj h6, Addr.add_mid, show off + j = off + j / 15 * 15 + j % 15 by omega]
    exact h5
end Go.Proofs.YtmdkfbmpenohiaaGreatDoor.Y
namespace Go.Proofs.YtmdkfbmpenohiaaGreatDoor.Y
open Go.RowKit
theorem yr (n : Int) : bits .and .i64 n 1 = n % 2 := by
  have h127 : (BitVec.ofInt 64 1).toNat = 2 ^ 1 - 1 := by decide
  have key : (BitVec.ofInt 64 n &&& BitVec.ofInt 64 1).toNat = (n % ((2 ^ 64 : Nat) : Int)).toNat % 2 ^ 1 := by
    rw [BitVec.toNat_and, BitVec.toNat_ofInt, h127, Nat.and_two_pow_sub_one_eq_mod]
  show IntKind.i64.wrap ((BitVec.ofInt 64 n &&& BitVec.ofInt 64 1).toNat : Nat) = n % 2
  rw [key, IntKind.wrap_i64]
  omega
theorem zk (k code : Int) (h1 : 1 ≤ code) (h2 : code ≤ 13) : k.fdiv (2 ^ (min (IntKind.u64.wrap code).toNat IntKind.i64.bits)) = k / 2 ^ code.toNat := by
  rw [IntWalk.u64_in code ⟨by omega, by omega⟩, show min code.toNat IntKind.i64.bits = code.toNat by (show min code.toNat 64 = _); omega]
  exact Int.fdiv_eq_ediv_of_nonneg _ (Int.le_of_lt (Int.pow_pos (by decide)))
theorem xh (n : Int) : 0 ≤ IntKind.u64.wrap n := by rw [IntKind.wrap_u64]; omega
def nu (a b c k t m gn n code : Int) (safe : Bool) : Bool :=
  decide (eV a b c k = 0) && decide (da t m gn = 0) && decide (1 ≤ n) && decide (n < a) && decide (1 ≤ code) && decide (code ≤ 13) && decide ((k / 2 ^ code.toNat) % 2 = 1) && (safe || decide (code = 12)) && decide (1000 ≤ t)
theorem lv (x : CL) (n code : Int) (safe : Bool) : rJ x n code safe = nu x.ra x.rb x.rc x.rk x.tk x.mo x.gn n code safe := rfl
theorem fy {a b c k : Int} (h : eV a b c k = 0) : 1 ≤ a ∧ a ≤ 10 ∧ 1 ≤ b ∧ b ≤ c ∧ c ≤ 1099511627776 ∧ 0 ≤ k ∧ k < 16384 ∧ k % 2 = 0 := by
  unfold eV at h
  split at h
  · omega
  · omega
theorem bi {a b : Bool} (h : a = b) : Ending.returned (.bool a) = Ending.returned (.bool b) := by rw [h]
theorem hY (b : Int) (i : Nat) : b * 2 ^ (i + 1) = 2 * (b * 2 ^ i) := by rw [Int.pow_succ, ← Int.mul_assoc, Int.mul_comm]
theorem jq (b : Int) (hb : 0 ≤ b) (i j : Nat) (h : i ≤ j) : b * 2 ^ i ≤ b * 2 ^ j := by
  refine Int.mul_le_mul_of_nonneg_left ?_ hb
  obtain ⟨d, rfl⟩ := Nat.exists_eq_add_of_le h
  rw [Int.pow_add]
  have h1 : (0 : Int) < 2 ^ i := Int.pow_pos (by decide)
  have h2 : (0 : Int) < 2 ^ d := Int.pow_pos (by decide)
  have := Int.mul_le_mul_of_nonneg_left (show (1 : Int) ≤ 2 ^ d by omega) (Int.le_of_lt h1)
  simpa using this
set_option maxRecDepth 100000 in
set_option maxHeartbeats 4000000 in
theorem rO (a b : Int) (w : World) : Calls Tryz.prog 93 #[.int .i64 a, .int .i64 b] w fun e w' => e = .returned (.int .i64 (lV a b)) ∧ Below w.heap.size w w' := by
  refine aD Tryz.func93 rfl Tryz.ntmps93 J J ?_
  repeat' (first | refine ag ?_ | refine aa ?_ | refine ab ?_ | refine aA ?_ | refine ae ?_ | ((refine' ak rfl ?_ J J ?_); rotate_left; first | exact a6 J J J J J (by omega) | exact ai af J J J J | exact d9 J J J J J | exact cV J J J J J))
  all_goals
    refine aB af (fun _ => 0) J J trivial rfl fun w hm => ⟨?_, hm.below⟩
    refine cx ?_
    clear hm
    unfold lV bI cp
    omega
set_option maxRecDepth 100000 in
set_option maxHeartbeats 4000000 in
theorem tm (a b c k : Int) (w : World) : Calls Tryz.prog 17 #[.agg #[.int .i64 a, .int .i64 b, .int .i64 c, .int .i64 k]] w fun e w' => e = .returned (.int .i64 (eV a b c k)) ∧ Below w.heap.size w w' := by
  refine aD Tryz.func17 rfl Tryz.ntmps17 J J ?_
  repeat' (first | refine ag ?_ | refine aa ?_ | refine ab ?_ | refine aA ?_ | refine au ?_ | refine aE ?_ | refine a8 ?_ | refine ar ?_ | refine aH ?_ | refine ax ?_ | refine aQ ?_ | refine aN ?_ | refine cu rfl ?_ | refine aY aK rfl (by kernel_rfl) ?_ | refine ae ?_ | refine bz ?_ | (refine ea ?_; intro g) | ((first | refine' ak rfl ?_ J J ?_ | refine' dm rfl ?_ J J J ?_); rotate_left; first | exact ai af J J J J | exact aq af J J J J J J | exact bp J J J J J | exact bx J J J J J | exact ah af 0 J J J J J | exact ah af 1 J J J J J | exact fX af fm J J J J J J (by kernel_rfl) | exact ew af fm J J J J J J (by kernel_rfl) | exact aO af J J J J J J J | exact d9 J J J J J | exact cV J J J J J | exact jd J J J J J J J | exact aC af J J trivial J J J | exact aC af J J ⟨J, trivial⟩ J J J | exact aC af J J ⟨J, J, trivial⟩ J J J | exact aC af J J ⟨J, J, J, trivial⟩ J J J | exact aC af J J ⟨J, J, J, J, trivial⟩ J J J | exact aC af J J ⟨J, J, J, J, J, trivial⟩ J J J | exact aC af J J ⟨J, J, J, J, J, J, trivial⟩ J J J | exact aC af J J ⟨J, J, J, J, J, J, J, trivial⟩ J J J | exact aC af J J ⟨J, J, J, J, J, J, J, J, trivial⟩ J J J) | (refine aT J J J J J J ?_; intro g) | (refine aF af J J J J J J ?_; intro g) | refine dJ af J J J J J J ?_ | refine gA J J J J J J ?_ | refine aj af 0 J J J J J J J J J J J J ?_ | refine aj af 1 J J J J J J J J J J J J ?_ | (refine gz rfl (fun h => ?_) (fun h => ?_) <;> (try simp at h)))
  all_goals
    refine aB af (fun _ => 0) J J trivial rfl fun w hm => ⟨?_, hm.below⟩
    refine cx ?_
    clear hm
    unfold eV
    have ha := yr k
    grind
theorem iE (a b c k e : Int) (he : eV a b c k = e) (w : World) : Calls Tryz.prog 17 #[.agg #[.int .i64 a, .int .i64 b, .int .i64 c, .int .i64 k]] w fun r w' => r = .returned (.int .i64 e) ∧ Below w.heap.size w w' := by
  subst he; exact tm a b c k w
set_option maxRecDepth 100000 in
set_option maxHeartbeats 4000000 in
theorem vo (a b c k t m gn n code : Int) (safe : Bool) (w : World) : Calls Tryz.prog 92 #[.agg #[.int .i64 a, .int .i64 b, .int .i64 c, .int .i64 k], .agg #[.int .i64 t, .int .i64 m, .int .i64 gn], .int .i64 n, .int .i64 code, .bool safe] w fun e w' => e = .returned (.bool (nu a b c k t m gn n code safe)) ∧ Below w.heap.size w w' := by
  obtain ⟨e1, he1⟩ : ∃ e, eV a b c k = e := ⟨_, rfl⟩
  obtain ⟨e2, he2⟩ : ∃ e, da t m gn = e := ⟨_, rfl⟩
  refine aD Tryz.func92 rfl Tryz.ntmps92 J J ?_
  repeat' (first | refine ag ?_ | refine aa ?_ | refine ab ?_ | refine aA ?_ | refine au ?_ | refine aE ?_ | refine a8 ?_ | refine ar ?_ | refine aH ?_ | refine ax ?_ | refine aQ ?_ | refine aN ?_ | refine cu rfl ?_ | refine aY aK rfl (by kernel_rfl) ?_ | refine ae ?_ | refine bz ?_ | (refine ea ?_; intro g) | ((first | refine' ak rfl ?_ J J ?_ | refine' dm rfl ?_ J J J ?_); rotate_left; first | exact sN J J J J J J (fun _ => xh _) | exact ai af J J J J | exact aq af J J J J J J | exact bp J J J J J | exact bx J J J J J | exact ah af 0 J J J J J | exact ah af 1 J J J J J | exact ah af 2 J J J J J | exact fX af fm J J J J J J (by kernel_rfl) | exact ew af fm J J J J J J (by kernel_rfl) | exact aO af J J J J J J J | exact d9 J J J J J | exact cV J J J J J | exact jd J J J J J J J | exact aC af J J trivial J J J | exact aC af J J ⟨J, trivial⟩ J J J | exact aC af J J ⟨J, J, trivial⟩ J J J | exact aC af J J ⟨J, J, J, trivial⟩ J J J | exact aC af J J ⟨J, J, J, J, trivial⟩ J J J | exact aC af J J ⟨J, J, J, J, J, trivial⟩ J J J | exact aC af J J ⟨J, J, J, J, J, J, trivial⟩ J J J | exact aC af J J ⟨J, J, J, J, J, J, J, trivial⟩ J J J | exact aC af J J ⟨J, J, J, J, J, J, J, J, trivial⟩ J J J) | refine aG rfl (ay J J J J ⟨J, trivial⟩ rfl (by kernel_rfl)) (fun w hm => iE a b c k e1 he1 w) J J ?_ | refine bY rfl (ay J J J J ⟨J, trivial⟩ rfl (by kernel_rfl)) rfl (fun w hm => iE a b c k e1 he1 w) J J ?_ | refine aG rfl (ay J J J J ⟨J, trivial⟩ rfl (by kernel_rfl)) (fun w hm => gk t m gn e2 he2 w) J J ?_ | refine bY rfl (ay J J J J ⟨J, trivial⟩ rfl (by kernel_rfl)) rfl (fun w hm => gk t m gn e2 he2 w) J J ?_ | (refine aT J J J J J J ?_; intro g) | (refine aF af J J J J J J ?_; intro g) | refine dJ af J J J J J J ?_ | refine gA J J J J J J ?_ | refine aj af 0 J J J J J J J J J J J J ?_ | refine aj af 1 J J J J J J J J J J J J ?_ | refine aj af 2 J J J J J J J J J J J J ?_ | (refine gz rfl (fun h => ?_) (fun h => ?_) <;> (try simp at h)))
  all_goals
    refine aB af (fun _ => 0) J J trivial rfl fun w hm => ⟨?_, hm.below⟩
    refine bi ?_
    clear hm
    unfold nu
    rw [he1, he2]
    have ha := yr (k.fdiv (2 ^ (min (IntKind.u64.wrap code).toNat IntKind.i64.bits)))
    have hb := zk k code
    rw [Bool.eq_iff_iff]
    grind
set_option maxRecDepth 100000 in
set_option maxHeartbeats 4000000 in
theorem tn (a b c k : Int) (n : Int) (w : World) (hn : n ≤ 9223372036854775807) : Calls Tryz.prog 94 #[.agg #[.int .i64 a, .int .i64 b, .int .i64 c, .int .i64 k], .int .i64 n] w fun e w' => e = .returned (.int .i64 (lf a b c k n)) ∧ Below w.heap.size w w' := by
  obtain ⟨e1, he1⟩ : ∃ e, eV a b c k = e := ⟨_, rfl⟩
  refine aD Tryz.func94 rfl Tryz.ntmps94 J J ?_
  repeat' (first | refine ag ?_ | refine aa ?_ | refine ab ?_ | refine ae ?_ | ((refine' ak rfl ?_ J J ?_); rotate_left; first | exact ai af J J J J | exact aq af J J J J J J | exact bp J J J J J | exact ah af 0 J J J J J) | refine aG rfl (ay J J J J ⟨J, trivial⟩ rfl (by kernel_rfl)) (fun w hm => iE a b c k e1 he1 w) J J ?_ | (refine aT J J J J J J ?_; intro g))
  by_cases h0 : n < 1 ∨ e1 ≠ 0
  · refine aw rfl (by simpa using h0) ?_
    repeat' (first | refine ag ?_ | refine aa ?_ | refine ab ?_ | refine aA ?_ | refine ar ?_ | refine ae ?_ | ((refine' ak rfl ?_ J J ?_); rotate_left; exact ai af J J J J))
    refine aB af (fun _ => 0) J J trivial rfl fun w hm => ⟨?_, hm.below⟩
    refine cx ?_
    unfold lf
    rw [if_pos (by rw [he1]; exact h0)]
  · have hr := fy (he1.trans (by omega))
    have hn1 : 1 ≤ n := by omega
    refine am rfl (by simpa using h0) ?_
    repeat' (first | refine ag ?_ | refine aa ?_ | refine ab ?_ | refine au ?_ | refine aE ?_ | refine ae ?_ | ((refine' ak rfl ?_ J J ?_); rotate_left; first | exact gX J J J J J (by omega) | exact ai af J J J J | exact ah af 0 J J J J J | exact cV J J J J J))
    refine bF (σ := Nat × Int) (fun p => p.1 ≤ (min (n - 1) 64).toNat ∧ p.2 ≤ 2 * c ∧ p.2 = b * 2 ^ p.1) (fun p => [(18, [], .int .i64 ((p.1 : Nat) : Int)), (17, [], .int .i64 (if 64 < n - 1 then 64 else n - 1)), (5, [], .int .i64 p.2), (2, [], .pointer (some ⟨g, 0, none⟩))]) (fun _ => [.cl g 24 [.int .i64 a, .int .i64 b, .int .i64 c, .int .i64 k]]) (fun p => (min (n - 1) 64).toNat - p.1) (0, b) [true] ⟨Nat.zero_le _, by dsimp only; omega, by simp⟩ ⟨J, J, J, J, trivial⟩ rfl ?_
    rintro ⟨j, q⟩ ⟨hj0, hjc, hq⟩
    dsimp only at hj0 hjc hq ⊢
    have hpos : b ≤ b * 2 ^ j := by have := jq b (by omega) 0 j (Nat.zero_le _); simpa using this
    have hst := hY b j
    by_cases hj : j < (min (n - 1) 64).toNat
    · skip
      repeat' (first | refine ag ?_ | refine aa ?_ | refine ab ?_ | refine ae ?_ | ((refine' ak rfl ?_ J J ?_); rotate_left; exact aq af J J J J J J))
      refine aw rfl (by simp; omega) ?_
      repeat' (first | refine ag ?_ | refine aa ?_ | refine ab ?_ | refine au ?_ | refine aE ?_ | refine ae ?_ | ((refine' ak rfl ?_ J J ?_); rotate_left; first | exact ai af J J J J | exact aq af J J J J J J | exact ah af 0 J J J J J))
      by_cases hc : c ≤ q
      · refine aw rfl (by simpa using hc) ?_
        repeat' (first | refine ag ?_ | refine aa ?_ | refine ab ?_ | refine aA ?_ | refine a8 ?_ | refine aH ?_ | refine aN ?_ | refine cu rfl ?_ | refine ae ?_ | ((refine' ak rfl ?_ J J ?_); rotate_left; first | exact ai af J J J J | exact ah af 0 J J J J J | exact cV J J J J J))
        refine aB af (fun _ => 0) J J trivial rfl fun w hm => ⟨?_, hm.below⟩
        refine cx ?_
        have hp : lf a b c k n = min (b * 2 ^ (min (n - 1) 64).toNat) c := if_neg (by rw [he1]; exact h0)
        have := jq b (by omega) j (min (n - 1) 64).toNat (by omega)
        rw [hp, Int.min_def]
        (repeat' split) <;> omega
      · refine am rfl (by simpa using hc) ?_
        repeat' (first | refine aa ?_ | refine ab ?_ | refine au ?_ | refine ax ?_ | refine ae ?_ | ((refine' ak rfl ?_ J J ?_); rotate_left; first | exact dg (v := .int .i64 (2 * q)) (aq af J J J J J J) (congrArg (Value.int .i64) (by rw [IntKind.wrap_i64]; omega)) | exact a6 J J J J J (by omega) | exact ai af J J J J))
        refine aR (j + 1, 2 * q) [true] ⟨by dsimp only; omega, by dsimp only; omega, by dsimp only; omega⟩ (by dsimp only; omega) ⟨J, J, J, J, trivial⟩ rfl
    · have hjN : j = (min (n - 1) 64).toNat := by omega
      repeat' (first | refine ag ?_ | refine aa ?_ | refine ab ?_ | refine ae ?_ | ((refine' ak rfl ?_ J J ?_); rotate_left; exact aq af J J J J J J))
      refine am rfl (by simp; omega) ?_
      repeat' (first | refine ag ?_ | refine aa ?_ | refine ab ?_ | refine aA ?_ | refine a8 ?_ | refine aH ?_ | refine aN ?_ | refine ae ?_ | ((refine' ak rfl ?_ J J ?_); rotate_left; first | exact ai af J J J J | exact ah af 0 J J J J J | exact cV J J J J J))
      refine aB af (fun _ => 0) J J trivial rfl fun w hm => ⟨?_, hm.below⟩
      refine cx ?_
      have hp : lf a b c k n = min (b * 2 ^ (min (n - 1) 64).toNat) c := if_neg (by rw [he1]; exact h0)
      rw [hp, ← hjN, Int.min_def]
      (repeat' split) <;> omega
end Go.Proofs.YtmdkfbmpenohiaaGreatDoor.Y
