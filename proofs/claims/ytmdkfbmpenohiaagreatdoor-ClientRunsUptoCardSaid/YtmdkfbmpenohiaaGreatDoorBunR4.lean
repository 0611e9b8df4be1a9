/- Texts of this claim merged into one: R4, R5, R6. -/
import Derived.Test.YtmdkfbmpenohiaaGreatDoorR3
import Derived.Test.YtmdkfbmpenohiaaGreatDoorStp
namespace Go.Proofs.YtmdkfbmpenohiaaGreatDoor.Y
open Go.RowKit
set_option maxRecDepth 100000 in
set_option maxHeartbeats 8000000 in
theorem fE (n : Int) (w : World) : Calls Tryz.prog 64 #[.int .i64 n] w fun e w' => e = .returned (.int .i64 (bI n)) ∧ Below w.heap.size w w' := by
  refine aD Tryz.func64 rfl Tryz.ntmps64 J J ?_
  repeat' (first | refine ag ?_ | refine aa ?_ | refine ab ?_ | refine aA ?_ | refine ae ?_ | ((refine' ak rfl ?_ J J ?_); rotate_left; first | exact ai af J J J J | exact d9 J J J J J | exact cV J J J J J))
  all_goals
    refine aB af (fun _ => 0) J J trivial rfl fun w hm => ⟨?_, hm.below⟩
    refine cx ?_
    clear hm
    unfold bI cp
    omega
set_option maxRecDepth 100000 in
set_option maxHeartbeats 8000000 in
theorem mW (v : QV) (now : Int) (w : World) : Calls Tryz.prog 65 #[.agg #[.int .i64 v.q.id, .string v.q.sv, .string v.q.mt, .int .i64 v.q.late, .slice v.m v.q.ms.length v.mc, .int .i64 v.q.sh, .slice v.s v.q.mg.length v.sc, .int .i64 v.q.att, .string v.q.bk, .int .i64 v.q.st, .int .i64 v.q.nx, .slice v.a v.q.an.length v.ac, .bool v.q.dn, .int .i64 v.q.cd, .string v.q.tx], .int .i64 now] w fun e w' => e = .returned (.bool (dC v.q now)) ∧ Below w.heap.size w w' := by
  refine aD Tryz.func65 rfl Tryz.ntmps65 J J ?_
  repeat' (first | refine ag ?_ | refine aa ?_ | refine ab ?_ | refine aA ?_ | refine ae ?_ | ((refine' ak rfl ?_ J J ?_); rotate_left; first | exact ai af J J J J | exact aq af J J J J J J | exact bx J J J J J | exact ah af 0 J J J J J) | (refine aT J J J J J J ?_; intro g))
  refine aB af (fun _ => 0) J J trivial rfl fun w hm => ⟨?_, hm.below⟩
  refine bi ?_
  unfold dC
  clear hm
  rfl
def iP (sh n : Int) : Bool := decide (1 ≤ sh) && decide (sh ≤ 4) && decide (c1 sh ≤ n) && (decide (c2 sh < 0) || decide (n ≤ c2 sh))
def si (sh n : Int) : Bool := decide (c4 sh < 0) || decide (n ≤ c4 sh)
set_option maxRecDepth 100000 in
set_option maxHeartbeats 8000000 in
theorem mX (sh n : Int) (w : World) : Calls Tryz.prog 61 #[.int .i64 sh, .int .i64 n] w fun e w' => e = .returned (.bool (iP sh n)) ∧ Below w.heap.size w w' := by
  refine aD Tryz.func61 rfl Tryz.ntmps61 J J ?_
  repeat' (first | refine ag ?_ | refine aa ?_ | refine ab ?_ | refine aA ?_ | refine ae ?_ | ((refine' ak rfl ?_ J J ?_); rotate_left; first | exact ai af J J J J | exact aq af J J J J J J | exact bp J J J J J | exact bx J J J J J) | refine aG rfl (ay J J J J ⟨J, trivial⟩ rfl (by kernel_rfl)) (fun w hm => kz (mq sh w)) J J ?_)
  refine aB af (fun _ => 0) J J trivial rfl fun w hm => ⟨?_, hm.below⟩
  refine bi ?_
  unfold iP
  clear hm
  rfl
set_option maxRecDepth 100000 in
set_option maxHeartbeats 8000000 in
theorem pk (sh n : Int) (w : World) : Calls Tryz.prog 71 #[.int .i64 sh, .int .i64 n] w fun e w' => e = .returned (.bool (si sh n)) ∧ Below w.heap.size w w' := by
  refine aD Tryz.func71 rfl Tryz.ntmps71 J J ?_
  repeat' (first | refine ag ?_ | refine aa ?_ | refine ab ?_ | refine aA ?_ | refine ae ?_ | ((refine' ak rfl ?_ J J ?_); rotate_left; first | exact ai af J J J J | exact aq af J J J J J J | exact bp J J J J J) | refine aG rfl (ay J J J J ⟨J, trivial⟩ rfl (by kernel_rfl)) (fun w hm => kz (mq sh w)) J J ?_)
  refine aB af (fun _ => 0) J J trivial rfl fun w hm => ⟨?_, hm.below⟩
  refine bi ?_
  unfold si
  clear hm
  rfl
set_option maxRecDepth 100000 in
set_option maxHeartbeats 8000000 in
theorem sj {A : Nat → Prop} (x : Option Addr) (l : List ByteArray) (cap : Nat) (w : World) (hR : Rws A w 1 sC x l) (hlen : l.length ≤ 9000000000000000000) : Calls Tryz.prog 63 #[.slice x l.length cap] w fun e w' => e = .returned (.bool (cL l)) ∧ Below w.heap.size w w' := by
  refine aD Tryz.func63 rfl Tryz.ntmps63 J J ?_
  repeat' (first | refine ag ?_ | refine aa ?_ | refine ab ?_ | refine aE ?_ | refine ae ?_ | ((refine' ak rfl ?_ J J ?_); rotate_left; exact ai af J J J J))
  refine bF (σ := Nat) (fun p => p ≤ l.length ∧ cL l = cL (l.drop p)) (fun p => [(3, [], .int .i64 ((p : Nat) : Int)), (0, [], .slice x l.length cap)]) (fun _ => []) (fun p => l.length - p) 0 [] ⟨Nat.zero_le _, rfl⟩ ⟨J, J, trivial⟩ rfl ?_
  rintro j ⟨hj0, hr⟩
  by_cases hj : j < l.length
  · obtain ⟨v, hv⟩ : ∃ v, l[j]? = some v := ⟨_, List.getElem?_eq_getElem hj⟩
    obtain ⟨bb, off, hx, _, _, hrows⟩ := hR (by omega)
    have hrow : w.rangeAt bb (off + j * 1) (sC v) := hrows j v hv
    rw [cn hv] at hr
    have hr' : cL l = (decide (16384 < v.size) || cL (l.drop (j + 1))) := hr
    repeat' (first | refine ag ?_ | refine aa ?_ | refine ab ?_ | refine ae ?_ | ((refine' ak rfl ?_ J J ?_); rotate_left; first | exact ai af J J J J | exact aq af J J J J J J | exact aO af J J J J J J J))
    refine aw rfl (by simp; omega) ?_
    repeat' (first | refine ag ?_ | refine aa ?_ | refine ab ?_ | refine au ?_ | refine aE ?_ | refine ae ?_ | ((refine' ak rfl ?_ J J ?_); rotate_left; first | exact b7 af (m := 1) j rfl hx J J J J J J J (fun _ => rfl) (fun _ => hj) | exact bT af J J J J J (fun _ => hrow 0 _ rfl) | exact ai af J J J J | exact aq af J J J J J J | exact aO af J J J J J J J))
    by_cases hh : 16384 < v.size
    · refine aw rfl (by simp; omega) ?_
      repeat' (first | refine ag ?_ | refine aa ?_ | refine ab ?_ | refine aA ?_ | refine ar ?_ | refine aQ ?_ | refine ae ?_ | ((refine' ak rfl ?_ J J ?_); rotate_left; exact ai af J J J J))
      refine aB af (fun _ => 0) J J trivial rfl fun w hm => ⟨?_, hm.below⟩
      rw [hr', decide_eq_true hh]; rfl
    · rw [decide_eq_false hh, Bool.false_or] at hr'
      refine am rfl (by simp; omega) ?_
      repeat' (first | refine aa ?_ | refine ab ?_ | refine au ?_ | refine ax ?_ | refine ae ?_ | ((refine' ak rfl ?_ J J ?_); rotate_left; first | exact a6 J J J J J (by omega) | exact ai af J J J J))
      refine aR (j + 1) [] ⟨hj, hr'⟩ (show l.length - (j + 1) < l.length - j by omega) ⟨J, J, trivial⟩ rfl
  · rw [List.drop_eq_nil_of_le (by omega)] at hr
    repeat' (first | refine ag ?_ | refine aa ?_ | refine ab ?_ | refine ae ?_ | ((refine' ak rfl ?_ J J ?_); rotate_left; first | exact ai af J J J J | exact aq af J J J J J J | exact aO af J J J J J J J))
    refine am rfl (by simp; omega) ?_
    repeat' (first | refine ag ?_ | refine aa ?_ | refine ab ?_ | refine aA ?_ | refine a8 ?_ | refine aH ?_ | refine aN ?_ | refine ae ?_ | ((refine' ak rfl ?_ J J ?_); rotate_left; exact ai af J J J J))
    refine aB af (fun _ => 0) J J trivial rfl fun w hm => ⟨?_, hm.below⟩
    rw [hr]; rfl
theorem sk {α : Type} {l : List α} {k : Nat} {u : α} (h : k < l.length) : l.set k u = l.take k ++ (u :: l.drop (k + 1)) := by
  rw [List.set_eq_take_append_cons_drop, if_pos h]
theorem jA {w : World} {B : Nat} {T : TypeId} {sz : Nat} {x : Option Addr} {n cap : Nat} {xs : List Value} (h : w.ownsRow B T sz (.slice x n cap) n xs) : n ≤ cap := by
  rcases h.2 with ⟨h1, h2⟩ | ⟨g, c, cur, h1, _, _, h4, _⟩
  · omega
  · obtain ⟨_, rfl⟩ := (by simpa using h1 : _ ∧ cap = c)
    exact h4
theorem jB {α : Type} {f : α → List Value} {sz : Nat} (hf : ∀ a, (f a).length = sz) (hp : 0 < sz) {l : List α} {j : Nat} {u : Value} (hu : (l.flatMap f)[j]? = some u) : ∃ v, l[j / sz]? = some v ∧ (f v)[j % sz]? = some u := by
  have hj := (List.getElem?_eq_some_iff.1 hu).1
  rw [cH hf l] at hj
  have hq : j / sz < l.length := Nat.div_lt_of_lt_mul (by rw [Nat.mul_comm]; exact hj)
  have hm : j % sz < (f l[j / sz]).length := by rw [hf]; exact Nat.mod_lt _ hp
  refine ⟨l[j / sz], List.getElem?_eq_getElem hq, ?_⟩
  have h6 := br hf (List.getElem?_eq_getElem hq) (List.getElem?_eq_getElem hm)
  rw [show j / sz * sz + j % sz = j from Nat.div_add_mod' j sz, hu] at h6
  rw [List.getElem?_eq_getElem hm]
  exact h6.symm
theorem jC {w : World} {b off : Nat} {l : List QV} (h : ∀ (j : Nat) (v : QV), l[j]? = some v → w.rangeAt b (off + j * 15) (QC v)) {j : Nat} {u : Value} (hu : (l.flatMap QC)[j]? = some u) : w.cell? ((⟨b, off, none⟩ : Addr).add j) = some u := by
  obtain ⟨v, h1, h2⟩ := jB bj (by decide) hu
  have h3 := h _ v h1 _ u h2
  rw [Addr.add_mid]
  rw [show off + j / 15 * 15 + j % 15 = off + j by have := Nat.div_add_mod' j 15; omega] at h3
  exact h3
theorem gJ {w : World} {B : Nat} {T : TypeId} {sz : Nat} {x : Option Addr} {n cap : Nat} {xs : List Value} (h : w.ownsRow B T sz (.slice x n cap) n xs) : x = none → cap = 0 := fun hx => by
  subst hx
  rcases h.2 with ⟨h1, _⟩ | ⟨g, c, cur, h1, _⟩
  · simpa using (by simpa using h1 : n = 0 ∧ cap = 0).2
  · cases h1
structure eE (v : CV) : Prop where
  cap : v.qv.length ≤ v.xc
  nil : v.x = none → v.xc = 0
  ans : ∀ u ∈ v.qv, u.a = none → u.ac = 0
def OutR (A : Nat → Prop) (w w' : World) (v' : CV) : Prop := Out A w w' v' ∧ eE v'
theorem OutR.same {A : Nat → Prop} {w w' : World} {v : CV} (h : COk A w v) (hc : eE v) (hb : Below w.heap.size w w') : OutR A w w' v := ⟨⟨(h.below hb).mono fun _ => .inl, hb⟩, hc⟩
set_option maxRecDepth 100000 in
set_option maxHeartbeats 16000000 in
theorem eF {A : Nat → Prop} (v : CV) (k : Nat) (u u2 : QV) (w : World) (hC : COk A w v) (hw : eE v) (hzq : v.qv.length ≤ 703687441775) (hk : v.qv[k]? = some u) (hU : QOk A w u2) (hU2 : u2.a = none → u2.ac = 0) : Calls Tryz.prog 69 #[.agg #[.slice v.b v.c.bs.length v.bc, .int .i64 v.c.ra, .int .i64 v.c.rb, .int .i64 v.c.rc, .int .i64 v.c.rk, .int .i64 v.c.tk, .int .i64 v.c.mo, .int .i64 v.c.gn, .slice v.x v.qv.length v.xc, .int .i64 v.c.nx], .int .i64 ((k : Nat) : Int), .agg #[.int .i64 u2.q.id, .string u2.q.sv, .string u2.q.mt, .int .i64 u2.q.late, .slice u2.m u2.q.ms.length u2.mc, .int .i64 u2.q.sh, .slice u2.s u2.q.mg.length u2.sc, .int .i64 u2.q.att, .string u2.q.bk, .int .i64 u2.q.st, .int .i64 u2.q.nx, .slice u2.a u2.q.an.length u2.ac, .bool u2.q.dn, .int .i64 u2.q.cd, .string u2.q.tx]] w fun e w' => ∃ v' : CV, v'.c = bZ v.c k (fun _ => u2.q) ∧ e = .returned (.agg ⟨CC v'⟩) ∧ OutR A w w' v' := by
  refine aD Tryz.func69 rfl Tryz.ntmps69 J J ?_
  have hcap := hw.cap
  have hk1 : k < v.qv.length := (List.getElem?_eq_some_iff.1 hk).1
  obtain ⟨bb, off, hx, _, hbl, hrows⟩ := hC.qs (by omega)
  obtain ⟨ad, had, hrd⟩ : ∃ ad, (if v.xc = k + 1 then v.x else v.x.map (fun a => a.add ((k + 1) * 15))) = some ad ∧ ∀ j u, ((v.qv.drop (k + 1)).flatMap QC)[j]? = some u → w.cell? (ad.add j) = some u := by
    by_cases hxe : v.xc = k + 1
    · refine ⟨⟨bb, off, none⟩, by rw [if_pos hxe, hx], fun j u hu => ?_⟩
      rw [List.drop_eq_nil_of_le (by omega)] at hu
      simp at hu
    · refine ⟨⟨bb, off + (k + 1) * 15, none⟩, by rw [if_neg hxe, hx]; rfl, fun j u hu => jC (fun i y hy => ?_) hu⟩
      rw [List.getElem?_drop] at hy
      have h9 := hrows _ y hy
      rw [show off + (k + 1) * 15 + i * 15 = off + (k + 1 + i) * 15 by omega]
      exact h9
  have hr1 : ∀ j u, ((v.qv.take k).flatMap QC)[j]? = some u → w.cell? ((⟨bb, off, none⟩ : Addr).add j) = some u := fun j u hu => jC (fun i y hy => hrows i y (by rw [List.getElem?_take] at hy; split at hy; exact hy; cases hy)) hu
  have hn1 : (v.qv.take k).length = k := by rw [List.length_take]; omega
  have hn2 : (v.qv.drop (k + 1)).length = v.qv.length - (k + 1) := List.length_drop
  refine ag ?_
  refine aa ?_
  (refine aT J J J J J J ?_; intro g3)
  (refine aT J J J J J J ?_; intro g5)
  (refine aF af J J J J J J ?_; intro g6)
  repeat' (first | refine ag ?_ | refine aa ?_ | refine ab ?_ | refine ae ?_ | ((refine' ak rfl ?_ J J ?_); rotate_left; first | exact ai af J J J J | exact ah af 2 J J J J J))
  refine iU 50 15 ?_
  repeat' (first | refine ag ?_ | refine aa ?_ | refine ab ?_ | refine ae ?_ | (refine fZ af 0 (news := (v.qv.take k).flatMap QC) J J J J J J J J (fun _ _ => rfl) eR (fun w1 hm j u hu => (hm.below.cell (block_lt_of_cell (hr1 j u hu))).trans (hr1 j u hu)) (.inr (lu _)) (by rw [cH bj, hn1]; rfl) (by unfold maxLen; omega) (by omega) J J ?_; intro sa sc) | (refine bq af J J J ⟨J, trivial⟩ J J J J J J J J ?_; intro g) | (refine bK af 1 0 J J J J J J J J J (fun _ _ => rfl) eR J J (by unfold maxLen; omega) (by omega) J J ?_; intro sb sd) | ((refine' ak rfl ?_ J J ?_); rotate_left; first | exact dg (v := .int .i64 (((k + 1 : Nat)) : Int)) (aq af J J J J J J) (congrArg (Value.int .i64) (IntWalk.i64_in (((k : Nat) : Int) + 1) (by omega))) | exact dg (v := .slice (some ⟨bb, off, none⟩) k v.xc) (qD af 0 k J J J J J J J J J J J (Nat.zero_le _) (by omega)) (by rw [if_neg (by omega), hx]; rfl) | exact ai af J J J J | exact ah af 2 J J J J J | exact ah af 4 J J J J J))
  repeat' (first | refine ag ?_ | refine aa ?_ | refine ab ?_ | refine aA ?_ | refine ae ?_ | (refine fZ af 1 (news := (v.qv.drop (k + 1)).flatMap QC) J J J J J J J J (fun _ _ => rfl) eR (fun w1 hm j u hu => (hm.below.cell (block_lt_of_cell (hrd j u hu))).trans (hrd j u hu)) (.inr (lu _)) (by rw [cH bj, hn2]; rfl) (by unfold maxLen; omega) (by omega) J J ?_; intro sa2 sc2) | ((refine' ak rfl ?_ J J ?_); rotate_left; first | exact dg (v := .slice (some ad) (v.qv.length - (k + 1)) (v.xc - (k + 1))) (qD af (k + 1) v.qv.length J J J J J J J J J J J (by omega) (by omega)) (by rw [← had]; rfl) | exact ai af J J J J | exact ah af 4 J J J J J) | refine aj af 2 J J J J J J J J J J J J ?_ | refine aj af 4 J J J J J J J J J J J J ?_)
  have hn3 : 0 + k + 1 + (v.qv.length - (k + 1)) = (v.qv.set k u2).length := by rw [List.length_set]; omega
  have hxs : ([] ++ (v.qv.take k).flatMap QC ++ QC u2 ++ (v.qv.drop (k + 1)).flatMap QC) = (v.qv.set k u2).flatMap QC := by rw [sk hk1, List.flatMap_append, List.flatMap_cons, List.nil_append, List.append_assoc]
  (refine aB af (fun _ => 2) J J ⟨J, trivial⟩ rfl fun w1 hm => ⟨⟨bZ v.c k (fun _ => u2.q), v.b, v.bc, sa2, sc2, v.qv.set k u2⟩, rfl, ?_, ?_⟩)
  · simp only [CC, bZ]
    rw [← hn3]
  · have hown := hm.2.get (i := 1) rfl
    have hown2 : w1.ownsRow w.heap.size 50 15 (.slice sa2 (0 + k + 1 + (v.qv.length - (k + 1))) sc2) (0 + k + 1 + (v.qv.length - (k + 1))) ([] ++ (v.qv.take k).flatMap QC ++ QC u2 ++ (v.qv.drop (k + 1)).flatMap QC) := hown
    rw [hn3, hxs] at hown2
    refine ⟨⟨⟨(hC.bk.below hm.below).mono fun _ => .inl, (Rws.own bj hown2).mono fun _ => .inr, ?_, fun q hq => ?_⟩, hm.below⟩, jA hown2, gJ hown2, fun q hq => ?_⟩
    · show v.c.qs.modify k (fun _ => u2.q) = (v.qv.set k u2).map (·.q)
      rw [hC.eq]
      exact (gF hk (fun _ => u2) (fun _ => u2.q) rfl).symm
    · rcases List.mem_or_eq_of_mem_set hq with h1 | rfl
      · exact ((hC.ok q h1).below hm.below).mono fun _ => .inl
      · exact (hU.below hm.below).mono fun _ => .inl
    · rcases List.mem_or_eq_of_mem_set hq with h1 | rfl
      · exact hw.ans q h1
      · exact hU2
end Go.Proofs.YtmdkfbmpenohiaaGreatDoor.Y
namespace Go.Proofs.YtmdkfbmpenohiaaGreatDoor.Y
open Go.RowKit
theorem pn {A : Nat → Prop} {w w1 : World} {M : List Ent} (hm : Mem w w1 M) (v : CV) (k : Nat) (u u2 : QV) (hC : COk A w v) (hw : eE v) (hzq : v.qv.length ≤ 703687441775) (hk : v.qv[k]? = some u) (hU : QOk A w u2) (hU2 : u2.a = none → u2.ac = 0) : Calls Tryz.prog 69 #[.agg #[.slice v.b v.c.bs.length v.bc, .int .i64 v.c.ra, .int .i64 v.c.rb, .int .i64 v.c.rc, .int .i64 v.c.rk, .int .i64 v.c.tk, .int .i64 v.c.mo, .int .i64 v.c.gn, .slice v.x v.qv.length v.xc, .int .i64 v.c.nx], .int .i64 ((k : Nat) : Int), .agg #[.int .i64 u2.q.id, .string u2.q.sv, .string u2.q.mt, .int .i64 u2.q.late, .slice u2.m u2.q.ms.length u2.mc, .int .i64 u2.q.sh, .slice u2.s u2.q.mg.length u2.sc, .int .i64 u2.q.att, .string u2.q.bk, .int .i64 u2.q.st, .int .i64 u2.q.nx, .slice u2.a u2.q.an.length u2.ac, .bool u2.q.dn, .int .i64 u2.q.cd, .string u2.q.tx]] w1 fun e w' => ∃ s : CV, ∃ F : Nat → Prop, (s.c = bZ v.c k (fun _ => u2.q) ∧ eE s ∧ ∀ b, F b → A b ∨ w.heap.size ≤ b) ∧ e = .returned (.agg ⟨CC s⟩) ∧ Mem w w' (.rep F (fun w => COk F w s) :: M) :=
  (eF (A := fun b => A b ∧ b < w.heap.size) v k u u2 w1 (hC.lt.below hm.below) hw hzq hk (hU.lt.below hm.below) hU2).mono fun e w2 ⟨s, h1, h2, h3, h4⟩ => ⟨s, _, ⟨h1, h4, fun b hb => by
    rcases hb.1 with h9 | h9
    · exact .inl h9.1
    · have := hm.1.size
      exact .inr (by omega)⟩, h2, Mem.out hm (A := fun b => A b ∧ b < w.heap.size) (fun b hb f hf => cE hm hb.2 hf) h3.2 (fun F w => COk F w s) h3.1.lt (fun F w3 w4 hk h => h.agree hk)⟩
theorem eX {A F : Nat → Prop} {w w1 : World} {M : List Ent} {s : CV} (hm : Mem w w1 M) {i : Nat} (hi : dY M i = some (.rep F (fun w => COk F w s))) (hF : ∀ b, F b → A b ∨ w.heap.size ≤ b) (hc : eE s) : OutR A w w1 s := ⟨⟨(hm.2.get hi).2.1.mono hF, hm.below⟩, hc⟩
theorem fF {c : CL} {k : Nat} {q : QR} (h : c.qs[k]? = some q) (f : QR → QR) : bZ c k (fun _ => f q) = bZ c k f := by
  unfold bZ
  rw [nJ h (f := fun _ => f q) (g := f) rfl]
theorem xF {A : Nat → Prop} (x : Option Addr) (l : List BV) (cap : Nat) (nm : ByteArray) (o : Option Nat) (w : World) (hR : Rws A w 6 bC x l) (hlen : l.length ≤ 2513169434916) (h : eA nm l 0 = o) : Calls Tryz.prog 79 #[.slice x l.length cap, .string nm] w fun e w' => e = .returned (zp o) ∧ Below w.heap.size w w' := by subst h; exact my x l cap nm w hR hlen
theorem qr {w : World} {B cap : Nat} {x : Option Addr} {l : List BV} {n : Nat} (hn : l.length = n) (h : w.ownsRow B 64 6 (.slice x n cap) n (l.flatMap bC)) : Rws (fun b => ∃ a, x = some a ∧ b = a.block) w 6 bC x l := fun h0 => by
  subst hn
  obtain ⟨b, off, h1, h2, h3, h4⟩ := Rws.own cr h h0
  exact ⟨b, off, h1, ⟨_, h1, rfl⟩, h3, h4⟩
set_option maxRecDepth 100000 in
set_option maxHeartbeats 8000000 in
theorem ka {A : Nat → Prop} (v : CV) (k : Nat) (u : QV) (cd : Int) (tx : ByteArray) (w : World) (hC : COk A w v) (hw : eE v) (hzq : v.qv.length ≤ 703687441775) (hk : v.qv[k]? = some u) : Calls Tryz.prog 77 #[.agg #[.slice v.b v.c.bs.length v.bc, .int .i64 v.c.ra, .int .i64 v.c.rb, .int .i64 v.c.rc, .int .i64 v.c.rk, .int .i64 v.c.tk, .int .i64 v.c.mo, .int .i64 v.c.gn, .slice v.x v.qv.length v.xc, .int .i64 v.c.nx], .int .i64 ((k : Nat) : Int), .agg #[.int .i64 cd, .string tx]] w fun e w' => ∃ v' : CV, v'.c = bZ v.c k (fun q => { q with dn := true, cd := cd, tx := tx }) ∧ e = .returned (.agg ⟨CC v'⟩) ∧ OutR A w w' v' := by
  have hcap := hw.cap
  have hk1 : k < v.qv.length := (List.getElem?_eq_some_iff.1 hk).1
  obtain ⟨bb, off, hx, _, hbl, hrows⟩ := hC.qs (by omega)
  have hrow : w.rangeAt bb (off + k * 15) (QC u) := hrows k u hk
  have hqk : v.c.qs[k]? = some u.q := by rw [hC.eq, List.getElem?_map, hk]; rfl
  have hUk : QOk A w u := hC.ok u (List.mem_of_getElem? hk)
  have hUa := hw.ans u (List.mem_of_getElem? hk)
  refine aD Tryz.func77 rfl Tryz.ntmps77 J J ?_
  refine ag ?_
  refine aa ?_
  (refine aT J J J J J J ?_; intro g3)
  (refine aT J J J J J J ?_; intro g5)
  (refine aF af J J J J J J ?_; intro g6)
  repeat' (first | refine ag ?_ | refine aa ?_ | refine ab ?_ | refine ae ?_ | (refine aF af J J J J J J ?_; intro g7) | ((refine' ak rfl ?_ J J ?_); rotate_left; first | exact b7 af (m := 15) k rfl hx J J J J J J J (fun _ => rfl) (fun _ => hk1) | exact a7 af (cs := QC u) J J J J J (fun _ => hrow) | exact ai af J J J J | exact ah af 0 J J J J J | exact ah af 2 J J J J J | exact ah af 3 J J J J J) | refine aj af 0 J J J J J J J J J J J J ?_)
  refine bE (σ := CV) (fun s F => s.c = bZ v.c k (fun _ => ({ u with q := { u.q with dn := true, cd := cd, tx := tx } } : QV).q) ∧ eE s ∧ ∀ b, F b → A b ∨ w.heap.size ≤ b) (fun s => .agg ⟨CC s⟩) (fun s F w => COk F w s) rfl (ay J J J J ⟨J, J, J, trivial⟩ rfl (by kernel_rfl)) (fun w1 hm => pn hm v k u { u with q := { u.q with dn := true, cd := cd, tx := tx } } hC hw hzq hk hUk hUa) J J ?_
  rintro ⟨c1, b1, bc1, x1, xc1, qv1⟩ F1 ⟨hc1, hcap1, hF1⟩
  dsimp only at hc1 hcap1
  repeat' (first | refine ab ?_ | refine aA ?_ | refine ae ?_ | refine aj af 2 J J J J J J J J J J J J ?_)
  have hcf : bZ v.c k (fun _ => ({ u with q := { u.q with dn := true, cd := cd, tx := tx } } : QV).q) = bZ v.c k (fun q => { q with dn := true, cd := cd, tx := tx }) := fF hqk (fun q => { q with dn := true, cd := cd, tx := tx })
  (refine aB af (fun _ => 2) J J ⟨J, trivial⟩ rfl fun w1 hm => ⟨⟨c1, b1, bc1, x1, xc1, qv1⟩, hc1.trans hcf, rfl, eX hm (i := 0) rfl hF1 hcap1⟩)
set_option maxRecDepth 100000 in
set_option maxHeartbeats 16000000 in
theorem kc {A : Nat → Prop} (v : CV) (k : Nat) (u : QV) (code now : Int) (w : World) (hC : COk A w v) (hw : eE v) (hzq : v.qv.length ≤ 703687441775) (hk : v.qv[k]? = some u) (hV : VC v.c) : Calls Tryz.prog 73 #[.agg #[.slice v.b v.c.bs.length v.bc, .int .i64 v.c.ra, .int .i64 v.c.rb, .int .i64 v.c.rc, .int .i64 v.c.rk, .int .i64 v.c.tk, .int .i64 v.c.mo, .int .i64 v.c.gn, .slice v.x v.qv.length v.xc, .int .i64 v.c.nx], .int .i64 ((k : Nat) : Int), .int .i64 code, .int .i64 now] w fun e w' => ∃ v' : CV, v'.c = ct v.c k code now ∧ e = .returned (.agg ⟨CC v'⟩) ∧ OutR A w w' v' := by
  have hcap := hw.cap
  have hk1 : k < v.qv.length := (List.getElem?_eq_some_iff.1 hk).1
  obtain ⟨bb, off, hx, _, hbl, hrows⟩ := hC.qs (by omega)
  have hrow : w.rangeAt bb (off + k * 15) (QC u) := hrows k u hk
  have hqk : v.c.qs[k]? = some u.q := by rw [hC.eq, List.getElem?_map, hk]; rfl
  have hUk : QOk A w u := hC.ok u (List.mem_of_getElem? hk)
  have hUa := hw.ans u (List.mem_of_getElem? hk)
  have hat : i9 v.c k = u.q := ek hqk
  have hcb := gH hV.cb
  refine aD Tryz.func73 rfl Tryz.ntmps73 J J ?_
  refine ag ?_
  refine aa ?_
  (refine aT J J J J J J ?_; intro g4)
  (refine aF af J J J J J J ?_; intro g8)
  repeat' (first | refine ag ?_ | refine aa ?_ | refine ab ?_ | refine ae ?_ | (refine aF af J J J J J J ?_; intro g9) | ((refine' ak rfl ?_ J J ?_); rotate_left; first | exact b7 af (m := 15) k rfl hx J J J J J J J (fun _ => rfl) (fun _ => hk1) | exact a7 af (cs := QC u) J J J J J (fun _ => hrow) | exact ai af J J J J | exact aq af J J J J J J | exact ah af 0 J J J J J | exact ah af 1 J J J J J) | refine aj af 0 J J J J J J J J J J J J ?_)
  by_cases hb : u.q.bk.size = 0
  · have hst : ct v.c k code now = v.c := by unfold ct; dsimp only; rw [hat, if_pos hb]
    refine aw rfl (by show (u.q.bk.toList == (⟨#[]⟩ : ByteArray).toList) = true; rw [cI]; simpa using hb) ?_
    repeat' (first | refine ag ?_ | refine aa ?_ | refine ab ?_ | refine aA ?_ | refine ar ?_ | refine ae ?_ | ((refine' ak rfl ?_ J J ?_); rotate_left; exact ah af 2 J J J J J) | refine aj af 1 J J J J J J J J J J J J ?_)
    (refine aB af (fun _ => 1) J J ⟨J, trivial⟩ rfl fun w1 hm => ⟨v, hst.symm, rfl, OutR.same hC hw hm.below⟩)
  · obtain ⟨kb, hkb⟩ := j4 (k := 0) ((hV.qs u.q (dI hqk)).busy hb).1
    obtain ⟨bv, hbv, _⟩ := nB hkb
    have hbok := (hcb.2 bv (List.mem_of_getElem? hbv)).1
    have hst : ct v.c k code now = bZ { v.c with bs := bR (db code now) v.c.bs kb } k (fun q => { q with bk := aZ, st := 0 }) := by unfold ct; dsimp only; rw [hat, if_neg hb, hkb]
    refine am rfl (by show (u.q.bk.toList == (⟨#[]⟩ : ByteArray).toList) = false; rw [cI]; simpa using hb) ?_
    repeat' (first | refine ag ?_ | refine aa ?_ | refine ab ?_ | refine au ?_ | refine ae ?_ | ((refine' ak rfl ?_ J J ?_); rotate_left; first | exact ai af J J J J | exact ah af 0 J J J J J | exact ah af 2 J J J J J) | refine aG rfl (ay J J J J ⟨J, J, trivial⟩ rfl (by kernel_rfl)) (fun w hm => xF v.b v.c.bs v.bc u.q.bk (some kb) w (hC.bk.below hm.below) (by omega) hkb) J J ?_)
    refine bf (σ := Option Addr × Nat) (fun _ => True) (fun p => .slice p.1 v.c.bs.length p.2) (fun p => [.own p.1 p.2 64 6 v.c.bs.length ((bR (db code now) v.c.bs kb).flatMap bC)]) rfl (ay J J J J ⟨J, J, J, J, trivial⟩ rfl (by kernel_rfl)) (fun w1 hm => r7 v.b v.c.bs v.bc kb bv code now w1 (hC.bk.below hm.below) (by omega) hbv hbok) J J ?_
    rintro ⟨pa, pc⟩ -
    dsimp only [List.cons_append, List.nil_append]
    repeat' (first | refine ag ?_ | refine aa ?_ | refine ab ?_ | refine ae ?_ | ((refine' ak rfl ?_ J J ?_); rotate_left; first | exact ai af J J J J | exact ah af 1 J J J J J | exact ah af 3 J J J J J) | refine aj af 1 J J J J J J J J J J J J ?_ | refine aj af 3 J J J J J J J J J J J J ?_)
    refine bX (σ := CV × (Nat → Prop)) (fun s => s.1.c = bZ { v.c with bs := bR (db code now) v.c.bs kb } k (fun _ => ({ u with q := { u.q with bk := aZ, st := 0 } } : QV).q) ∧ eE s.1 ∧ ∀ b, s.2 b → A b ∨ w.heap.size ≤ b) (fun s => .agg ⟨CC s.1⟩) (fun s => [.rep s.2 (fun w => COk s.2 w s.1), .cl g9 50 (QC { u with q := { u.q with bk := aZ, st := 0 } }), .cl g8 32 [.slice none 0 0, .int .i64 0, .int .i64 0, .int .i64 0, .int .i64 0, .int .i64 0, .int .i64 0, .int .i64 0, .slice none 0 0, .int .i64 0], .cl g4 32 [.slice pa v.c.bs.length pc, .int .i64 v.c.ra, .int .i64 v.c.rb, .int .i64 v.c.rc, .int .i64 v.c.rk, .int .i64 v.c.tk, .int .i64 v.c.mo, .int .i64 v.c.gn, .slice v.x v.qv.length v.xc, .int .i64 v.c.nx]]) rfl (ay J J J J ⟨J, J, J, trivial⟩ rfl (by kernel_rfl)) (fun w1 hm => ?_) J J ?_
    · have hown := hm.2.get (i := 0) rfl
      have hml := eg (db code now) v.c.bs kb
      have hA0 : ∀ b, (∃ a, pa = some a ∧ b = a.block) → w.heap.size ≤ b := fun b ⟨a, h1, h2⟩ => by
        subst h1 h2
        exact ((Ent.ok.mut_lt (e := .own (some a) pc 64 6 v.c.bs.length ((bR (db code now) v.c.bs kb).flatMap bC)) hown (by show a.block = a.block; rfl)).1)
      have hCi : COk (fun b => (A b ∧ b < w.heap.size) ∨ ∃ a, pa = some a ∧ b = a.block) w1 ⟨{ v.c with bs := bR (db code now) v.c.bs kb }, pa, pc, v.x, v.xc, v.qv⟩ := ⟨(qr hml hown).mono fun _ => .inr, (hC.qs.lt.below hm.below).mono fun _ => .inl, hC.eq, fun q hq => ((hC.ok q hq).lt.below hm.below).mono fun _ => .inl⟩
      have hbb : (⟨{ v.c with bs := bR (db code now) v.c.bs kb }, pa, pc, v.x, v.xc, v.qv⟩ : CV).c.bs.length = v.c.bs.length := hml
      have hcall := eF (A := fun b => (A b ∧ b < w.heap.size) ∨ ∃ a, pa = some a ∧ b = a.block) ⟨{ v.c with bs := bR (db code now) v.c.bs kb }, pa, pc, v.x, v.xc, v.qv⟩ k u { u with q := { u.q with bk := aZ, st := 0 } } w1 hCi ⟨hw.cap, hw.nil, hw.ans⟩ hzq hk ((hUk.lt.below hm.below).mono fun _ => .inl) hUa
      rw [hbb] at hcall
      refine hcall.mono fun e w2 ⟨s, h1, h2, h3, h4⟩ => ⟨(s, _), ⟨h1, h4, fun b hb => ?_⟩, h2, Mem.out (hm.mask [false, true, true, true] rfl) (A := fun b => (A b ∧ b < w.heap.size) ∨ ∃ a, pa = some a ∧ b = a.block) (fun b hb f hf hfm => ?_) h3.2 (fun F w => COk F w s) h3.1.lt (fun F w3 w4 hk h => h.agree hk)⟩
      · have := hm.1.size
        rcases hb.1 with (h9 | h9) | h9
        · exact .inl h9.1
        · exact .inr (hA0 b h9)
        · exact .inr (by omega)
      · rcases hb with h9 | ⟨a, h9, h10⟩
        · exact cE (hm.mask [false, true, true, true] rfl) h9.2 hf hfm
        · subst h9 h10
          exact (hm.2.2.1 f hf a.block).1 (show a.block = a.block from rfl) (Ent.mut_foot hfm)
    rintro ⟨⟨c1, b1, bc1, x1, xc1, qv1⟩, F1⟩ ⟨hc1, hcap1, hF1⟩
    dsimp only at hc1 hcap1 hF1
    repeat' (first | refine ab ?_ | refine aA ?_ | refine ae ?_ | refine aj af 2 J J J J J J J J J J J J ?_)
    have hcf : bZ { v.c with bs := bR (db code now) v.c.bs kb } k (fun _ => ({ u with q := { u.q with bk := aZ, st := 0 } } : QV).q) = ct v.c k code now := by
      rw [hst]
      exact fF (c := { v.c with bs := bR (db code now) v.c.bs kb }) hqk (fun q => { q with bk := aZ, st := 0 })
    (refine aB af (fun _ => 2) J J ⟨J, trivial⟩ rfl fun w1 hm => ⟨⟨c1, b1, bc1, x1, xc1, qv1⟩, hc1.trans hcf, rfl, eX hm (i := 0) rfl hF1 hcap1⟩)
end Go.Proofs.YtmdkfbmpenohiaaGreatDoor.Y
namespace Go.Proofs.YtmdkfbmpenohiaaGreatDoor.Y
open Go.RowKit
theorem ul {α : Type} {f : α → List Value} {sz : Nat} {T : TypeId} {w : World} {B cap : Nat} {x : Option Addr} {l : List α} (hf : ∀ a, (f a).length = sz) (h : w.ownsRow B T sz (.slice x l.length cap) l.length (l.flatMap f)) : Rws (fun b => ∃ a, x = some a ∧ b = a.block) w sz f x l := fun h0 => by
  obtain ⟨b, off, h1, h2, h3, h4⟩ := Rws.own hf h h0
  exact ⟨b, off, h1, ⟨_, h1, rfl⟩, h3, h4⟩
theorem lN {c : CL} {id : Int} {k : Nat} {q : QR} (hf : dh id c.qs 0 = some k) (hq : c.qs[k]? = some q) : el c id = if q.bk.size = 0 then 20 else 0 := by unfold el; rw [hf]; dsimp only; rw [hq]
theorem kM {c : CL} {id : Int} {k : Nat} {q : QR} (hf : dh id c.qs 0 = some k) (hq : c.qs[k]? = some q) (hb : q.bk.size ≠ 0) : dZ c id = k := by unfold dZ; rw [lN hf hq, if_neg hb, if_pos rfl, hf]; rfl
set_option maxRecDepth 100000 in
set_option maxHeartbeats 8000000 in
theorem sl {A : Nat → Prop} (v : CV) (id st : Int) (w : World) (hC : COk A w v) (hw : eE v) (hzq : v.qv.length ≤ 703687441775) : Calls Tryz.prog 35 #[.agg #[.slice v.b v.c.bs.length v.bc, .int .i64 v.c.ra, .int .i64 v.c.rb, .int .i64 v.c.rc, .int .i64 v.c.rk, .int .i64 v.c.tk, .int .i64 v.c.mo, .int .i64 v.c.gn, .slice v.x v.qv.length v.xc, .int .i64 v.c.nx], .int .i64 id, .int .i64 st] w fun e w' => ∃ v' : CV, v'.c = (cC v.c id st).1 ∧ e = .returned (.tuple #[.agg ⟨CC v'⟩, .int .i64 (cC v.c id st).2]) ∧ OutR A w w' v' := by
  obtain ⟨o, ho⟩ : ∃ o, dh id v.c.qs 0 = o := ⟨_, rfl⟩
  refine aD Tryz.func35 rfl Tryz.ntmps35 J J ?_
  refine ag ?_
  refine aa ?_
  (refine aT J J J J J J ?_; intro g3)
  (refine aF af J J J J J J ?_; intro g6)
  repeat' (first | refine ag ?_ | refine aa ?_ | refine ab ?_ | refine ae ?_ | ((refine' ak rfl ?_ J J ?_); rotate_left; first | exact ai af J J J J | exact aq af J J J J J J | exact ah af 1 J J J J J) | refine aG rfl (ay J J J J ⟨J, J, trivial⟩ rfl (by kernel_rfl)) (fun w hm => wb v id o w (hC.below hm.below) (by omega) ho) J J ?_)
  cases o with
  | none =>
    have hst : cC v.c id st = (v.c, 10) := by unfold cC; rw [(fa ho).1]; rfl
    refine aw J J ?_
    repeat' (first | refine ag ?_ | refine aa ?_ | refine ab ?_ | refine aA ?_ | refine ar ?_ | refine ae ?_ | ((refine' ak rfl ?_ J J ?_); rotate_left; first | exact ai af J J J J | exact ah af 1 J J J J J) | refine aj af 0 J J J J J J J J J J J J ?_)
    (refine aB af (fun _ => 0) J J ⟨J, trivial⟩ rfl fun w1 hm => ⟨v, ?_, ?_, OutR.same hC hw hm.below⟩)
    · rw [hst]
    · rw [hst]; rfl
  | some k =>
    obtain ⟨q0, hqk0, hid⟩ := ej ho
    obtain ⟨u, hk, hu1⟩ : ∃ u, v.qv[k]? = some u ∧ u.q = q0 := by rw [hC.eq, List.getElem?_map] at hqk0; simpa using hqk0
    have hcap := hw.cap
    have hk1 : k < v.qv.length := (List.getElem?_eq_some_iff.1 hk).1
    obtain ⟨bb, off, hx, _, hbl, hrows⟩ := hC.qs (by omega)
    have hrow : w.rangeAt bb (off + k * 15) (QC u) := hrows k u hk
    have hqk : v.c.qs[k]? = some u.q := by rw [hC.eq, List.getElem?_map, hk]; rfl
    have hUk : QOk A w u := hC.ok u (List.mem_of_getElem? hk)
    have hUa := hw.ans u (List.mem_of_getElem? hk)
    have hat : i9 v.c k = u.q := ek hqk
    have hru := lN ho hqk
    have hri := kM ho hqk
    refine am rfl (decide_eq_false (show ¬ ((k : Nat) : Int) < 0 by omega)) ?_
    repeat' (first | refine ag ?_ | refine aa ?_ | refine ab ?_ | refine au ?_ | refine ae ?_ | (refine aF af J J J J J J ?_; intro g9) | ((refine' ak rfl ?_ J J ?_); rotate_left; first | exact b7 af (m := 15) k rfl hx J J J J J J J (fun _ => rfl) (fun _ => hk1) | exact a7 af (cs := QC u) J J J J J (fun _ => hrow) | exact ai af J J J J | exact aq af J J J J J J | exact bp J J J J J | exact ah af 0 J J J J J | exact ah af 1 J J J J J) | refine aj af 0 J J J J J J J J J J J J ?_)
    by_cases hb : u.q.bk.size = 0 ∨ u.q.st ≠ 0
    · have hst : cC v.c id st = (v.c, 20) := by
        unfold cC
        by_cases hb0 : u.q.bk.size = 0
        · rw [hru, if_pos hb0]; rfl
        · rw [hru, if_neg hb0, hri hb0, hat, if_neg (by decide), if_pos (by simpa using hb.resolve_left hb0)]
      refine aw rfl (by show ((u.q.bk.toList == (⟨#[]⟩ : ByteArray).toList) || (u.q.st != 0)) = true; rw [cI]; simpa using hb) ?_
      repeat' (first | refine ag ?_ | refine aa ?_ | refine ab ?_ | refine aA ?_ | refine ar ?_ | refine ae ?_ | ((refine' ak rfl ?_ J J ?_); rotate_left; first | exact ai af J J J J | exact ah af 2 J J J J J) | refine aj af 1 J J J J J J J J J J J J ?_)
      (refine aB af (fun _ => 1) J J ⟨J, trivial⟩ rfl fun w1 hm => ⟨v, ?_, ?_, OutR.same hC hw hm.below⟩)
      · rw [hst]
      · rw [hst]; rfl
    · have hb0 : u.q.bk.size ≠ 0 := fun h => hb (.inl h)
      have hs0 : u.q.st = 0 := by
        by_cases h : u.q.st = 0
        · exact h
        · exact absurd (.inr h) hb
      refine am rfl (by show ((u.q.bk.toList == (⟨#[]⟩ : ByteArray).toList) || (u.q.st != 0)) = false; rw [cI]; simp [hb0, hs0]) ?_
      repeat' (first | refine ag ?_ | refine aa ?_ | refine ab ?_ | refine au ?_ | refine ae ?_ | ((refine' ak rfl ?_ J J ?_); rotate_left; first | exact ai af J J J J | exact aq af J J J J J J | exact bp J J J J J))
      by_cases hr : st < 1 ∨ 2147483647 < st
      · have hst : cC v.c id st = (v.c, 1) := by unfold cC; rw [hru, if_neg hb0, hri hb0, hat, if_neg (by decide), if_neg (by simpa using hs0), if_pos hr]
        refine aw rfl (by simp; omega) ?_
        repeat' (first | refine ag ?_ | refine aa ?_ | refine ab ?_ | refine aA ?_ | refine ar ?_ | refine ae ?_ | ((refine' ak rfl ?_ J J ?_); rotate_left; first | exact ai af J J J J | exact ah af 2 J J J J J) | refine aj af 1 J J J J J J J J J J J J ?_)
        (refine aB af (fun _ => 1) J J ⟨J, trivial⟩ rfl fun w1 hm => ⟨v, ?_, ?_, OutR.same hC hw hm.below⟩)
        · rw [hst]
        · rw [hst]; rfl
      · have hst : cC v.c id st = (bZ v.c k (fun q => { q with st := st }), 0) := by unfold cC; rw [hru, if_neg hb0, hri hb0, hat, if_neg (by decide), if_neg (by simpa using hs0), if_neg hr]
        have hcf : bZ v.c k (fun _ => ({ u with q := { u.q with st := st } } : QV).q) = bZ v.c k (fun q => { q with st := st }) := fF hqk (fun q => { q with st := st })
        refine am rfl (by simp; omega) ?_
        repeat' (first | refine ag ?_ | refine aa ?_ | refine ab ?_ | refine au ?_ | refine ae ?_ | ((refine' ak rfl ?_ J J ?_); rotate_left; first | exact ai af J J J J | exact ah af 0 J J J J J | exact ah af 2 J J J J J) | refine aj af 0 J J J J J J J J J J J J ?_)
        refine bE (σ := CV) (fun s F => s.c = bZ v.c k (fun _ => ({ u with q := { u.q with st := st } } : QV).q) ∧ eE s ∧ ∀ b, F b → A b ∨ w.heap.size ≤ b) (fun s => .agg ⟨CC s⟩) (fun s F w => COk F w s) rfl (ay J J J J ⟨J, J, J, trivial⟩ rfl (by kernel_rfl)) (fun w1 hm => pn hm v k u { u with q := { u.q with st := st } } hC hw hzq hk hUk hUa) J J ?_
        rintro ⟨c1, b1, bc1, x1, xc1, qv1⟩ F1 ⟨hc1, hcap1, hF1⟩
        dsimp only at hc1 hcap1
        repeat' (first | refine ab ?_ | refine aA ?_ | refine ae ?_ | ((refine' ak rfl ?_ J J ?_); rotate_left; exact ai af J J J J) | refine aj af 2 J J J J J J J J J J J J ?_)
        (refine aB af (fun _ => 2) J J ⟨J, trivial⟩ rfl fun w1 hm => ⟨⟨c1, b1, bc1, x1, xc1, qv1⟩, by rw [hst]; exact hc1.trans hcf, by rw [hst]; rfl, eX hm (i := 0) rfl hF1 hcap1⟩)
set_option maxRecDepth 100000 in
set_option maxHeartbeats 16000000 in
theorem sm {A : Nat → Prop} (v : CV) (id : Int) (m : ByteArray) (w : World) (hC : COk A w v) (hw : eE v) (hzq : v.qv.length ≤ 703687441775) (han : ∀ q ∈ v.c.qs, q.an.length < 8796093022208) : Calls Tryz.prog 36 #[.agg #[.slice v.b v.c.bs.length v.bc, .int .i64 v.c.ra, .int .i64 v.c.rb, .int .i64 v.c.rc, .int .i64 v.c.rk, .int .i64 v.c.tk, .int .i64 v.c.mo, .int .i64 v.c.gn, .slice v.x v.qv.length v.xc, .int .i64 v.c.nx], .int .i64 id, .string m] w fun e w' => ∃ v' : CV, v'.c = (cy v.c id m).1 ∧ e = .returned (.tuple #[.agg ⟨CC v'⟩, .int .i64 (cy v.c id m).2]) ∧ OutR A w w' v' := by
  obtain ⟨o, ho⟩ : ∃ o, dh id v.c.qs 0 = o := ⟨_, rfl⟩
  refine aD Tryz.func36 rfl Tryz.ntmps36 J J ?_
  refine ag ?_
  refine aa ?_
  (refine aT J J J J J J ?_; intro g3)
  (refine aF af J J J J J J ?_; intro g6)
  repeat' (first | refine ag ?_ | refine aa ?_ | refine ab ?_ | refine ae ?_ | ((refine' ak rfl ?_ J J ?_); rotate_left; first | exact ai af J J J J | exact aq af J J J J J J | exact ah af 1 J J J J J) | refine aG rfl (ay J J J J ⟨J, J, trivial⟩ rfl (by kernel_rfl)) (fun w hm => wb v id o w (hC.below hm.below) (by omega) ho) J J ?_)
  cases o with
  | none =>
    have hst : cy v.c id m = (v.c, 10) := by unfold cy; rw [(fa ho).1]; rfl
    refine aw J J ?_
    repeat' (first | refine ag ?_ | refine aa ?_ | refine ab ?_ | refine aA ?_ | refine ar ?_ | refine ae ?_ | ((refine' ak rfl ?_ J J ?_); rotate_left; first | exact ai af J J J J | exact ah af 1 J J J J J) | refine aj af 0 J J J J J J J J J J J J ?_)
    (refine aB af (fun _ => 0) J J ⟨J, trivial⟩ rfl fun w1 hm => ⟨v, ?_, ?_, OutR.same hC hw hm.below⟩)
    · rw [hst]
    · rw [hst]; rfl
  | some k =>
    obtain ⟨q0, hqk0, hid⟩ := ej ho
    obtain ⟨u, hk, hu1⟩ : ∃ u, v.qv[k]? = some u ∧ u.q = q0 := by rw [hC.eq, List.getElem?_map] at hqk0; simpa using hqk0
    have hcap := hw.cap
    have hk1 : k < v.qv.length := (List.getElem?_eq_some_iff.1 hk).1
    obtain ⟨bb, off, hx, _, hbl, hrows⟩ := hC.qs (by omega)
    have hrow : w.rangeAt bb (off + k * 15) (QC u) := hrows k u hk
    have hqk : v.c.qs[k]? = some u.q := by rw [hC.eq, List.getElem?_map, hk]; rfl
    have hUk : QOk A w u := hC.ok u (List.mem_of_getElem? hk)
    have hUa := hw.ans u (List.mem_of_getElem? hk)
    have hat : i9 v.c k = u.q := ek hqk
    have hru := lN ho hqk
    have hri := kM ho hqk
    have hlt := han _ (List.mem_of_getElem? hqk)
    refine am rfl (decide_eq_false (show ¬ ((k : Nat) : Int) < 0 by omega)) ?_
    repeat' (first | refine ag ?_ | refine aa ?_ | refine ab ?_ | refine au ?_ | refine ae ?_ | (refine aF af J J J J J J ?_; intro g9) | ((refine' ak rfl ?_ J J ?_); rotate_left; first | exact b7 af (m := 15) k rfl hx J J J J J J J (fun _ => rfl) (fun _ => hk1) | exact a7 af (cs := QC u) J J J J J (fun _ => hrow) | exact ai af J J J J | exact aq af J J J J J J | exact ah af 0 J J J J J | exact ah af 1 J J J J J) | refine aj af 0 J J J J J J J J J J J J ?_)
    by_cases hb : u.q.bk.size = 0
    · have hst : cy v.c id m = (v.c, 20) := by unfold cy; rw [hru, if_pos hb]; rfl
      refine aw rfl (by show (u.q.bk.toList == (⟨#[]⟩ : ByteArray).toList) = true; rw [cI]; simpa using hb) ?_
      repeat' (first | refine ag ?_ | refine aa ?_ | refine ab ?_ | refine aA ?_ | refine ar ?_ | refine ae ?_ | ((refine' ak rfl ?_ J J ?_); rotate_left; first | exact ai af J J J J | exact ah af 2 J J J J J) | refine aj af 1 J J J J J J J J J J J J ?_)
      (refine aB af (fun _ => 1) J J ⟨J, trivial⟩ rfl fun w1 hm => ⟨v, ?_, ?_, OutR.same hC hw hm.below⟩)
      · rw [hst]
      · rw [hst]; rfl
    · refine am rfl (by show (u.q.bk.toList == (⟨#[]⟩ : ByteArray).toList) = false; rw [cI]; simpa using hb) ?_
      repeat' (first | refine ag ?_ | refine aa ?_ | refine ab ?_ | refine au ?_ | refine ae ?_ | ((refine' ak rfl ?_ J J ?_); rotate_left; first | exact ai af J J J J | exact aq af J J J J J J | exact aO af J J J J J J J))
      by_cases hms : 16384 < m.size
      · have hst : cy v.c id m = (v.c, 3) := by unfold cy; rw [hru, if_neg hb, if_neg (by decide), if_pos hms]
        refine aw rfl (by simp; omega) ?_
        repeat' (first | refine ag ?_ | refine aa ?_ | refine ab ?_ | refine aA ?_ | refine ar ?_ | refine ae ?_ | ((refine' ak rfl ?_ J J ?_); rotate_left; first | exact ai af J J J J | exact ah af 2 J J J J J) | refine aj af 1 J J J J J J J J J J J J ?_)
        (refine aB af (fun _ => 1) J J ⟨J, trivial⟩ rfl fun w1 hm => ⟨v, ?_, ?_, OutR.same hC hw hm.below⟩)
        · rw [hst]
        · rw [hst]; rfl
      · refine am rfl (by simp; omega) ?_
        repeat' (first | refine ag ?_ | refine aa ?_ | refine ab ?_ | refine au ?_ | refine ae ?_ | ((refine' ak rfl ?_ J J ?_); rotate_left; first | exact dg (v := .int .i64 (((u.q.an.length + 1 : Nat)) : Int)) (aq af J J J J J J) (congrArg (Value.int .i64) (IntWalk.i64_in (((u.q.an.length : Nat) : Int) + 1) (by omega))) | exact ai af J J J J | exact ah af 0 J J J J J | exact aO af J J J J J J J) | refine aG rfl (ay J J J J ⟨J, J, trivial⟩ rfl (by kernel_rfl)) (fun w hm => pk _ _ w) J J ?_)
        by_cases hr : 0 ≤ c4 u.q.sh ∧ c4 u.q.sh ≤ u.q.an.length
        · have hst : cy v.c id m = (v.c, 11) := by unfold cy; rw [hru, if_neg hb, if_neg (by decide), if_neg hms, hri hb, hat, if_pos hr]
          refine aw rfl (by unfold si; simp; omega) ?_
          repeat' (first | refine ag ?_ | refine aa ?_ | refine ab ?_ | refine aA ?_ | refine ar ?_ | refine ae ?_ | ((refine' ak rfl ?_ J J ?_); rotate_left; first | exact ai af J J J J | exact ah af 2 J J J J J) | refine aj af 1 J J J J J J J J J J J J ?_)
          (refine aB af (fun _ => 1) J J ⟨J, trivial⟩ rfl fun w1 hm => ⟨v, ?_, ?_, OutR.same hC hw hm.below⟩)
          · rw [hst]
          · rw [hst]; rfl
        · have hst : cy v.c id m = (bZ v.c k (fun q => { q with an := q.an ++ [m] }), 0) := by unfold cy; rw [hru, if_neg hb, if_neg (by decide), if_neg hms, hri hb, hat, if_neg hr]
          have hcf : ∀ sb sd, bZ v.c k (fun _ => ({ u with q := { u.q with an := u.q.an ++ [m] }, a := sb, ac := sd } : QV).q) = bZ v.c k (fun q => { q with an := q.an ++ [m] }) := fun _ _ => fF hqk (fun q => { q with an := q.an ++ [m] })
          refine am rfl (by unfold si; simp; omega) ?_
          have hlen0 : u.a = none → u.q.an = [] := fun h => by
            by_cases h0 : 0 < u.q.an.length
            · obtain ⟨_, _, h1, _⟩ := hUk.2.2 h0
              rw [h] at h1; cases h1
            · exact List.eq_nil_of_length_eq_zero (by omega)
          cases hua : u.a with
          | none =>
            have han0 := hlen0 hua
            have hz0 : u.q.an = [] := han0
            have hsl : Value.slice none u.q.an.length u.ac = .slice none 0 0 := by rw [hUa hua, han0]; rfl
            repeat' (first | refine ag ?_ | refine aa ?_ | refine ab ?_ | refine au ?_ | refine ae ?_ | ((refine' ak rfl ?_ J J ?_); rotate_left; first | exact dg (v := .slice none 0 0) (ah af 0 J J J J J) hsl | exact ai af J J J J))
            refine iU 9 1 ?_
            refine nr af 0 J J J J J J J J J ?_
            repeat' (first | refine ag ?_ | refine aa ?_ | refine ab ?_ | refine ae ?_ | (refine bq af J J J ⟨J, trivial⟩ J J J J J J J J ?_; intro g) | (refine bK af 1 0 J J J J J J J J J (fun _ _ => rfl) ow J J (by unfold maxLen; omega) (by omega) J J ?_; intro sb sd) | ((refine' ak rfl ?_ J J ?_); rotate_left; first | exact dg (v := .slice sb (u.q.an ++ [m]).length sd) (ai af J J J J) (congrArg (fun n : Nat => Value.slice sb n sd) (show 0 + 1 = (u.q.an ++ [m]).length by simp [han0])) | exact ai af J J J J | exact ah af 2 J J J J J | exact ah af 4 J J J J J) | refine aj af 2 J J J J J J J J J J J J ?_)
            refine bX (σ := CV × (Nat → Prop)) (fun s => s.1.c = bZ v.c k (fun _ => ({ u with q := { u.q with an := u.q.an ++ [m] }, a := sb, ac := sd } : QV).q) ∧ eE s.1 ∧ ∀ b, s.2 b → A b ∨ w.heap.size ≤ b) (fun s => .agg ⟨CC s.1⟩) (fun s => [.rep s.2 (fun w => COk s.2 w s.1), .cl g9 50 (QC { u with q := { u.q with an := u.q.an ++ [m] }, a := sb, ac := sd }), .cl g6 32 [.slice none 0 0, .int .i64 0, .int .i64 0, .int .i64 0, .int .i64 0, .int .i64 0, .int .i64 0, .int .i64 0, .slice none 0 0, .int .i64 0], .cl g3 32 (CC v)]) rfl (ay J J J J ⟨J, J, J, trivial⟩ rfl (by kernel_rfl)) (fun w1 hm => ?_) J J ?_
            · have e1 : (u.q.an ++ [m]).length = 0 + 1 := by simp [han0]
              have e2 : (u.q.an ++ [m]).flatMap sC = [] ++ [.string m] := by simp [sC, han0]
              have hown : w1.ownsRow w.heap.size 9 1 (.slice sb (0 + 1) sd) (0 + 1) ([] ++ [.string m]) := hm.2.get (i := 1) rfl
              rw [← e1, ← e2] at hown
              have hA0 : ∀ b, (∃ a, sb = some a ∧ b = a.block) → w.heap.size ≤ b := fun b ⟨a, h1, h2⟩ => by
                subst h1 h2
                exact ((Ent.ok.mut_lt (e := .own (some a) sd 9 1 (u.q.an ++ [m]).length ((u.q.an ++ [m]).flatMap sC)) hown (by show a.block = a.block; rfl)).1)
              have hU3 : QOk (fun b => (A b ∧ b < w.heap.size) ∨ ∃ a, sb = some a ∧ b = a.block) w1 { u with q := { u.q with an := u.q.an ++ [m] }, a := sb, ac := sd } := ⟨(hUk.1.lt.below hm.below).mono fun _ => .inl, (hUk.2.1.lt.below hm.below).mono fun _ => .inl, (ul eC hown).mono fun _ => .inr⟩
              refine (eF (A := fun b => (A b ∧ b < w.heap.size) ∨ ∃ a, sb = some a ∧ b = a.block) v k u { u with q := { u.q with an := u.q.an ++ [m] }, a := sb, ac := sd } w1 ((hC.lt.below hm.below).mono fun _ => .inl) hw hzq hk hU3 (gJ hown)).mono fun e w2 ⟨s, h1, h2, h3, h4⟩ => ⟨(s, _), ⟨h1, h4, fun b hb => ?_⟩, h2, Mem.out (hm.mask [false, false, true, true, true] rfl) (A := fun b => (A b ∧ b < w.heap.size) ∨ ∃ a, sb = some a ∧ b = a.block) (fun b hb f hf hfm => ?_) h3.2 (fun F w => COk F w s) h3.1.lt (fun F w3 w4 hk h => h.agree hk)⟩
              · have := hm.1.size
                rcases hb.1 with (h9 | h9) | h9
                · exact .inl h9.1
                · exact .inr (hA0 b h9)
                · exact .inr (by omega)
              · rcases hb with h9 | ⟨a, h9, h10⟩
                · exact cE (hm.mask [false, false, true, true, true] rfl) h9.2 hf hfm
                · subst h9 h10
                  exact ((hm.mask [false, true, true, true, true] rfl).2.2.1 f hf a.block).1 (show a.block = a.block from rfl) (Ent.mut_foot hfm)
            rintro ⟨⟨c1, b1, bc1, x1, xc1, qv1⟩, F1⟩ ⟨hc1, hcap1, hF1⟩
            dsimp only at hc1 hcap1 hF1
            repeat' (first | refine ab ?_ | refine aA ?_ | refine ae ?_ | ((refine' ak rfl ?_ J J ?_); rotate_left; exact ai af J J J J) | refine aj af 2 J J J J J J J J J J J J ?_)
            (refine aB af (fun _ => 2) J J ⟨J, trivial⟩ rfl fun w1 hm => ⟨⟨c1, b1, bc1, x1, xc1, qv1⟩, by rw [hst]; exact hc1.trans (hcf sb sd), by rw [hst]; rfl, eX hm (i := 0) rfl hF1 hcap1⟩)
          | some ad =>
            have hsl : Value.slice (some ad) u.q.an.length u.ac = .slice (some ad) u.q.an.length u.ac := rfl
            have hans : ∀ j y, (u.q.an.flatMap sC)[j]? = some y → w.cell? (ad.add j) = some y := fun j y hy => by
              obtain ⟨z, h1, h2⟩ := jB eC (by decide) hy
              obtain ⟨b9, o9, h3, _, _, h4⟩ := hUk.2.2 (by have := (List.getElem?_eq_some_iff.1 h1).1; omega)
              rw [hua] at h3
              obtain rfl := Option.some.inj h3
              have h5 := h4 _ z h1 _ y h2
              rw [Addr.add_mid]
              rw [show o9 + j / 1 * 1 + j % 1 = o9 + j by omega] at h5
              exact h5
            repeat' (first | refine ag ?_ | refine aa ?_ | refine ab ?_ | refine au ?_ | refine ae ?_ | ((refine' ak rfl ?_ J J ?_); rotate_left; first | exact dg (v := .slice (some ad) u.q.an.length u.ac) (ah af 0 J J J J J) hsl | exact ai af J J J J))
            refine iU 9 1 ?_
            (refine fZ af 0 (news := u.q.an.flatMap sC) J J J J J J J J (fun _ _ => rfl) ow (fun w1 hm j y hy => (hm.below.cell (block_lt_of_cell (hans j y hy))).trans (hans j y hy)) (.inr (tl _)) (by rw [cH eC]; rfl) (by unfold maxLen; omega) (by omega) J J ?_; intro sa sc)
            repeat' (first | refine ag ?_ | refine aa ?_ | refine ab ?_ | refine ae ?_ | (refine bq af J J J ⟨J, trivial⟩ J J J J J J J J ?_; intro g) | (refine bK af 1 0 J J J J J J J J J (fun _ _ => rfl) ow J J (by unfold maxLen; omega) (by omega) J J ?_; intro sb sd) | ((refine' ak rfl ?_ J J ?_); rotate_left; first | exact dg (v := .slice sb (u.q.an ++ [m]).length sd) (ai af J J J J) (congrArg (fun n : Nat => Value.slice sb n sd) (show 0 + u.q.an.length + 1 = (u.q.an ++ [m]).length by simp)) | exact ai af J J J J | exact ah af 2 J J J J J | exact ah af 4 J J J J J) | refine aj af 2 J J J J J J J J J J J J ?_)
            refine bX (σ := CV × (Nat → Prop)) (fun s => s.1.c = bZ v.c k (fun _ => ({ u with q := { u.q with an := u.q.an ++ [m] }, a := sb, ac := sd } : QV).q) ∧ eE s.1 ∧ ∀ b, s.2 b → A b ∨ w.heap.size ≤ b) (fun s => .agg ⟨CC s.1⟩) (fun s => [.rep s.2 (fun w => COk s.2 w s.1), .cl g9 50 (QC { u with q := { u.q with an := u.q.an ++ [m] }, a := sb, ac := sd }), .cl g6 32 [.slice none 0 0, .int .i64 0, .int .i64 0, .int .i64 0, .int .i64 0, .int .i64 0, .int .i64 0, .int .i64 0, .slice none 0 0, .int .i64 0], .cl g3 32 (CC v)]) rfl (ay J J J J ⟨J, J, J, trivial⟩ rfl (by kernel_rfl)) (fun w1 hm => ?_) J J ?_
            · have e1 : (u.q.an ++ [m]).length = 0 + u.q.an.length + 1 := by simp []
              have e2 : (u.q.an ++ [m]).flatMap sC = ([] ++ u.q.an.flatMap sC) ++ [.string m] := by simp [sC]
              have hown : w1.ownsRow w.heap.size 9 1 (.slice sb (0 + u.q.an.length + 1) sd) (0 + u.q.an.length + 1) (([] ++ u.q.an.flatMap sC) ++ [.string m]) := hm.2.get (i := 1) rfl
              rw [← e1, ← e2] at hown
              have hA0 : ∀ b, (∃ a, sb = some a ∧ b = a.block) → w.heap.size ≤ b := fun b ⟨a, h1, h2⟩ => by
                subst h1 h2
                exact ((Ent.ok.mut_lt (e := .own (some a) sd 9 1 (u.q.an ++ [m]).length ((u.q.an ++ [m]).flatMap sC)) hown (by show a.block = a.block; rfl)).1)
              have hU3 : QOk (fun b => (A b ∧ b < w.heap.size) ∨ ∃ a, sb = some a ∧ b = a.block) w1 { u with q := { u.q with an := u.q.an ++ [m] }, a := sb, ac := sd } := ⟨(hUk.1.lt.below hm.below).mono fun _ => .inl, (hUk.2.1.lt.below hm.below).mono fun _ => .inl, (ul eC hown).mono fun _ => .inr⟩
              refine (eF (A := fun b => (A b ∧ b < w.heap.size) ∨ ∃ a, sb = some a ∧ b = a.block) v k u { u with q := { u.q with an := u.q.an ++ [m] }, a := sb, ac := sd } w1 ((hC.lt.below hm.below).mono fun _ => .inl) hw hzq hk hU3 (gJ hown)).mono fun e w2 ⟨s, h1, h2, h3, h4⟩ => ⟨(s, _), ⟨h1, h4, fun b hb => ?_⟩, h2, Mem.out (hm.mask [false, false, true, true, true] rfl) (A := fun b => (A b ∧ b < w.heap.size) ∨ ∃ a, sb = some a ∧ b = a.block) (fun b hb f hf hfm => ?_) h3.2 (fun F w => COk F w s) h3.1.lt (fun F w3 w4 hk h => h.agree hk)⟩
              · have := hm.1.size
                rcases hb.1 with (h9 | h9) | h9
                · exact .inl h9.1
                · exact .inr (hA0 b h9)
                · exact .inr (by omega)
              · rcases hb with h9 | ⟨a, h9, h10⟩
                · exact cE (hm.mask [false, false, true, true, true] rfl) h9.2 hf hfm
                · subst h9 h10
                  exact ((hm.mask [false, true, true, true, true] rfl).2.2.1 f hf a.block).1 (show a.block = a.block from rfl) (Ent.mut_foot hfm)
            rintro ⟨⟨c1, b1, bc1, x1, xc1, qv1⟩, F1⟩ ⟨hc1, hcap1, hF1⟩
            dsimp only at hc1 hcap1 hF1
            repeat' (first | refine ab ?_ | refine aA ?_ | refine ae ?_ | ((refine' ak rfl ?_ J J ?_); rotate_left; exact ai af J J J J) | refine aj af 2 J J J J J J J J J J J J ?_)
            (refine aB af (fun _ => 2) J J ⟨J, trivial⟩ rfl fun w1 hm => ⟨⟨c1, b1, bc1, x1, xc1, qv1⟩, by rw [hst]; exact hc1.trans (hcf sb sd), by rw [hst]; rfl, eX hm (i := 0) rfl hF1 hcap1⟩)
theorem rm {A : Nat → Prop} {w w1 w2 : World} {M : List Ent} {s : CV} (hm : Mem w w1 M) (h : OutR (fun b => A b ∧ b < w.heap.size) w1 w2 s) : ∃ F : Nat → Prop, (eE s ∧ ∀ b, F b → A b ∨ w.heap.size ≤ b) ∧ Mem w w2 (.rep F (fun w => COk F w s) :: M) :=
  ⟨_, ⟨h.2, fun b hb => by
    rcases hb.1 with h9 | h9
    · exact .inl h9.1
    · have := hm.1.size
      exact .inr (by omega)⟩, Mem.out hm (A := fun b => A b ∧ b < w.heap.size) (fun b hb f hf => cE hm hb.2 hf) h.1.2 (fun F w => COk F w s) h.1.1.lt (fun F w3 w4 hk h => h.agree hk)⟩
theorem jD {A F0 : Nat → Prop} {w w1 w2 : World} {M : List Ent} {s0 s : CV} (hm : Mem w w1 M) {i : Nat} (hi : dY M i = some (.rep F0 (fun w => COk F0 w s0))) (hF0 : ∀ b, F0 b → A b ∨ w.heap.size ≤ b) (h : OutR F0 w1 w2 s) : ∃ F : Nat → Prop, (eE s ∧ ∀ b, F b → A b ∨ w.heap.size ≤ b) ∧ Mem w w2 (.rep F (fun w => COk F w s) :: M) :=
  ⟨_, ⟨h.2, fun b hb => by
    rcases hb.1 with h9 | h9
    · exact hF0 b h9
    · have := hm.1.size
      exact .inr (by omega)⟩, Mem.out hm (A := F0) (dz hm.2 hi) h.1.2 (fun F w => COk F w s) h.1.1.lt (fun F w3 w4 hk h => h.agree hk)⟩
theorem ke (c : CL) (i : Nat) (code now : Int) : ct c i code (bI now) = ct c i code now := by
  unfold ct
  dsimp only
  rw [oH]
theorem kg {v s : CV} (hv : v.c.qs = v.qv.map (·.q)) (hs : s.c.qs = s.qv.map (·.q)) (h : s.c.qs.length = v.c.qs.length) : s.qv.length = v.qv.length := by
  rw [hs, hv, List.length_map, List.length_map] at h
  exact h
theorem kh (c : CL) (i : Nat) (code now : Int) : (ct c i code now).qs.length = c.qs.length := by
  unfold ct
  dsimp only
  split
  · rfl
  · exact List.length_modify _ _ _
set_option maxRecDepth 100000 in
set_option maxHeartbeats 16000000 in
theorem sn {A : Nat → Prop} (v : CV) (now id : Int) (w : World) (hC : COk A w v) (hw : eE v) (hzq : v.qv.length ≤ 703687441775) (hV : VC v.c) : Calls Tryz.prog 38 #[.agg #[.slice v.b v.c.bs.length v.bc, .int .i64 v.c.ra, .int .i64 v.c.rb, .int .i64 v.c.rc, .int .i64 v.c.rk, .int .i64 v.c.tk, .int .i64 v.c.mo, .int .i64 v.c.gn, .slice v.x v.qv.length v.xc, .int .i64 v.c.nx], .int .i64 now, .int .i64 id] w fun e w' => ∃ v' : CV, v'.c = (cR v.c now id).1 ∧ e = .returned (.tuple #[.agg ⟨CC v'⟩, .int .i64 (cR v.c now id).2]) ∧ OutR A w w' v' := by
  obtain ⟨o, ho⟩ : ∃ o, dh id v.c.qs 0 = o := ⟨_, rfl⟩
  refine aD Tryz.func38 rfl Tryz.ntmps38 J J ?_
  refine ag ?_
  refine aa ?_
  (refine aT J J J J J J ?_; intro g3)
  (refine aF af J J J J J J ?_; intro g6)
  repeat' (first | refine ag ?_ | refine aa ?_ | refine ab ?_ | refine ae ?_ | ((refine' ak rfl ?_ J J ?_); rotate_left; first | exact ai af J J J J | exact aq af J J J J J J | exact ah af 1 J J J J J) | refine aG rfl (ay J J J J ⟨J, J, trivial⟩ rfl (by kernel_rfl)) (fun w hm => wb v id o w (hC.below hm.below) (by omega) ho) J J ?_)
  cases o with
  | none =>
    have hst : cR v.c now id = (v.c, 10) := by unfold cR; rw [ho]
    refine aw J J ?_
    repeat' (first | refine ag ?_ | refine aa ?_ | refine ab ?_ | refine aA ?_ | refine ar ?_ | refine ae ?_ | ((refine' ak rfl ?_ J J ?_); rotate_left; first | exact ai af J J J J | exact ah af 1 J J J J J) | refine aj af 0 J J J J J J J J J J J J ?_)
    (refine aB af (fun _ => 0) J J ⟨J, trivial⟩ rfl fun w1 hm => ⟨v, ?_, ?_, OutR.same hC hw hm.below⟩)
    · rw [hst]
    · rw [hst]; rfl
  | some k =>
    obtain ⟨q0, hqk0, hid⟩ := ej ho
    obtain ⟨u, hk, hu1⟩ : ∃ u, v.qv[k]? = some u ∧ u.q = q0 := by rw [hC.eq, List.getElem?_map] at hqk0; simpa using hqk0
    have hcap := hw.cap
    have hk1 : k < v.qv.length := (List.getElem?_eq_some_iff.1 hk).1
    obtain ⟨bb, off, hx, _, hbl, hrows⟩ := hC.qs (by omega)
    have hrow : w.rangeAt bb (off + k * 15) (QC u) := hrows k u hk
    have hqk : v.c.qs[k]? = some u.q := by rw [hC.eq, List.getElem?_map, hk]; rfl
    have hUk : QOk A w u := hC.ok u (List.mem_of_getElem? hk)
    have hUa := hw.ans u (List.mem_of_getElem? hk)
    have hat : i9 v.c k = u.q := ek hqk
    have hru := lN ho hqk
    have hri := kM ho hqk
    refine am rfl (decide_eq_false (show ¬ ((k : Nat) : Int) < 0 by omega)) ?_
    repeat' (first | refine ag ?_ | refine aa ?_ | refine ab ?_ | refine au ?_ | refine ae ?_ | ((refine' ak rfl ?_ J J ?_); rotate_left; first | exact b7 af (m := 15) k rfl hx J J J J J J J (fun _ => rfl) (fun _ => hk1) | exact bT af J J J J J (fun _ => hrow 12 _ rfl) | exact ai af J J J J | exact ah af 1 J J J J J))
    cases hdn : u.q.dn with
    | true =>
      have hst : cR v.c now id = (v.c, 20) := by unfold cR; rw [ho]; simp only [hat, hdn]; rfl
      refine aw J J ?_
      repeat' (first | refine ag ?_ | refine aa ?_ | refine ab ?_ | refine aA ?_ | refine ar ?_ | refine ae ?_ | ((refine' ak rfl ?_ J J ?_); rotate_left; first | exact ai af J J J J | exact ah af 1 J J J J J) | refine aj af 0 J J J J J J J J J J J J ?_)
      (refine aB af (fun _ => 0) J J ⟨J, trivial⟩ rfl fun w1 hm => ⟨v, ?_, ?_, OutR.same hC hw hm.below⟩)
      · rw [hst]
      · rw [hst]; rfl
    | false =>
      have hst : cR v.c now id = (dE v.c k 1 now, 0) := by unfold cR; rw [ho]; simp only [hat, hdn]; unfold dE; rw [ke]; rfl
      refine am J J ?_
      repeat' (first | refine ag ?_ | refine aa ?_ | refine ab ?_ | refine au ?_ | ((refine' ak rfl ?_ J J ?_); rotate_left; first | exact ai af J J J J | exact ah af 1 J J J J J))
      refine bE (σ := CV) (fun s F => s.c = ct v.c k 1 now ∧ eE s ∧ ∀ b, F b → A b ∨ w.heap.size ≤ b) (fun s => .agg ⟨CC s⟩) (fun s F w => COk F w s) rfl (ay J J J J ⟨J, J, J, J, trivial⟩ rfl (by kernel_rfl)) (fun w1 hm => (kc (A := fun b => A b ∧ b < w.heap.size) v k u 1 now w1 (hC.lt.below hm.below) hw hzq hk hV).mono fun e w2 ⟨s, g1, g2, g3⟩ => by obtain ⟨F, g4, g5⟩ := rm hm g3; exact ⟨s, F, ⟨g1, g4⟩, g2, g5⟩) J J ?_
      rintro ⟨c1, b1, bc1, x1, xc1, qv1⟩ F1 ⟨hc1, hw1, hF1⟩
      dsimp only at hc1 hw1
      repeat' (((refine' ak rfl ?_ J J ?_); rotate_left; first | exact ai af J J J J | exact aC af J J ⟨J, trivial⟩ J J J))
      refine eH (p := c1.qs = qv1.map (·.q)) (fun w1 hm => (hm.2.get (i := 0) rfl).2.1.eq) ?_
      intro hq1
      have hln : qv1.length = v.qv.length := kg (v := v) (s := ⟨c1, b1, bc1, x1, xc1, qv1⟩) hC.eq hq1 (by show c1.qs.length = _; rw [hc1]; exact kh _ _ _ _)
      obtain ⟨u1, hk9⟩ : ∃ u1, qv1[k]? = some u1 := ⟨_, List.getElem?_eq_getElem (by omega)⟩
      refine bE (σ := CV) (fun s F => s.c = bZ c1 k (fun q => { q with dn := true, cd := 1, tx := ⟨#[]⟩ }) ∧ eE s ∧ ∀ b, F b → A b ∨ w.heap.size ≤ b) (fun s => .agg ⟨CC s⟩) (fun s F w => COk F w s) rfl (ay J J J J ⟨J, J, J, trivial⟩ rfl (by kernel_rfl)) (fun w1 hm => (ka (A := F1) ⟨c1, b1, bc1, x1, xc1, qv1⟩ k u1 1 ⟨#[]⟩ w1 (hm.2.get (i := 0) rfl).2.1 hw1 (by show qv1.length ≤ _; omega) hk9).mono fun e w2 ⟨s, g1, g2, g3⟩ => by obtain ⟨F, g4, g5⟩ := jD hm (i := 0) rfl hF1 g3; exact ⟨s, F, ⟨g1, g4⟩, g2, g5⟩) J J ?_
      rintro ⟨c2, b2, bc2, x2, xc2, qv2⟩ F2 ⟨hc2, hw2, hF2⟩
      dsimp only at hc2 hw2
      repeat' (first | refine ab ?_ | refine aA ?_ | refine ae ?_ | ((refine' ak rfl ?_ J J ?_); rotate_left; exact ai af J J J J) | refine aj af 2 J J J J J J J J J J J J ?_)
      have hfin : c2 = dE v.c k 1 now := by rw [hc2, hc1]; rfl
      (refine aB af (fun _ => 2) J J ⟨J, trivial⟩ rfl fun w1 hm => ⟨⟨c2, b2, bc2, x2, xc2, qv2⟩, by rw [hst]; exact hfin, by rw [hst]; rfl, eX hm (i := 0) rfl hF2 hw2⟩)
theorem um {A : Nat → Prop} (x : Option Addr) (l : List BV) (cap : Nat) (e1 : Int) (he : fu l = e1) (w : World) (hR : Rws A w 6 bC x l) (hlen : l.length ≤ 2513169434916) : Calls Tryz.prog 20 #[.slice x l.length cap] w fun e w' => e = .returned (.int .i64 e1) ∧ Below w.heap.size w w' := by subst he; exact rR x l cap w hR hlen
theorem we : eE tP := ⟨Nat.le_refl _, fun _ => rfl, fun _ h => by cases h⟩
theorem wg {A : Nat → Prop} {w : World} : COk A w tP := ⟨dA, dA, rfl, fun _ h => by cases h⟩
set_option maxRecDepth 100000 in
set_option maxHeartbeats 16000000 in
theorem uo {A : Nat → Prop} (x : Option Addr) (l : List BV) (cap : Nat) (a b c k t m g1 : Int) (w : World) (hR : Rws A w 6 bC x l) (hlen : l.length ≤ 2513169434916) : Calls Tryz.prog 6 #[.slice x l.length cap, .agg #[.int .i64 a, .int .i64 b, .int .i64 c, .int .i64 k], .agg #[.int .i64 t, .int .i64 m, .int .i64 g1]] w fun e w' => ∃ v' : CV, v'.c = (dQ l a b c k t m g1).1 ∧ e = .returned (.tuple #[.agg ⟨CC v'⟩, .int .i64 (dQ l a b c k t m g1).2]) ∧ OutR A w w' v' := by
  obtain ⟨e1, he1⟩ : ∃ e, fu l = e := ⟨_, rfl⟩
  obtain ⟨e2, he2⟩ : ∃ e, eV a b c k = e := ⟨_, rfl⟩
  obtain ⟨e3, he3⟩ : ∃ e, da t m g1 = e := ⟨_, rfl⟩
  refine aD Tryz.func6 rfl Tryz.ntmps6 J J ?_
  refine ag ?_
  refine aa ?_
  (refine aT J J J J J J ?_; intro g4)
  (refine aT J J J J J J ?_; intro g5)
  (refine aF af J J J J J J ?_; intro g6)
  repeat' (first | refine ag ?_ | refine aa ?_ | refine ab ?_ | refine ae ?_ | ((refine' ak rfl ?_ J J ?_); rotate_left; first | exact ai af J J J J | exact aq af J J J J J J | exact bx J J J J J | exact aO af J J J J J J J) | refine aG rfl (ay J J J J ⟨J, trivial⟩ rfl (by kernel_rfl)) (fun w hm => um x l cap e1 he1 w (hR.below hm.below) hlen) J J ?_)
  by_cases h1 : e1 = 0
  · subst h1
    by_cases h0 : l.length = 0
    · have hst : dQ l a b c k t m g1 = (jT, 1) := by unfold dQ; rw [he1, if_neg (by decide), if_pos h0]
      refine aw rfl (by rw [List.length_eq_zero_iff.1 h0]; rfl) ?_
      repeat' (first | refine ag ?_ | refine aa ?_ | refine ab ?_ | refine aA ?_ | refine au ?_ | refine ar ?_ | refine ae ?_ | ((refine' ak rfl ?_ J J ?_); rotate_left; first | exact ai af J J J J | exact aq af J J J J J J | exact aC af J J trivial J J J) | refine aj af 0 J J J J J J J J J J J J ?_ | (first | refine aw J J ?_ | refine am J J ?_))
      (refine aB af (fun _ => 0) J J ⟨J, trivial⟩ rfl fun w1 hm => ⟨tP, ?_, ?_, ⟨⟨wg, hm.below⟩, we⟩⟩)
      · rw [hst]; rfl
      · rw [hst]; rfl
    · refine am rfl (by have h9 : l ≠ [] := fun h => h0 (by rw [h]; rfl); simp [h9]) ?_
      repeat' (first | refine ag ?_ | refine aa ?_ | refine ab ?_ | refine au ?_ | refine ae ?_ | ((refine' ak rfl ?_ J J ?_); rotate_left; first | exact ai af J J J J | exact aq af J J J J J J))
      refine aw J J ?_
      repeat' (first | refine ag ?_ | refine aa ?_ | refine ab ?_ | refine ae ?_ | ((refine' ak rfl ?_ J J ?_); rotate_left; first | exact ai af J J J J | exact aq af J J J J J J | exact ah af 2 J J J J J) | refine aG rfl (ay J J J J ⟨J, trivial⟩ rfl (by kernel_rfl)) (fun w hm => fP a b c k e2 he2 w) J J ?_)
      by_cases h2 : e2 = 0
      · subst h2
        refine aw J J ?_
        repeat' (first | refine ag ?_ | refine aa ?_ | refine ab ?_ | refine ae ?_ | ((refine' ak rfl ?_ J J ?_); rotate_left; first | exact ai af J J J J | exact aq af J J J J J J | exact ah af 1 J J J J J) | refine aG rfl (ay J J J J ⟨J, trivial⟩ rfl (by kernel_rfl)) (fun w hm => fp t m g1 e3 he3 w) J J ?_)
        by_cases h3 : e3 = 0
        · subst h3
          have hst : dQ l a b c k t m g1 = (⟨l, a, b, c, k, t, m, g1, [], 1⟩, 0) := by unfold dQ; rw [he1, he2, he3, if_neg (by decide), if_neg h0, if_neg (by decide), if_neg (by decide)]
          refine am J J ?_
          repeat' (first | refine ag ?_ | refine aa ?_ | refine ab ?_ | refine aA ?_ | refine au ?_ | refine ae ?_ | ((refine' ak rfl ?_ J J ?_); rotate_left; first | exact ai af J J J J | exact ah af 1 J J J J J | exact ah af 2 J J J J J | exact aC af J J ⟨J, J, J, J, trivial⟩ J J J) | refine aj af 0 J J J J J J J J J J J J ?_)
          (refine aB af (fun _ => 0) J J ⟨J, trivial⟩ rfl fun w1 hm => ⟨⟨⟨l, a, b, c, k, t, m, g1, [], 1⟩, x, cap, none, 0, []⟩, ?_, ?_, ⟨⟨⟨(hR.below hm.below).mono fun _ => .inl, dA, rfl, fun _ h => (by cases h)⟩, hm.below⟩, Nat.le_refl _, fun _ => rfl, fun _ h => (by cases h)⟩⟩)
          · rw [hst]
          · rw [hst]; rfl
        · have hst : dQ l a b c k t m g1 = (jT, e3) := by unfold dQ; rw [he1, he2, he3, if_neg (by decide), if_neg h0, if_neg (by decide), if_pos h3]
          refine aw rfl (by simpa using h3) ?_
          repeat' (first | refine ag ?_ | refine aa ?_ | refine ab ?_ | refine aA ?_ | refine ar ?_ | refine ae ?_ | ((refine' ak rfl ?_ J J ?_); rotate_left; first | exact ai af J J J J | exact aC af J J trivial J J J) | refine aj af 0 J J J J J J J J J J J J ?_)
          (refine aB af (fun _ => 0) J J ⟨J, trivial⟩ rfl fun w1 hm => ⟨tP, ?_, ?_, ⟨⟨wg, hm.below⟩, we⟩⟩)
          · rw [hst]; rfl
          · rw [hst]; rfl
      · have hst : dQ l a b c k t m g1 = (jT, e2) := by unfold dQ; rw [he1, he2, if_neg (by decide), if_neg h0, if_pos h2]
        refine am rfl (by simpa using h2) ?_
        repeat' (first | refine ag ?_ | refine aa ?_ | refine ab ?_ | refine au ?_ | refine ae ?_ | ((refine' ak rfl ?_ J J ?_); rotate_left; first | exact ai af J J J J | exact aq af J J J J J J))
        refine aw rfl (by simpa using h2) ?_
        repeat' (first | refine ag ?_ | refine aa ?_ | refine ab ?_ | refine aA ?_ | refine ar ?_ | refine ae ?_ | ((refine' ak rfl ?_ J J ?_); rotate_left; first | exact ai af J J J J | exact aC af J J trivial J J J) | refine aj af 0 J J J J J J J J J J J J ?_)
        (refine aB af (fun _ => 0) J J ⟨J, trivial⟩ rfl fun w1 hm => ⟨tP, ?_, ?_, ⟨⟨wg, hm.below⟩, we⟩⟩)
        · rw [hst]; rfl
        · rw [hst]; rfl
  · have hst : dQ l a b c k t m g1 = (jT, e1) := by unfold dQ; rw [he1, if_pos h1]
    refine am rfl (by simp [h1]) ?_
    repeat' (first | refine ag ?_ | refine aa ?_ | refine ab ?_ | refine au ?_ | refine ae ?_ | ((refine' ak rfl ?_ J J ?_); rotate_left; first | exact ai af J J J J | exact aq af J J J J J J))
    refine am rfl (by simpa using h1) ?_
    repeat' (first | refine ag ?_ | refine aa ?_ | refine ab ?_ | refine au ?_ | refine ae ?_ | ((refine' ak rfl ?_ J J ?_); rotate_left; first | exact ai af J J J J | exact aq af J J J J J J))
    refine am rfl (by simpa using h1) ?_
    repeat' (first | refine ag ?_ | refine aa ?_ | refine ab ?_ | refine au ?_ | refine ae ?_ | ((refine' ak rfl ?_ J J ?_); rotate_left; first | exact ai af J J J J | exact aq af J J J J J J))
    refine aw rfl (by simpa using h1) ?_
    repeat' (first | refine ag ?_ | refine aa ?_ | refine ab ?_ | refine aA ?_ | refine ar ?_ | refine ae ?_ | ((refine' ak rfl ?_ J J ?_); rotate_left; first | exact ai af J J J J | exact aC af J J trivial J J J) | refine aj af 0 J J J J J J J J J J J J ?_)
    (refine aB af (fun _ => 0) J J ⟨J, trivial⟩ rfl fun w1 hm => ⟨tP, ?_, ?_, ⟨⟨wg, hm.below⟩, we⟩⟩)
    · rw [hst]; rfl
    · rw [hst]; rfl
end Go.Proofs.YtmdkfbmpenohiaaGreatDoor.Y
