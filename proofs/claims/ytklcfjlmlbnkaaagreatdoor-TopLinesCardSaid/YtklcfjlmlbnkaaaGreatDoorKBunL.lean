/- Texts of this claim merged into one: KLoR, KDelO, KCopO, KLo1. -/
import Derived.Test.YtklcfjlmlbnkaaaGreatDoorKBunA
import Derived.Test.YtklcfjlmlbnkaaaGreatDoorKHp
import Derived.Test.YtklcfjlmlbnkaaaGreatDoorKSyw
import Derived.Test.YtklcfjlmlbnkaaaGreatDoorKBunY
import Derived.Lib.FrozenHead2
namespace Go.Proofs.YtklcfjlmlbnkaaaGreatDoor.Y
open Go.RowKit
def pC (p : PkV) : List Value := [.int .i64 p.seq, .int .i64 p.ack, .string p.data]
theorem bL (p : PkV) : (pC p).length = 3 := rfl
structure LV where
  l : jQ
  x : Option Addr
  xc : Nat
  y : Option Addr
  yc : Nat
def LC (v : LV) : List Value := [.int .i64 v.l.next, .slice v.x v.l.wait.length v.xc, .int .i64 v.l.exp, .slice v.y v.l.early.length v.yc, .int .i64 v.l.again, .bool v.l.due]
def Sl3 {α : Type} (sz : Nat) (f : α → List Value) (l : List α) (A : Nat → Prop) (w : World) (p : Option Addr × Nat) : Prop := Rws A w sz f p.1 l ∧ l.length ≤ p.2 ∧ (p.1 = none → p.2 = 0)
structure LOk (A : Nat → Prop) (w : World) (v : LV) : Prop where
  x : Sl3 3 pC v.l.wait A w (v.x, v.xc)
  y : Sl3 3 pC v.l.early A w (v.y, v.yc)
section
variable {A : Nat → Prop} {w w' : World} {v : LV}
theorem Sl3.below {α : Type} {sz : Nat} {f : α → List Value} {l : List α} {p : Option Addr × Nat} (h : Sl3 sz f l A w p) (hb : Below w.heap.size w w') : Sl3 sz f l A w' p := ⟨h.1.below hb, h.2⟩
theorem Sl3.mono {A' : Nat → Prop} {α : Type} {sz : Nat} {f : α → List Value} {l : List α} {p : Option Addr × Nat} (h : Sl3 sz f l A w p) (hA : ∀ b, A b → A' b) : Sl3 sz f l A' w p := ⟨h.1.mono hA, h.2⟩
theorem Sl3.agree {α : Type} {sz : Nat} {f : α → List Value} {l : List α} {p : Option Addr × Nat} (h : Sl3 sz f l A w p) (hk : ∀ b, A b → w'.heap[b]? = w.heap[b]?) : Sl3 sz f l A w' p := ⟨h.1.agree hk, h.2⟩
theorem Sl3.lt {α : Type} {sz : Nat} {f : α → List Value} {l : List α} {p : Option Addr × Nat} (h : Sl3 sz f l A w p) : Sl3 sz f l (fun b => A b ∧ b < w.heap.size) w p := ⟨h.1.lt, h.2⟩
theorem Sl3.own {α : Type} {sz : Nat} {f : α → List Value} {l : List α} {B : Nat} {T : TypeId} {x : Option Addr} {c : Nat} (hf : ∀ a, (f a).length = sz) (h : w.ownsRow B T sz (.slice x l.length c) l.length (l.flatMap f)) : Sl3 sz f l (fun b => B ≤ b) w (x, c) := ⟨Rws.own hf h, gl h, xK h⟩
theorem LOk.below (h : LOk A w v) (hb : Below w.heap.size w w') : LOk A w' v := ⟨h.x.below hb, h.y.below hb⟩
theorem LOk.mono {A' : Nat → Prop} (h : LOk A w v) (hA : ∀ b, A b → A' b) : LOk A' w v := ⟨h.x.mono hA, h.y.mono hA⟩
theorem LOk.agree (h : LOk A w v) (hk : ∀ b, A b → w'.heap[b]? = w.heap[b]?) : LOk A w' v := ⟨h.x.agree hk, h.y.agree hk⟩
theorem LOk.lt (h : LOk A w v) : LOk (fun b => A b ∧ b < w.heap.size) w v := ⟨h.x.lt, h.y.lt⟩
end
structure Rp {σ : Type} (Ok : (Nat → Prop) → World → σ → Prop) : Prop where
  lt : ∀ {F : Nat → Prop} {w : World} {s : σ}, Ok F w s → Ok (fun b => F b ∧ b < w.heap.size) w s
  ag : ∀ {F : Nat → Prop} {w w' : World} {s : σ}, Ok F w s → (∀ b, F b → w'.heap[b]? = w.heap[b]?) → Ok F w' s
theorem rpL : Rp LOk := ⟨fun h => h.lt, fun h hk => h.agree hk⟩
theorem Gy {α : Type} (sz : Nat) (f : α → List Value) (l : List α) : Rp (Sl3 sz f l) := ⟨fun h => h.lt, fun h hk => h.agree hk⟩
theorem Rp.and {σ τ : Type} {O1 : (Nat → Prop) → World → σ → Prop} {O2 : (Nat → Prop) → World → τ → Prop} (h1 : Rp O1) (h2 : Rp O2) : Rp (fun F w (s : σ × τ) => O1 F w s.1 ∧ O2 F w s.2) := ⟨fun h => ⟨h1.lt h.1, h2.lt h.2⟩, fun h hk => ⟨h1.ag h.1 hk, h2.ag h.2 hk⟩⟩
theorem lA : cX Tryz.prog 58 32 := by unfold cX; kernel_rfl
theorem sO (l : List PkV) : ∀ u ∈ l.flatMap pC, u.oneCell' = true := by
  intro u hu
  obtain ⟨a, _, hu⟩ := List.mem_flatMap.1 hu
  simp only [pC, List.mem_cons, List.not_mem_nil, or_false] at hu
  (repeat' (rcases hu with hu | hu)) <;> rfl
theorem rB {α : Type} {f : α → List Value} {A : Nat → Prop} {w : World} {x : Option Addr} {l : List α} {sz : Nat} (hf : ∀ a, (f a).length = sz) (hz : 0 < sz) (h : Rws A w sz f x l) {ad : Addr} (hx : x = some ad) {j : Nat} {u : Value} (hu : (l.flatMap f)[j]? = some u) : w.cell? (ad.add j) = some u := by
  obtain ⟨y, hy, hyu⟩ := uf hf hz hu
  obtain ⟨b, off, h1, _, _, h4⟩ := h (Nat.lt_of_le_of_lt (Nat.zero_le _) (List.getElem?_eq_some_iff.1 hy).1)
  rw [hx] at h1
  obtain rfl := Option.some.inj h1
  have h3 := h4 _ y hy _ u hyu
  have e : (⟨b, off, none⟩ : Addr).add j = ⟨b, off + j / sz * sz + j % sz, none⟩ := by
    rw [Addr.add_lit, Nat.add_assoc, Nat.mul_comm (j / sz), Nat.div_add_mod]
  rw [e]
  exact h3
attribute [local irreducible] Calls
set_option maxRecDepth 100000
set_option maxHeartbeats 16000000
theorem eY {A : Nat → Prop} (x : Option Addr) (l : List PkV) (c : Nat) (w : World) (h : Rws A w 3 pC x l) (hb : l.length ≤ 1000000) : Calls Tryz.prog 30 #[.slice x l.length c] w fun e w' => ∃ p : Option Addr × Nat, True ∧ e = .returned (.slice p.1 l.length p.2) ∧ Made w w' [.own p.1 p.2 58 3 l.length (l.flatMap pC)] := by
  have hlen : (l.flatMap pC).length = l.length * 3 := bZ bL l
  refine aA Tryz.func30 rfl Tryz.ntmps30 J J ?_
  cases x with
  | none =>
    have hl : l = [] := List.eq_nil_of_length_eq_zero (Decidable.byContradiction fun h0 => by
      obtain ⟨_, _, hx, _⟩ := h (by omega)
      cases hx)
    subst hl
    repeat' refine nx ?_
    refine aq J J ?_
    repeat' refine nx ?_
    (refine rt ?_; refine fun w1 hm => ⟨(none, 0), trivial, rfl, Made.one (World.ownsRow_nil _ _ _ _) hm.below⟩)
  | some ad =>
    repeat' refine nx ?_
    refine ai J J ?_
    repeat' (first | (refine cE af J J J trivial J J J J J J J J ?_; intro g) | refine nx ?_)
    refine iX 0 3 rfl (Nat.zero_le _) ?_
    repeat' refine nx ?_
    refine jZ af 0 J J J J J J J J (fun _ _ => rfl) lA (fun w1 hm j u hu => rB bL (by decide) (h.below hm.below) rfl hu) (.inr (sO l)) hlen (by unfold maxLen; omega) (by omega) J J ?_
    intro sa sc
    repeat' refine cV ?_
    (refine rt ?_; refine fun w1 hm => ⟨(sa, sc), trivial, by rw [Nat.zero_add], ?_⟩)
    have h1 := hm.2.get (i := 0) rfl
    rw [Nat.zero_add, List.nil_append] at h1
    exact Made.one h1 hm.below
theorem lS {P : Program} {l0 rest tail : List Oper} {Q : Exit → Act → World → Prop} {n : Nat} {w0 : World} {S : bq} {M : List Ent} {o : Oper} {d : Nat} {es : List EX} {ds : List Nat} {T : eo} (hT : TOK P T) {t e : TypeId} {len : Nat} {parts : List (Nat × Operand)} {z : Value} {td : TD} {Ls : List Cd} {vs cs : List Value} (h1 : o.op = .buildSlice t len parts.toArray) (hg : o.guard = none)
    (h2 : vL S (parts.map (·.2)) = some (Ls, vs)) (h3 : nR [] Ls) (h4 : lk t T = some (.slc e z)) (h5 : lk e T = some td) (h6 : mQ td.size vs = some cs) (h7 : rO (parts.map (·.1)) 0 = true) (h8 : Nat.beq parts.length len = true) (h10 : Nat.ble (len * td.size) 16777216 = true)
    (hd : o.dst = some d) (hn : Nat.blt d n = true) (hf : bi o = false) (hi : ds.contains d = true)
    (h : Ai ds P l0 Q rest tail n w0 M S (es ++ [⟨d, Nat, fun _ => True, fun g => .slice (some ⟨g, 0, none⟩) len len, fun g => [.obj g (.cells ⟨cs⟩ e (0, 0))]⟩])) : Ai ds P l0 Q (o :: rest) tail n w0 M S es := by
  refine Ba _ hg (fun a w hS hM => ?_) hd hn hf hi h
  refine aX (jw hT h1 h2 h3 h4 h5 h6 h7 h8 h10 hS) ⟨⟨w.heap.size, trivial, rfl, ⟨⟨Nat.le_refl _, heap_alloc_new w _⟩, ⟨fun f hf => (by cases hf), trivial⟩⟩, fun f hf b hb => ?_, fun b hb => ?_⟩, (Below.refl _ _).alloc (Nat.le_refl _) _⟩
  · obtain rfl : f = _ := by simpa using hf
    exact hb
  · have hb' : b = w.heap.size := hb
    subst hb'
    exact ⟨Nat.le_refl _, gN (heap_alloc_new w _)⟩
theorem xv {a b : Prop} (h : b) (r : b → a := by exact oU rfl vv J J) : a := r h
theorem vr {l0 rest tail : List Oper} {Q : Exit → Act → World → Prop} {n : Nat} {w0 : World} {S : bq} {M : List Ent} {L : Cd} {o : Oper} {d : Nat} {v : Value} {bs : List (Nat × (Nat → Value) × Obj)} (hg : gd l0 S o.guard = some L) (hv : VO Tryz.prog w0 S M L o v) (h : SR Tryz.prog l0 Q rest tail n w0 M ((d, L, v) :: S) bs) (hi : iT o.op = false := by exact rfl) (hd : o.dst = some d := by exact rfl) (hn : Nat.blt d n = true := by exact rfl) : SR Tryz.prog l0 Q (o :: rest) tail n w0 M S bs := di hg hv hi hd hn h
theorem tv {a b : Prop} (h : b) (r : b → a := by exact zb J J vv J J) : a := r h
end Go.Proofs.YtklcfjlmlbnkaaaGreatDoor.Y
namespace Go.Proofs.YtklcfjlmlbnkaaaGreatDoor.Y
open Go.RowKit
theorem zP {w0 w : World} {M M2 : List Ent} {i g cap size k : Nat} {e : TypeId} {xs : List Value} (off : Nat) (news : List Value) (hM : Mem w0 w M) (hm : dI M i = some (.own (some ⟨g, 0, none⟩) cap e size k xs)) (hle : off + news.length ≤ k * size) (h9 : ek M i (.own (some ⟨g, 0, none⟩) cap e size k (xs.take off ++ news ++ xs.drop (off + news.length))) = some M2) :
    ∃ cur : Array Value, w.heap[g]? = some (.cells cur e (0, 0)) ∧ off + news.length ≤ cur.size ∧ Mem w0 (w.setRow g (cur.toList.take off ++ news ++ cur.toList.drop (off + news.length)).toArray) M2 := by
  have hok : w.ownsRow w0.heap.size e size (.slice (some ⟨g, 0, none⟩) k cap) k xs := hM.2.get hm
  obtain ⟨hlen, hrest⟩ := hok
  rcases hrest with ⟨hv, _⟩ | ⟨g', cap', cur, hv, hB, hgw, hkc, hcm, hcs, htake⟩
  · simp at hv
  obtain ⟨rfl, rfl⟩ : g = g' ∧ cap = cap' := by simp only [Value.slice.injEq, Option.some.injEq, Addr.mk.injEq] at hv; exact ⟨hv.1.1, hv.2.2⟩
  have hkl : k * size ≤ cur.toList.length := by rw [Array.length_toList, hcs]; exact Nat.mul_le_mul_right _ hkc
  have hsz : k * size ≤ cur.size := by simpa using hkl
  refine ⟨cur, hgw, by omega, hM.set (e' := .own (some ⟨g, 0, none⟩) cap e size k (xs.take off ++ news ++ xs.drop (off + news.length))) hm h9 J J J (by simp [World.setRow]) (fun q _ hq => setRow_other w g q _ hq) ⟨?_, .inr ⟨g, cap, _, rfl, hB, setRow_heap w g cur _ e (0, 0) hgw, hkc, hcm, ?_, ?_⟩⟩ (fun _ hk => .inl hk) (fun _ hk => .inl hk)⟩
  · rw [List.length_append, List.length_append, List.length_take, List.length_drop]; omega
  · have : (cur.toList.take off ++ news ++ cur.toList.drop (off + news.length)).length = cur.toList.length := by rw [List.length_append, List.length_append, List.length_take, List.length_drop]; omega
    simpa [hcs] using this
  · rw [← htake]
    show (cur.toList.take off ++ news ++ cur.toList.drop (off + news.length)).take (k * size) = _
    generalize k * size = m at *
    have h1 : (cur.toList.take off ++ news).length = off + news.length := by rw [List.length_append, List.length_take]; omega
    rw [List.take_append, h1, List.take_of_length_le (by rw [h1]; exact hle), List.take_take, Nat.min_eq_left (by omega), List.drop_take]
section
variable {P : Program} {T : eo} {Q : Exit → Act → World → Prop} {n : Nat} {w0 : World} {S : bq} {M M2 : List Ent} {o : Oper} {l0 rest : List Oper} {d : Nat} {L L1 L2 L3 L4 : Cd}
end
end Go.Proofs.YtklcfjlmlbnkaaaGreatDoor.Y
namespace Go.Proofs.YtklcfjlmlbnkaaaGreatDoor.Y
open Go.RowKit
theorem zQ {P : Program} (w : World) (dT sT ty elem : TypeId) (g o dLen dCap : Nat) (a : Addr) (sLen sCap size : Nat) (cur : Array Value) (t : TypeId) (cs : List Value)
    (hu : P.underlying dT = some (.slice elem)) (hs : (P.info? elem).map (·.size) = some size) (hg : w.heap[g]? = some (.cells cur t (0, 0))) (hn : cs.length = Nat.min sLen dLen * size)
    (hsrc : ∀ j v, cs[j]? = some v → w.cell? (a.add j) = some v) (hfit : o + cs.length ≤ cur.size) (h1 : ∀ v ∈ cs, v.oneCell' = true) :
    (Builtin.copy_ #[dT, sT] ty #[.slice (some ⟨g, o, none⟩) dLen dCap, .slice (some a) sLen sCap]).run P w = .ok (goInt (Nat.min sLen dLen)) (w.setRow g (cur.toList.take o ++ cs ++ cur.toList.drop (o + cs.length)).toArray) := by
  have hl := run_loadCells_list (P := P) w a cs hsrc
  have hst := run_storeCells_at (P := P) g o t cs 0 cur w hg (by simpa using hfit) h1
  cases hq : P.info? elem with
  | none => simp [hq] at hs
  | some i =>
    have hi : i.size = size := by simpa [hq] using hs
    simp [Builtin.copy_, run_underlying hu, Builtin.lenOf, Builtin.firstCells, sizeOf, typeInfo, hq, hi, ← hn, hl, hst]
theorem zR {w : World} {B : Nat} {e : TypeId} {sz n : Nat} {v : Value} {xs news ys : List Value} (h : w.ownsRow B e sz v n (xs.take 0 ++ news ++ ys)) (hl : news.length = n * sz) : w.ownsRow B e sz v n news := by
  have h2 := h.1
  rw [List.take_zero, List.nil_append, List.length_append] at h2
  have h3 : ys = [] := List.eq_nil_of_length_eq_zero (by omega)
  rw [h3, List.take_zero, List.nil_append, List.append_nil] at h
  exact h
section
variable {P : Program} {T : eo} {Q : Exit → Act → World → Prop} {n : Nat} {w0 : World} {S : bq} {M M2 : List Ent} {o : Oper} {l0 rest : List Oper} {d : Nat}
theorem mG (hT : TOK P T) (i : Nat) (news : List Value) {s x : Operand} {t t2 e : TypeId} {z : Value} {td : TD} {g cap k off j jc m c : Nat} {ad a2 : Option Addr} {xs : List Value} (h1 : o.op = .call ⟨.builtin .copy, #[s, x], #[t, t2]⟩) (hg : o.guard = none)
    (h2 : ev S s = some ([], .slice ad j jc)) (h3 : ev S x = some ([], .slice a2 m c)) (h4 : lk t T = some (.slc e z)) (h5 : lk e T = some td)
    (hi : dI M i = some (.own (some ⟨g, 0, none⟩) cap e td.size k xs)) (had : ad = some ⟨g, off, none⟩) (hnews : ∃ a, a2 = some a ∧ ∀ w, Mem w0 w M → ∀ q u, news[q]? = some u → w.cell? (a.add q) = some u) (h7 : ∀ u ∈ news, u.oneCell' = true) (hlen : news.length = Nat.min m j * td.size) (hfit : off + news.length ≤ k * td.size)
    (h9 : ek M i (.own (some ⟨g, 0, none⟩) cap e td.size k (xs.take off ++ news ++ xs.drop (off + news.length))) = some M2)
    (hd : o.dst = some d) (hn : Nat.blt d n = true) (h : SL P l0 Q rest n w0 ((d, [], .int .i64 ((Nat.min m j : Nat) : Int)) :: S) M2) : SL P l0 Q (o :: rest) n w0 S M := by
  obtain ⟨a, rfl, hnews⟩ := hnews
  subst had
  refine ci (L := []) (by rw [hg]; rfl) (fun hL ac w hS hM => ?_) (fun hL => by cases hL)
  have hu := cw (hT.get h4)
  obtain ⟨inf, hinf, hs, hz⟩ := bu (hT.get h5)
  obtain ⟨cur, hgw, hcl, hM2⟩ := zP off news hM hi hfit h9
  have hr := zQ (P := P) w t t2 o.type e g off j jc a m c td.size cur e news hu (by rw [hinf]; simp [hs]) hgw hlen (hnews w hM) hcl h7
  have hrun : (execOp ac.eval o).run P w = .ok (.value (goInt (Nat.min m j))) (w.setRow g (cur.toList.take off ++ news ++ cur.toList.drop (off + news.length)).toArray) := by
    unfold execOp
    simp only [h1, resolve, invoke, builtin, Sem.run_bind, Sem.run_pure, Result.andThen_ok, List.map_toArray, List.map_cons, List.map_nil, av hS h2 rfl, av hS h3 rfl, hr]
  refine aX hrun (h.run _ _ ?_ hM2)
  rw [hd]; exact hS.put (Nat.le_of_ble_eq_true hn) (by simp [az, goInt])
theorem Cw (hT : TOK P T) {s x : Operand} {t t2 e : TypeId} {z : Value} {td : TD} {j jc m c : Nat} {ad a2 : Option Addr} (h1 : o.op = .call ⟨.builtin .copy, #[s, x], #[t, t2]⟩) (hg : o.guard = none)
    (h2 : ev S s = some ([], .slice ad j jc)) (h3 : ev S x = some ([], .slice a2 m c)) (h4 : lk t T = some (.slc e z)) (h5 : lk e T = some td) (h0 : Nat.min m j = 0)
    (hd : o.dst = some d) (hn : Nat.blt d n = true) (h : SL P l0 Q rest n w0 ((d, [], .int .i64 0) :: S) M) : SL P l0 Q (o :: rest) n w0 S M := by
  refine ci (L := []) (by rw [hg]; rfl) (fun hL ac w hS hM => ?_) (fun hL => by cases hL)
  have hu := cw (hT.get h4)
  obtain ⟨inf, hinf, hs, hz⟩ := bu (hT.get h5)
  have hl : ∀ (x : Addr), (loadCells x 0).run P w = .ok #[] w := fun x => by simpa using run_loadCells_list (P := P) w x [] (by simp)
  have hr : (Builtin.copy_ #[t, t2] o.type #[.slice ad j jc, .slice a2 m c]).run P w = .ok (goInt 0) w := by
    cases ad <;> cases a2 <;> simp [Builtin.copy_, run_underlying hu, Builtin.lenOf, Builtin.firstCells, sizeOf, typeInfo, hinf, h0, storeCells, hl]
  have hrun : (execOp ac.eval o).run P w = .ok (.value (goInt 0)) w := by
    unfold execOp
    simp only [h1, resolve, invoke, builtin, Sem.run_bind, Sem.run_pure, Result.andThen_ok, List.map_toArray, List.map_cons, List.map_nil, av hS h2 rfl, av hS h3 rfl, hr]
  refine aX hrun (h.run _ _ ?_ hM)
  rw [hd]; exact hS.put (Nat.le_of_ble_eq_true hn) (by simp [az, goInt])
end
end Go.Proofs.YtklcfjlmlbnkaaaGreatDoor.Y
namespace Go.Proofs.YtklcfjlmlbnkaaaGreatDoor.Y
open Go.RowKit
attribute [local irreducible] Calls
set_option maxRecDepth 100000
set_option maxHeartbeats 16000000
theorem Cx (w : World) : Calls Tryz.prog 9 #[] w fun e w' => e = .returned (.agg ⟨LC ⟨yA, none, 0, none, 0⟩⟩) ∧ Below w.heap.size w w' := by
  refine aA Tryz.func9 rfl Tryz.ntmps9 J J ?_
  repeat' (first | (refine al ?_; intro g0) | refine nx ?_)
  (refine rt ?_; refine fun w1 hm => ⟨rfl, hm.below⟩)
theorem vo (d : ByteArray) (b : Bool) (hb : jH d = b) (w : World) : Calls Tryz.prog 32 #[.string d] w fun e w' => e = .returned (.bool b) ∧ Below w.heap.size w w' := by
  refine aA Tryz.func32 rfl Tryz.ntmps32 J J ?_
  repeat' refine nx ?_
  (refine rt ?_; refine fun w1 hm => ⟨?_, hm.below⟩)
  rw [← hb]
  have h1 : (d.toList == (⟨#[]⟩ : ByteArray).toList) = decide (d.size = 0) := by
    rw [ByteArray.toList_eq, ByteArray.toList_eq, Bool.eq_iff_iff, beq_iff_eq, decide_eq_true_eq]
    show d.data.toList = [] ↔ d.data.size = 0
    rw [← Array.length_toList, List.length_eq_zero_iff]
  unfold jH
  rw [h1]
  congr 3
  · simp
  · rw [decide_eq_decide]; omega
theorem zS {A : Nat → Prop} (v : LV) (d : ByteArray) (w : World) (hL : LOk A w v) (hz : v.l.wait.length ≤ 64) (hn : 0 ≤ v.l.next ∧ v.l.next ≤ 2000000000000) (hx : 0 ≤ v.l.exp ∧ v.l.exp ≤ 2000000000000) :
    Calls Tryz.prog 37 #[.agg ⟨LC v⟩, .string d] w fun e w' => ∃ v' : LV, (v'.l = if gH v.l d = 0 then lU v.l d else v.l) ∧ e = .returned (.tuple #[.agg ⟨LC v'⟩, .agg ⟨pC (if gH v.l d = 0 then gI v.l d else ⟨0, 0, ⟨#[]⟩⟩)⟩, .int .i64 (gH v.l d)]) ∧ LOk (fun b => A b ∨ w.heap.size ≤ b) w' v' ∧ Below w.heap.size w w' := by
  refine aA Tryz.func37 rfl Tryz.ntmps37 J J ?_
  obtain ⟨b, hb⟩ : ∃ b, jH d = b := ⟨_, rfl⟩
  repeat' (first | (refine bx ?_; intro g2) | (refine al ?_; intro g4) | refine cl (fun w hm => vo d b hb w) ?_ | refine nx ?_)
  cases b with
  | false =>
    have he : gH v.l d = 1 := by unfold gH; rw [if_pos hb]
    rw [he, if_neg (show ¬ ((1 : Int) = 0) by decide), if_neg (show ¬ ((1 : Int) = 0) by decide)]
    refine aq J J ?_
    repeat' refine nx ?_
    exact aO af (fun i => 5 - i) J J ⟨J, J, trivial⟩ rfl fun w1 hm => ⟨v, rfl, rfl, (hL.below hm.below).mono fun _ => .inl, hm.below⟩
  | true =>
    refine ai J J ?_
    repeat' refine nx ?_
    by_cases hf : 64 ≤ v.l.wait.length ∨ 1099511627776 ≤ v.l.next
    · have he : gH v.l d = 22 := by unfold gH; rw [hb, if_neg (by decide), if_pos hf]
      rw [he, if_neg (show ¬ ((22 : Int) = 0) by decide), if_neg (show ¬ ((22 : Int) = 0) by decide)]
      refine aq rfl (by simp only [Bool.or_eq_true, decide_eq_true_eq]; omega) ?_
      repeat' refine nx ?_
      exact aO af (fun i => 5 - i) J J ⟨J, J, trivial⟩ rfl fun w1 hm => ⟨v, rfl, rfl, (hL.below hm.below).mono fun _ => .inl, hm.below⟩
    · have he : gH v.l d = 0 := by unfold gH; rw [hb, if_neg (by decide), if_neg hf]
      rw [he, if_pos rfl, if_pos rfl]
      refine ai rfl (by simp only [Bool.or_eq_false_iff, decide_eq_false_iff_not]; omega) ?_
      repeat' (first | refine vx rfl (gO J J J J J (by omega)) ?_ | (refine al ?_; intro g7) | refine nx ?_)
      refine fB 5 [33, 35] am rfl (by kernel_rfl) ?_
      iterate 2 refine xv ?_
      refine nb (σ := Option Addr × Nat) (fun _ => True) (fun s => .slice s.1 v.l.wait.length s.2) (fun s => [.own s.1 s.2 58 3 v.l.wait.length (v.l.wait.flatMap pC)]) rfl (ap J J J J ⟨J, trivial⟩ rfl (by kernel_rfl)) (fun w hm => (eY v.x v.l.wait v.xc w (hL.x.1.below hm.below) (by omega)).mono fun e w1 h => wi h) J J J J ?_
      refine xv ?_
      refine lS af J J J ⟨J, trivial⟩ J J J J J J J J J J ?_
      refine mq ?_
      rintro ⟨wa, wc⟩ - gb -
      dsimp only [List.cons_append, List.nil_append]
      refine bA af 1 0 J J J J J J J J J (fun _ _ => rfl) lA J J (by unfold maxLen; omega) (by omega) J J ?_
      intro sa sc
      repeat' (first | refine vx rfl (bd J J J J J (by omega)) ?_ | refine nx ?_)
      refine gW [false, false, true, false, false, true] am (by kernel_rfl) ?_
      repeat' (first | refine gV af 4 J J J J J J J J J J J J (fun w h => h.mask [false, false, true, false, false, true] rfl) ?_ | refine gV af 3 J J J J J J J J J J J J (fun w h => h.mask [false, false, true, false, false, true] rfl) ?_ | refine oW ?_ | refine tv ?_)
      repeat' refine nx ?_
      have hl : (v.l.wait ++ [gI v.l d]).length = v.l.wait.length + 1 := by simp
      have hf : (v.l.wait ++ [gI v.l d]).flatMap pC = v.l.wait.flatMap pC ++ pC (gI v.l d) := by simp
      refine aO af (fun i => 8 - i) J J ⟨J, J, trivial⟩ rfl fun w1 hm => ⟨⟨lU v.l d, sa, sc, v.y, v.yc⟩, rfl, ?_, ⟨?_, (hL.y.below hm.below).mono fun _ => .inl⟩, hm.below⟩
      · unfold LC lU
        dsimp only
        rw [hl]
        rfl
      · have h1 := hm.2.get (i := 1) rfl
        exact (Sl3.own (l := v.l.wait ++ [gI v.l d]) bL (by rw [hl, hf]; exact h1)).mono fun _ => .inr
theorem zT {A : Nat → Prop} (v : LV) (w : World) (_hL : LOk A w v) : Calls Tryz.prog 8 #[.agg ⟨LC v⟩] w fun e w' => e = .returned (.bool (sW v.l)) ∧ Below w.heap.size w w' := by
  refine aA Tryz.func8 rfl Tryz.ntmps8 J J ?_
  repeat' (first | (refine bx ?_; intro g1) | refine nx ?_)
  (refine rt ?_; refine fun w1 hm => ⟨?_, hm.below⟩)
  have h1 : (((v.l.wait.length : Nat) : Int) == 0) = decide (v.l.wait.length = 0) := by
    rw [Bool.eq_iff_iff, beq_iff_eq, decide_eq_true_eq]
    omega
  unfold sW
  rw [← h1]
theorem Cy {A : Nat → Prop} (v : LV) (w : World) (hL : LOk A w v) (hx : 0 ≤ v.l.exp ∧ v.l.exp ≤ 2000000000000) :
    Calls Tryz.prog 15 #[.agg ⟨LC v⟩] w fun e w' => ∃ v' : LV, v'.l = (fV v.l).1 ∧ e = .returned (.tuple #[.agg ⟨LC v'⟩, .agg ⟨pC (fV v.l).2⟩]) ∧ LOk (fun b => A b ∨ w.heap.size ≤ b) w' v' ∧ Below w.heap.size w w' := by
  refine aA Tryz.func15 rfl Tryz.ntmps15 J J ?_
  repeat' (first | (refine bx ?_; intro g1) | (refine al ?_; intro g2) | refine nx ?_)
  refine gW [false, false, true] am (by kernel_rfl) ?_
  repeat' (first | refine gV af 1 J J J J J J J J J J J J (fun w h => h.mask [false, false, true] rfl) ?_ | refine gV af 0 J J J J J J J J J J J J (fun w h => h.mask [false, false, true] rfl) ?_ | refine oW ?_ | refine zb J J (gO J J J J J (by omega)) J J ?_ | refine tv ?_)
  repeat' refine nx ?_
  exact aO af (fun i => 3 - i) J J ⟨J, J, trivial⟩ rfl fun w1 hm => ⟨⟨(fV v.l).1, v.x, v.xc, v.y, v.yc⟩, rfl, rfl, (LOk.below (v := ⟨(fV v.l).1, v.x, v.xc, v.y, v.yc⟩) ⟨hL.x, hL.y⟩ hm.below).mono fun _ => .inl, hm.below⟩
theorem En (l : List PkV) (a : Int) (j : Nat) (h : j < l.length) : ((l.take j).map (fun p => ({ p with ack := a } : PkV)) ++ l.drop j).set j ({ l[j] with ack := a } : PkV) = (l.take (j + 1)).map (fun p => ({ p with ack := a } : PkV)) ++ l.drop (j + 1) := by
  have hl : ((l.take j).map (fun p => ({ p with ack := a } : PkV))).length = j := by rw [List.length_map, List.length_take]; omega
  rw [List.set_append_right _ _ (by omega), hl, Nat.sub_self, List.drop_eq_getElem_cons h, List.set_cons_zero, List.take_succ_eq_append_getElem h, List.map_append, List.append_assoc]
  rfl
theorem Cz {A : Nat → Prop} (v : LV) (w : World) (hL : LOk A w v) (hz : v.l.wait.length ≤ 64) (hx : 0 ≤ v.l.exp ∧ v.l.exp ≤ 2000000000000) (ha : 0 ≤ v.l.again ∧ v.l.again ≤ 2000000000000) :
    Calls Tryz.prog 14 #[.agg ⟨LC v⟩] w fun e w' => ∃ s : LV × (Option Addr × Nat), s.1.l = (dy v.l).1 ∧ e = .returned (.tuple #[.agg ⟨LC s.1⟩, .slice s.2.1 (dy v.l).2.length s.2.2]) ∧ (LOk (fun b => A b ∨ w.heap.size ≤ b) w' s.1 ∧ Sl3 3 pC (dy v.l).2 (fun b => A b ∨ w.heap.size ≤ b) w' s.2) ∧ Below w.heap.size w w' := by
  refine aA Tryz.func14 rfl Tryz.ntmps14 J J ?_
  repeat' (first | (refine bx ?_; intro g1) | (refine al ?_; intro g2) | refine nx ?_)
  refine cQ (σ := Option Addr × Nat) (fun _ => True) (fun s => .slice s.1 v.l.wait.length s.2) (fun s => [.own s.1 s.2 58 3 v.l.wait.length (v.l.wait.flatMap pC)]) rfl (ap J J J J ⟨J, trivial⟩ rfl (by kernel_rfl)) (fun w1 hm => (eY v.x v.l.wait v.xc w1 (hL.x.1.below hm.below) (by omega)).mono fun e w2 ⟨p, h1, h2, h3⟩ => ⟨p, h1, h2, h3⟩) J J ?_
  rintro ⟨oa, oc⟩ -
  dsimp only [List.cons_append, List.nil_append]
  repeat' refine nx ?_
  refine bP (σ := Nat) (fun j => j ≤ v.l.wait.length) (fun j => [(11, [], .int .i64 ((j : Nat) : Int)), (10, [], .int .i64 ((v.l.wait.length : Nat) : Int)), (4, [], .slice oa v.l.wait.length oc), (1, [], .pointer (some ⟨g1, 0, none⟩)), (2, [], .pointer (some ⟨g2, 0, none⟩))]) (fun j => [.own oa oc 58 3 v.l.wait.length (((v.l.wait.take j).map (fun p => ({ p with ack := v.l.exp - 1 } : PkV)) ++ v.l.wait.drop j).flatMap pC), .cl g2 26 (LC ⟨⟨0, [], 0, [], 0, false⟩, none, 0, none, 0⟩), .cl g1 26 (LC v)]) (fun j => v.l.wait.length - j) 0 [] (Nat.zero_le _) ⟨J, J, J, J, J, trivial⟩ rfl ?_
  intro j hj0
  by_cases hj : j < v.l.wait.length
  · repeat' refine nx ?_
    refine aq rfl (decide_eq_true (by omega)) ?_
    refine oH 0 rfl (by omega) ?_
    rintro go rfl
    have hat : ((v.l.wait.take j).map (fun p => ({ p with ack := v.l.exp - 1 } : PkV)) ++ v.l.wait.drop j)[j]? = some v.l.wait[j] := by
      rw [List.getElem?_append_right (by rw [List.length_map, List.length_take]; omega), List.length_map, List.length_take, List.getElem?_drop]
      rw [show j + (j - min j v.l.wait.length) = j by omega, List.getElem?_eq_getElem hj]
    repeat' (first | refine vx rfl (gO J J J J J (by omega)) ?_ | refine vx rfl (ia (m := 3) j hj) ?_ | refine cF af 0 J J J J J J J J J (show jv _ (0 + j * 3 + 1) _ = _ from by rw [Nat.zero_add]; exact cy bL _ j 1 (v.l.wait[j]) ({ v.l.wait[j] with ack := v.l.exp - 1 }) _ hat rfl) J J ?_ | refine vx rfl (bd J J J J J (by omega)) ?_ | refine nx ?_)
    rw [En _ _ _ hj]
    exact aU (j + 1) [] hj (show v.l.wait.length - (j + 1) < v.l.wait.length - j by omega) ⟨J, J, J, J, J, trivial⟩ rfl
  · have hjl : j = v.l.wait.length := by omega
    subst hjl
    repeat' refine nx ?_
    refine ai rfl (decide_eq_false (by omega)) ?_
    repeat' (first | refine vx rfl (bd J J J J J (by omega)) ?_ | refine nx ?_)
    have hl : (dy v.l).2.length = v.l.wait.length := List.length_map _
    rw [List.take_length, List.drop_length, List.append_nil]
    refine aO af (fun i => 3 - i) J J ⟨J, trivial⟩ rfl fun w1 hm => ⟨(⟨(dy v.l).1, v.x, v.xc, v.y, v.yc⟩, (oa, oc)), rfl, ?_, ⟨(LOk.below (v := ⟨(dy v.l).1, v.x, v.xc, v.y, v.yc⟩) ⟨hL.x, hL.y⟩ hm.below).mono fun _ => .inl, ?_⟩, hm.below⟩
    · have hm : (if 1099511627776 < v.l.again + 1 then 1099511627776 else v.l.again + 1) = min (v.l.again + 1) 1099511627776 := by
        rw [Int.min_def]
        split <;> split <;> omega
      rw [hl, hm]
      rfl
    · have h1 := hm.2.get (i := 0) rfl
      exact (Sl3.own (l := (dy v.l).2) bL (by rw [hl]; exact h1)).mono fun _ => .inr
theorem rC {l : List PkV} {a : Int} {j : Nat} (h1 : dY l a = dY (l.drop j) a) (h2 : ∀ p, l[j]? = some p → ¬ p.seq ≤ a) : dY l a = l.drop j := by
  rw [h1]
  by_cases h : j < l.length
  · rw [List.drop_eq_getElem_cons h]
    unfold dY
    rw [List.dropWhile_cons_of_neg (by rw [decide_eq_true_eq]; exact h2 _ (List.getElem?_eq_getElem h))]
  · rw [List.drop_of_length_le (by omega)]
    rfl
theorem CA {A : Nat → Prop} (x : Option Addr) (l : List PkV) (c : Nat) (a : Int) (w : World) (h : Sl3 3 pC l A w (x, c)) (hb : l.length ≤ 1000000) : Calls Tryz.prog 31 #[.slice x l.length c, .int .i64 a] w fun e w' => ∃ p : Option Addr × Nat, True ∧ e = .returned (.slice p.1 (dY l a).length p.2) ∧ Made w w' [.own p.1 p.2 58 3 (dY l a).length ((dY l a).flatMap pC)] := by
  obtain ⟨hR, hc, hn⟩ := h
  dsimp only at hR hc hn
  refine aA Tryz.func31 rfl Tryz.ntmps31 J J ?_
  iterate 2 (refine bc ?_; repeat' refine cV ?_)
  refine me (σ := Nat) (fun j => j ≤ l.length ∧ dY l a = l.drop j) (fun j => [(5, [], .int .i64 ((j : Nat) : Int)), (0, [], .slice x l.length c)]) (fun _ => []) ?_ ?_
  · repeat' refine cV ?_
    refine bP (σ := Nat) (fun j => j ≤ l.length ∧ dY l a = dY (l.drop j) a) (fun j => [(5, [], .int .i64 ((j : Nat) : Int)), (0, [], .slice x l.length c), (1, [], .int .i64 a)]) (fun _ => []) (fun j => l.length - j) 0 [] ⟨Nat.zero_le _, rfl⟩ ⟨J, J, J, trivial⟩ rfl ?_
    rintro j ⟨hj0, ha⟩
    by_cases hj : j < l.length
    · obtain ⟨b, off, hx, _, _, hr⟩ := hR (by omega)
      subst hx
      have hrow := hr j l[j] (List.getElem?_eq_getElem hj)
      have hcell : w.cell? ⟨b, off + j * 3 + 0, none⟩ = some (.int .i64 l[j].seq) := hrow 0 _ rfl
      repeat' (first | refine vx rfl (ia (m := 3) j hj) ?_ | refine vx rfl (dG af (v := .int .i64 l[j].seq) J J J J J (fun _ => hcell)) ?_ | refine nx ?_)
      by_cases hs : l[j].seq ≤ a
      · refine aq rfl (by simp only [Bool.and_eq_true, decide_eq_true_eq]; omega) ?_
        repeat' (first | refine vx rfl (bd J J J J J (by omega)) ?_ | refine nx ?_)
        exact aU (j + 1) [] ⟨hj, by rw [ha, List.drop_eq_getElem_cons hj]; unfold dY; rw [List.dropWhile_cons_of_pos (by rw [decide_eq_true_eq]; exact hs)]⟩ (show l.length - (j + 1) < l.length - j by omega) ⟨J, J, J, trivial⟩ rfl
      · refine ai rfl (by simp only [Bool.and_eq_false_iff, decide_eq_false_iff_not]; omega) ?_
        repeat' refine nx ?_
        exact cO j [] ⟨hj0, rC ha (fun p hp => by rw [List.getElem?_eq_getElem hj] at hp; rw [← Option.some.inj hp]; exact hs)⟩ ⟨J, J, trivial⟩ rfl
    · repeat' (first | refine vx rfl (mu rfl (by simp [az]; omega)) ?_ | refine vx rfl (mr (.int .i64 0) rfl (by simp [az]; omega)) ?_ | refine nx ?_)
      refine ai rfl (by simp only [Bool.and_eq_false_iff, decide_eq_false_iff_not]; omega) ?_
      repeat' refine nx ?_
      exact cO j [] ⟨hj0, rC ha (fun p hp => absurd (List.getElem?_eq_some_iff.1 hp).1 hj)⟩ ⟨J, J, trivial⟩ rfl
  rintro j ⟨hj, hd⟩
  rw [hd]
  repeat' (first | refine vx rfl (gO J J J J J (by omega)) ?_ | refine nx ?_)
  refine Ds af (l.length - j) (l.length - j) J J J J J J (by omega) (by omega) (.inr rfl) lA (by omega) (by unfold maxLen; omega) J J ?_
  intro gm
  repeat' (first | refine vx rfl (cA af j l.length J J J J J J J J J J J (by omega) hc) ?_ | refine nx ?_)
  by_cases h0 : l.length - j = 0
  · refine Cw af J J J J J J (by rw [h0]; rfl) J J ?_
    repeat' refine nx ?_
    (refine rt ?_; refine fun w1 hm => ⟨(some ⟨gm, 0, none⟩, l.length - j), trivial, by rw [List.length_drop], ?_⟩)
    have h1 := hm.2.get (i := 0) rfl
    rw [if_pos h0] at h1
    have h2 : l.drop j = [] := List.eq_nil_of_length_eq_zero (by rw [List.length_drop]; exact h0)
    rw [h2]
    rw [h0] at h1 ⊢
    exact Made.one h1 hm.below
  · obtain ⟨b, off, hx, _, _, hr⟩ := hR (by omega)
    subst hx
    rw [if_neg h0, if_neg (show ¬ c = j by omega)]
    have hfl : ((l.drop j).flatMap pC).length = (l.length - j) * 3 := by rw [bZ bL, List.length_drop]
    refine mG af 0 ((l.drop j).flatMap pC) J J J J J J J J ⟨_, rfl, fun w1 hM1 q u hq => ?_⟩ (sO _) (show _ = min (l.length - j) (l.length - j) * 3 by rw [hfl, Nat.min_self]) (show 0 + _ ≤ (l.length - j) * 3 by omega) J J J ?_
    · rw [← iZ bL] at hq
      show w1.cell? (((⟨b, off, none⟩ : Addr).add (j * 3)).add q) = some u
      rw [Addr.add_lit, Addr.add_lit]
      have h1 := rB bL (by decide) (hR.below hM1.below) rfl (List.getElem?_drop (xs := l.flatMap pC) ▸ hq)
      rw [Addr.add_lit] at h1
      rw [Nat.add_assoc]
      exact h1
    repeat' refine nx ?_
    (refine rt ?_; refine fun w1 hm => ⟨(some ⟨gm, 0, none⟩, l.length - j), trivial, by rw [List.length_drop], ?_⟩)
    have h1 : w1.ownsRow w.heap.size 58 3 (.slice (some ⟨gm, 0, none⟩) (l.length - j) (l.length - j)) (l.length - j) _ := hm.2.get (i := 0) rfl
    have h1 := zR h1 hfl
    rw [List.length_drop]
    exact Made.one h1 hm.below
end Go.Proofs.YtklcfjlmlbnkaaaGreatDoor.Y
