/- Texts of this claim merged into one: KLyG, KAppR, KTp3. -/
import Derived.Test.YtklcfjlmlbnkaaaGreatDoorKBunT2
import Derived.Test.YtklcfjlmlbnkaaaGreatDoorKBunC
import Derived.Test.YtklcfjlmlbnkaaaGreatDoorKBunE
namespace Go.Proofs.YtklcfjlmlbnkaaaGreatDoor.Y
open Go.RowKit
theorem pX : ∀ (n : Nat) (l : jQ) (q : ByteArray) (f : List PkV), (cI n l q f).1.again = l.again
  | 0, _, _, _ => rfl
  | n + 1, l, q, f => by
    rw [cI]
    split
    · rfl
    · rw [pX n]
      rfl
theorem Ab (l : jQ) (p : PkV) : (cK l p).1.again = l.again := by
  unfold cK
  split
  · rfl
  split
  · rfl
  split
  · rfl
  · rfl
def xj (x : iN) : Prop := 0 ≤ x.e0.again ∧ x.e0.again ≤ 1099511627776
theorem Ey {x : iN} (h : xj x) : xj (fg x) := by
  unfold xj fg kE
  dsimp only
  rw [pX]
  exact h
theorem pY {x : iN} (ms : List ByteArray) (k n : Int) (h : xj x) : xj (cq ms k n x) := by
  refine Ey ?_
  unfold fN
  split
  · exact h
  split
  · split
    · exact h
    · exact h
  split
  · exact h
  split
  · unfold xj dy
    dsimp only
    unfold xj at h
    omega
  split
  · unfold xj
    dsimp only
    rw [Ab]
    exact h
  · exact h
section
variable {ms cs : List ByteArray} {a k : Nat} {sf gf ou : List FrV} {t : Int} {x : iN}
theorem vF (hm : fM ms) (h : HopI ms cs a k sf gf t ou x) : VN x.cl ∧ cm x.cl ≤ 1000 := by
  have h1 := congrArg List.length h.fr
  rw [List.length_append, ov h.nx] at h1
  have h2 := hm.n
  have h3 := h.nx
  refine ⟨h.vc, ?_⟩
  rw [h.c, Eb]
  omega
structure IF (x : iN) : Prop where
  v : VN x.cl
  m : cm x.cl ≤ 1000
  q : (dR x.cl.ou x.qu).size ≤ 4000
  w : x.e0.wait.length ≤ 64
  n : 0 ≤ x.e0.next ∧ x.e0.next ≤ 1000000
  e : 0 ≤ x.e0.exp ∧ x.e0.exp ≤ 1000000
theorem yu (hm : fM ms) (h : HopI ms cs a k sf gf t ou x) : IF x := by
  obtain ⟨h1, h2⟩ := vF hm h
  have hsz := h.size hm
  have hzz : ∀ q : ByteArray, q.data.toList.length = q.size := fun q => by rw [Array.length_toList]; rfl
  have hq := congrArg List.length (pQ ou x.qu)
  have h5 : (bO (sf ++ ou)).length = (bO sf).length + (bO ou).length := by rw [fp, List.length_append]
  rw [List.length_append, hzz, hzz] at hq
  refine ⟨h1, h2, ?_, ?_, ?_, ?_⟩
  · have e : x.cl.ou = ou := by rw [h.c]; rfl
    rw [e]
    omega
  · have := h.s.most
    have := h.s.al
    rw [h.s.wait]
    unfold eR
    rw [List.length_map, List.length_range']
    omega
  · rw [h.s.next]
    omega
  · rw [h.s.exp]
    omega
end
end Go.Proofs.YtklcfjlmlbnkaaaGreatDoor.Y
namespace Go.Proofs.YtklcfjlmlbnkaaaGreatDoor.Y
open Go.RowKit
section
variable {P : Program} {T : eo} {Q : Exit → Act → World → Prop} {n : Nat} {w0 : World} {S : bq} {M : List Ent} {o : Oper} {l0 rest : List Oper} {d : Nat}
theorem sR {α : Type} {f : α → List Value} (l : List α) (hT : TOK P T) (i : Nat) {s x : Operand} {t e : TypeId} {z : Value} {td : TD} {a a2 : Option Addr} {cap k c b m : Nat} {xs : List Value} {M2 : Option Addr → Nat → List Ent} (h1 : o.op = .call ⟨.builtin .append, #[s, x], #[t, t]⟩) (hg : o.guard = none)
    (h2 : ev S s = some ([], .slice a k cap)) (h3 : ev S x = some ([], .slice a2 m c)) (hm : m = l.length) (h4 : lk t T = some (.slc e z)) (h5 : lk e T = some td) (h6 : (match iS td with | some l => Nat.beq l.length td.size && Nat.blt 0 td.size | none => false) = true)
    (hi : dI M i = some (.own a cap e td.size k xs)) (h9 : ∀ a' cap', ek M i (.own a' cap' e td.size (k + m) (xs ++ l.flatMap f)) = some (M2 a' cap')) (hb : cX P e b)
    (hnil : a2 = none → c = 0) (hf : ∀ y, (f y).length = td.size) (h1c : ∀ y, ∀ u ∈ f y, u.oneCell' = true) (hrow : ∀ w, Mem w0 w M → ∃ A, Rws A w td.size f a2 l)
    (hmax : k + m ≤ maxLen) (hbytes : (k + m) * b ≤ 140737488355328)
    (hd : o.dst = some d) (hn : Nat.blt d n = true) (h : ∀ a' cap', SL P l0 Q rest n w0 ((d, [], .slice a' (k + m) cap') :: S) (M2 a' cap')) : SL P l0 Q (o :: rest) n w0 S M := by
  subst hm
  have hpos : 0 < td.size := by
    cases hzo : iS td with
    | none => rw [hzo] at h6; cases h6
    | some l =>
      rw [hzo] at h6
      simp only [Bool.and_eq_true] at h6
      exact Nat.le_of_ble_eq_true h6.2
  refine ⟨fun ac w hS hM => ?_⟩
  cases a2 with
  | none =>
    obtain rfl := hnil rfl
    have hl : l = [] := by
      refine List.eq_nil_of_length_eq_zero (Decidable.byContradiction fun h0 => ?_)
      obtain ⟨A, hr⟩ := hrow w hM
      obtain ⟨_, _, hx, _⟩ := hr (by omega)
      cases hx
    subst hl
    refine (DM hT i h1 hg h2 h3 h4 h5 hi hd hn ?_).run ac w hS hM
    have h' := h a cap
    have h9' := h9 a cap
    simp only [List.length_nil, Nat.add_zero, List.flatMap_nil, List.append_nil] at h9' h'
    rwa [Option.some.inj ((qM hi).symm.trans h9')]
  | some ad =>
    have hlen : (l.flatMap f).length = l.length * td.size := bZ hf l
    refine (jZ hT i h1 hg h2 h3 h4 h5 h6 hi h9 hb (fun w1 hM1 j u hu => ?_) (.inr fun u hu => ?_) hlen hmax hbytes hd hn h).run ac w hS hM
    · obtain ⟨y, hy, hyu⟩ := uf hf hpos hu
      obtain ⟨A, hr⟩ := hrow w1 hM1
      obtain ⟨b9, o9, hx, _, _, hrr⟩ := hr (Nat.lt_of_le_of_lt (Nat.zero_le _) (List.getElem?_eq_some_iff.1 hy).1)
      obtain rfl := Option.some.inj hx
      have h3 := hrr _ y hy _ u hyu
      have e : (⟨b9, o9, none⟩ : Addr).add j = ⟨b9, o9 + j / td.size * td.size + j % td.size, none⟩ := by
        rw [Addr.add_lit, Nat.add_assoc, Nat.mul_comm (j / td.size), Nat.div_add_mod]
      rw [e]
      exact h3
    · obtain ⟨y, _, hy⟩ := List.mem_flatMap.1 hu
      exact h1c y u hy
end
end Go.Proofs.YtklcfjlmlbnkaaaGreatDoor.Y
namespace Go.Proofs.YtklcfjlmlbnkaaaGreatDoor.Y
open Go.RowKit
attribute [local irreducible] Calls
set_option maxRecDepth 100000
set_option maxHeartbeats 64000000
theorem CY {P : Program} {Q : Exit → Act → World → Prop} {n : Nat} {w0 : World} {S : bq} {M : List Ent} {σ : Type} {x y : Code} (I : σ → Prop) (Sf : σ → bq) (Mf : σ → List Ent) (h : SC P x (Exit.then (Fb n w0 I Sf Mf) Q) n w0 S M) (rest : ∀ s, I s → SC P y Q n w0 (Sf s) (Mf s)) : SC P x (Exit.then (Code.wp P y Q) Q) n w0 S M :=
  ⟨fun _ _ h1 h2 => wp_mono (h.run _ _ h1 h2) fun e _ _ hq => by
    cases e with
    | normal => obtain ⟨s', hI, hs, hm⟩ := hq; exact (rest s' hI).run _ _ hs hm
    | exit id => exact hq
    | goto l => exact hq
    | ret => exact hq
    | panic ch => exact hq
    | outgrown => exact hq⟩
section
variable {P : Program} {l0 rest : List Oper} {Q : Exit → Act → World → Prop} {n : Nat} {w0 : World} {S : bq} {M : List Ent} {L : Cd} {o : Oper} {d : Nat}
theorem nD {σ : Type} {f : FuncId} {args : List Value} (Φ : σ → Prop) (V : σ → Value) (N : σ → List Ent) (hg : gd l0 S o.guard = some L) (hL : az L = true) (ho : dd P S L o f args)
    (hc : ∀ w, Mem w0 w M → Calls P f ⟨args⟩ w fun e w' => ∃ p, Φ p ∧ e = .returned (V p) ∧ Mem w0 w' (N p))
    (hd : o.dst = some d) (hn : Nat.blt d n = true) (h : ∀ p, Φ p → SL P l0 Q rest n w0 ((d, [], V p) :: S) (N p)) : SL P l0 Q (o :: rest) n w0 S M := by
  have hdn : d < n := Nat.le_of_ble_eq_true hn
  refine ci hg (fun _ a w hS hM => cW (ho.ok n a w hS hL) ((hc w hM).mono ?_)) (fun h => by rw [hL] at h; cases h)
  rintro e w' ⟨s, hs, rfl, hm⟩
  refine ⟨V s, rfl, (h s hs).run _ _ ?_ hm⟩
  rw [hd]; exact hS.put hdn (by simp [az])
theorem Ez (v : Value) (hg : gd l0 S o.guard = some L) (hL : az L = false) (hd : o.dst = some d) (hn : Nat.blt d n = true) (h : SL P l0 Q rest n w0 ((d, L, v) :: S) M) : SL P l0 Q (o :: rest) n w0 S M := by
  have hdn : d < n := Nat.le_of_ble_eq_true hn
  refine ci hg (fun h => by rw [hL] at h; cases h) (fun _ a w hS hM => h.run _ _ ?_ hM)
  rw [hd]; exact hS.put hdn (by simp [hL])
end
section
variable {P : Program} {l0 rest tail : List Oper} {Q : Exit → Act → World → Prop} {n : Nat} {w0 : World} {S : bq} {M : List Ent} {o : Oper} {d i : Nat} {es : List (Nat × OU)} {ds dl d2 : List Nat} {O : Nat → Prop} {C : ww}
theorem xk {T : eo} (hT : TOK P T) {t e : TypeId} {len : Nat} {parts : List (Nat × Operand)} {z : Value} {td : TD} {Ls : List Cd} {vs cs : List Value} (h1 : o.op = .buildSlice t len parts.toArray) (hg : o.guard = none)
    (h2 : vL S (parts.map (·.2)) = some (Ls, vs)) (h3 : nR [] Ls) (h4 : lk t T = some (.slc e z)) (h5 : lk e T = some td) (h6 : mQ td.size vs = some cs) (h7 : rO (parts.map (·.1)) 0 = true) (h8 : Nat.beq parts.length len = true) (h10 : Nat.ble (len * td.size) 16777216 = true)
    (hd : o.dst = some d) (hn : Nat.blt d n = true) (hi : ds.contains d = true) (hi2 : dl.contains d = false)
    (h : qf O ds dl d2 P l0 Q rest tail n w0 M S (i + 1) ((i, d, fun x => ∃ g : Nat, True ∧ x = .slice (some ⟨g, 0, none⟩) len len) :: C) (es ++ [(i, .ex ⟨d, Nat, fun _ => True, fun g => .slice (some ⟨g, 0, none⟩) len len, fun g => [.cl g e cs]⟩)])) : qf O ds dl d2 P l0 Q (o :: rest) tail n w0 M S i C es := by
  refine wz ⟨d, Nat, fun _ => True, fun g => .slice (some ⟨g, 0, none⟩) len len, fun g => [.cl g e cs]⟩ hg (fun a w hS hM => ?_) hd hn (by unfold bi; rw [h1]; cases o.guard <;> rfl) hi hi2 h
  refine aX (jw hT h1 h2 h3 h4 h5 h6 h7 h8 h10 hS) ⟨⟨fun b => b = w.heap.size, w.heap.size, trivial, rfl, ⟨⟨Nat.le_refl _, heap_alloc_new w _⟩, ⟨fun f hf => (by cases hf), trivial⟩⟩, fun f hf b hb => ?_, fun f hf b hb => ?_, fun b hb => ?_⟩, (Below.refl _ _).alloc (Nat.le_refl _) _⟩
  · obtain rfl : f = _ := by simpa using hf
    exact hb
  · obtain rfl : f = _ := by simpa using hf
    exact .inl hb
  · have hb' : b = w.heap.size := hb
    subst hb'
    exact ⟨Nat.le_refl _, gN (heap_alloc_new w _)⟩
end
def Gz (n : Int) (l : Nat) : Int := if 0 ≤ n ∧ n < l then n else -1
theorem JH (g i c : Nat) : Value.slice (if c = 0 then some ⟨g, 0, none⟩ else (some (⟨g, 0, none⟩ : Addr)).map (·.add (0 * 3))) (i - 0) (c - 0) = .slice (some ⟨g, 0, none⟩) i c := by
  rw [Nat.sub_zero, Nat.sub_zero]
  split
  · rfl
  · rw [Nat.zero_mul]
    show Value.slice (some ((⟨g, 0, none⟩ : Addr).add 0)) i c = _
    rw [Addr.add_lit]
def Gk (g i c : Nat) : Option Addr := if c = i then some ⟨g, 0, none⟩ else some ⟨g, 0 + i * 3, none⟩
theorem JI (g i n c : Nat) : Value.slice (if c = i then some ⟨g, 0, none⟩ else (some (⟨g, 0, none⟩ : Addr)).map (·.add (i * 3))) (n - i) (c - i) = .slice (Gk g i c) (n - i) (c - i) := by
  unfold Gk
  split
  · rfl
  · show Value.slice (some ((⟨g, 0, none⟩ : Addr).add (i * 3))) _ _ = _
    rw [Addr.add_lit]
theorem CZ {g i c : Nat} {P : Prop} (h : Gk g i c = none) : P := by
  unfold Gk at h
  split at h <;> cases h
theorem Gl {A : Nat → Prop} {w : World} {g i c : Nat} {l : List PkV} (h : Rws A w 3 pC (some ⟨g, 0, none⟩) l) (hc : l.length ≤ c) : Rws A w 3 pC (Gk g i c) (l.drop i) := fun h0 => by
  rw [List.length_drop] at h0
  obtain ⟨b, off, h1, h2, h3, h4⟩ := h (by omega)
  cases h1
  refine ⟨g, 0 + i * 3, by unfold Gk; rw [if_neg (by omega)], h2, h3, fun j v hj => ?_⟩
  rw [List.getElem?_drop] at hj
  have := h4 (i + j) v hj
  rw [Nat.add_mul] at this
  rw [Nat.add_assoc]
  exact this
theorem C1 (y : PkV) : ∀ u ∈ pC y, u.oneCell' = true := eO rfl
theorem EA {ms cs : List ByteArray} {a k : Nat} {sf gf : List FrV} {t : Int} {ou : List FrV} {A : Nat → Prop} {w0 : World} {M : List Ent} (g : Nat) (x : CX) (f : FX) (kk n : Int) (ma : Option Addr) (mc : Nat) (w : World) (hg : MLen w0) (hR : Rws A w0 1 sC ma ms) (hM : Mem w0 w (XM g x f M)) (hm : fM ms) (h : HopI ms cs a k sf gf t ou (cZ x)) (hag : xj (cZ x)) (hfl : x.fly.length ≤ 900000) :
    Calls Tryz.prog 6 #[.pointer (some ⟨g, 0, none⟩), .agg #[.int .i64 kk, .int .i64 n], .slice ma ms.length mc] w fun e w' => ∃ r : CX × FX, cZ r.1 = cq ms kk n (cZ x) ∧ e = .returned (.bool true) ∧ Mem w0 w' (XM g r.1 r.2 M) := by
  obtain ⟨e0, e1, fly, fa, fc, qu, re, kl, sv, nn, got, ga, gc⟩ := x
  obtain ⟨F0, F1, FC, FS⟩ := f
  dsimp only at hfl
  have hM2 : Mem w0 w (.cl g 36 (Ao e0 e1 fly fa fc qu re kl sv nn got ga gc) :: .own fa fc 58 3 fly.length (fly.flatMap pC) :: .own ga gc 9 1 got.length (got.flatMap sC) :: .rep F0 (fun w => LOk F0 w e0) :: .rep F1 (fun w => LOk F1 w e1) :: .rep FC (fun w => NOk FC w kl) :: .rep FS (fun w => NOk FS w sv) :: M) := hM
  refine bv hM2 Tryz.func6 rfl Tryz.ntmps6 J J ?_
  obtain ⟨aa, haa⟩ : ∃ i, Gz n fly.length = i := ⟨_, rfl⟩
  repeat' (first | (refine bx ?_; intro g4) | refine ny ?_ | refine nx ?_)
  refine CY (σ := Unit) (fun _ => True) (fun _ => [(7, [], .int .i64 aa), (4, [], .pointer (some ⟨g4, 0, none⟩)), (2, [], .slice ma ms.length mc), (0, [], .pointer (some ⟨g, 0, none⟩))]) (fun _ => .cl g4 42 [.int .i64 kk, .int .i64 n] :: .cl g 36 (Ao e0 e1 fly fa fc qu re kl sv nn got ga gc) :: .own fa fc 58 3 fly.length (fly.flatMap pC) :: .own ga gc 9 1 got.length (got.flatMap sC) :: .rep F0 (fun w => LOk F0 w e0) :: .rep F1 (fun w => LOk F1 w e1) :: .rep FC (fun w => NOk FC w kl) :: .rep FS (fun w => NOk FS w sv) :: M) ?_ ?_
  · by_cases hn : 0 ≤ n ∧ n < fly.length
    · refine aq rfl (by rw [decide_eq_true (show n ≥ 0 from hn.1), decide_eq_true hn.2]; rfl) ?_
      repeat' refine nx ?_
      have h9 : n = aa := by rw [← haa]; unfold Gz; rw [if_pos hn]
      exact cO () [] trivial ⟨by rw [← h9]; rfl, rfl, rfl, rfl, trivial⟩ rfl
    · refine ai rfl (by simp only [Bool.and_eq_false_iff, decide_eq_false_iff_not]; omega) ?_
      repeat' refine nx ?_
      have h9 : (-1 : Int) = aa := by rw [← haa]; unfold Gz; rw [if_neg hn]
      exact cO () [] trivial ⟨by rw [← h9]; rfl, rfl, rfl, rfl, trivial⟩ rfl
  intro _ _
  refine me (σ := CX × FX) (fun r => cZ r.1 = fN ms kk n (cZ ⟨e0, e1, fly, fa, fc, qu, re, kl, sv, nn, got, ga, gc⟩)) (fun _ => [(0, [], .pointer (some ⟨g, 0, none⟩))]) (fun r => XM g r.1 r.2 M) ?_ ?_
  rotate_left
  · rintro ⟨r1, r2⟩ hr
    obtain ⟨a', k', gf', t', ou', h1, h2⟩ := E2 hm h kk n
    dsimp only at hr ⊢
    rw [← hr] at h1 h2
    obtain ⟨p1, p2, p3, p4, p5, p6⟩ := yu hm h1
    repeat' refine nx ?_
    refine bj (σ := CX × FX) (fun s => cZ s.1 = fg (cZ r1)) (fun _ => .bool true) (fun s => XM g s.1 s.2 M) rfl (ap J J J J ⟨J, trivial⟩ rfl (by kernel_rfl)) (fun w1 hm1 => CR g r1 r2 w1 hg hm1 p1 p2 p3 (by have h3 : r1.fly.length ≤ fly.length + 64 := h2; omega) p4 p5 p6) J J ?_
    rintro ⟨s1, s2⟩ hs
    dsimp only at hs ⊢
    repeat' refine nx ?_
    (refine rt ?_; refine fun w1 hm1 => ⟨(s1, s2), ?_, rfl, hm1⟩)
    dsimp only
    rw [hs, hr]
    rfl
  repeat' refine nx ?_
  by_cases c1 : kk = 0 ∧ nn < ms.length
  · obtain ⟨rfl, hlt⟩ := c1
    refine aq rfl (by rw [decide_eq_true (show ((nn : Nat) : Int) < ((ms.length : Nat) : Int) by omega)]; rfl) ?_
    obtain ⟨mm, hmm⟩ : ∃ d, ms[nn] = d := ⟨_, rfl⟩
    have hmq : ms[nn]? = some mm := by rw [List.getElem?_eq_getElem hlt, hmm]
    obtain ⟨hwe, _⟩ := nv hm h hmq
    obtain ⟨hv, hms⟩ := vF hm h
    have hmz := hm.z mm (List.mem_of_getElem? hmq)
    dsimp only [cZ] at hwe hv hms
    obtain ⟨b, off, hx, hh⟩ := iz hR (show 0 < ms.length by omega)
    have hcell : w0.cell? ⟨b, off + nn * 1, none⟩ = some (.string mm) := hh w0 hR nn mm hmq 0 _ rfl
    subst hx
    repeat' refine nx ?_
    refine cU (fun b => FC b ∨ b < w0.heap.size) 20 [60, 8] [44, 61, 62] [62] (qP (i := 6) rfl) am rfl (by kernel_rfl) ?_
    iterate 15 (first | refine ff rfl (ia (m := 1) nn hlt) J J J ?_ | refine ff rfl (dG af (v := .string mm) J J J J J (fun _ => hcell)) J J J ?_ | refine rv ?_)
    refine gG (F0 := FC) rpN (fun v => v.c = (fD kl.c 1 mm).1) (fun v => .tuple #[.agg ⟨NC v⟩, .int .i64 0]) (fun _ h => .inl h) (fun w1 hm1 => (wJ (A := FC) kl 1 mm w1 (hm1.2.get (i := 6) rfl).2.1 ((hv.toVB.szl (by omega)).n (hm1.2.get (i := 6) rfl).2.1) ((hv.toVB.szl (by omega)).g (hm1.2.get (i := 6) rfl).2.1) (hg.below hm1.below) (by omega)).mono fun e w2 ⟨v', h1, h2, h3⟩ => ⟨v', h1, by rw [h2, hwe], h3.1, h3.2⟩) ?_
    refine jf 15 J J J J J J J (by kernel_rfl) ?_
    refine cT 16 0 (m := 2) J J (fun x ⟨s, _, e⟩ => ⟨_, e, rfl⟩) J J J J J J (by kernel_rfl) ?_
    refine cT 16 1 (m := 2) J J (fun x ⟨s, _, e⟩ => ⟨_, e, rfl⟩) J J J J J J (by kernel_rfl) ?_
    refine kW af J J J J J J J J ?_
    refine gy ?_
    refine fE ?_
    rintro ⟨v2, F2⟩ hv2
    dsimp only at hv2
    iterate 3 refine lK _ J J ?_
    refine fE ?_
    rintro g8 -
    refine jB ?_
    dsimp only [List.cons_append, List.nil_append]
    repeat' refine nx ?_
    refine ai J J ?_
    repeat' refine nx ?_
    refine bR [true, true, true, false] (fun w => w.cell? ⟨g, 0 + 46, none⟩ = some (.int .i64 ((nn : Nat) : Int))) am (by kernel_rfl) J J (fun w1 hm1 => yt (hm1.2.get (i := 3) rfl).2 46 rfl) ?_
    repeat' (first | refine rW af J J J J J J (fun w hp => hp) J J ?_ | refine gp J J (bd J J J J J (by have := hm.n; omega)) J J ?_ | refine oY af 3 J J J J J J J J J J J J (fun w1 hM1 => ⟨hM1.mask [true, true, true, false] rfl, yt (hM1.2.get (i := 3) rfl).2 46 rfl⟩) ?_ | refine yv ?_)
    refine iA (fun Q h => aC af 3 J J J J J J J J J J J J h) rfl ?_
    repeat' refine nx ?_
    refine gk (fun w1 hm1 => (((((hm1.mask [false, true, false, true, true, true, true, true, false, true] rfl).pull 5 rfl).pull 5 rfl).pull 5 rfl).pull 5 rfl).pull 5 rfl) ?_
    refine cO (⟨e0, e1, fly, fa, fc, qu, re, v2, sv, nn + 1, got, ga, gc⟩, ⟨F0, F1, F2, FS⟩) [] ?_ ⟨J, trivial⟩ rfl
    unfold fN
    rw [if_pos ⟨rfl, hlt⟩]
    unfold cZ
    dsimp only
    rw [hmq, hv2]
    rfl
  refine ai rfl (by simp only [Bool.and_eq_false_iff, beq_eq_false_iff_ne, decide_eq_false_iff_not]; omega) ?_
  repeat' refine nx ?_
  have hav : 0 ≤ aa → aa = n ∧ 0 ≤ n ∧ n < fly.length := fun h9 => by
    rw [← haa] at h9 ⊢
    unfold Gz at h9 ⊢
    split at h9
    · rename_i h8
      rw [if_pos h8]
      exact ⟨rfl, h8⟩
    · omega
  by_cases c2 : (kk = 1 ∨ kk = 2) ∧ 0 ≤ n ∧ n < fly.length
  · obtain ⟨hk, hn0, hn1⟩ := c2
    have hae : aa = n := by rw [← haa]; unfold Gz; rw [if_pos ⟨hn0, hn1⟩]
    clear haa hav
    subst hae
    obtain ⟨i, rfl⟩ : ∃ i : Nat, aa = (i : Int) := ⟨aa.toNat, by omega⟩
    have hi : i < fly.length := by omega
    obtain ⟨p, hp⟩ : ∃ p, fly[i] = p := ⟨_, rfl⟩
    have hpq : fly[i]? = some p := by rw [List.getElem?_eq_getElem hi, hp]
    refine oH 2 rfl (show 0 < fly.length by omega) fun gq hgq => ?_
    subst hgq
    refine aq rfl (by simp only [Bool.and_eq_true, Bool.or_eq_true, beq_iff_eq, decide_eq_true_eq]; exact ⟨hk, by omega⟩) ?_
    refine gi (p := fly.length ≤ fc) (fun w1 hm1 => gl (hm1.2.get (i := 2) rfl)) ?_
    intro hcap
    refine kO (fun w1 hm1 => Mem.toRep1 fly bL J J (hm1.pull 2 rfl)) ?_
    obtain ⟨FF, hFF⟩ : ∃ F : Nat → Prop, (fun b => ∃ ad, some (⟨gq, 0, none⟩ : Addr) = some ad ∧ b = ad.block) = F := ⟨_, rfl⟩
    rw [hFF]
    refine gi (p := ∀ w, Rws FF w 3 pC (some ⟨gq, 0, none⟩) fly → w.rangeAt gq (0 + i * 3) (pC p)) (fun w1 hm1 => ?_) ?_
    · obtain ⟨b, off, hx, hh⟩ := iz (hm1.2.get (i := 0) rfl).2.1 (show 0 < fly.length by omega)
      cases hx
      exact fun w2 h2 => hh w2 h2 i p hpq
    intro hrow
    have htk : (fly.take i).length = i := by rw [List.length_take]; omega
    have hdr : (fly.drop (i + 1)).length = fly.length - (i + 1) := List.length_drop
    have hlq : 0 + i + (fly.length - (i + 1)) = (fly.eraseIdx i).length := by rw [List.length_eraseIdx, if_pos hi]; omega
    have hfq : [] ++ (fly.take i).flatMap pC ++ (fly.drop (i + 1)).flatMap pC = (fly.eraseIdx i).flatMap pC := by rw [List.eraseIdx_eq_take_drop_succ, List.flatMap_append, List.nil_append]
    repeat' (first | refine vx rfl (ia (m := 3) i hi) ?_ | refine vx rfl (nV af 0 (cs := pC p) J J J J J J (fun _ w h => hrow w h)) ?_ | (refine al ?_; intro g10) | refine vx rfl (iY (v := .slice (some ⟨gq, 0, none⟩) i fc) (cA af 0 i J J J J J J J J J J J (Nat.zero_le _) (by omega)) (JH gq i fc)) ?_ | refine nx ?_)
    refine Fa 58 3 ?_
    refine sR (fly.take i) af 0 J J J J htk.symm J J J J (fun _ _ => rfl) lA (fun h => by cases h) bL C1 (fun w1 hm1 => ⟨_, (hm1.2.get (i := 2) rfl).2.1.take fun j y hy => (by rw [List.getElem?_take] at hy; split at hy; exact hy; cases hy)⟩) (by unfold maxLen; omega) (by omega) J J ?_
    intro sa sc
    repeat' (first | refine vx rfl (bd J J J J J (by omega)) ?_ | refine vx rfl (iY (v := .slice (Gk gq (i + 1) fc) (fly.length - (i + 1)) (fc - (i + 1))) (cA af (i + 1) fly.length J J J J J J J J J J J (by omega) hcap) (JI gq (i + 1) fly.length fc)) ?_ | refine nx ?_)
    refine sR (fly.drop (i + 1)) af 0 J J J J hdr.symm J J J J (fun _ _ => rfl) lA (fun h => CZ h) bL C1 (fun w1 hm1 => ⟨_, Gl (hm1.2.get (i := 2) rfl).2.1 hcap⟩) (by unfold maxLen; omega) (by omega) J J ?_
    intro se sb
    rw [hlq, hfq]
    repeat' refine nx ?_
    obtain ⟨i2, hi2, hpi⟩ := xf h (show i < fly.length from hi)
    have hpp : p = gJ cs i2 := by rw [show (cZ ⟨e0, e1, fly, some ⟨gq, 0, none⟩, fc, qu, re, kl, sv, nn, got, ga, gc⟩).fly = fly from rfl, hpq] at hpi; exact Option.some.inj hpi
    have hel : (fly.eraseIdx i).length ≤ fly.length := by rw [List.length_eraseIdx, if_pos hi]; omega
    rcases hk with rfl | rfl
    · have hA : Gi ms gf (cZ ⟨e0, e1, (fly.eraseIdx i), se, sb, qu, re, kl, sv, nn, got, ga, gc⟩) p := by rw [hpp]; exact Ex hm (rE h i) (show (fly.eraseIdx i).length ≤ _ by omega) hi2
      refine nD (σ := CX × FX) (fun s => cZ s.1 = nT (cZ ⟨e0, e1, (fly.eraseIdx i), se, sb, qu, re, kl, sv, nn, got, ga, gc⟩) p) (fun _ => .bool true) (fun s => XM g s.1 s.2 M) J J (ap J J J J ⟨J, J, trivial⟩ rfl (by kernel_rfl)) (fun w1 hm1 => xi g ⟨e0, e1, (fly.eraseIdx i), se, sb, qu, re, kl, sv, nn, got, ga, gc⟩ ⟨F0, F1, FC, FS⟩ p w1 hg ((hm1.mask [true, false, false, false] rfl).pull 1 rfl) hm hA) J J ?_
      rintro ⟨s1, s2⟩ hs
      dsimp only at hs ⊢
      repeat' refine nx ?_
      refine ai J J ?_
      repeat' refine nx ?_
      refine cO (s1, s2) [] ?_ ⟨J, trivial⟩ rfl
      dsimp only
      rw [hs]
      unfold fN
      rw [if_neg (by omega), if_pos ⟨.inl rfl, hn0, hn1⟩, if_pos rfl]
      show _ = nT (cZ ⟨e0, e1, (fly.eraseIdx i), se, sb, qu, re, kl, sv, nn, got, ga, gc⟩) ((fly[i]?).getD _)
      rw [hpq]
      rfl
    · refine Ez (.bool false) J J J J ?_
      repeat' refine nx ?_
      refine ai J J ?_
      repeat' refine nx ?_
      refine gk (fun w1 hm1 => (hm1.mask [true, false, false, false] rfl).pull 1 rfl) ?_
      refine cO (⟨e0, e1, (fly.eraseIdx i), se, sb, qu, re, kl, sv, nn, got, ga, gc⟩, ⟨F0, F1, FC, FS⟩) [] ?_ ⟨J, trivial⟩ rfl
      unfold fN
      rw [if_neg (by omega), if_pos ⟨.inr rfl, hn0, hn1⟩, if_neg (by omega)]
      rfl
  have c2' : ¬((kk = 1 ∨ kk = 2) ∧ aa ≥ 0) := fun ⟨u, v⟩ => c2 ⟨u, (hav v).2⟩
  refine ai rfl (by rw [Bool.eq_false_iff]; simp only [ne_eq, Bool.and_eq_true, Bool.or_eq_true, beq_iff_eq, decide_eq_true_eq]; exact c2') ?_
  repeat' refine nx ?_
  by_cases c3 : kk = 3 ∧ 0 ≤ n ∧ n < fly.length
  · obtain ⟨hk, hn0, hn1⟩ := c3
    have hae : aa = n := by rw [← haa]; unfold Gz; rw [if_pos ⟨hn0, hn1⟩]
    clear haa hav
    subst hae
    obtain ⟨i, rfl⟩ : ∃ i : Nat, aa = (i : Int) := ⟨aa.toNat, by omega⟩
    have hi : i < fly.length := by omega
    obtain ⟨p, hp⟩ : ∃ p, fly[i] = p := ⟨_, rfl⟩
    have hpq : fly[i]? = some p := by rw [List.getElem?_eq_getElem hi, hp]
    refine oH 2 rfl (show 0 < fly.length by omega) fun gq hgq => ?_
    subst hgq
    subst hk
    refine aq rfl (by simp only [Bool.and_eq_true, beq_iff_eq, decide_eq_true_eq]; exact ⟨trivial, by omega⟩) ?_
    repeat' refine nx ?_
    refine cU (fun _ => False) 13 [146] [] [] (fun _ _ _ h => h.elim) am rfl (by kernel_rfl) ?_
    iterate 12 (first | refine ff rfl (ia (m := 3) i hi) J J J ?_ | refine ff rfl (fv af 2 (cs := pC p) J J J J J J (fun _ j v hj => by rw [Nat.zero_add]; exact aJ bL hpq hj)) J J J ?_ | refine rv ?_)
    refine xk af J J J ⟨J, trivial⟩ J J J J J J J J J J ?_
    refine gy ?_
    refine fE ?_
    rintro gs -
    refine jB ?_
    dsimp only [List.cons_append, List.nil_append]
    refine bA af 3 0 J J J J J J J J J (fun _ _ => rfl) lA J J (by unfold maxLen; omega) (by omega) J J ?_
    intro ac cc
    repeat' refine nx ?_
    refine cO (⟨e0, e1, (fly ++ [p]), ac, cc, qu, re, kl, sv, nn, got, ga, gc⟩, ⟨F0, F1, FC, FS⟩) [false, false] ?_ ⟨J, trivial⟩ (by dsimp only; unfold XM; dsimp only; unfold XC Ao; dsimp only; rw [show (fly ++ [p]).length = fly.length + 1 from List.length_append, show (fly ++ [p]).flatMap pC = fly.flatMap pC ++ pC p from by rw [List.flatMap_append]; rfl]; rfl)
    unfold fN
    rw [if_neg (by omega), if_neg (by omega), if_pos ⟨rfl, hn0, hn1⟩]
    show _ = ({ cZ ⟨e0, e1, fly, some ⟨gq, 0, none⟩, fc, qu, re, kl, sv, nn, got, ga, gc⟩ with fly := fly ++ [(fly[i]?).getD _] } : iN)
    rw [hpq]
    rfl
  have c3' : ¬(kk = 3 ∧ aa ≥ 0) := fun ⟨u, v⟩ => c3 ⟨u, (hav v).2⟩
  refine ai rfl (by rw [Bool.eq_false_iff]; simp only [ne_eq, Bool.and_eq_true, beq_iff_eq, decide_eq_true_eq]; exact c3') ?_
  repeat' refine nx ?_
  obtain ⟨p1, p2, p3, p4, p5, p6⟩ := yu hm h
  by_cases c4 : kk = 4
  · subst c4
    refine aq J J ?_
    repeat' refine nx ?_
    obtain ⟨X, hX⟩ : ∃ X, dy e0.l = X := ⟨_, rfl⟩
    have hXl : X.2.length ≤ 64 := by rw [← hX]; unfold dy; dsimp only; rw [List.length_map]; exact p4
    repeat' (first | refine vx rfl (eI af 6 0 J J J J J J J J J J) ?_ | refine nx ?_)
    refine pU (rpL.and (Gy 3 pC X.2)) (fun s => s.1.l = X.1) (fun s => .tuple #[.agg ⟨LC s.1⟩, .slice s.2.1 X.2.length s.2.2]) (Gg 4 rfl) (fun w1 hm1 => (Cz (A := F0) e0 w1 (hm1.2.get (i := 4) rfl).2.1 p4 (by have h61 : e0.l.exp ≤ 1000000 := p6.2; exact ⟨p6.1, by omega⟩) (by have h61 : e0.l.again ≤ 1099511627776 := hag.2; exact ⟨hag.1, by omega⟩)).mono fun e w2 ⟨s, h1, h2, h3, h4⟩ => ⟨s, by rw [h1, hX], by rw [h2, hX], by rw [hX] at h3; exact h3, h4⟩) ?_
    rintro ⟨v2, ⟨ta, tc⟩⟩ F2 hv2
    dsimp only at hv2
    repeat' (first | (refine al ?_; intro g12) | refine nx ?_)
    refine gi (p := ta = none → tc = 0) (fun w1 hm1 => (hm1.2.get (i := 1) rfl).2.1.2.2.2) ?_
    intro hnil
    refine bR [] (fun _ => True) am (by kernel_rfl) J J (fun _ _ => trivial) ?_
    repeat' (first | refine gp J J (eI af 6 0 J J J J J J J J J J) J J ?_ | refine yv ?_)
    refine iA (fun Q h => aC af 3 J J J J J J J J J J J J h) rfl ?_
    repeat' refine nx ?_
    refine sR X.2 af 4 J J J J J J J J J (fun _ _ => rfl) lA hnil bL C1 (fun w1 hm1 => ⟨_, (hm1.2.get (i := 1) rfl).2.1.2.1⟩) (by unfold maxLen; omega) (by omega) J J ?_
    intro ac cc
    repeat' refine nx ?_
    refine gk (fun w1 hm1 => ((((hm1.mask [false, true, false, true, true, true, false] rfl).repL (O1 := LOk) (O2 := Sl3 3 pC X.2) (t := (ta, tc)) rpL).pull 3 rfl).pull 3 rfl).pull 3 rfl) ?_
    refine cO (⟨v2, e1, (fly ++ X.2), ac, cc, qu, re, kl, sv, nn, got, ga, gc⟩, ⟨F2, F1, FC, FS⟩) [] ?_ ⟨J, trivial⟩ (by dsimp only; unfold XM; dsimp only; unfold XC Ao; dsimp only; rw [show (fly ++ X.2).length = fly.length + X.2.length from List.length_append, show (fly ++ X.2).flatMap pC = fly.flatMap pC ++ X.2.flatMap pC from List.flatMap_append]; rfl)
    unfold fN
    rw [if_neg (by omega), if_neg (by omega), if_neg (by omega), if_pos rfl]
    unfold cZ
    dsimp only
    rw [hX, hv2]
  refine ai rfl (by simpa using c4) ?_
  repeat' refine nx ?_
  by_cases c5 : 5 ≤ kk
  · refine aq rfl (decide_eq_true c5) ?_
    obtain ⟨X, hX⟩ : ∃ X, fV e1.l = X := ⟨_, rfl⟩
    obtain ⟨Y, hY⟩ : ∃ Y, cK e0.l X.2 = Y := ⟨_, rfl⟩
    have hsz := h.size hm
    have hrx := h.r.exp
    have hkl := h.r.kl
    have hse := h.s.early
    dsimp only [cZ] at hrx hse
    have hXs : X.2.seq = 0 := by rw [← hX]; rfl
    repeat' (first | refine vx rfl (eI af 6 1 J J J J J J J J J J) ?_ | refine nx ?_)
    refine pU rpL (fun s => s.l = X.1) (fun s => .tuple #[.agg ⟨LC s⟩, .agg ⟨pC X.2⟩]) (Gg 5 rfl) (fun w1 hm1 => (Cy (A := F1) e1 w1 (hm1.2.get (i := 5) rfl).2.1 (by omega)).mono fun e w2 ⟨s, h1, h2, h3, h4⟩ => ⟨s, by rw [h1, hX], by rw [h2, hX], h3, h4⟩) ?_
    rintro v1 F2 hv1
    repeat' (first | (refine al ?_; intro g14) | refine nx ?_)
    refine bR [] (fun _ => True) am (by kernel_rfl) J J (fun _ _ => trivial) ?_
    repeat' (first | refine gp J J (eI af 6 1 J J J J J J J J J J) J J ?_ | refine yv ?_)
    refine iA (fun Q h => aC af 4 J J J J J J J J J J J J h) rfl ?_
    repeat' refine nx ?_
    refine cU (fun b => F0 b ∨ b < w0.heap.size) 14 [203] [195, 204, 205] [205] (qP (i := 7) rfl) am rfl (by kernel_rfl) ?_
    iterate 7 (first | refine ff rfl (eI af 6 0 J J J J J J J J J J) J J J ?_ | refine rv ?_)
    refine gG (F0 := F0) (rpL.and (Gy 1 sC Y.2)) (fun s => s.1.l = Y.1) (fun s => .tuple #[.agg ⟨LC s.1⟩, .slice s.2.1 Y.2.length s.2.2]) (fun _ h => .inl h) (fun w1 hm1 => (vy (A := F0) e0 X.2 w1 (hm1.2.get (i := 7) rfl).2.1 (Nat.le_trans p4 (by decide)) (by rw [hse]; exact Nat.zero_le _) (by have h61 : e0.l.exp ≤ 1000000 := p6.2; exact ⟨p6.1, by omega⟩) (by omega)).mono fun ee w2 ⟨s, h1, h2, h3, h4⟩ => ⟨s, by rw [h1, hY], by rw [h2, hY], by rw [hY] at h3; exact h3, h4⟩) ?_
    refine jf 7 J J J J J J J (by kernel_rfl) ?_
    refine cT 8 0 (m := 2) J J (fun x ⟨s, _, e⟩ => ⟨_, e, rfl⟩) J J J J J J (by kernel_rfl) ?_
    refine cT 8 1 (m := 2) J J (fun x ⟨s, _, e⟩ => ⟨_, e, rfl⟩) J J J J J J (by kernel_rfl) ?_
    iterate 3 (first | refine ff rfl (eI af 6 0 J J J J J J J J J J) J J J ?_ | refine rv ?_)
    refine gy ?_
    refine fE ?_
    rintro ⟨⟨v0, ta, tc⟩, F3⟩ hv0
    dsimp only at hv0
    iterate 3 refine lK _ J J ?_
    refine jB ?_
    dsimp only [List.cons_append, List.nil_append]
    repeat' (first | refine vx rfl (eI af 6 0 J J J J J J J J J J) ?_ | refine nx ?_)
    refine gk (fun w1 hm1 => ((((hm1.mask [true, false, false, true, false, true, true, true, false, false] rfl).repL (O1 := LOk) (O2 := Sl3 1 sC Y.2) (t := (ta, tc)) rpL).pull 4 rfl).pull 4 rfl).pull 4 rfl) ?_
    refine cO (⟨v0, v1, fly, fa, fc, qu, re, kl, sv, nn, got, ga, gc⟩, ⟨F3, F2, FC, FS⟩) [] ?_ ⟨J, trivial⟩ rfl
    unfold fN
    rw [if_neg (by omega), if_neg (by omega), if_neg (by omega), if_neg (by omega), if_pos c5]
    unfold cZ
    dsimp only
    rw [hX, hY, hv0, hv1]
  refine ai rfl (decide_eq_false c5) ?_
  repeat' refine nx ?_
  refine cO (⟨e0, e1, fly, fa, fc, qu, re, kl, sv, nn, got, ga, gc⟩, ⟨F0, F1, FC, FS⟩) [false] ?_ ⟨J, trivial⟩ rfl
  unfold fN
  exact ((if_neg c1).trans ((if_neg c2).trans ((if_neg c3).trans ((if_neg c4).trans (if_neg c5))))).symm
end Go.Proofs.YtklcfjlmlbnkaaaGreatDoor.Y
