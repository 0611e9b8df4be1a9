/- Heads: the head of bytes, the program's HeadRead. -/
import Derived.Test.YtklcfjlmlbnkaaaGreatDoorKHr
import Derived.Test.YtklcfjlmlbnkaaaGreatDoorKBunY
namespace Go.Proofs.YtklcfjlmlbnkaaaGreatDoor.Y
open Go.RowKit
section
variable {P : Program} {l0 rest : List Oper} {Z : Act → World → Prop} {Q : Exit → Act → World → Prop} {n d : Nat} {w0 : World} {S : bq} {M M' M2 : List Ent} {p : World → Prop} {o : Oper}
theorem ja {b : Nat} {T : TypeId} {cs cs' : List Value} {f : FuncId} {args : List Value} {v : Value} (i : Nat) (hc : ∀ w, w0.heap.size ≤ b → Mem w0 w M → Bk w b T ⟨cs⟩ → Calls P f ⟨args⟩ w fun e w' => e = .returned v ∧ Bk w' b T ⟨cs'⟩ ∧ w.grownBy w' (some b)) (hi : dI M i = some (.cl b T cs)) (h9 : ek M i (.cl b T cs') = some M') (hg : o.guard = none) (ho : dd P S [] o f args) (hd : o.dst = some d) (hn : Nat.blt d n = true) (h : SL P l0 Q rest n w0 ((d, [], v) :: S) M') : SL P l0 Q (o :: rest) n w0 S M :=
  bj (σ := Unit) (fun _ => True) (fun _ => v) (fun _ => M') hg ho (fun w hm => (hc w (hm.2.get hi).1 hm (hm.2.get hi).2).mono fun _ _ ⟨h1, h2, h3⟩ => ⟨(), trivial, h1, hm.set hi h9 h3.os h3.tape h3.output h3.size (fun k hk hne => h3.block k hk (fun e => hne (Option.some.inj e))) ⟨(hm.2.get hi).1, h2⟩ (fun _ hk => .inl hk) (fun _ hk => .inl hk)⟩) hd hn (fun _ _ => h)
theorem rX {σ : Type} {N : σ → List Ent} {S' : σ → bq} (hs : ∀ Q : Exit → Act → World → Prop, (∀ g, SL P l0 Q [] n w0 (S' g) (N g)) → SL P l0 Q [o] n w0 S M) (hM' : ∀ g w, Mem w0 w (N g) → Mem w0 w M' ∧ p w) (hg : o.guard = none) (hk : (rV o.op).pure = false) (hk2 : (rV o.op).read = false) (h : ∀ g, SY P l0 Z rest n w0 M' p (S' g) (N g)) : SY P l0 Z (o :: rest) n w0 M' p S M := by
  have hw : ∀ a : Act, Region.wanted o (yielded l0.toArray a.tmps) = true := fun a => by unfold Region.wanted; rw [hg]
  refine ⟨fun a w hS hM => bK (hw a) hk hk2 fun K hK => ?_⟩
  have h1 := (hs (fun _ a' w' => ∃ g, Sl n a' (S' g) ∧ Mem w0 w' (N g)) (fun g => ⟨fun a w hS hM => ⟨g, hS, hM⟩⟩)).run a w hS hM
  unfold oA at h1
  rw [hw a] at h1
  exact Vals.wp rfl h1 (fun v w' ⟨g, hS', hN⟩ => hK _ _ ⟨hM' g _ hN, (h g).run _ _ hS' hN⟩)
theorem ug {N : List Ent} {S' : bq} (hs : ∀ Q : Exit → Act → World → Prop, SL P l0 Q [] n w0 S' N → SL P l0 Q [o] n w0 S M) (hM' : ∀ w, Mem w0 w N → Mem w0 w M' ∧ p w) (hg : o.guard = none) (hk : (rV o.op).pure = false) (hk2 : (rV o.op).read = false) (h : SY P l0 Z rest n w0 M' p S' N) : SY P l0 Z (o :: rest) n w0 M' p S M := rX (σ := Unit) (fun Q h => hs Q (h ())) (fun _ => hM') hg hk hk2 fun _ => h
theorem qQ {T : eo} (hT : TOK P T) {t e : TypeId} {len : Nat} {parts : List (Nat × Operand)} {z : Value} {td : TD} {Ls : List Cd} {vs cs : List Value} (h1 : o.op = .buildSlice t len parts.toArray) (hg : o.guard = none) (h2 : vL S (parts.map (·.2)) = some (Ls, vs)) (h3 : nR [] Ls) (h4 : lk t T = some (.slc e z)) (h5 : lk e T = some td) (h6 : mQ td.size vs = some cs) (h7 : rO (parts.map (·.1)) 0 = true) (h8 : Nat.beq parts.length len = true) (h10 : Nat.ble (len * td.size) 16777216 = true) (hd : o.dst = some d) (hn : Nat.blt d n = true) (hM' : ∀ g w, Mem w0 w (.cl g e cs :: M) → Mem w0 w M' ∧ p w) (hk : (rV o.op).pure = false) (hk2 : (rV o.op).read = false) (h : ∀ g, SY P l0 Z rest n w0 M' p ((d, [], .slice (some ⟨g, 0, none⟩) len len) :: S) (.cl g e cs :: M)) : SY P l0 Z (o :: rest) n w0 M' p S M := rX (fun _ h => cE hT h1 hg h2 h3 h4 h5 h6 h7 h8 h10 hd hn h) hM' hg hk hk2 h
theorem qR {T : eo} (hT : TOK P T) (i j : Nat) {s x : Operand} {t e e' : TypeId} {z : Value} {td : TD} {a : Option Addr} {cap k m c b g : Nat} {xs news : List Value} {M2 : Option Addr → Nat → List Ent} (h1 : o.op = .call ⟨.builtin .append, #[s, x], #[t, t]⟩) (hg : o.guard = none) (h2 : ev S s = some ([], .slice a k cap)) (h3 : ev S x = some ([], .slice (some ⟨g, 0, none⟩) m c)) (h4 : lk t T = some (.slc e z)) (h5 : lk e T = some td) (h6 : (match iS td with | some l => Nat.beq l.length td.size && Nat.blt 0 td.size | none => false) = true) (hi : dI M i = some (.own a cap e td.size k xs)) (hj : dI M j = some (.cl g e' news)) (h9 : ∀ a' cap', ek M i (.own a' cap' e td.size (k + m) (xs ++ news)) = some (M2 a' cap')) (hb : cX P e b) (h7 : fj news = true) (hlen : news.length = m * td.size) (hmax : k + m ≤ maxLen) (hbytes : (k + m) * b ≤ 140737488355328) (hd : o.dst = some d) (hn : Nat.blt d n = true) (hM' : ∀ a' cap' w, Mem w0 w (M2 a' cap') → Mem w0 w M' ∧ p w) (hk : (rV o.op).pure = false) (hk2 : (rV o.op).read = false) (h : ∀ a' cap', SY P l0 Z rest n w0 M' p ((d, [], .slice a' (k + m) cap') :: S) (M2 a' cap')) : SY P l0 Z (o :: rest) n w0 M' p S M := rX (σ := Option Addr × Nat) (N := fun g => M2 g.1 g.2) (S' := fun g => (d, [], .slice g.1 (k + m) g.2) :: S) (fun _ h => bA hT i j h1 hg h2 h3 h4 h5 h6 hi hj h9 hb h7 hlen hmax hbytes hd hn fun a b => h (a, b)) (fun g => hM' g.1 g.2) hg hk hk2 fun g => h g.1 g.2
theorem iA {N : List Ent} {S' : bq} (hs : ∀ Q : Exit → Act → World → Prop, SL P l0 Q [] n w0 S' N → SL P l0 Q [o] n w0 S M) (hg : o.guard = none) (h : SQ Q .normal n w0 S' N) : SY P l0 (iW P l0.toArray o (Q .normal)) [] n w0 M' p S M := by
  have hw : ∀ a : Act, Region.wanted o (yielded l0.toArray a.tmps) = true := fun a => by unfold Region.wanted; rw [hg]
  refine ⟨fun a w hS hM => eD (mZ (hw a) fun K hK => ?_)⟩
  have h1 := (hs (fun _ a' w' => Sl n a' S' ∧ Mem w0 w' N) ⟨fun a w hS hM => ⟨hS, hM⟩⟩).run a w hS hM
  unfold oA at h1
  rw [hw a] at h1
  exact Vals.wp rfl h1 (fun v w' ⟨hS', hN⟩ => hK _ _ (h.run _ _ hS' hN))
end
theorem uh {s0 : ByteArray} {R : Fl} {X1 X2 : GL} {X3 X4 : Hy} {e : Int} {m : GM} (hR : cM s0 = R) (h1 : de s0 0 = X1) (h2 : de X1.rest X1.err = X2) (h3 : ez X2.rest X2.err = X3) (h4 : ez X3.rest X3.err = X4) (he : (if X4.err = 0 ∧ 16 < X4.num then 3 else X4.err) = e) (hm : iJ X4.num X4.rest e [] = m) : R = qG s0 ⟨X1.text, X2.text, 0, []⟩ X3.num m := by
  subst h1 h2 h3 h4 he hm hR
  rw [← we]
  rfl
theorem xL (b : Nat) (s : ByteArray) (e : Int) (X : GL) (h : de s e = X) (w : World) (hs : s.size ≤ 4611686018427387900) (hk : Bk w b 148 ⟨[.string s, .int .i64 e]⟩) : Calls Tryz.prog 71 #[.pointer (some ⟨b, 0, none⟩)] w fun r w' => r = .returned (.string X.text) ∧ Bk w' b 148 ⟨[.string X.rest, .int .i64 X.err]⟩ ∧ w.grownBy w' (some b) := by
  subst h
  exact A1 b s e w hk hs
theorem EP (b : Nat) (s : ByteArray) (e : Int) (X : Hy) (h : ez s e = X) (w : World) (hs : s.size ≤ 4611686018427387900) (hk : Bk w b 148 ⟨[.string s, .int .i64 e]⟩) : Calls Tryz.prog 72 #[.pointer (some ⟨b, 0, none⟩)] w fun r w' => r = .returned (.int .u64 (X.num : Nat)) ∧ Bk w' b 148 ⟨[.string X.rest, .int .i64 X.err]⟩ ∧ w.grownBy w' (some b) := by
  subst h
  exact oN b s e w hk hs
theorem H9 (h : jU) (a : Option Addr) (cap : Nat) (e : Int) (he : bQ h = e) (w : World) (hg : MLen w) (hm : MsIn w (.slice a h.metas.length cap) h.metas) (hz : lg h) : Calls Tryz.prog 20 #[.agg #[.string h.svc, .string h.mth, .int .i64 h.late, .slice a h.metas.length cap]] w fun r w' => r = .returned (.tuple #[.string ⟨(jL h).bytes.toArray⟩, .int .i64 e]) ∧ Below w.heap.size w w' := by
  have h1 := tW h (.slice a h.metas.length cap) w hg hm hz
  have h2 : (jL h).err = e := by
    rw [← he]
    unfold jL
    split
    · rename_i h0; exact h0.symm
    · rfl
  rw [h2] at h1
  exact h1
structure IM where
  j : Nat
  s : ByteArray
  e : Int
  acc : List (ByteArray × ByteArray)
  a : Option Addr
  cap : Nat
attribute [local irreducible] Calls
set_option maxRecDepth 100000 in
set_option maxHeartbeats 32000000 in
theorem Ia (s0 : ByteArray) (R : Fl) (hR : cM s0 = R) (w : World) (hg : MLen w) (hs : s0.size < 4294967281) : Calls Tryz.prog 46 #[.string s0] w fun e w' => ∃ v, e = .returned (.tuple #[.agg (eJ R.head v), .int .i64 R.err]) ∧ w'.ownsRow w.heap.size MT 2 v R.head.metas.length (eU R.head.metas) ∧ Below w.heap.size w w' := by
  refine aA Tryz.func46 rfl Tryz.ntmps46 J J ?_
  obtain ⟨X1, hX1⟩ : ∃ x, de s0 0 = x := ⟨_, rfl⟩
  obtain ⟨X2, hX2⟩ : ∃ x, de X1.rest X1.err = x := ⟨_, rfl⟩
  obtain ⟨X3, hX3⟩ : ∃ x, ez X2.rest X2.err = x := ⟨_, rfl⟩
  obtain ⟨X4, hX4⟩ : ∃ x, ez X3.rest X3.err = x := ⟨_, rfl⟩
  have hb1 := mo s0 0
  have hb2 := mo X1.rest X1.err
  have hb3 := mn X2.rest X2.err
  have hb4 := mn X3.rest X3.err
  have hl3 := oO X2.rest X2.err
  have hl4 := oO X3.rest X3.err
  rw [hX1] at hb1
  rw [hX2] at hb2
  rw [hX3] at hb3 hl3
  rw [hX4] at hb4 hl4
  repeat' (first | (refine al ?_; intro g2) | (refine bx ?_; intro g4) | refine ja 0 (fun w _ hm hk => xL g4 s0 0 X1 hX1 w (by omega) hk) J J J (ap J J J J ⟨J, trivial⟩ rfl (by kernel_rfl)) J J ?_ | refine ja 0 (fun w _ hm hk => xL g4 X1.rest X1.err X2 hX2 w (by omega) hk) J J J (ap J J J J ⟨J, trivial⟩ rfl (by kernel_rfl)) J J ?_ | refine ja 1 (fun w _ hm hk => EP g4 X2.rest X2.err X3 hX3 w (by omega) hk) J J J (ap J J J J ⟨J, trivial⟩ rfl (by kernel_rfl)) J J ?_ | refine ja 1 (fun w _ hm hk => EP g4 X3.rest X3.err X4 hX4 w (by omega) hk) J J J (ap J J J J ⟨J, trivial⟩ rfl (by kernel_rfl)) J J ?_ | refine nx ?_)
  rename_i gr
  obtain ⟨e5, he5⟩ : ∃ e, (if X4.err = 0 ∧ 16 < X4.num then 3 else X4.err) = e := ⟨_, rfl⟩
  obtain ⟨MM, hMM⟩ : ∃ m, iJ X4.num X4.rest e5 [] = m := ⟨_, rfl⟩
  have h6 := uh hR hX1 hX2 hX3 hX4 he5 hMM
  have he16 : e5 = 0 → X4.num ≤ 16 := fun h => by
    rw [h] at he5
    split at he5
    · cases he5
    · rename_i hc; exact Nat.le_of_not_lt fun h9 => hc ⟨he5, h9⟩
  refine cz (b := (X4.err == 0 && decide ((X4.num : Int) > 16))) rfl (fun hc => ?_) (fun hc => ?_)
  all_goals
    first | (have he : (3 : Int) = e5 := by rw [← he5, if_pos (by simp only [Bool.and_eq_true, decide_eq_true_eq, beq_iff_eq] at hc; omega)]) | (have he : X4.err = e5 := by rw [← he5, if_neg (by simp only [Bool.and_eq_false_iff, decide_eq_false_iff_not, beq_eq_false_iff_ne] at hc; omega)])
    clear he5 hc
    repeat' refine nx ?_
    refine E9 MT 2 ?_
    refine bP (σ := IM) (fun q => q.j ≤ X4.num ∧ (q.e = 0 → X4.num ≤ 16) ∧ q.acc.length = q.j ∧ q.s.size ≤ s0.size ∧ iJ (X4.num - q.j) q.s q.e q.acc = MM ∧ ∀ m ∈ q.acc, m.1.size ≤ s0.size ∧ m.2.size ≤ s0.size) (fun q => [(8, [], .int .u64 ((q.j : Nat) : Int)), (7, [], .int .u64 ((X4.num : Nat) : Int)), (6, [], .int .u64 ((X3.num : Nat) : Int)), (5, [], .pointer (some ⟨g2, 0, none⟩)), (4, [], .pointer (some ⟨g4, 0, none⟩)), (2, [], .pointer (some ⟨gr, 0, none⟩)), (0, [], .string s0)]) (fun q => [.own q.a q.cap 85 2 q.acc.length (eU q.acc), .cl g2 54 [.string X1.text, .string X2.text, .int .i64 0, .slice q.a q.acc.length q.cap], .cl g4 148 [.string q.s, .int .i64 q.e], .cl gr 54 [.string ⟨#[]⟩, .string ⟨#[]⟩, .int .i64 0, .slice none 0 0]]) (fun q => X4.num - q.j) ⟨0, X4.rest, e5, [], none, 0⟩ [] ⟨Nat.zero_le _, he16, rfl, (by dsimp only; omega), hMM, fun m hm => by cases hm⟩ ⟨J, J, J, J, J, J, J, trivial⟩ (by rw [he]; rfl) ?_
    clear hMM he he16
    rintro ⟨j, s, e, acc, a, cap⟩ ⟨hj0, h16, hal, hsz, hmf, hac⟩
    dsimp only at hj0 h16 hal hsz hmf hac ⊢
    repeat' refine nx ?_
    refine cz (b := (decide ((j : Int) < (X4.num : Int)) && e == 0)) rfl (fun hc => ?_) (fun hc => ?_)
    · obtain ⟨hj, rfl⟩ : j < X4.num ∧ e = 0 := by simpa using hc
      have h16 := h16 rfl
      obtain ⟨XA, hXA⟩ : ∃ x, de s 0 = x := ⟨_, rfl⟩
      obtain ⟨XB, hXB⟩ : ∃ x, de XA.rest XA.err = x := ⟨_, rfl⟩
      have hba := mo s 0
      rw [hXA] at hba
      have hbb := mo XA.rest XA.err
      rw [hXB] at hbb
      rw [show X4.num - j = (X4.num - (j + 1)) + 1 by omega, iJ, if_pos rfl, hXA, hXB] at hmf
      repeat' refine nx ?_
      refine bR [false, true, false, false] (fun _ => True) am (by kernel_rfl) J J (fun _ _ => trivial) ?_
      repeat' (first | refine ug (fun Q h => ja 2 (fun w _ hm hk => xL g4 s 0 XA hXA w (by omega) hk) J J J (ap J J J J ⟨J, trivial⟩ rfl (by kernel_rfl)) J J h) (fun w hm => ⟨hm.mask [false, true, false, false] rfl, trivial⟩) J J J ?_ | refine ug (fun Q h => ja 2 (fun w _ hm hk => xL g4 XA.rest XA.err XB hXB w (by omega) hk) J J J (ap J J J J ⟨J, trivial⟩ rfl (by kernel_rfl)) J J h) (fun w hm => ⟨hm.mask [false, true, false, false] rfl, trivial⟩) J J J ?_ | (refine qQ af J J J ⟨J, trivial⟩ J J J J J J J J (fun g w hm => ⟨hm.mask [false, false, true, false, false] rfl, trivial⟩) J J ?_; intro g) | (refine qR af 1 0 J J J J J J J J J (fun _ _ => rfl) Bd J J (by unfold maxLen; omega) (by omega) J J (fun _ _ w hm => ⟨hm.mask [false, false, true, false, false] rfl, trivial⟩) J J ?_; intro sa sc) | refine iA (fun Q h => aC af 2 J J J J J J J J J J J J h) rfl ?_ | refine yv ?_)
      repeat' refine nx ?_
      rw [show IntKind.u64.wrap ((j : Int) + 1) = ((j + 1 : Nat) : Int) by rw [IntKind.wrap_u64]; omega]
      have hcl : eU acc ++ [.string XA.text, .string XB.text] = eU (acc ++ [(XA.text, XB.text)]) := (tZ acc _ _).symm
      have hll : acc.length + 1 = (acc ++ [(XA.text, XB.text)]).length := by simp
      refine aU (⟨j + 1, XB.rest, XB.err, acc ++ [(XA.text, XB.text)], sa, sc⟩ : IM) [false, true, true, true, true] ⟨hj, fun _ => h16, (by dsimp only; rw [← hll, hal]), (by dsimp only; omega), hmf, fun m hm => ?_⟩ (show X4.num - (j + 1) < X4.num - j by omega) ⟨J, J, J, J, J, J, J, trivial⟩ (by rw [← hcl, ← hll]; rfl)
      rcases List.mem_append.1 hm with h | h
      · exact hac m h
      · rw [List.mem_singleton.1 h]
        exact ⟨by dsimp only; omega, by dsimp only; omega⟩
    · have hME : MM = ⟨acc, s, e⟩ := by
        rw [← hmf]
        by_cases he : e = 0
        · subst he
          rw [show X4.num - j = 0 by simp at hc; omega, iJ]
        · exact lG _ _ he _
      clear hmf
      subst hME
      repeat' refine nx ?_
      by_cases he : e = 0
      rotate_left
      · refine aq rfl (by simpa using he) ?_
        obtain rfl := h6.trans (DN rfl he)
        repeat' refine nx ?_
        refine gW [false, false, true, false] am (by kernel_rfl) ?_
        repeat' (first | refine gV af 3 J J J J J J J J J J J J (fun w h => h.mask [false, false, true, false] rfl) ?_ | refine oW ?_ | ((refine' zb J J ?_ J J ?_); rotate_left; first | exact aI af J J J J | exact ab af 0 J J J J J | exact aj af J J trivial J J J))
        repeat' refine nx ?_
        refine rt ?_
        exact fun w1 hm => ⟨.slice none 0 0, rfl, World.ownsRow_nil _ _ _ _, hm.below⟩
      refine ai rfl (by simpa using he) ?_
      subst he
      unfold qG at h6
      dsimp only at h6
      rw [if_neg (by simp)] at h6
      repeat' refine nx ?_
      by_cases hs0 : s.size = 0
      rotate_left
      · rw [if_pos hs0] at h6
        subst h6
        refine aq rfl (by rw [Bf, decide_eq_false hs0]; rfl) ?_
        repeat' refine nx ?_
        refine rt ?_
        exact fun w1 hm => ⟨.slice none 0 0, rfl, World.ownsRow_nil _ _ _ _, hm.below⟩
      rw [if_neg (by simpa using hs0)] at h6
      refine ai rfl (by rw [Bf, decide_eq_true hs0]; rfl) ?_
      repeat' refine nx ?_
      by_cases hu : 1099511627776 < X3.num
      · rw [if_pos hu] at h6
        subst h6
        refine aq rfl (decide_eq_true (by omega)) ?_
        repeat' refine nx ?_
        refine rt ?_
        exact fun w1 hm => ⟨.slice none 0 0, rfl, World.ownsRow_nil _ _ _ _, hm.below⟩
      rw [if_neg hu] at h6
      refine ai rfl (decide_eq_false (by omega)) ?_
      have hwu : IntKind.i64.wrap ((X3.num : Nat) : Int) = (X3.num : Int) := IntWalk.i64_in _ (by omega)
      obtain ⟨H, hH⟩ : ∃ h, (⟨X1.text, X2.text, ((X3.num : Nat) : Int), acc⟩ : jU) = h := ⟨_, rfl⟩
      obtain ⟨e, he⟩ : ∃ e, bQ H = e := ⟨_, rfl⟩
      rw [hH, he] at h6
      have hz : lg H := by
        rw [← hH]
        exact ⟨by dsimp only; omega, by dsimp only; omega, fun m hm => by have := hac m hm; exact ⟨by omega, by omega⟩⟩
      repeat' refine nx ?_
      rw [hwu]
      subst hH
      repeat' (first | refine cl (fun w hm => H9 ⟨X1.text, X2.text, ((X3.num : Nat) : Int), acc⟩ a cap e he w (hg.below hm.below) (MsIn.own (hm.2.get (i := 0) rfl)) hz) ?_ | refine nx ?_)
      by_cases h7 : e = 0
      rotate_left
      · rw [if_pos h7] at h6
        subst h6
        refine aq rfl (by simpa using h7) ?_
        repeat' refine nx ?_
        refine rt ?_
        exact fun w1 hm => ⟨.slice none 0 0, rfl, World.ownsRow_nil _ _ _ _, hm.below⟩
      rw [if_neg (by simpa using h7)] at h6
      subst h7
      refine ai J J ?_
      rw [oR he]
      repeat' refine nx ?_
      by_cases h8 : ko ⟨X1.text, X2.text, ((X3.num : Nat) : Int), acc⟩ = s0.data.toList
      rotate_left
      · rw [if_pos h8] at h6
        subst h6
        refine aq rfl (by rw [ByteArray.toList_eq, ByteArray.toList_eq]; simpa using h8) ?_
        repeat' refine nx ?_
        refine rt ?_
        exact fun w1 hm => ⟨.slice none 0 0, rfl, World.ownsRow_nil _ _ _ _, hm.below⟩
      rw [if_neg (by simpa using h8)] at h6
      subst h6
      refine ai rfl (by rw [ByteArray.toList_eq, ByteArray.toList_eq]; simpa using h8) ?_
      repeat' refine nx ?_
      refine rt ?_
      exact fun w1 hm => ⟨.slice a acc.length cap, rfl, hm.2.get (i := 0) rfl, hm.below⟩
end Go.Proofs.YtklcfjlmlbnkaaaGreatDoor.Y
namespace Go.Proofs.YtklcfjlmlbnkaaaGreatDoor
theorem lr (s0 : ByteArray) (w : World) (hg : MLen w) (hs : s0.size < 4294967281) : Calls Tryz.prog 46 #[.string s0] w (DI (cM s0) w) := Y.Ia s0 _ rfl w hg hs
theorem rY (s0 : ByteArray) (w : World) (hg : MLen w) (hs : s0.size < 4294967281) : Calls Tryz.prog 46 #[.string s0] w (Fq (cM s0) w) :=
  (lr s0 w hg hs).mono fun _ _ ⟨v, h1, h2, h3⟩ => ⟨v, h1, MsIn.own h2, h3⟩
end Go.Proofs.YtklcfjlmlbnkaaaGreatDoor
