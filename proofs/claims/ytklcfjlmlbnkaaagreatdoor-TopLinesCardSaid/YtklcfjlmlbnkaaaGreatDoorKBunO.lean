/- Texts of this claim merged into one: KLoO, KLo2, KLo3. -/
import Derived.Test.YtklcfjlmlbnkaaaGreatDoorKBunL
import Derived.Test.YtklcfjlmlbnkaaaGreatDoorKBunC9
import Derived.Test.YtklcfjlmlbnkaaaGreatDoorKBunL2
namespace Go.Proofs.YtklcfjlmlbnkaaaGreatDoor.Y
open Go.RowKit
theorem rpN : Rp NOk := ⟨fun h => h.lt, fun h hk => h.agree hk⟩
theorem yl {σ : Type} {Ok : (Nat → Prop) → World → σ → Prop} (K : Rp Ok) {A F0 : Nat → Prop} {w w1 w2 : World} {M : List Ent} {s : σ} (hm : Mem w w1 M) (hs : EV A w M F0) (h : Ok (fun b => F0 b ∨ w1.heap.size ≤ b) w2 s) (hb : Below w1.heap.size w1 w2) : ∃ F : Nat → Prop, (∀ b, F b → A b ∨ w.heap.size ≤ b) ∧ Mem w w2 (.rep F (fun w => Ok F w s) :: M) :=
  ⟨_, fun b hb => hb.1.elim (fun h => (hs b h).elim (fun h => .inl h.1) fun ⟨_, _, _, _, hF, h⟩ => hF b h) (fun h => .inr (Nat.le_trans hm.1.size h)), Mem.out hm (A := F0) (fun b hb f hf => (hs b hb).elim (fun h => kV hm h.2 hf) fun ⟨_, _, _, hi, _, h⟩ => kU hm.2 hi b h f hf) hb (fun F w => Ok F w s) (K.lt h) (fun _ _ _ hk h => K.ag h hk)⟩
section
variable {A F0 : Nat → Prop} {P : Program} {l0 rest : List Oper} {Z : Act → World → Prop} {Q : Exit → Act → World → Prop} {n : Nat} {w : World} {S : bq} {M M' : List Ent} {p : World → Prop} {o : Oper} {d : Nat} {f : FuncId} {args : List Value}
theorem vt {σ : Type} {Ok : (Nat → Prop) → World → σ → Prop} (K : Rp Ok) (V : σ → Value) (hs : EV A w M F0) (hc : ∀ w1, Mem w w1 M → Calls P f ⟨args⟩ w1 fun e w2 => ∃ s : σ, e = .returned (V s) ∧ Ok (fun b => F0 b ∨ w1.heap.size ≤ b) w2 s ∧ Below w1.heap.size w1 w2) (h : ∀ (s : σ) (F : Nat → Prop), (∀ b, F b → A b ∨ w.heap.size ≤ b) → SL P l0 Q rest n w ((d, [], V s) :: S) (.rep F (fun w => Ok F w s) :: M)) (ho : dd P S [] o f args := by first | exact ap J J J J ⟨J, trivial⟩ rfl (by kernel_rfl) | exact ap J J J J ⟨J, J, trivial⟩ rfl (by kernel_rfl) | exact ap J J J J ⟨J, J, J, trivial⟩ rfl (by kernel_rfl)) (hg : o.guard = none := by exact rfl) (hd : o.dst = some d := by exact rfl) (hn : Nat.blt d n = true := by exact rfl) : SL P l0 Q (o :: rest) n w S M :=
  kw (σ := σ) (fun _ F => ∀ b, F b → A b ∨ w.heap.size ≤ b) V (fun s F w => Ok F w s) hg ho (fun w1 hm => (hc w1 hm).mono fun e w2 ⟨s, h2, h3, h4⟩ => by obtain ⟨F, h5, h6⟩ := yl K hm hs h3 h4; exact ⟨s, F, h5, h2, h6⟩) hd hn (fun s F hh => h s F hh)
end
end Go.Proofs.YtklcfjlmlbnkaaaGreatDoor.Y
namespace Go.Proofs.YtklcfjlmlbnkaaaGreatDoor.Y
open Go.RowKit
theorem Eq {l : List PkV} {p : PkV} {j : Nat} (h : bU l p = l.take j ++ bU (l.drop j) p) (hj : j < l.length) (hs : l[j].seq < p.seq) : bU l p = l.take (j + 1) ++ bU (l.drop (j + 1)) p := by
  rw [h, List.drop_eq_getElem_cons hj, bU, if_pos hs, List.take_succ_eq_append_getElem hj, List.append_assoc]
  rfl
theorem zU {l : List PkV} {p : PkV} {j : Nat} (h : bU l p = l.take j ++ bU (l.drop j) p) (hj : j < l.length) (hs : l[j].seq = p.seq) : bU l p = l := by
  rw [h, List.drop_eq_getElem_cons hj, bU, if_neg (by omega), if_pos hs, ← List.drop_eq_getElem_cons hj, List.take_append_drop]
theorem vu {l : List PkV} {p : PkV} {j : Nat} (h : bU l p = l.take j ++ bU (l.drop j) p) (hs : ∀ hj : j < l.length, p.seq < l[j].seq) : bU l p = l.take j ++ ⟨p.seq, 0, p.data⟩ :: l.drop j := by
  rw [h]
  by_cases hj : j < l.length
  · have := hs hj
    rw [List.drop_eq_getElem_cons hj, bU, if_neg (by omega), if_neg (by omega)]
  · rw [List.drop_of_length_le (by omega)]
    rfl
attribute [local irreducible] Calls
set_option maxRecDepth 100000
set_option maxHeartbeats 16000000
theorem CC {A : Nat → Prop} (x : Option Addr) (l : List PkV) (c : Nat) (p : PkV) (w : World) (h : Sl3 3 pC l A w (x, c)) (hb : l.length ≤ 900000) : Calls Tryz.prog 34 #[.slice x l.length c, .agg ⟨pC p⟩] w fun e w' => ∃ s : Option Addr × Nat, e = .returned (.slice s.1 (bU l p).length s.2) ∧ Sl3 3 pC (bU l p) (fun b => A b ∨ w.heap.size ≤ b) w' s ∧ Below w.heap.size w w' := by
  obtain ⟨hR, hc, hn⟩ := id h
  dsimp only at hR hc hn
  refine aA Tryz.func34 rfl Tryz.ntmps34 J J ?_
  refine bc ?_
  refine aH ?_
  refine bx ?_
  intro g3
  repeat' refine cV ?_
  refine bc ?_
  repeat' refine cV ?_
  refine me (σ := Nat) (fun j => (j ≤ l.length ∧ bU l p = l.take j ++ bU (l.drop j) p) ∧ ∀ hj : j < l.length, p.seq ≤ l[j].seq) (fun j => [(5, [], .int .i64 ((j : Nat) : Int)), (0, [], .slice x l.length c), (3, [], .pointer (some ⟨g3, 0, none⟩))]) (fun _ => [.cl g3 58 (pC p)]) ?_ ?_
  · repeat' refine cV ?_
    refine bP (σ := Nat) (fun j => j ≤ l.length ∧ bU l p = l.take j ++ bU (l.drop j) p) (fun j => [(5, [], .int .i64 ((j : Nat) : Int)), (0, [], .slice x l.length c), (3, [], .pointer (some ⟨g3, 0, none⟩))]) (fun _ => [.cl g3 58 (pC p)]) (fun j => l.length - j) 0 [] ⟨Nat.zero_le _, rfl⟩ ⟨J, J, J, trivial⟩ rfl ?_
    rintro j ⟨hj0, ha⟩
    by_cases hj : j < l.length
    · obtain ⟨b, off, hx, _, _, hr⟩ := hR (by omega)
      subst hx
      have hrow := hr j l[j] (List.getElem?_eq_getElem hj)
      have hcell : w.cell? ⟨b, off + j * 3 + 0, none⟩ = some (.int .i64 l[j].seq) := hrow 0 _ rfl
      repeat' (first | refine vr rfl (ia (m := 3) j hj) ?_ | refine vr rfl (dG af (v := .int .i64 l[j].seq) J J J J J (fun _ => hcell)) ?_ | refine ny ?_ | refine nx ?_)
      by_cases hs : l[j].seq < p.seq
      · refine aq rfl (by simp only [Bool.and_eq_true, decide_eq_true_eq]; omega) ?_
        repeat' (first | refine vx rfl (bd J J J J J (by omega)) ?_ | refine nx ?_)
        exact aU (j + 1) [] ⟨hj, Eq ha hj hs⟩ (show l.length - (j + 1) < l.length - j by omega) ⟨J, J, J, trivial⟩ rfl
      · refine ai rfl (by simp only [Bool.and_eq_false_iff, decide_eq_false_iff_not]; omega) ?_
        repeat' refine nx ?_
        exact cO j [] ⟨⟨hj0, ha⟩, fun _ => by omega⟩ ⟨J, J, J, trivial⟩ rfl
    · repeat' (first | refine vr rfl (mu rfl (by simp [az]; omega)) ?_ | refine vr rfl (mr (.int .i64 0) rfl (by simp [az]; omega)) ?_ | refine ny ?_ | refine nx ?_)
      refine ai rfl (by simp only [Bool.and_eq_false_iff, decide_eq_false_iff_not]; omega) ?_
      repeat' refine nx ?_
      exact cO j [] ⟨⟨hj0, ha⟩, fun h => absurd h hj⟩ ⟨J, J, J, trivial⟩ rfl
  rintro j ⟨⟨hj0, ha⟩, hle⟩
  by_cases hj : j < l.length
  · have hle := hle hj
    obtain ⟨b, off, hx, _, _, hr⟩ := hR (by omega)
    subst hx
    have hrow := hr j l[j] (List.getElem?_eq_getElem hj)
    have hcell : w.cell? ⟨b, off + j * 3 + 0, none⟩ = some (.int .i64 l[j].seq) := hrow 0 _ rfl
    repeat' (first | refine vr rfl (ia (m := 3) j hj) ?_ | refine vr rfl (dG af (v := .int .i64 l[j].seq) J J J J J (fun _ => hcell)) ?_ | refine ny ?_ | refine nx ?_)
    by_cases hs : l[j].seq = p.seq
    · refine aq rfl (by simp only [Bool.and_eq_true, decide_eq_true_eq, beq_iff_eq]; omega) ?_
      repeat' refine nx ?_
      rw [zU ha hj hs]
      (refine rt ?_; refine fun w1 hm => ⟨(some ⟨b, off, none⟩, c), rfl, (h.below hm.below).mono fun _ => .inl, hm.below⟩)
    · refine ai rfl (by simp only [Bool.and_eq_false_iff, decide_eq_false_iff_not, beq_eq_false_iff_ne]; right; omega) ?_
      repeat' refine nx ?_
      refine fB 9 [38, 45] am rfl (by kernel_rfl) ?_
      repeat' (first | refine nb (σ := Option Addr × Nat) (fun _ => True) (fun s => .slice s.1 l.length s.2) (fun s => [.own s.1 s.2 58 3 l.length (l.flatMap pC)]) rfl (ap J J J J ⟨J, trivial⟩ rfl (by kernel_rfl)) (fun w1 hm => (eY _ l c w1 (hR.below hm.below) (by omega)).mono fun e w1 h => wi h) J J J J ?_ | refine lS af J J J ⟨J, trivial⟩ J J J J J J J J J J ?_ | refine xv ?_)
      refine mq ?_
      rintro ⟨ra, rc⟩ - gb -
      dsimp only [List.cons_append, List.nil_append]
      refine bj (σ := Option Addr × Nat) (fun _ => True) (fun q => .slice q.1 (l.length + 1) q.2) (fun q => .own q.1 q.2 58 3 (l.length + 1) ((l.take j ++ (⟨p.seq, 0, p.data⟩ : PkV) :: l.drop j).flatMap pC) :: .cl gb 58 (pC ⟨p.seq, 0, p.data⟩) :: [.cl g3 58 (pC p)]) rfl (ap J J J J ⟨J, J, J, trivial⟩ rfl (by kernel_rfl)) (fun w1 hM => (vq ra rc l j ⟨p.seq, 0, p.data⟩ gb w1 hj0 (by omega) (hM.perm (List.Perm.swap _ _ _))).mono fun e w2 ⟨q, h1, h2⟩ => ⟨q, trivial, h1, h2⟩) J J ?_
      rintro ⟨qa, qc⟩ -
      repeat' refine nx ?_
      have hk := vu ha (fun _ => by omega)
      have hl : (bU l p).length = l.length + 1 := by rw [hk, List.length_append, List.length_cons, List.length_take, List.length_drop]; omega
      (refine rt ?_; refine fun w1 hm => ⟨(qa, qc), by rw [hl], ?_, hm.below⟩)
      have h1 := hm.2.get (i := 0) rfl
      exact (Sl3.own (l := bU l p) bL (by rw [hl, hk]; exact h1)).mono fun _ => .inr
  · repeat' (first | refine vr rfl (mu rfl (by simp [az]; omega)) ?_ | refine vr rfl (mr (.int .i64 0) rfl (by simp [az]; omega)) ?_ | refine ny ?_ | refine nx ?_)
    refine ai rfl (by simp only [Bool.and_eq_false_iff, decide_eq_false_iff_not]; omega) ?_
    repeat' refine nx ?_
    refine fB 9 [38, 45] am rfl (by kernel_rfl) ?_
    repeat' (first | refine nb (σ := Option Addr × Nat) (fun _ => True) (fun s => .slice s.1 l.length s.2) (fun s => [.own s.1 s.2 58 3 l.length (l.flatMap pC)]) rfl (ap J J J J ⟨J, trivial⟩ rfl (by kernel_rfl)) (fun w1 hm => (eY _ l c w1 (hR.below hm.below) (by omega)).mono fun e w1 h => wi h) J J J J ?_ | refine lS af J J J ⟨J, trivial⟩ J J J J J J J J J J ?_ | refine xv ?_)
    refine mq ?_
    rintro ⟨ra, rc⟩ - gb -
    dsimp only [List.cons_append, List.nil_append]
    refine bj (σ := Option Addr × Nat) (fun _ => True) (fun q => .slice q.1 (l.length + 1) q.2) (fun q => .own q.1 q.2 58 3 (l.length + 1) ((l.take j ++ (⟨p.seq, 0, p.data⟩ : PkV) :: l.drop j).flatMap pC) :: .cl gb 58 (pC ⟨p.seq, 0, p.data⟩) :: [.cl g3 58 (pC p)]) rfl (ap J J J J ⟨J, J, J, trivial⟩ rfl (by kernel_rfl)) (fun w1 hM => (vq ra rc l j ⟨p.seq, 0, p.data⟩ gb w1 hj0 (by omega) (hM.perm (List.Perm.swap _ _ _))).mono fun e w2 ⟨q, h1, h2⟩ => ⟨q, trivial, h1, h2⟩) J J ?_
    rintro ⟨qa, qc⟩ -
    repeat' refine nx ?_
    have hk := vu ha (fun h => absurd h hj)
    have hl : (bU l p).length = l.length + 1 := by rw [hk, List.length_append, List.length_cons, List.length_take, List.length_drop]; omega
    (refine rt ?_; refine fun w1 hm => ⟨(qa, qc), by rw [hl], ?_, hm.below⟩)
    have h1 := hm.2.get (i := 0) rfl
    exact (Sl3.own (l := bU l p) bL (by rw [hl, hk]; exact h1)).mono fun _ => .inr
theorem CD {l : List PkV} {e : Int} {o : List ByteArray} {j : Nat} (hj : j < l.length) (h : bT l e o = bT (l.drop j) (e + j) (o ++ (l.take j).map PkV.data)) (hs : l[j].seq = e + j) : bT l e o = bT (l.drop (j + 1)) (e + ((j + 1 : Nat) : Int)) (o ++ (l.take (j + 1)).map PkV.data) := by
  rw [h, List.drop_eq_getElem_cons hj, bT, if_pos hs, List.take_succ_eq_append_getElem hj, List.map_append, List.append_assoc]
  have e1 : e + (j : Int) + 1 = e + ((j + 1 : Nat) : Int) := by push_cast; omega
  rw [e1]
  rfl
theorem vw {l : List PkV} {e : Int} {o : List ByteArray} {j : Nat} (h : bT l e o = bT (l.drop j) (e + j) (o ++ (l.take j).map PkV.data)) (hs : ∀ hj : j < l.length, l[j].seq ≠ e + j) : bT l e o = (l.drop j, e + j, o ++ (l.take j).map PkV.data) := by
  rw [h]
  by_cases hj : j < l.length
  · rw [List.drop_eq_getElem_cons hj, bT, if_neg (hs hj)]
  · rw [List.drop_of_length_le (by omega)]
    rfl
theorem CE {l : List PkV} {d : ByteArray} {j : Nat} (hj : j < l.length) : ([d] ++ (l.take j).map PkV.data).flatMap sC ++ [.string l[j].data] = ([d] ++ (l.take (j + 1)).map PkV.data).flatMap sC := by
  have h : [d] ++ (l.take (j + 1)).map PkV.data = ([d] ++ (l.take j).map PkV.data) ++ [l[j].data] := by
    rw [List.take_succ_eq_append_getElem hj, List.map_append, List.append_assoc]
    rfl
  rw [h]
  conv => rhs; rw [List.flatMap_append]
  rfl
theorem IC (g j n c : Nat) : Value.slice (if c - j = 1 then some ⟨g, j * 3, none⟩ else (some (⟨g, j * 3, none⟩ : Addr)).map (·.add (1 * 3))) (n - j - 1) (c - j - 1) = .slice (if c - j = 1 then some ⟨g, j * 3, none⟩ else some ⟨g, (j + 1) * 3, none⟩) (n - (j + 1)) (c - (j + 1)) := by
  rw [Nat.sub_sub, Nat.sub_sub]
  split
  · rfl
  · show Value.slice (some ((⟨g, j * 3, none⟩ : Addr).add (1 * 3))) _ _ = _
    rw [Addr.add_lit, Nat.add_mul]
structure I2 where
  j : Nat
  oa : Option Addr
  oc : Nat
  ad : Option Addr
theorem CF {A : Nat → Prop} (n0 : Int) (x : Option Addr) (wl xc : Nat) (ex : Int) (y : Option Addr) (l : List PkV) (yc : Nat) (ag : Int) (du : Bool) (d : ByteArray) (w : World) (h : Sl3 3 pC l A w (y, yc)) (hb : l.length ≤ 1000000) (hx : 0 ≤ ex ∧ ex ≤ 2000000000000) :
    Calls Tryz.prog 33 #[.agg #[.int .i64 n0, .slice x wl xc, .int .i64 ex, .slice y l.length yc, .int .i64 ag, .bool du], .string d] w fun e w' => ∃ s : (Option Addr × Nat) × (Option Addr × Nat), e = .returned (.tuple #[.agg #[.int .i64 n0, .slice x wl xc, .int .i64 (bT l (ex + 1) [d]).2.1, .slice s.1.1 (bT l (ex + 1) [d]).1.length s.1.2, .int .i64 ag, .bool du], .slice s.2.1 (bT l (ex + 1) [d]).2.2.length s.2.2]) ∧ (Sl3 3 pC (bT l (ex + 1) [d]).1 (fun b => w.heap.size ≤ b) w' s.1 ∧ Sl3 1 sC (bT l (ex + 1) [d]).2.2 (fun b => w.heap.size ≤ b) w' s.2) ∧ Below w.heap.size w w' := by
  refine aA Tryz.func33 rfl Tryz.ntmps33 J J ?_
  refine bc ?_
  repeat' (first | (refine bx ?_; intro g2) | (refine al ?_; intro g4) | refine cV ?_)
  refine bc ?_
  repeat' (first | (refine cE af J J J ⟨J, trivial⟩ J J J J J J J J ?_; intro gb) | refine cV ?_)
  refine bc ?_
  repeat' (first | refine vx rfl (bd J J J J J (by omega)) ?_ | refine cV ?_)
  refine bc ?_
  repeat' refine cV ?_
  refine cQ (σ := Option Addr × Nat) (fun _ => True) (fun s => .slice s.1 l.length s.2) (fun s => [.own s.1 s.2 58 3 l.length (l.flatMap pC)]) rfl (ap J J J J ⟨J, trivial⟩ rfl (by kernel_rfl)) (fun w1 hm => (eY y l yc w1 (h.1.below hm.below) hb).mono fun e w2 ⟨p, h1, h2, h3⟩ => ⟨p, h1, h2, h3⟩) J J ?_
  rintro ⟨ra, rc⟩ -
  dsimp only [List.cons_append, List.nil_append]
  repeat' refine cV ?_
  refine gi (p := l.length ≤ rc ∧ (ra = none → rc = 0) ∧ (0 < l.length → ∃ gr, ra = some ⟨gr, 0, none⟩)) (fun w1 hm => ⟨gl (hm.2.get (i := 0) rfl), xK (hm.2.get (i := 0) rfl), ka (hm.2.get (i := 0) rfl)⟩) ?_
  rintro ⟨hrc, hrn, hrs⟩
  have e0 : ex + 1 + ((0 : Nat) : Int) = ex + 1 := by simp
  refine kO (M' := [.own (some ⟨gb, 0, none⟩) 1 9 1 1 ([d].flatMap sC), .own ra rc 58 3 l.length (l.flatMap pC), .cl g4 26 [.int .i64 0, .slice none 0 0, .int .i64 0, .slice none 0 0, .int .i64 0, .bool false], .cl g2 26 [.int .i64 n0, .slice x wl xc, .int .i64 (ex + 1 + ((0 : Nat) : Int)), .slice y l.length yc, .int .i64 ag, .bool du]]) (fun w1 hm => ?_) ?_
  · rw [e0]
    exact qN 1 1 (hm.perm (List.Perm.swap _ _ _)) rfl (by decide)
  refine me (σ := I2) (fun q => (q.j ≤ l.length ∧ bT l (ex + 1) [d] = (l.drop q.j, ex + 1 + q.j, [d] ++ (l.take q.j).map PkV.data)) ∧ (q.j < l.length → ∃ gr, ra = some ⟨gr, 0, none⟩ ∧ q.ad = some ⟨gr, q.j * 3, none⟩) ∧ (q.ad = none → rc - q.j = 0)) (fun q => [(6, [], .slice q.oa ([d] ++ (l.take q.j).map PkV.data).length q.oc), (7, [], .slice q.ad (l.length - q.j) (rc - q.j)), (2, [], .pointer (some ⟨g2, 0, none⟩)), (4, [], .pointer (some ⟨g4, 0, none⟩))]) (fun q => [.own q.oa q.oc 9 1 ([d] ++ (l.take q.j).map PkV.data).length (([d] ++ (l.take q.j).map PkV.data).flatMap sC), .own ra rc 58 3 l.length (l.flatMap pC), .cl g4 26 [.int .i64 0, .slice none 0 0, .int .i64 0, .slice none 0 0, .int .i64 0, .bool false], .cl g2 26 [.int .i64 n0, .slice x wl xc, .int .i64 (ex + 1 + q.j), .slice y l.length yc, .int .i64 ag, .bool du]]) ?_ ?_
  · repeat' refine cV ?_
    refine bP (σ := I2) (fun q => (q.j ≤ l.length ∧ bT l (ex + 1) [d] = bT (l.drop q.j) (ex + 1 + q.j) ([d] ++ (l.take q.j).map PkV.data)) ∧ (q.j < l.length → ∃ gr, ra = some ⟨gr, 0, none⟩ ∧ q.ad = some ⟨gr, q.j * 3, none⟩) ∧ (q.ad = none → rc - q.j = 0)) (fun q => [(6, [], .slice q.oa ([d] ++ (l.take q.j).map PkV.data).length q.oc), (7, [], .slice q.ad (l.length - q.j) (rc - q.j)), (2, [], .pointer (some ⟨g2, 0, none⟩)), (4, [], .pointer (some ⟨g4, 0, none⟩))]) (fun q => [.own q.oa q.oc 9 1 ([d] ++ (l.take q.j).map PkV.data).length (([d] ++ (l.take q.j).map PkV.data).flatMap sC), .own ra rc 58 3 l.length (l.flatMap pC), .cl g4 26 [.int .i64 0, .slice none 0 0, .int .i64 0, .slice none 0 0, .int .i64 0, .bool false], .cl g2 26 [.int .i64 n0, .slice x wl xc, .int .i64 (ex + 1 + q.j), .slice y l.length yc, .int .i64 ag, .bool du]]) (fun q => l.length - q.j) ⟨0, some ⟨gb, 0, none⟩, 1, ra⟩ [] ⟨⟨Nat.zero_le _, by simp⟩, fun h0 => ?_, fun hn => by rw [hrn hn, Nat.zero_sub]⟩ ⟨J, J, J, J, trivial⟩ rfl ?_
    · obtain ⟨gr, hg⟩ := hrs h0
      exact ⟨gr, hg, by rw [hg]; simp⟩
    rintro ⟨j, oa, oc, ad⟩ ⟨⟨hj0, hd⟩, had, hnn⟩
    dsimp only at hj0 hd had hnn ⊢
    by_cases hj : j < l.length
    · obtain ⟨gr, hra, had1⟩ := had hj
      subst hra had1
      have hs0 : (l.flatMap pC)[j * 3 + 0 * 3 + 0]? = some (.int .i64 l[j].seq) := by
        have := aJ bL (List.getElem?_eq_getElem hj) (k := 0) (v := .int .i64 l[j].seq) rfl
        simpa using this
      have hs2 : (l.flatMap pC)[j * 3 + 0 * 3 + 2]? = some (.string l[j].data) := by
        have := aJ bL (List.getElem?_eq_getElem hj) (k := 2) (v := .string l[j].data) rfl
        simpa using this
      repeat' (first | refine vr rfl (ia (m := 3) 0 (show 0 < l.length - j by omega)) ?_ | refine vr rfl (bM af 1 (v := .int .i64 l[j].seq) J J J J J J (fun _ => hs0)) ?_ | refine ny ?_ | refine nx ?_)
      by_cases hs : l[j].seq = ex + 1 + j
      · refine aq rfl (by simp only [Bool.and_eq_true, decide_eq_true_eq, beq_iff_eq]; omega) ?_
        have e1 : ([d] ++ (l.take j).map PkV.data).length + 1 = ([d] ++ (l.take (j + 1)).map PkV.data).length := by simp only [List.length_append, List.length_map, List.length_take]; omega
        have e2 : ([d] ++ (l.take j).map PkV.data).flatMap sC ++ [.string l[j].data] = ([d] ++ (l.take (j + 1)).map PkV.data).flatMap sC := CE hj
        have e3 : ex + 1 + (j : Int) + 1 = ex + 1 + ((j + 1 : Nat) : Int) := by push_cast; omega
        have hz : ([d] ++ (l.take j).map PkV.data).length ≤ 1000001 := by simp only [List.length_append, List.length_map, List.length_take, List.length_singleton]; omega
        generalize hO : ([d] ++ (l.take j).map PkV.data).length = O at *
        generalize hF : ([d] ++ (l.take j).map PkV.data).flatMap sC = F at *
        repeat' (first | refine vx rfl (ia (m := 3) 0 (show 0 < l.length - j by omega)) ?_ | refine vx rfl (bM af 1 (v := .string l[j].data) J J J J J J (fun _ => hs2)) ?_ | (refine cE af J J J ⟨J, trivial⟩ J J J J J J J J ?_; intro gb2) | (refine bA af 1 0 J J J J J J J J J (fun _ _ => rfl) xI J J (by unfold maxLen; omega) (by omega) J J ?_; intro sa sc) | refine vx rfl (iY (v := .slice (if rc - j = 1 then some ⟨gr, j * 3, none⟩ else some ⟨gr, (j + 1) * 3, none⟩) (l.length - (j + 1)) (rc - (j + 1))) (cA af 1 (l.length - j) J J J J J J J J J J J (by omega) (by omega)) (IC gr j l.length rc)) ?_ | refine vx rfl (bd J J J J J (by omega)) ?_ | refine nx ?_)
        rw [e1, e2, e3]
        exact aU ⟨j + 1, sa, sc, if rc - j = 1 then some ⟨gr, j * 3, none⟩ else some ⟨gr, (j + 1) * 3, none⟩⟩ [false, true, true, true, true] ⟨⟨hj, CD hj hd hs⟩, fun h => ⟨gr, rfl, by dsimp only at h ⊢; rw [if_neg (by omega)]⟩, fun h => by dsimp only at h; split at h <;> cases h⟩ (show l.length - (j + 1) < l.length - j by omega) ⟨J, J, J, J, trivial⟩ rfl
      · refine ai rfl (by simp only [Bool.and_eq_false_iff, decide_eq_false_iff_not, beq_eq_false_iff_ne]; right; omega) ?_
        repeat' refine nx ?_
        exact cO ⟨j, oa, oc, some ⟨gr, j * 3, none⟩⟩ [] ⟨⟨hj0, vw hd fun _ => hs⟩, had, hnn⟩ ⟨J, J, J, J, trivial⟩ rfl
    · repeat' (first | refine vr rfl (mu rfl (by simp [az]; omega)) ?_ | refine vr rfl (mr (.int .i64 0) rfl (by simp [az]; omega)) ?_ | refine ny ?_ | refine nx ?_)
      refine ai rfl (by simp only [Bool.and_eq_false_iff, decide_eq_false_iff_not]; omega) ?_
      repeat' refine nx ?_
      exact cO ⟨j, oa, oc, ad⟩ [] ⟨⟨hj0, vw hd fun h => absurd h hj⟩, had, hnn⟩ ⟨J, J, J, J, trivial⟩ rfl
  rintro ⟨j, oa, oc, ad⟩ ⟨⟨hj0, hd⟩, had, hnn⟩
  dsimp only at hj0 hd had hnn ⊢
  rw [hd]
  repeat' refine nx ?_
  refine aO af (fun i => 2) J J ⟨J, trivial⟩ rfl fun w1 hm => ⟨((ad, rc - j), (oa, oc)), ?_, ⟨⟨?_, ?_, hnn⟩, ?_⟩, hm.below⟩
  · dsimp only
    rw [List.length_drop]
  · intro h0
    dsimp only at h0 ⊢
    rw [List.length_drop] at h0
    obtain ⟨gr, hg, ha⟩ := had (by omega)
    subst hg
    have h1 : w1.ownsRow w.heap.size 58 3 (.slice (some ⟨gr, 0, none⟩) l.length rc) l.length (l.flatMap pC) := hm.2.get (i := 1) rfl
    obtain ⟨b, off, e1, e2, e3, e4⟩ := Rws.own (l := l) bL h1 (by omega)
    cases e1
    refine ⟨gr, j * 3, ha, e2, e3, fun k v hk => ?_⟩
    rw [List.getElem?_drop] at hk
    have := e4 _ _ hk
    rw [show j * 3 + k * 3 = 0 + (j + k) * 3 by omega]
    exact this
  · rw [List.length_drop]
    dsimp only
    omega
  · exact Sl3.own eb (hm.2.get (i := 0) rfl)
end Go.Proofs.YtklcfjlmlbnkaaaGreatDoor.Y
namespace Go.Proofs.YtklcfjlmlbnkaaaGreatDoor.Y
open Go.RowKit
attribute [local irreducible] Calls
set_option maxRecDepth 100000
set_option maxHeartbeats 16000000
theorem vy {A : Nat → Prop} (v : LV) (p : PkV) (w : World) (hL : LOk A w v) (hz1 : v.l.wait.length ≤ 1000) (hz2 : v.l.early.length ≤ 1000) (hx : 0 ≤ v.l.exp ∧ v.l.exp ≤ 2000000000000) (hs : -2000000000000 ≤ p.seq ∧ p.seq ≤ 2000000000000) :
    Calls Tryz.prog 16 #[.agg ⟨LC v⟩, .agg ⟨pC p⟩] w fun e w' => ∃ s : LV × (Option Addr × Nat), s.1.l = (cK v.l p).1 ∧ e = .returned (.tuple #[.agg ⟨LC s.1⟩, .slice s.2.1 (cK v.l p).2.length s.2.2]) ∧ (LOk (fun b => A b ∨ w.heap.size ≤ b) w' s.1 ∧ Sl3 1 sC (cK v.l p).2 (fun b => A b ∨ w.heap.size ≤ b) w' s.2) ∧ Below w.heap.size w w' := by
  refine aA Tryz.func16 rfl Tryz.ntmps16 J J ?_
  obtain ⟨pb, hpb⟩ : ∃ b, jH p.data = b := ⟨_, rfl⟩
  obtain ⟨wl, hwl⟩ : ∃ x, dY v.l.wait p.ack = x := ⟨_, rfl⟩
  repeat' (first | (refine bx ?_; intro g2) | (refine al ?_; intro g4) | refine nx ?_)
  refine cQ (σ := Option Addr × Nat) (fun _ => True) (fun s => .slice s.1 wl.length s.2) (fun s => [.own s.1 s.2 58 3 wl.length (wl.flatMap pC)]) rfl (ap J J J J ⟨J, J, trivial⟩ rfl (by kernel_rfl)) (fun w1 hm => (CA v.x v.l.wait v.xc p.ack w1 (hL.x.below hm.below) (by omega)).mono fun e w2 ⟨q, h1, h2, h3⟩ => ⟨q, h1, by rw [← hwl]; exact h2, by rw [← hwl]; exact h3⟩) J J ?_
  rintro ⟨wa, wc⟩ -
  dsimp only [List.cons_append, List.nil_append]
  repeat' (first | refine cl (fun w hm => vo p.data pb hpb w) ?_ | refine vx rfl (gO J J J J J (by omega)) ?_ | refine nx ?_)
  by_cases hno : lV v.l p
  · have hg : cK v.l p = ({ v.l with wait := wl }, []) := by unfold cK; rw [if_pos hno, hwl]
    rw [hg]
    refine aq rfl (by
      simp only [Bool.or_eq_true, Bool.not_eq_true', decide_eq_true_eq]
      unfold lV at hno
      rw [hpb] at hno
      rcases hno with h | h | h | h
      · exact .inl (.inl (.inl h))
      · exact .inl (.inl (.inr h))
      · exact .inl (.inr h)
      · exact .inr h) ?_
    repeat' refine nx ?_
    refine aO af (fun i => 1) J J ⟨J, trivial⟩ rfl fun w1 hm => ⟨(⟨{ v.l with wait := wl }, wa, wc, v.y, v.yc⟩, (none, 0)), rfl, rfl, ⟨⟨?_, (hL.y.below hm.below).mono fun _ => .inl⟩, fun h => absurd h (Nat.lt_irrefl _), Nat.le_refl _, fun _ => rfl⟩, hm.below⟩
    exact (Sl3.own bL (hm.2.get (i := 0) rfl)).mono fun _ => .inr
  have hno2 : pb = true ∧ ¬ p.seq < 1 ∧ ¬ 1099511627776 ≤ p.seq ∧ ¬ v.l.exp < p.seq - 64 := by
    unfold lV at hno
    rw [hpb] at hno
    cases pb with
    | true => exact ⟨rfl, fun h => hno (.inr (.inl h)), fun h => hno (.inr (.inr (.inl h))), fun h => hno (.inr (.inr (.inr h)))⟩
    | false => exact absurd (.inl rfl) hno
  obtain ⟨hp1, hp2, hp3, hp4⟩ := hno2
  refine ai rfl (by rw [hp1, decide_eq_false hp2, decide_eq_false hp3, decide_eq_false hp4]; rfl) ?_
  repeat' refine nx ?_
  by_cases he : p.seq = v.l.exp
  · have hg : cK v.l p = xn { v.l with wait := wl, due := true } p.data := by unfold cK; rw [if_neg hno, if_pos he, hwl]
    rw [hg]
    refine aq rfl (by rw [beq_iff_eq]; exact he) ?_
    repeat' refine nx ?_
    refine vt (A := A) (F0 := fun _ => False) ((Gy 3 pC (bT v.l.early (v.l.exp + 1) [p.data]).1).and (Gy 1 sC (bT v.l.early (v.l.exp + 1) [p.data]).2.2)) (fun s => .tuple #[.agg #[.int .i64 v.l.next, .slice wa wl.length wc, .int .i64 (bT v.l.early (v.l.exp + 1) [p.data]).2.1, .slice s.1.1 (bT v.l.early (v.l.exp + 1) [p.data]).1.length s.1.2, .int .i64 v.l.again, .bool true], .slice s.2.1 (bT v.l.early (v.l.exp + 1) [p.data]).2.2.length s.2.2]) (fun _ h => h.elim) (fun w1 hm => (CF v.l.next wa wl.length wc v.l.exp v.y v.l.early v.yc v.l.again true p.data w1 (hL.y.below hm.below) (by omega) hx).mono fun e w2 ⟨s, h1, h2, h3⟩ => ⟨s, h1, ⟨h2.1.mono fun _ => .inr, h2.2.mono fun _ => .inr⟩, h3⟩) ?_
    rintro ⟨⟨ea, ec⟩, ⟨ta, tc⟩⟩ F hF
    repeat' refine nx ?_
    refine aO af (fun i => 2) J J ⟨J, trivial⟩ rfl fun w1 hm => ⟨(⟨(xn { v.l with wait := wl, due := true } p.data).1, wa, wc, ea, ec⟩, (ta, tc)), rfl, rfl, ⟨⟨?_, ?_⟩, ?_⟩, hm.below⟩
    · exact (Sl3.own bL (hm.2.get (i := 1) rfl)).mono fun _ => .inr
    · exact (hm.2.get (i := 0) rfl).2.1.1.mono hF
    · exact (hm.2.get (i := 0) rfl).2.1.2.mono hF
  refine ai rfl (by rw [beq_eq_false_iff_ne]; exact he) ?_
  repeat' refine nx ?_
  by_cases hl : v.l.exp < p.seq
  · have hg : cK v.l p = ({ v.l with wait := wl, due := true, early := bU v.l.early p }, []) := by unfold cK; rw [if_neg hno, if_neg he, if_pos hl, hwl]
    rw [hg]
    refine aq rfl (decide_eq_true hl) ?_
    repeat' refine nx ?_
    refine vt (A := A) (F0 := fun b => A b ∧ b < w.heap.size) (Gy 3 pC (bU v.l.early p)) (fun s => .slice s.1 (bU v.l.early p).length s.2) D0 (fun w1 hm => CC v.y v.l.early v.yc p w1 (hL.lt.below hm.below).y (by omega)) ?_
    rintro ⟨ea, ec⟩ F hF
    repeat' refine nx ?_
    refine aO af (fun i => 2) J J ⟨J, trivial⟩ rfl fun w1 hm => ⟨(⟨{ v.l with wait := wl, due := true, early := bU v.l.early p }, wa, wc, ea, ec⟩, (none, 0)), rfl, rfl, ⟨⟨?_, ?_⟩, fun h => absurd h (Nat.lt_irrefl _), Nat.le_refl _, fun _ => rfl⟩, hm.below⟩
    · exact (Sl3.own bL (hm.2.get (i := 1) rfl)).mono fun _ => .inr
    · exact (hm.2.get (i := 0) rfl).2.1.mono hF
  · have hg : cK v.l p = ({ v.l with wait := wl, due := true }, []) := by unfold cK; rw [if_neg hno, if_neg he, if_neg hl, hwl]
    rw [hg]
    refine ai rfl (decide_eq_false hl) ?_
    repeat' refine nx ?_
    refine aO af (fun i => 1) J J ⟨J, trivial⟩ rfl fun w1 hm => ⟨(⟨{ v.l with wait := wl, due := true }, wa, wc, v.y, v.yc⟩, (none, 0)), rfl, rfl, ⟨⟨?_, (hL.y.below hm.below).mono fun _ => .inl⟩, fun h => absurd h (Nat.lt_irrefl _), Nat.le_refl _, fun _ => rfl⟩, hm.below⟩
    exact (Sl3.own bL (hm.2.get (i := 0) rfl)).mono fun _ => .inr
end Go.Proofs.YtklcfjlmlbnkaaaGreatDoor.Y
