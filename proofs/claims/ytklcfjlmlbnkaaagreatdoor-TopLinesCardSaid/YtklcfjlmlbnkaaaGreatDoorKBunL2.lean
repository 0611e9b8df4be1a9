/- Texts of this claim merged into one: KInsO, KLoI. -/
import Derived.Test.YtklcfjlmlbnkaaaGreatDoorKBunL
import Derived.Lib.AppendZerosOnto
import Derived.Lib.Overlaps
namespace Go.Proofs.YtklcfjlmlbnkaaaGreatDoor.Y
open Go.RowKit
theorem CB {w : World} {B g cap size k m : Nat} {e : TypeId} {xs : List Value} (h : w.ownsRow B e size (.slice (some ⟨g, 0, none⟩) k cap) k xs) (hc : k + m ≤ cap) : ∃ ys, ys.length = m * size ∧ w.ownsRow B e size (.slice (some ⟨g, 0, none⟩) (k + m) cap) (k + m) (xs ++ ys) := by
  obtain ⟨hlen, hrest⟩ := h
  rcases hrest with ⟨hv, _⟩ | ⟨g', cap', cur, hv, hB, hgw, hkc, hcm, hcs, htake⟩
  · simp at hv
  obtain ⟨rfl, rfl⟩ : g = g' ∧ cap = cap' := by simp only [Value.slice.injEq, Option.some.injEq, Addr.mk.injEq] at hv; exact ⟨hv.1.1, hv.2.2⟩
  have hl : cur.toList.length = cap * size := by rw [Array.length_toList, hcs]
  have h1 : (k + m) * size ≤ cap * size := Nat.mul_le_mul_right _ hc
  have h2 : (k + m) * size = k * size + m * size := Nat.add_mul _ _ _
  refine ⟨(cur.toList.drop (k * size)).take (m * size), by rw [List.length_take, List.length_drop]; omega, ?_, .inr ⟨g, cap, cur, rfl, hB, hgw, hc, hcm, hcs, ?_⟩⟩
  · rw [List.length_append, hlen, List.length_take, List.length_drop]; omega
  · rw [h2, List.take_add, htake]
section
variable {P : Program} {T : eo} {Q : Exit → Act → World → Prop} {n : Nat} {w0 : World} {S : bq} {M M2 : List Ent} {o : Oper} {l0 rest : List Oper} {d : Nat} {L L1 L2 : Cd}
theorem Eo {e : TypeId} {g cap size k : Nat} {xs : List Value} (m : Nat) (hc : k + m ≤ cap) (h : ∀ ys, ys.length = m * size → SL P l0 Q rest n w0 S (.own (some ⟨g, 0, none⟩) cap e size (k + m) (xs ++ ys) :: M)) : SL P l0 Q rest n w0 S (.own (some ⟨g, 0, none⟩) cap e size k xs :: M) :=
  ⟨fun a w hS hM => by
    obtain ⟨hb, ho, ha, hr⟩ := hM
    obtain ⟨ys, h1, h2⟩ := CB (m := m) ho hc
    exact (h ys h1).run a w hS ⟨hb, h2, ha, hr⟩⟩
theorem Gd (hT : TOK P T) {t e : TypeId} {x : Operand} {a : Option Addr} {k c : Nat} {z : Value} (h1 : o.op = .call ⟨.builtin .cap, #[x], #[t]⟩) (h2 : ev S x = some (L1, .slice a k c)) (h3 : Suf L1 L) (h4 : lk t T = some (.slc e z)) : VO P w0 S M L o (.int .i64 ((c : Nat) : Int)) := by
  intro n a w hS hM hL
  unfold execOp
  simp [h1, resolve, invoke, builtin, Builtin.cap_, av hS h2 (h3.holds hL), Sem.run_bind, run_underlying (cw (hT.get h4)), goInt]
theorem vp {w : World} {g : Nat} {T : TypeId} {cs : Array Value} (h : w.heap[g]? = some (.cells cs T (0, 0))) : w.shape? g = some (T, cs.size) ∧ ∀ k, w.frozen? ⟨g, k, none⟩ = false := by
  constructor
  · unfold World.shape?
    rw [h]
  · intro k
    unfold World.frozen?
    simp only [h]
    simp
theorem Ge (hT : TOK P T) (i j : Nat) {fx x y : Operand} {ts : Array TypeId} {f : FuncId} {fn : Func} {tS tR e e2 : TypeId} {z : Value} {td : TD} {gv g la ca lb cb cap k : Nat} {yb : Option Addr} {cs xs : List Value} (h1 : o.op = .call ⟨.value fx, #[x, y], ts⟩) (h2 : ev S fx = some (L1, .func (.func f) #[] #[])) (h3 : Suf L1 L)
    (h4 : ev S x = some (L1, .slice (some ⟨gv, 0, none⟩) la ca)) (h5 : ev S y = some (L2, .slice yb lb cb)) (h5' : Suf L2 L) (hf : P.funcs[f]? = some fn) (hname : (fn.name == "runtime.NumGoroutine") = false) (hbd : fn.body.isNone = true) (hnx : Extern.findNext fn = none) (he : Extern.find fn = some (Extern.SlicesOverlaps.overlaps #[tS, tS] #[tR]))
    (h6 : lk tS T = some (.slc e z)) (h7 : lk e T = some td) (hi : dI M i = some (.cl gv e2 cs)) (hj : dI M j = some (.own (some ⟨g, 0, none⟩) cap e td.size k xs)) (hne : gv ≠ g) (hyb : ∃ off, yb = some ⟨g, off, none⟩) (hk : 0 < k * td.size) : VO P w0 S M L o (.bool false) := by
  intro n ac w hS hM hL
  obtain ⟨off, rfl⟩ := hyb
  obtain ⟨inf, hinf, hs, hz⟩ := bu (hT.get h7)
  have hu := cw (hT.get h6)
  have hbk : w.heap[gv]? = some (.cells ⟨cs⟩ e2 (0, 0)) := (hM.2.get hi).2
  have hok : w.ownsRow w0.heap.size e td.size (.slice (some ⟨g, 0, none⟩) k cap) k xs := hM.2.get hj
  obtain ⟨hlen, hrest⟩ := hok
  rcases hrest with ⟨hv, _⟩ | ⟨g', cap', cur, hv, hB, hgw, hkc, hcm, hcs, htake⟩
  · simp at hv
  obtain ⟨rfl, rfl⟩ : g = g' ∧ cap = cap' := by simp only [Value.slice.injEq, Option.some.injEq, Addr.mk.injEq] at hv; exact ⟨hv.1.1, hv.2.2⟩
  obtain ⟨s1, s2⟩ := vp hbk
  obtain ⟨s3, _⟩ := vp hgw
  have hcz : cur.size ≠ 0 := by have := Nat.mul_le_mul_right td.size hkc; omega
  have hr := Lib.run_overlaps_apart (P := P) w tS tR e hu td.size (fun w => by rw [ct hinf, hs]) ⟨gv, 0, none⟩ ⟨g, off, none⟩ la ca lb cb hne e2 e _ _ s1 s3 hcz (s2 0) (s2 _)
  unfold execOp
  simp [h1, resolve, invoke, av hS h2 (h3.holds hL), av hS h4 (h3.holds hL), av hS h5 (h5'.holds hL), Deferred.ofValue, run_callFunc_extern hf hname hbd hnx he, hr]
theorem Ep (hT : TOK P T) (i m : Nat) {s x : Operand} {t tn e : TypeId} {z zn : Value} {td : TD} {g cap c b j k : Nat} {kq kn : IntKind} {A : Int} {xs : List Value} (h1 : o.op = .call ⟨.builtin .append, #[s, x], #[t, tn]⟩) (hg : o.guard = none)
    (h2 : ev S s = some ([], .slice (some ⟨g, 0, none⟩) j c)) (h3 : ev S x = some ([], .int kq A)) (hA : A = (m : Int)) (h4 : lk t T = some (.slc e z)) (h5 : lk e T = some td) (h6 : (match iS td with | some l => Nat.beq l.length td.size && Nat.blt 0 td.size | none => false) = true) (h6' : lk tn T = some (.int kn zn))
    (hi : dI M i = some (.own (some ⟨g, 0, none⟩) cap e td.size k xs)) (hjk : j ≤ k) (h0 : 0 < m) (hc : c < j + m) (hb : cX P e b) (hmax : j + m ≤ maxLen) (hbytes : (j + m) * b ≤ 140737488355328) (hd : o.dst = some d) (hn : Nat.blt d n = true)
    (h : ∀ g' cap', SL P l0 Q rest n w0 ((d, [], .slice (some ⟨g', 0, none⟩) (j + m) cap') :: S) (.own (some ⟨g', 0, none⟩) cap' e td.size (j + m) (xs.take (j * td.size) ++ (Builtin.zeroCells td.zeroV.cells m).toList) :: M)) : SL P l0 Q (o :: rest) n w0 S M := by
  subst hA
  have hu := cw (hT.get h4)
  have hun := iQ (hT.get h6')
  obtain ⟨inf, hinf, hs, hz⟩ := bu (hT.get h5)
  have hby : inf.bytes = b := by unfold cX at hb; rw [hinf] at hb; simpa using hb
  have hzz : td.zeroV.cells.size = td.size ∧ 0 < td.size := by
    cases hzo : iS td with
    | none => rw [hzo] at h6; cases h6
    | some l =>
      rw [hzo] at h6
      simp only [Bool.and_eq_true] at h6
      exact ⟨by rw [jY hzo]; simpa using Nat.eq_of_beq_eq_true h6.1, Nat.le_of_ble_eq_true h6.2⟩
  refine AD (σ := Nat × Nat) (fun _ => True) (fun p => .slice (some ⟨p.1, 0, none⟩) (j + m) p.2) (fun p => .own (some ⟨p.1, 0, none⟩) p.2 e td.size (j + m) (xs.take (j * td.size) ++ (Builtin.zeroCells td.zeroV.cells m).toList) :: M) hg (fun ac w hS hM => ?_) hd hn (fun p _ => h p.1 p.2)
  have hok : w.ownsRow w0.heap.size e td.size (.slice (some ⟨g, 0, none⟩) k cap) k xs := hM.2.get hi
  have hxl := hok.1
  have hjl : j * td.size ≤ k * td.size := Nat.mul_le_mul_right _ hjk
  have holds : (Builtin.firstCells inf.size j (.slice (some ⟨g, 0, none⟩) j c)).run P w.drew = .ok (xs.take (j * td.size)).toArray w.drew :=
    run_firstCells_some w.drew inf.size j ⟨g, 0, none⟩ j c (xs.take (j * td.size)) (by rw [List.length_take, hs]; omega) (fun q v hq => by
      rw [List.getElem?_take] at hq
      split at hq
      · rw [Addr.add_lit, Nat.zero_add]
        exact eT (hM.drew.2.get hi) hq
      · cases hq)
  have hmx : j + m ≤ 9223372036854775807 := by have := hmax; unfold maxLen at this; omega
  have hmb : m * b ≤ (j + m) * b := Nat.mul_le_mul_right _ (Nat.le_add_left _ _)
  have hr := Lib.run_append_grow_zeros (P := P) w t tn o.type e inf td.zeroV kq kn hu hun hinf hz (some ⟨g, 0, none⟩) j c (xs.take (j * td.size)) holds m h0 (by rw [hs]; exact hzz.2) hc (by omega) (by rw [hby]; omega) (by rw [hby]; exact growslice_fits hc hbytes)
  have hge := grownCap_ge w (j + m) c e
  have hcm : grownCap w (j + m) c e ≤ maxLen := grownCap_le_maxLen w (j + m) c e hmax
  have hzl : (Builtin.zeroCells td.zeroV.cells m).toList.length = m * td.size := by rw [Array.length_toList, size_zeroCells, hzz.1]
  have htl : (xs.take (j * td.size)).length = j * td.size := by rw [List.length_take]; omega
  refine ⟨(w.heap.size, grownCap w (j + m) c e), w.drew.alloc (.cells ((xs.take (j * td.size)).toArray ++ Builtin.zeroCells td.zeroV.cells m ++ Builtin.zeroCells td.zeroV.cells (grownCap w (j + m) c e - (j + m))) e), trivial, ?_, ?_⟩
  · unfold execOp
    simp only [h1, resolve, invoke, builtin, Sem.run_bind, Sem.run_pure, Result.andThen_ok, List.map_toArray, List.map_cons, List.map_nil, av hS h2 rfl, av hS h3 rfl, hr]
  · have hbel : Below w.heap.size w (w.drew.alloc (.cells ((xs.take (j * td.size)).toArray ++ Builtin.zeroCells td.zeroV.cells m ++ Builtin.zeroCells td.zeroV.cells (grownCap w (j + m) c e - (j + m))) e)) := (Below.refl _ _).drew.alloc (Nat.le_refl _) _
    refine hM.add hbel ⟨by rw [List.length_append, htl, hzl, ← Nat.add_mul], .inr ⟨w.heap.size, _, _, rfl, hM.1.size, heap_alloc_new w.drew _, hge, hcm, ?_, ?_⟩⟩ (fun q hq => by have : q = w.heap.size := hq; omega) (fun q hq f hf hmf => ?_)
    · simp only [Array.size_append, List.size_toArray, size_zeroCells, hzz.1, htl, ← Nat.add_mul]
      congr 1
      omega
    · simp only [Array.toList_append, List.append_assoc]
      rw [← List.append_assoc]
      refine List.take_left' ?_
      rw [List.length_append, htl, hzl, ← Nat.add_mul]
    · have := ((MemL.mem hM.2 f hf).mut_lt hmf).2
      have : q = w.heap.size := hq
      omega
end
end Go.Proofs.YtklcfjlmlbnkaaaGreatDoor.Y
namespace Go.Proofs.YtklcfjlmlbnkaaaGreatDoor.Y
open Go.RowKit
theorem Hj (g i c : Nat) : Value.slice (if c = 0 then some ⟨g, 0, none⟩ else (some (⟨g, 0, none⟩ : Addr)).map (·.add (0 * 3))) (i - 0) (c - 0) = .slice (some ⟨g, 0, none⟩) i c := by
  rw [Nat.sub_zero, Nat.sub_zero]
  split
  · rfl
  · rw [Nat.zero_mul]
    show Value.slice (some ((⟨g, 0, none⟩ : Addr).add 0)) i c = _
    rw [Addr.add_lit]
theorem xd (g j n c : Nat) (h : c ≠ j) : Value.slice (if c = j then some ⟨g, 0, none⟩ else (some (⟨g, 0, none⟩ : Addr)).map (·.add (j * 3))) (n - j) (c - j) = .slice (some ⟨g, j * 3, none⟩) (n - j) (c - j) := by
  rw [if_neg h]
  show Value.slice (some ((⟨g, 0, none⟩ : Addr).add (j * 3))) _ _ = _
  rw [Addr.add_lit, Nat.zero_add]
theorem IA {A P B Z : List Value} (hz : Z.length = P.length + B.length) : ((A ++ Z).take A.length ++ P ++ (A ++ Z).drop (A.length + P.length)).take (A.length + P.length) ++ B ++ ((A ++ Z).take A.length ++ P ++ (A ++ Z).drop (A.length + P.length)).drop (A.length + P.length + B.length) = A ++ (P ++ B) := by
  have h1 : (A ++ Z).drop (A.length + P.length) = Z.drop P.length := by rw [List.drop_append, List.drop_of_length_le (by omega), List.nil_append]; congr 1; omega
  rw [List.take_left, h1, List.take_left' (by rw [List.length_append]), List.drop_of_length_le (by rw [List.length_append, List.length_append, List.length_drop]; omega), List.append_nil, List.append_assoc]
theorem IB {A P B Y : List Value} (hy : Y.length = P.length) : ((A ++ B ++ Y).take (A.length + P.length) ++ B ++ (A ++ B ++ Y).drop (A.length + P.length + B.length)).take A.length ++ P ++ ((A ++ B ++ Y).take (A.length + P.length) ++ B ++ (A ++ B ++ Y).drop (A.length + P.length + B.length)).drop (A.length + P.length) = A ++ (P ++ B) := by
  have hl : ((A ++ B ++ Y).take (A.length + P.length)).length = A.length + P.length := by rw [List.length_take, List.length_append, List.length_append]; omega
  have hd : (A ++ B ++ Y).drop (A.length + P.length + B.length) = [] := List.drop_of_length_le (by rw [List.length_append, List.length_append]; omega)
  rw [hd, List.append_nil, List.drop_left' hl, List.take_append_of_le_length (by omega), List.take_take, Nat.min_eq_left (by omega), List.append_assoc A B Y, List.take_left, List.append_assoc]
theorem Jy (k : Nat) : (Builtin.zeroCells (TD.row 3 [.int .i64 0, .int .i64 0, .string ⟨#[]⟩] [(0, 3), (1, 3), (2, 9)]).zeroV.cells k).toList.length = k * 3 := by
  rw [Array.length_toList, size_zeroCells]
  rfl
attribute [local irreducible] Calls
set_option maxRecDepth 100000
set_option maxHeartbeats 16000000
theorem vq {w0 : World} {M : List Ent} (sa : Option Addr) (sc : Nat) (l : List PkV) (i : Nat) (p : PkV) (gv : Nat) (w : World) (hi : i ≤ l.length) (hl : l.length ≤ 1000000) (hM : Mem w0 w (.own sa sc 58 3 l.length (l.flatMap pC) :: .cl gv 58 (pC p) :: M)) :
    Calls Tryz.prog 63 #[.slice sa l.length sc, .int .i64 ((i : Nat) : Int), .slice (some ⟨gv, 0, none⟩) 1 1] w fun e w' => ∃ q : Option Addr × Nat, e = .returned (.slice q.1 (l.length + 1) q.2) ∧ Mem w0 w' (.own q.1 q.2 58 3 (l.length + 1) ((l.take i ++ p :: l.drop i).flatMap pC) :: .cl gv 58 (pC p) :: M) := by
  have hcap : l.length ≤ sc := gl (hM.2.get (i := 0) rfl)
  have hfl : (l.flatMap pC).length = l.length * 3 := bZ bL l
  refine bv hM Tryz.func63 rfl Tryz.ntmps63 J J ?_
  repeat' (first | refine vx rfl (cA af i l.length J J J J J J J J J J J hi hcap) ?_ | refine nx ?_)
  refine ai J J ?_
  repeat' refine nx ?_
  by_cases he : i = l.length
  · refine aq rfl (by simp only [beq_iff_eq]; omega) ?_
    repeat' (first | (refine bA af 0 1 J J J J J J J J J (fun _ _ => rfl) lA J J (by unfold maxLen; omega) (by omega) J J ?_; intro qa qc) | refine nx ?_)
    have hf : (l.take i ++ p :: l.drop i).flatMap pC = l.flatMap pC ++ pC p := by rw [he, List.take_length, List.drop_length, List.flatMap_append]; simp
    rw [hf]
    (refine rt ?_; refine fun w1 hm => ⟨(qa, qc), rfl, hm⟩)
  refine ai rfl (by rw [beq_eq_false_iff_ne]; omega) ?_
  repeat' (first | refine vx rfl (Gd af J J J J) ?_ | refine vx rfl (bd J J J J J (by omega)) ?_ | refine nx ?_)
  have hlt : i < l.length := by omega
  refine oH 0 rfl (by omega) ?_
  rintro g rfl
  have hfa : ((l.take i).flatMap pC).length = i * 3 := by rw [bZ bL, List.length_take, Nat.min_eq_left hi]
  have hfb : ((l.drop i).flatMap pC).length = (l.length - i) * 3 := by rw [bZ bL, List.length_drop]
  have hres : (l.take i ++ p :: l.drop i).flatMap pC = (l.take i).flatMap pC ++ (pC p ++ (l.drop i).flatMap pC) := by rw [List.flatMap_append, List.flatMap_cons]
  have hsplit : l.flatMap pC = (l.take i).flatMap pC ++ (l.drop i).flatMap pC := by rw [← List.flatMap_append, List.take_append_drop]
  by_cases hr : sc < l.length + 1
  · refine aq rfl (decide_eq_true (by omega)) ?_
    repeat' (first | refine vx rfl (iY (v := .slice (some ⟨g, 0, none⟩) i sc) (cA af 0 i J J J J J J J J J J J (Nat.zero_le _) (by omega)) (Hj g i sc)) ?_ | refine vx rfl (bd J J J J J (by omega)) ?_ | refine vx rfl (gO J J J J J (by omega)) ?_ | refine nx ?_)
    refine Ep af 0 (l.length + 1 - i) J J J J (by omega) J J J J J (by omega) (by omega) (by omega) lA (by unfold maxLen; omega) (by omega) J J ?_
    intro g2 c2
    have e1 : i + (l.length + 1 - i) = l.length + 1 := by omega
    rw [e1]
    refine iy (p := l.length + 1 ≤ c2) (fun w1 hm => gl (hm.2.get (i := 0) rfl)) fun hc2 => ?_
    repeat' (first | refine vx rfl (iY (v := .slice (some ⟨g2, i * 3, none⟩) (l.length + 1 - i) (c2 - i)) (cA af i (l.length + 1) J J J J J J J J J J J (by omega) (by omega)) (xd g2 i _ c2 (by omega))) ?_ | refine nx ?_)
    refine mG af 0 (pC p) J J J J J J J J ⟨⟨gv, 0, none⟩, rfl, fun w1 hM1 q u hq => ?_⟩ (eO rfl) (show 3 = min 1 (l.length + 1 - i) * 3 by rw [Nat.min_eq_left (by omega)]) (show i * 3 + 3 ≤ (l.length + 1) * 3 by omega) J J J ?_
    · have hk : Bk w1 gv _ ⟨pC p⟩ := (hM1.2.get (i := 2) rfl).2
      rw [Addr.add_lit, Nat.zero_add]
      exact hk.at_ q (by simpa using hq)
    refine co ?_
    refine bB ?_
    refine bc ?_
    refine fB 8 [] am rfl (by kernel_rfl) ?_
    repeat' (first | refine oU rfl (bd J J J J J (by omega)) J J ?_ | refine oU rfl (iY (v := .slice (some ⟨g2, (i + 1) * 3, none⟩) (l.length + 1 - (i + 1)) (c2 - (i + 1))) (cA af (i + 1) (l.length + 1) J J J J J J J J J J J (by omega) (by omega)) (xd g2 (i + 1) _ c2 (by omega))) J J ?_ | refine oU rfl (iY (v := .slice (some ⟨g, i * 3, none⟩) (l.length - i) (sc - i)) (cA af i l.length J J J J J J J J J J J (by omega) (by omega)) (xd g i _ sc (by omega))) J J ?_ | refine xv ?_)
    refine mq ?_
    refine mG af 0 ((l.drop i).flatMap pC) J J J J J J J J ⟨⟨g, i * 3, none⟩, rfl, fun w1 hM1 q u hq => ?_⟩ (sO _) (show _ = min (l.length - i) (l.length + 1 - (i + 1)) * 3 by rw [hfb, show l.length + 1 - (i + 1) = l.length - i by omega, Nat.min_self]) (show (i + 1) * 3 + _ ≤ (l.length + 1) * 3 by omega) J J J ?_
    · rw [Addr.add_lit]
      refine eT (hM1.2.get (i := 1) rfl) ?_
      rw [← iZ bL, List.getElem?_drop] at hq
      exact hq
    repeat' refine nx ?_
    (refine rt ?_; refine fun w1 hm => ⟨(some ⟨g2, 0, none⟩, c2), rfl, ?_⟩)
    have hta : (l.flatMap pC).take (i * 3) = (l.take i).flatMap pC := by rw [hsplit, ← hfa, List.take_left]
    have hz := Jy (l.length + 1 - i)
    have h1 : Mem w0 w1 (.own (some ⟨g2, 0, none⟩) c2 58 3 (l.length + 1) ((((l.flatMap pC).take (i * 3) ++ (Builtin.zeroCells (TD.row 3 [.int .i64 0, .int .i64 0, .string ⟨#[]⟩] [(0, 3), (1, 3), (2, 9)]).zeroV.cells (l.length + 1 - i)).toList).take (i * 3) ++ pC p ++ ((l.flatMap pC).take (i * 3) ++ (Builtin.zeroCells (TD.row 3 [.int .i64 0, .int .i64 0, .string ⟨#[]⟩] [(0, 3), (1, 3), (2, 9)]).zeroV.cells (l.length + 1 - i)).toList).drop (i * 3 + (pC p).length)).take ((i + 1) * 3) ++ (l.drop i).flatMap pC ++ (((l.flatMap pC).take (i * 3) ++ (Builtin.zeroCells (TD.row 3 [.int .i64 0, .int .i64 0, .string ⟨#[]⟩] [(0, 3), (1, 3), (2, 9)]).zeroV.cells (l.length + 1 - i)).toList).take (i * 3) ++ pC p ++ ((l.flatMap pC).take (i * 3) ++ (Builtin.zeroCells (TD.row 3 [.int .i64 0, .int .i64 0, .string ⟨#[]⟩] [(0, 3), (1, 3), (2, 9)]).zeroV.cells (l.length + 1 - i)).toList).drop (i * 3 + (pC p).length)).drop ((i + 1) * 3 + ((l.drop i).flatMap pC).length)) :: .cl gv 58 (pC p) :: M) := hm.mask [true, false, true] rfl
    generalize (Builtin.zeroCells (TD.row 3 [.int .i64 0, .int .i64 0, .string ⟨#[]⟩] [(0, 3), (1, 3), (2, 9)]).zeroV.cells (l.length + 1 - i)).toList = Z at *
    have hg := IA (A := (l.take i).flatMap pC) (P := pC p) (B := (l.drop i).flatMap pC) (Z := Z) (by rw [hz, hfb, bL]; omega)
    rw [show (i + 1) * 3 = ((l.take i).flatMap pC).length + (pC p).length by rw [hfa, bL]; omega, hta, show i * 3 = ((l.take i).flatMap pC).length by rw [hfa], hg, ← hres] at h1
    exact h1
  · refine ai rfl (decide_eq_false (by omega)) ?_
    refine gi (p := gv ≠ g) (fun w1 hm e => (hm.2.2.1 _ (List.mem_cons_self ..) g).1 rfl e.symm) fun hne => ?_
    repeat' (first | refine vx rfl (bd J J J J J (by omega)) ?_ | refine nx ?_)
    refine Eo 1 (by omega) ?_
    intro ys hys
    have hX : (l.flatMap pC ++ ys).length = (l.length + 1) * 3 := by rw [List.length_append, hfl, hys]; omega
    repeat' (first | refine vx rfl (iY (v := .slice (some ⟨g, 0, none⟩) (l.length + 1) sc) (cA af 0 (l.length + 1) J J J J J J J J J J J (Nat.zero_le _) (by omega)) (Hj g (l.length + 1) sc)) ?_ | refine vx rfl (iY (v := .slice (some ⟨g, (i + 1) * 3, none⟩) (l.length + 1 - (i + 1)) (sc - (i + 1))) (cA af (i + 1) (l.length + 1) J J J J J J J J J J J (by omega) (by omega)) (xd g (i + 1) _ sc (by omega))) ?_ | refine vx rfl (bd J J J J J (by omega)) ?_ | refine nx ?_)
    refine vx rfl (Ge af 1 0 (tS := 24) (tR := 4) J J J J J J Tryz.func94 (by kernel_rfl) (by kernel_rfl) (by kernel_rfl) (by kernel_rfl) J J J J hne ⟨_, rfl⟩ (show 0 < (l.length + 1) * 3 by omega)) ?_
    repeat' refine nx ?_
    refine aq J J ?_
    refine bc ?_
    refine fB 8 [] am rfl (by kernel_rfl) ?_
    repeat' (first | refine oU rfl (bd J J J J J (by omega)) J J ?_ | refine oU rfl (iY (v := .slice (some ⟨g, (i + 1) * 3, none⟩) (l.length + 1 - (i + 1)) (sc - (i + 1))) (cA af (i + 1) (l.length + 1) J J J J J J J J J J J (by omega) (by omega)) (xd g (i + 1) _ sc (by omega))) J J ?_ | refine oU rfl (iY (v := .slice (some ⟨g, i * 3, none⟩) (l.length + 1 - i) (sc - i)) (cA af i (l.length + 1) J J J J J J J J J J J (by omega) (by omega)) (xd g i _ sc (by omega))) J J ?_ | refine xv ?_)
    refine mq ?_
    refine mG af 0 ((l.drop i).flatMap pC) J J J J J J J J ⟨⟨g, i * 3, none⟩, rfl, fun w1 hM1 q u hq => ?_⟩ (sO _) (show _ = min (l.length + 1 - i) (l.length + 1 - (i + 1)) * 3 by rw [hfb, show l.length + 1 - (i + 1) = l.length - i by omega, Nat.min_eq_right (by omega)]) (show (i + 1) * 3 + _ ≤ (l.length + 1) * 3 by omega) J J J ?_
    · rw [Addr.add_lit]
      refine eT (hM1.2.get (i := 0) rfl) ?_
      rw [← iZ bL, List.getElem?_drop] at hq
      rw [List.getElem?_append_left (List.getElem?_eq_some_iff.1 hq).1]
      exact hq
    repeat' (first | refine vx rfl (iY (v := .slice (some ⟨g, i * 3, none⟩) (l.length + 1 - i) (sc - i)) (cA af i (l.length + 1) J J J J J J J J J J J (by omega) (by omega)) (xd g i _ sc (by omega))) ?_ | refine nx ?_)
    refine mG af 0 (pC p) J J J J J J J J ⟨⟨gv, 0, none⟩, rfl, fun w1 hM1 q u hq => ?_⟩ (eO rfl) (show 3 = min 1 (l.length + 1 - i) * 3 by rw [Nat.min_eq_left (by omega)]) (show i * 3 + 3 ≤ (l.length + 1) * 3 by omega) J J J ?_
    · have hk : Bk w1 gv _ ⟨pC p⟩ := (hM1.2.get (i := 1) rfl).2
      rw [Addr.add_lit, Nat.zero_add]
      exact hk.at_ q (by simpa using hq)
    repeat' refine nx ?_
    (refine rt ?_; refine fun w1 hm => ⟨(some ⟨g, 0, none⟩, sc), rfl, ?_⟩)
    have h1 : Mem w0 w1 (.own (some ⟨g, 0, none⟩) sc 58 3 (l.length + 1) (((l.flatMap pC ++ ys).take ((i + 1) * 3) ++ (l.drop i).flatMap pC ++ (l.flatMap pC ++ ys).drop ((i + 1) * 3 + ((l.drop i).flatMap pC).length)).take (i * 3) ++ pC p ++ ((l.flatMap pC ++ ys).take ((i + 1) * 3) ++ (l.drop i).flatMap pC ++ (l.flatMap pC ++ ys).drop ((i + 1) * 3 + ((l.drop i).flatMap pC).length)).drop (i * 3 + (pC p).length)) :: .cl gv 58 (pC p) :: M) := hm
    have hg := IB (A := (l.take i).flatMap pC) (P := pC p) (B := (l.drop i).flatMap pC) (Y := ys) (by rw [hys, bL])
    rw [show (i + 1) * 3 = ((l.take i).flatMap pC).length + (pC p).length by rw [hfa, bL]; omega, hsplit, show i * 3 = ((l.take i).flatMap pC).length by rw [hfa], hg, ← hres] at h1
    exact h1
end Go.Proofs.YtklcfjlmlbnkaaaGreatDoor.Y
