/- method.First of any shape and events: the index of the first event that is not legal, or -1; what lay in memory lies as it lay. -/
import Derived.Test.YtngieldaebnffaaDoorIter
namespace Go.Proofs.YtngieldaebnffaaDoor
open Go.RowKit Go.Shelf
attribute [local go_sem] Oper.semAt_some

theorem states_any (s : Int) (ev : ByteArray) (w : World) : Calls Tryd.prog 32 #[.int .i64 s, .string ev] w fun e w' =>
    e = .returned (.func (.func 43) #[] #[.pointer (some ⟨w.heap.size, 0, none⟩), .pointer (some ⟨w.heap.size + 1, 0, none⟩)]) ∧ (w.alloc (.cells #[.int .i64 s] 3)).alloc (.cells #[.string ev] 9) = w' := by
  go_enter Tryd.func32, Tryd.ntmps32
  go_wp2
  go_ret
  exact ⟨rfl, rfl⟩

theorem heap_of_below {B : Nat} {A C : World} (h : Below B A C) {k : Nat} {o : Obj} (hk : k < B) (ha : A.heap[k]? = some o) : C.heap[k]? = some o := (h.block k hk).trans ha
theorem below_putObj {B : Nat} {w A : World} (h : Below B w A) {l : Nat} (o : Obj) (hl : B ≤ l) : Below B w (A.putObj l o) :=
  h.trans ⟨rfl, rfl, rfl, by simp, fun k hk => World.putObj_heap_other (by omega)⟩

set_option maxHeartbeats 1000000 in
theorem first_any (s : Int) (ev : ByteArray) (w : World) (hev : ev.size ≤ 4611686018427387904) :
    Calls Tryd.prog 18 #[.int .i64 s, .string ev] w fun e w' => e = .returned (.int .i64 (firstS s ev.data.toList)) ∧ Below w.heap.size w w' := by
  refine callsIn_wide (n := 3) |>.1 ?_
  refine callsIn_of_wp_marks Tryd.func18 rfl trivial ?_ rfl
  simp only [Tryd.ntmps18, List.size_toArray, List.length_cons, List.length_nil, Nat.reduceAdd, Nat.reduceSub, Array.replicate_succ, Array.replicate_zero, List.push_toArray, List.append_toArray, List.nil_append, List.cons_append]
  gi_wp2_with (refine ⟨trivial, ?_⟩; refine (callsIn_wide.2 (states_any _ _ _)).mono ?_; rintro e w' ⟨rfl, rfl⟩)
  obtain ⟨W0, hW0⟩ : ∃ W0, ((w.alloc (.cells #[.int .i64 0] 3)).alloc (.cells #[.int .i64 s] 3)).alloc (.cells #[.string ev] 9) = W0 := ⟨_, rfl⟩
  have hs0 : W0.heap.size = w.heap.size + 1 + 1 + 1 := by rw [← hW0]; simp
  have hB0 : Below w.heap.size w W0 := by rw [← hW0]; exact (((Below.refl _ w).alloc (Nat.le_refl _) _).alloc (by simp) _).alloc (by simp; omega) _
  have hb2 : W0.heap[w.heap.size + 1 + 1]? = some (.cells #[.string ev] 9) := by rw [← hW0]; exact World.alloc_heap_new ((w.alloc (.cells #[.int .i64 0] 3)).alloc (.cells #[.int .i64 s] 3)) _ |> fun h => by rwa [World.size_alloc, World.size_alloc] at h
  have hb1 : W0.heap[w.heap.size + 1]? = some (.cells #[.int .i64 s] 3) := by
    rw [← hW0]; refine (Below.heap_alloc _ _ _ (by simp)).trans ?_
    have h := World.alloc_heap_new (w.alloc (.cells #[.int .i64 0] 3)) (.cells #[.int .i64 s] 3)
    rwa [World.size_alloc] at h
  have hb0 : W0.heap[w.heap.size]? = some (.cells #[.int .i64 0] 3) := by
    rw [← hW0]; exact (Below.heap_alloc _ _ _ (by simp; omega)).trans ((Below.heap_alloc _ _ _ (by simp)).trans (World.alloc_heap_new w _))
  rw [hW0]
  refine wpIn_rangeFunc ?_
  intro fn hfn
  obtain ⟨tm, htm⟩ : ∃ tm : Array Value, tm = #[.int .i64 s, .string ev, undef, undef, .pointer (some ⟨w.heap.size, 0, none⟩), undef, undef, .int .i64 s, .string ev,
    .func (.func 43) #[] #[.pointer (some ⟨w.heap.size + 1, 0, none⟩), .pointer (some ⟨w.heap.size + 1 + 1, 0, none⟩)], undef, undef, undef, undef, undef] := ⟨_, rfl⟩
  rw [← htm]
  generalize hasg : Code.seq (Code.region 2 _ _) (Code.region 3 _ _) = asg
  generalize hbody : Code.block 1 _ = bdy
  obtain ⟨rec, hrec⟩ : ∃ rec : LoopState → Option Code → Loop, rec = fun st pe => { state := st, pending := pe, fn, tmps := tm, params := #[10, 11], assign := asg, body := bdy, defers := W0.heap.size } := ⟨_, rfl⟩
  obtain ⟨W1, hW1⟩ : ∃ W1, (W0.alloc (.deferred (some []))).alloc (.loop (rec .ready none)) = W1 := ⟨_, rfl⟩
  have hs1 : W1.heap.size = W0.heap.size + 1 + 1 := by rw [← hW1]; simp
  have hL1 : W1.heap[W0.heap.size + 1]? = some (.loop (rec .ready none)) := by
    rw [← hW1]; have := World.alloc_heap_new (W0.alloc (.deferred (some []))) (.loop (rec .ready none)); rwa [World.size_alloc] at this
  have hK1 : W1.heap[W0.heap.size]? = some (.deferred (some [])) := by
    rw [← hW1]; exact (Below.heap_alloc _ _ _ (by simp)).trans (World.alloc_heap_new W0 _)
  have hB01 : Below W0.heap.size W0 W1 := by rw [← hW1]; exact (((Below.refl _ W0).alloc (Nat.le_refl _) _).alloc (by simp) _)
  have hB1 : Below w.heap.size w W1 := hB0.trans (hB01.mono (by omega))
  refine ⟨W0.heap.size + 1, [{ target := .collected W0.heap.size, args := #[] }], W1, { target := .fn (.func 43) #[.pointer (some ⟨w.heap.size + 1, 0, none⟩), .pointer (some ⟨w.heap.size + 1 + 1, 0, none⟩)], args := #[.func (.yield (W0.heap.size + 1)) #[] #[]] }, W1, 43,
    #[.func (.yield (W0.heap.size + 1)) #[] #[]] ++ #[.pointer (some ⟨w.heap.size + 1, 0, none⟩), .pointer (some ⟨w.heap.size + 1 + 1, 0, none⟩)], W1, ?_, ?_, ?_, ?_, (fun h => nomatch h), ?_⟩
  · rw [← hW1, hrec]; exact run_enterLoop_outer _ _ _ _ _
  · have he : (Act.eval { tmps := tm, defers := [] } (.tmp 9)) = .func (.func 43) #[] #[.pointer (some ⟨w.heap.size + 1, 0, none⟩), .pointer (some ⟨w.heap.size + 1 + 1, 0, none⟩)] := by rw [htm]; rfl
    simp only [resolve, he]
    simp [go_sem]
  · intro f' _; trivial
  · simp [invoke, go_sem]
  · refine (iter 2 (W0.heap.size + 1) (w.heap.size + 1) (w.heap.size + 1 + 1) s ev W1
      (fun A => A.heap[W0.heap.size + 1]? = some (.loop (rec .ready none)) ∧ A.heap[W0.heap.size]? = some (.deferred (some [])) ∧ A.heap[w.heap.size]? = some (.cells #[.int .i64 0] 3) ∧ A.heap[w.heap.size + 1]? = some (.cells #[.int .i64 s] 3) ∧ A.heap[w.heap.size + 1 + 1]? = some (.cells #[.string ev] 9) ∧ Below w.heap.size w A)
      (fun k A => A.heap[W0.heap.size + 1]? = some (.loop (rec .done (some .ret))) ∧ A.heap[W0.heap.size]? = some (.deferred (some [])) ∧ A.heap[w.heap.size]? = some (.cells #[.int .i64 k] 3) ∧ Below w.heap.size w A)
      hev (by omega) ?_ ?_ ?_ ?_).mono ?_
    · rintro A C ⟨h1, h2, h3, h4, h5, h6⟩ hb
      exact ⟨heap_of_below hb (by omega) h1, heap_of_below hb (by omega) h2, heap_of_below hb (by omega) h3, heap_of_below hb (by omega) h4, heap_of_below hb (by omega) h5, h6.trans (hb.mono (by omega))⟩
    · rintro A ⟨_, _, _, h4, h5, _⟩
      exact ⟨by simp [World.cell?, h4], by simp [World.cell?, h5]⟩
    · -- ONE ROUND
      rintro k ok A ⟨h1, h2, h3, h4, h5, h6⟩ hk hsz
      have hy := run_yield (P := Tryd.prog) (args := #[.int .i64 k, .bool ok]) h1 (by rw [hrec]; rfl)
      rw [hrec] at hy
      refine ⟨fn, _, asg, bdy, hy, roundIn_of_wpIn hfn ?_⟩
      have hbeg := run_beginRound (P := Tryd.prog) h1 (by rw [hrec])
      obtain ⟨A1, hA1⟩ : ∃ A1, A.putObj (W0.heap.size + 1) (.loop { rec .ready none with state := .busy }) = A1 := ⟨_, rfl⟩
      rw [hA1] at hbeg
      have hAs : A1.heap.size = A.heap.size := by rw [← hA1]; simp
      have hl2 : A1.heap[W0.heap.size + 1]? = some (.loop { rec .ready none with state := .busy }) := by rw [← hA1]; exact World.putObj_heap_same (by omega)
      have oth : ∀ b, b ≠ W0.heap.size + 1 → A1.heap[b]? = A.heap[b]? := fun b hb => by rw [← hA1]; exact World.putObj_heap_other hb
      have r3 := (oth w.heap.size (by omega)).trans h3
      have c3' : A1.cell? ⟨w.heap.size, 0, none⟩ = some (.int .i64 0) := by simp [World.cell?, r3]
      have z3 : A1.frozen? ⟨w.heap.size, 0, none⟩ = false := by simp [World.frozen?, r3]
      have hB2 : Below w.heap.size w A1 := by rw [← hA1]; exact below_putObj h6 _ (by omega)
      have hbegH := Lib.hid hbeg
      have hl2H := Lib.hid hl2
      have othH := Lib.hid oth
      have r3H := Lib.hid r3
      have h2H := Lib.hid h2; have h4H := Lib.hid h4; have h5H := Lib.hid h5
      have hrecH := Lib.hid hrec
      have hs0H := Lib.hid hs0; have hs1H := Lib.hid hs1; have hAsH := Lib.hid hAs
      clear hy hbeg hl2 oth r3 h1 h2 h3 h4 h5 hb0 hb1 hb2 hL1 hK1 hrec hs0 hs1 hAs
      subst hasg
      subst hbody
      subst htm
      gi_wp2
      refine ⟨A1, hbegH.out, ?_⟩
      cases ok
      · gi_wp2
        have hl3 : (A1.setCell ⟨w.heap.size, 0, none⟩ (.int .i64 k)).heap[W0.heap.size + 1]? = some (.loop { rec .ready none with state := .busy }) :=
          (Below.heap_setCell A1 ⟨w.heap.size, 0, none⟩ _ _ (by have := hs0H.out; simp; omega)).trans hl2H.out
        have hss : (A1.setCell ⟨w.heap.size, 0, none⟩ (.int .i64 k)).heap.size = A1.heap.size := by show (A1.heap.modify _ _).size = _; simp
        have ho := othH.out
        have hs0 := hs0H.out; have hs1 := hs1H.out; have hAs := hAsH.out
        refine ⟨_, _, run_endRound (some .ret) hl3, fun b hb1 hb2 => ?_, ?_, rfl, ?_, ?_, ?_, ?_⟩
        · exact (World.putObj_heap_other (by omega)).trans ((Below.heap_setCell A1 ⟨w.heap.size, 0, none⟩ _ _ (by simp; omega)).trans (ho b (by omega)))
        · rw [World.putObj_size, hss, hAs]; exact Nat.le_refl _
        · rw [World.putObj_heap_same (by rw [hss, hAs]; omega), hrecH.out]; rfl
        · exact (World.putObj_heap_other (by omega)).trans ((Below.heap_setCell A1 ⟨w.heap.size, 0, none⟩ _ _ (by simp; omega)).trans ((ho _ (by omega)).trans h2H.out))
        · exact (World.putObj_heap_other (by omega)).trans (setCell_block r3H.out _)
        · exact below_putObj (hB2.setCell (p := ⟨w.heap.size, 0, none⟩) (Nat.le_refl _) _) _ (by omega)
      · gi_wp2
        have ho := othH.out
        have hs0 := hs0H.out; have hs1 := hs1H.out; have hAs := hAsH.out
        refine ⟨_, _, run_endRound none hl2H.out, fun b hb1 hb2 => ?_, ?_, rfl, ?_, ?_, ?_, ?_, ?_, ?_⟩
        · exact (World.putObj_heap_other (by omega)).trans (ho b (by omega))
        · rw [World.putObj_size, hAs]; exact Nat.le_refl _
        · rw [World.putObj_heap_same (by rw [hAs]; omega), hrecH.out]; rfl
        · exact (World.putObj_heap_other (by omega)).trans ((ho _ (by omega)).trans h2H.out)
        · exact (World.putObj_heap_other (by omega)).trans r3H.out
        · exact (World.putObj_heap_other (by omega)).trans ((ho _ (by omega)).trans h4H.out)
        · exact (World.putObj_heap_other (by omega)).trans ((ho _ (by omega)).trans h5H.out)
        · exact below_putObj hB2 _ (by omega)
    · exact ⟨hL1, hK1, (hB01.block _ (by omega)).trans hb0, (hB01.block _ (by omega)).trans hb1, (hB01.block _ (by omega)).trans hb2, hB1⟩
    · rintro e W2 ⟨⟨v, rfl⟩, ⟨hf, h1, h2, h3, _, _, h6⟩ | ⟨k, hf, h1, h2, h3, h6⟩⟩
      · have hend := run_endLoop (P := Tryd.prog) h1 (by rw [hrec]; simp)
        refine ⟨_, _, hend, ?_⟩
        obtain ⟨W3, hW3⟩ : ∃ W3, W2.putObj (W0.heap.size + 1) (.loop { rec .ready none with state := .exhausted }) = W3 := ⟨_, rfl⟩
        rw [hW3]
        have k3 : W3.heap[w.heap.size]? = some (.cells #[.int .i64 0] 3) := by rw [← hW3]; exact (World.putObj_heap_other (by omega)).trans h3
        have d3 : W3.heap[W0.heap.size]? = some (.deferred (some [])) := by rw [← hW3]; exact (World.putObj_heap_other (by omega)).trans h2
        have hB3 : Below w.heap.size w W3 := by rw [← hW3]; exact below_putObj h6 _ (by omega)
        have c3' : W3.cell? ⟨w.heap.size, 0, none⟩ = some (.int .i64 0) := by simp [World.cell?, k3]
        have z3 : W3.frozen? ⟨w.heap.size, 0, none⟩ = false := by simp [World.frozen?, k3]
        have k3H := Lib.hid k3; have d3H := Lib.hid d3; have hs0H := Lib.hid hs0; have hfH := Lib.hid hf
        have hnone : (rec .ready none).pending = none := by rw [hrec]
        rw [hnone]
        subst htm
        clear hend h1 h2 h3 k3 d3 hs0 hW3 hB01 hB1 hL1 hK1 hW1 hs1 hrec hnone hb0 hb1 hb2 hW0 hf
        gi_wp2
        have hd : (W3.setCell ⟨w.heap.size, 0, none⟩ (.int .i64 (-1))).heap[W0.heap.size]? = some (.deferred (some [])) :=
          (Below.heap_setCell W3 ⟨w.heap.size, 0, none⟩ _ _ (by have := hs0H.out; simp; omega)).trans d3H.out
        refine ⟨by simp, .inl ⟨_, _, rfl, run_takeDeferred hd, ?_⟩⟩
        have hc5 : ((W3.setCell ⟨w.heap.size, 0, none⟩ (.int .i64 (-1))).putObj W0.heap.size (.deferred none)).heap[w.heap.size]? = some (.cells #[.int .i64 (-1)] 3) :=
          (World.putObj_heap_other (by have := hs0H.out; omega)).trans (setCell_block k3H.out _)
        have hc6 : ((W3.setCell ⟨w.heap.size, 0, none⟩ (.int .i64 (-1))).putObj W0.heap.size (.deferred none)).cell? ⟨w.heap.size, 0, none⟩ = some (.int .i64 (-1)) := by simp [World.cell?, hc5]
        refine ⟨.int .i64 (-1), ?_, by rw [hfH.out], below_putObj (hB3.setCell (p := ⟨w.heap.size, 0, none⟩) (Nat.le_refl _) _) _ (by have := hs0H.out; omega)⟩
        simp [results, Tryd.results18, go_sem, hc6]
      · have hend := run_endLoop (P := Tryd.prog) h1 (by rw [hrec]; simp)
        refine ⟨_, _, hend, ?_⟩
        obtain ⟨W3, hW3⟩ : ∃ W3, W2.putObj (W0.heap.size + 1) (.loop { rec .done (some .ret) with state := .exhausted }) = W3 := ⟨_, rfl⟩
        rw [hW3]
        have k3 : W3.heap[w.heap.size]? = some (.cells #[.int .i64 k] 3) := by rw [← hW3]; exact (World.putObj_heap_other (by omega)).trans h3
        have d3 : W3.heap[W0.heap.size]? = some (.deferred (some [])) := by rw [← hW3]; exact (World.putObj_heap_other (by omega)).trans h2
        have hB3 : Below w.heap.size w W3 := by rw [← hW3]; exact below_putObj h6 _ (by omega)
        have k3H := Lib.hid k3; have d3H := Lib.hid d3; have hs0H := Lib.hid hs0; have hfH := Lib.hid hf
        have hnone : (rec .done (some .ret)).pending = some .ret := by rw [hrec]
        rw [hnone]
        subst htm
        clear hend h1 h2 h3 k3 d3 hs0 hW3 hB01 hB1 hL1 hK1 hW1 hs1 hrec hnone hb0 hb1 hb2 hW0 hf
        gi_wp2
        refine ⟨by simp, .inl ⟨_, _, rfl, run_takeDeferred d3H.out, ?_⟩⟩
        have hc5 : (W3.putObj W0.heap.size (.deferred none)).heap[w.heap.size]? = some (.cells #[.int .i64 k] 3) :=
          (World.putObj_heap_other (by have := hs0H.out; omega)).trans k3H.out
        have hc6 : (W3.putObj W0.heap.size (.deferred none)).cell? ⟨w.heap.size, 0, none⟩ = some (.int .i64 k) := by simp [World.cell?, hc5]
        refine ⟨.int .i64 k, ?_, by rw [hfH.out], below_putObj hB3 _ (by have := hs0H.out; omega)⟩
        simp [results, Tryd.results18, go_sem, hc6]
end Go.Proofs.YtngieldaebnffaaDoor
