/- The iterator behind method.First: whatever the loop's body, if it says 'go on' just where an event is legal, the iterator comes to the first event that is not, or to the end. -/
import Derived.Test.YtngieldaebnffaaDoorNext
import Derived.RangeFuncNested
import Derived.RangeFuncBound
import Derived.RangeFuncCalls
import Derived.RangeFuncLeaves
import Derived.Shelf.Abstract
import Derived.Shelf.RegionOpen
import Derived.WalkKit
import Derived.OwnWalkIn
import Derived.TacticsInMore
import Derived.LoopNIn
import Derived.LoopIn
import Derived.Lib.Hide
namespace Go.Proofs.YtngieldaebnffaaDoor
open Go.RowKit Go.Shelf
attribute [local go_sem] Oper.semAt_some

structure St where
  q : Int
  r : Int
  en : Bool
  ed : Bool
def St.next (s : Int) (t : St) (c : Int) : St := ⟨nq s t.q t.ed c, nr s t.r t.ed c, nen s t.en t.ed c, ned s t.ed c⟩
def St.ok (s : Int) (t : St) (c : Int) : Bool := nok s t.q t.r t.en t.ed c
def St.zero : St := ⟨0, 0, false, false⟩
def firstFrom (s : Int) : St → List UInt8 → Nat → Int
  | _, [], _ => -1
  | t, c :: l, k => if t.ok s (c.toNat : Int) then firstFrom s (t.next s c.toNat) l (k + 1) else k
def firstS (s : Int) (l : List UInt8) : Int := firstFrom s St.zero l 0
def stAt (s : Int) (l : List UInt8) : St := l.foldl (fun t c => t.next s c.toNat) St.zero

theorem nq_bd (s q : Int) (ed : Bool) (c : Int) : q ≤ nq s q ed c ∧ nq s q ed c ≤ q + 1 := by unfold nq; split <;> (try split) <;> omega
theorem nr_bd (s r : Int) (ed : Bool) (c : Int) : r ≤ nr s r ed c ∧ nr s r ed c ≤ r + 1 := by unfold nr; split <;> (try split) <;> omega
theorem fold_bounds (s : Int) (l : List UInt8) : ∀ t : St, (t.q ≤ (l.foldl (fun t c => t.next s c.toNat) t).q ∧ (l.foldl (fun t c => t.next s c.toNat) t).q ≤ t.q + l.length) ∧ (t.r ≤ (l.foldl (fun t c => t.next s c.toNat) t).r ∧ (l.foldl (fun t c => t.next s c.toNat) t).r ≤ t.r + l.length) := by
  induction l with
  | nil => intro t; simp
  | cons c l ih =>
    intro t
    have h := ih (t.next s c.toNat)
    have h1 := nq_bd s t.q t.ed c.toNat
    have h2 := nr_bd s t.r t.ed c.toNat
    simp only [List.foldl_cons, List.length_cons, St.next] at h ⊢
    omega
theorem stAt_bounds (s : Int) (l : List UInt8) : (0 ≤ (stAt s l).q ∧ (stAt s l).q ≤ l.length) ∧ (0 ≤ (stAt s l).r ∧ (stAt s l).r ≤ l.length) := by
  have := fold_bounds s l St.zero
  simpa [stAt, St.zero] using this
theorem take_snoc (s : ByteArray) {k : Nat} (h : k < s.size) : s.data.toList.take (k + 1) = s.data.toList.take k ++ [s[k]] := by
  rw [List.take_succ_eq_append_getElem (by simpa using h)]; rfl
theorem drop_at (s : ByteArray) {k : Nat} (h : k < s.size) : s.data.toList.drop k = s[k] :: s.data.toList.drop (k + 1) := by
  rw [List.drop_eq_getElem_cons (by simpa using h)]; rfl
theorem stAt_succ (s : Int) (ev : ByteArray) {k : Nat} (h : k < ev.size) : stAt s (ev.data.toList.take (k + 1)) = (stAt s (ev.data.toList.take k)).next s ev[k].toNat := by
  rw [take_snoc ev h]; simp [stAt]
theorem bcell {W w1 : World} (hb : Below W.heap.size W w1) : (∀ b o, b < W.heap.size → w1.cell? ⟨b, o, none⟩ = W.cell? ⟨b, o, none⟩) ∧ (∀ b o, b < W.heap.size → w1.frozen? ⟨b, o, none⟩ = W.frozen? ⟨b, o, none⟩) :=
  ⟨fun b o h => hb.cell (p := ⟨b, o, none⟩) h, fun b o h => hb.frozen (p := ⟨b, o, none⟩) h⟩
theorem cutR {F : Fence} {n : Nat} {P : Program} {c : Code} {Q : Exit → Act → World → Prop} {a : Act} {w : World} (R : Act → World → Prop) (h1 : c.wpIn F n P (Exit.then R (fun _ _ _ => False)) a w) (h2 : ∀ a w, R a w → Q .normal a w) : c.wpIn F n P Q a w :=
  wpIn_mono h1 fun e a w h => by
    cases e with
    | normal => exact h2 _ _ h
    | _ => exact h.elim
theorem belowA {wr w' : World} {o : Obj} (hb : Below wr.drew.heap.size wr.drew w') : Below wr.heap.size wr (w'.alloc o) :=
  (show Below wr.heap.size wr w' from ⟨hb.os, hb.tape, hb.output, hb.size, hb.block⟩).alloc hb.size _
theorem sizeA {wr w' : World} (hb : Below wr.drew.heap.size wr.drew w') : wr.heap.size ≤ w'.heap.size := hb.size
theorem belowB0 {wr w' : World} {o : Obj} (hb : Below (wr.alloc o).drew.heap.size (wr.alloc o).drew w') : Below wr.heap.size wr w' :=
  (((Below.refl wr.heap.size wr).alloc (Nat.le_refl _) o).drew).trans (hb.mono (by show wr.heap.size ≤ (wr.alloc o).heap.size; simp))
theorem belowB {wr w' : World} {o : Obj} {v0 v1 v2 v3 v4 : Value} (hb : Below (wr.alloc o).drew.heap.size (wr.alloc o).drew w') :
    Below wr.heap.size wr (((((w'.setCell ⟨wr.heap.size, 0, none⟩ v0).setCell ⟨wr.heap.size, 1, none⟩ v1).setCell ⟨wr.heap.size, 2, none⟩ v2).setCell ⟨wr.heap.size, 3, none⟩ v3).setCell ⟨wr.heap.size, 4, none⟩ v4) :=
  ((((((belowB0 hb).setCell (p := ⟨wr.heap.size, 0, none⟩) (Nat.le_refl _) _).setCell (p := ⟨wr.heap.size, 1, none⟩) (Nat.le_refl _) _).setCell (p := ⟨wr.heap.size, 2, none⟩) (Nat.le_refl _) _).setCell (p := ⟨wr.heap.size, 3, none⟩) (Nat.le_refl _) _).setCell (p := ⟨wr.heap.size, 4, none⟩) (Nat.le_refl _) _)
theorem setCell_block {w : World} {b i : Nat} {c : Array Value} {t : TypeId} {fz : Nat × Nat} (h : w.heap[b]? = some (.cells c t fz)) (v : Value) : (w.setCell ⟨b, i, none⟩ v).heap[b]? = some (.cells (c.setIfInBounds i v) t fz) := by
  obtain ⟨hlt, hk⟩ := Array.getElem?_eq_some_iff.1 h
  show (w.heap.modify b _)[b]? = _
  rw [Array.getElem?_eq_getElem (by rw [Array.size_modify]; exact hlt), Array.getElem_modify_self, hk]
  rfl
theorem blockB {wr w' : World} {a0 a1 a2 a3 a4 v0 v1 v2 v3 v4 : Value} {t : TypeId} (hb : Below (wr.alloc (.cells #[a0, a1, a2, a3, a4] t)).drew.heap.size (wr.alloc (.cells #[a0, a1, a2, a3, a4] t)).drew w') :
    (((((w'.setCell ⟨wr.heap.size, 0, none⟩ v0).setCell ⟨wr.heap.size, 1, none⟩ v1).setCell ⟨wr.heap.size, 2, none⟩ v2).setCell ⟨wr.heap.size, 3, none⟩ v3).setCell ⟨wr.heap.size, 4, none⟩ v4).heap[wr.heap.size]? = some (.cells #[v0, v1, v2, v3, v4] t) := by
  have h : w'.heap[wr.heap.size]? = some (.cells #[a0, a1, a2, a3, a4] t) := (hb.block wr.heap.size (by show wr.heap.size < (wr.alloc _).heap.size; simp)).trans (World.alloc_heap_new wr _)
  exact setCell_block (setCell_block (setCell_block (setCell_block (setCell_block h _) _) _) _) _
def RelU (wr : World) (s q r : Int) (en ed : Bool) (fr : Nat → Act) (a : Act) (w : World) : Prop :=
  ∃ bu, a = fr bu ∧ Below wr.heap.size wr w ∧ wr.heap.size ≤ bu ∧ w.heap[bu]? = some (.cells #[.int .i64 s, .int .i64 q, .int .i64 r, .bool en, .bool ed] 77)
set_option maxHeartbeats 4000000 in
theorem iter (n l bs be : Nat) (s : Int) (ev : ByteArray) (W : World) (J : World → Prop) (Jx : Nat → World → Prop) (hev : ev.size ≤ 4611686018427387904)
    (hbe : be < W.heap.size)
    (hJ : ∀ A C, J A → Below W.heap.size A C → J C)
    (hJc : ∀ A, J A → A.cell? ⟨bs, 0, none⟩ = some (.int .i64 s) ∧ A.cell? ⟨be, 0, none⟩ = some (.string ev))
    (hY : ∀ (k : Nat) (ok : Bool) (A : World), J A → k < ev.size → W.heap.size ≤ A.heap.size → YieldAt Fence.wide (n - 1) Tryd.prog l #[.int .i64 k, .bool ok] A fun e A' =>
      (∀ b, W.heap.size ≤ b → b < A.heap.size → A'.heap[b]? = A.heap[b]?) ∧ A.heap.size ≤ A'.heap.size ∧ ((ok = true ∧ e = .returned (.bool true) ∧ J A') ∨ (ok = false ∧ e = .returned (.bool false) ∧ Jx k A')))
    (h0 : J W) :
    CallsIn Fence.wide n Tryd.prog 43 (#[.func (.yield l) #[] #[]] ++ #[.pointer (some ⟨bs, 0, none⟩), .pointer (some ⟨be, 0, none⟩)]) W fun e W' => (∃ v, e = .returned v) ∧ ((firstS s ev.data.toList = -1 ∧ J W') ∨ (∃ k : Nat, firstS s ev.data.toList = k ∧ Jx k W')) := by
  refine callsIn_of_wp Tryd.func43 rfl trivial ?_ rfl
  simp only [Tryd.ntmps43, List.size_toArray, List.length_cons, List.length_nil, Nat.reduceAdd, Nat.reduceSub, Array.replicate_succ, Array.replicate_zero, List.push_toArray, List.append_toArray, List.nil_append, List.cons_append]
  have hc := hJc W h0
  obtain ⟨hc1, hc2⟩ := hc
  clear hc1 hc2
  have hJ0 : J (W.alloc (.cells #[.int .i64 s, .int .i64 0, .int .i64 0, .bool false, .bool false] 77)) := hJ _ _ h0 ((Below.refl _ _).alloc (Nat.le_refl _) _)
  obtain ⟨hc1, hc2⟩ := hJc W h0
  gi_wp2
  clear hc1 hc2
  gi_loopw [12] (fun i wr => ∃ k : Nat, k ≤ ev.size ∧ i = .int .i64 k ∧ J wr ∧ W.heap.size < wr.heap.size ∧
      wr.heap[W.heap.size]? = some (.cells #[.int .i64 s, .int .i64 (stAt s (ev.data.toList.take k)).q, .int .i64 (stAt s (ev.data.toList.take k)).r, .bool (stAt s (ev.data.toList.take k)).en, .bool (stAt s (ev.data.toList.take k)).ed] 77) ∧
      firstS s ev.data.toList = firstFrom s (stAt s (ev.data.toList.take k)) (ev.data.toList.drop k) k)
    (fun i _ => ev.size - (intOf i).toNat)
  case atStart => exact ⟨0, Nat.zero_le _, rfl, hJ0, by simp, by rw [World.alloc_heap_new]; simp [stAt, St.zero], by simp [stAt, firstS]⟩
  case round =>
    obtain ⟨k, hk, rfl, hj, hsz, hblk, hfst⟩ := hrel
    obtain ⟨hc1, hc2⟩ := hJc wr hj
    by_cases hlt : k < ev.size
    · have HF := Lib.hid hfst; clear hfst
      have hq1 : 0 ≤ (stAt s (ev.data.toList.take k)).q ∧ (stAt s (ev.data.toList.take k)).q ≤ 4611686018427387904 := by
        have := stAt_bounds s (ev.data.toList.take k); have h2 : (ev.data.toList.take k).length ≤ k := List.length_take_le _ _; omega
      have hr1 : 0 ≤ (stAt s (ev.data.toList.take k)).r ∧ (stAt s (ev.data.toList.take k)).r ≤ 4611686018427387904 := by
        have := stAt_bounds s (ev.data.toList.take k); have h2 : (ev.data.toList.take k).length ≤ k := List.length_take_le _ _; omega
      have HS := Lib.hid (stAt_succ s ev hlt)
      generalize stAt s (ev.data.toList.take k) = st at *
      obtain ⟨q, r, en, ed⟩ := st
      dsimp only at hblk hq1 hr1
      have f0 : wr.cell? ⟨W.heap.size, 0, none⟩ = some (.int .i64 s) := by simp [World.cell?, hblk]
      have f1 : wr.cell? ⟨W.heap.size, 1, none⟩ = some (.int .i64 q) := by simp [World.cell?, hblk]
      have f2 : wr.cell? ⟨W.heap.size, 2, none⟩ = some (.int .i64 r) := by simp [World.cell?, hblk]
      have f3 : wr.cell? ⟨W.heap.size, 3, none⟩ = some (.bool en) := by simp [World.cell?, hblk]
      have f4 : wr.cell? ⟨W.heap.size, 4, none⟩ = some (.bool ed) := by simp [World.cell?, hblk]
      have HY := Lib.hid hY; have HB := Lib.hid hblk; clear hblk hY
      have hbe2 : be < wr.heap.size := by omega
      have hbe3 : be ≠ wr.heap.size := by omega
      have hbe4 : W.heap.size ≠ wr.heap.size := by omega
      have hcall : ∃ (q' r' : Int) (en' ed' ok : Bool), Hid (St.next s ⟨q, r, en, ed⟩ (ev[k].toNat : Int) = ⟨q', r', en', ed'⟩ ∧ St.ok s ⟨q, r, en, ed⟩ (ev[k].toNat : Int) = ok) ∧ ∀ A : World, CallsIn Fence.wide (n - 1) Tryd.prog 44 #[.agg #[.int .i64 s, .int .i64 q, .int .i64 r, .bool en, .bool ed], .int .u8 ev[k].toNat] A
          fun e A' => e = .returned (.tuple #[.agg #[.int .i64 s, .int .i64 q', .int .i64 r', .bool en', .bool ed'], .bool ok]) ∧ Below A.heap.size A A' :=
        ⟨_, _, _, _, _, Lib.hid ⟨rfl, rfl⟩, fun A => callsIn_wide.2 (next_any s q r en ed _ _ hq1.1 hq1.2 hr1.1 hr1.2)⟩
      obtain ⟨q', r', en', ed', ok, HN, hcall⟩ := hcall
      have HC := Lib.hid hcall; clear hcall
      gi_wp2
      refine cutR (RelU wr s q' r' en' ed' fun bu => { tmps := #[.func (.yield l) #[] #[], .pointer (some ⟨bs, 0, none⟩), .pointer (some ⟨be, 0, none⟩), undef, .pointer (some ⟨W.heap.size, 0, none⟩), .int .i64 k, .pointer (some ⟨bu, 0, none⟩), .bool ok, .int .i64 s,
        .agg #[.int .i64 s, .int .i64 0, .int .i64 0, .bool false, .bool false], .string ev, .int .i64 ev.size, .int .i64 k, .bool true, .int .i64 k, .tuple #[.agg #[.int .i64 s, .int .i64 q', .int .i64 r', .bool en', .bool ed'], .bool ok],
        .agg #[.int .i64 s, .int .i64 q, .int .i64 r, .bool en, .bool ed], .string ev, .int .i64 k, .int .u8 ev[k].toNat, .tuple #[.agg #[.int .i64 s, .int .i64 q', .int .i64 r', .bool en', .bool ed'], .bool ok],
        .agg #[.int .i64 s, .int .i64 q', .int .i64 r', .bool en', .bool ed'], .bool ok, u23, u24, u25, u26, u27, u28, u29, u30, u31, u32, u33], defers := [] }) ?_ ?_
      · gi_region_with (refine ⟨trivial, (fun h => nomatch h), ?_⟩; refine (HC.out _).mono ?_; rintro e w' ⟨rfl, hb⟩; obtain ⟨hbc, hbf⟩ := bcell hb)
        all_goals refine (show RelU _ _ _ _ _ _ _ _ _ from ⟨_, rfl, ?_, ?_, ?_⟩)
        all_goals first | (with_reducible exact Nat.le_refl _) | (with_reducible exact belowA hb) | (with_reducible exact belowB hb) | (with_reducible exact sizeA hb) | (with_reducible exact World.alloc_heap_new _ _) | (with_reducible exact blockB hb)
      · rintro _ w1 ⟨bu, rfl, hbw, hbu, hnew⟩
        have hj1 : J w1 := hJ _ _ hj (hbw.mono (by omega))
        obtain ⟨fn, tmps, assign, body, hy, hR⟩ := HY.out k ok w1 hj1 hlt (by have := hbw.size; omega)
        gi_wp2
        refine ⟨(fun h => nomatch h), hR.mono ?_⟩
        rintro e w2 ⟨hkeep, hsz2, h2⟩
        rcases h2 with ⟨rfl, rfl, hj2⟩ | ⟨rfl, rfl, hjx⟩
        · have b1 : w2.heap[bu]? = some (.cells #[.int .i64 s, .int .i64 q', .int .i64 r', .bool en', .bool ed'] 77) := (hkeep bu (by omega) (Array.getElem?_eq_some_iff.1 hnew).1).trans hnew
          have b2 : w2.heap[W.heap.size]? = some (.cells #[.int .i64 s, .int .i64 q, .int .i64 r, .bool en, .bool ed] 77) := (hkeep _ (Nat.le_refl _) (by have := hbw.size; omega)).trans ((hbw.block _ hsz).trans HB.out)
          have g0 : w2.cell? ⟨bu, 0, none⟩ = some (.int .i64 s) := by simp [World.cell?, b1]
          have g1 : w2.cell? ⟨bu, 1, none⟩ = some (.int .i64 q') := by simp [World.cell?, b1]
          have g2 : w2.cell? ⟨bu, 2, none⟩ = some (.int .i64 r') := by simp [World.cell?, b1]
          have g3 : w2.cell? ⟨bu, 3, none⟩ = some (.bool en') := by simp [World.cell?, b1]
          have g4 : w2.cell? ⟨bu, 4, none⟩ = some (.bool ed') := by simp [World.cell?, b1]
          have t0 : w2.cell? ⟨W.heap.size, 0, none⟩ = some (.int .i64 s) := by simp [World.cell?, b2]
          have t1 : w2.cell? ⟨W.heap.size, 1, none⟩ = some (.int .i64 q) := by simp [World.cell?, b2]
          have t2 : w2.cell? ⟨W.heap.size, 2, none⟩ = some (.int .i64 r) := by simp [World.cell?, b2]
          have t3 : w2.cell? ⟨W.heap.size, 3, none⟩ = some (.bool en) := by simp [World.cell?, b2]
          have t4 : w2.cell? ⟨W.heap.size, 4, none⟩ = some (.bool ed) := by simp [World.cell?, b2]
          have z : ∀ o, w2.frozen? ⟨W.heap.size, o, none⟩ = false := fun o => by simp [World.frozen?, b2]
          have HB2 := Lib.hid b2
          clear b1 b2 hR hy hc1 hc2 hj1 hj f0 f1 f2 f3 f4 hkeep hJc
          gi_wp2
          go_roundw
          case rel =>
            have hS := HS.out
            have hN := HN.out
            have hF := HF.out
            rw [hN.1] at hS
            refine ⟨k + 1, hlt, by go_num, ?_, ?_, ?_, ?_⟩
            · exact hJ _ _ hj2 ((((((Below.refl _ w2).setCell (p := ⟨W.heap.size, 0, none⟩) (Nat.le_refl _) _).setCell (p := ⟨W.heap.size, 1, none⟩) (Nat.le_refl _) _).setCell (p := ⟨W.heap.size, 2, none⟩) (Nat.le_refl _) _).setCell (p := ⟨W.heap.size, 3, none⟩) (Nat.le_refl _) _).setCell (p := ⟨W.heap.size, 4, none⟩) (Nat.le_refl _) _)
            · exact Nat.lt_of_lt_of_le (Nat.lt_of_lt_of_le hsz (Nat.le_trans hbw.size hsz2)) (Below.size ((((((Below.refl W.heap.size w2).setCell (p := ⟨W.heap.size, 0, none⟩) (Nat.le_refl _) _).setCell (p := ⟨W.heap.size, 1, none⟩) (Nat.le_refl _) _).setCell (p := ⟨W.heap.size, 2, none⟩) (Nat.le_refl _) _).setCell (p := ⟨W.heap.size, 3, none⟩) (Nat.le_refl _) _).setCell (p := ⟨W.heap.size, 4, none⟩) (Nat.le_refl _) _))
            · rw [hS]; exact setCell_block (setCell_block (setCell_block (setCell_block (setCell_block HB2.out _) _) _) _) _
            · rw [hF, hS, drop_at ev hlt, firstFrom, hN.2, hN.1]; rfl
          case measure => simp [intOf]; omega
        · clear hR hy hc1 hc2 hj1 hj f0 f1 f2 f3 f4 hkeep hJc
          gi_wp2
          refine bodyPost_ret (results_none rfl _ _ _) rfl ⟨⟨_, rfl⟩, .inr ⟨k, ?_, hjx⟩⟩
          rw [HF.out, drop_at ev hlt, firstFrom, HN.out.2]; rfl
    · obtain rfl : k = ev.size := by omega
      have HF := Lib.hid hfst; clear hfst
      gi_wp2
      refine bodyPost_end (results_none rfl _ _ _) rfl ⟨⟨_, rfl⟩, .inl ⟨?_, hj⟩⟩
      rw [HF.out, List.drop_of_length_le (by simp)]; rfl
end Go.Proofs.YtngieldaebnffaaDoor
