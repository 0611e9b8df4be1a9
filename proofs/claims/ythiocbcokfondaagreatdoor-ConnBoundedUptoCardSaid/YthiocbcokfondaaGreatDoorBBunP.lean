/- Texts of this claim merged into one: BHdLaw, BVFac, BVInv, BVSon, BVCon, BVOps. -/
import Derived.Test.YthiocbcokfondaaGreatDoorBBunI
import Derived.Test.YthiocbcokfondaaGreatDoorBBunX
namespace Go.Proofs.YthiocbcokfondaaGreatDoor
open Go.RowKit
theorem rU {s : ByteArray} (h : (db s).err = 0) : bk (db s).head = 0 ∧ dp (db s).head = s.data.toList := by
 unfold db gR at h ⊢
 simp only at h ⊢
 split at h
 · rename_i q; exact absurd h q
 · rename_i q1
   rw [if_neg q1]
   split at h
   · cases h
   · rename_i q2
     rw [if_neg q2]
     split at h
     · cases h
     · rename_i q3
       rw [if_neg q3]
       split at h
       · rename_i q; exact absurd h q
       · rename_i q4
         rw [if_neg q4]
         split at h
         · cases h
         · rename_i q5
           rw [if_neg q5]
           exact ⟨Decidable.not_not.1 q4, Decidable.not_not.1 q5⟩
end Go.Proofs.YthiocbcokfondaaGreatDoor
namespace Go.Proofs.YthiocbcokfondaaGreatDoor.Y
theorem ug {d : ByteArray} (h : (bA d).err = 0) : bj (bA d).code (bA d).text = 0 := by
 unfold bA at h ⊢
 by_cases h0 : (cR d).2.2 = 0
 · rw [if_pos h0] at h ⊢
   unfold f6 at h ⊢
   by_cases a : (cR d).2.1 ≠ (bB (cR d).1).length
   · rw [if_pos a] at h; exact absurd h (by decide)
   rw [if_neg a] at h ⊢
   by_cases b : 13 < (cR d).1
   · rw [if_pos b] at h; exact absurd h (by decide)
   rw [if_neg b] at h ⊢
   by_cases c : bj (cR d).1 (d.extract (cR d).2.1 d.size) = 0
   · rw [if_pos c]; exact c
   · rw [if_neg c] at h; exact absurd h c
 · rw [if_neg h0] at h
   exact absurd h h0
theorem mM {n : Int} (h0 : 0 ≤ n) (h1 : n ≤ 13) : bj n ⟨#[]⟩ = 0 := by
 unfold bj
 have hv : fT ⟨#[]⟩ = true := by kernel_rfl
 rw [if_neg (by omega), hv, if_neg (by simp), if_neg (by decide), if_neg (by rintro ⟨_, e⟩; exact e rfl)]
theorem rV {n : Int} {t : ByteArray} (h : bj n t = 0) : t.size ≤ 4096 := by
 unfold bj at h
 repeat' split at h
 all_goals omega
theorem AN {s : ByteArray} (h : (db s).err = 0) : bk (db s).head = 0 := (rU h).1
theorem uh : ∀ (ms : List (ByteArray × ByteArray)) (i : Nat) (p : ByteArray), d4 i p ms = 0 → ∀ m ∈ ms, m.1.size < 4294967281 ∧ m.2.size < 4294967281
 | [], _, _, _, _, h => by cases h
 | (k, v) :: r, i, p, h, m, hm => by
  rw [d4] at h
  repeat' split at h
  all_goals first
   | (exfalso; revert h; decide)
   | skip
  rename_i a b _ _
  have hk : gQ k.data.toList = true := by simpa using a
  unfold gQ at hk
  simp only [Bool.and_eq_true, decide_eq_true_eq] at hk
  rcases List.mem_cons.1 hm with rfl | hm
  · have h1 := hk.1.2
    rw [Array.length_toList] at h1
    refine ⟨?_, by show v.size < _; omega⟩
    show k.data.size < _
    omega
  · exact uh r (i + 1) k h m hm
theorem BT {h : ju} (e : bk h = 0) : f8 h ∧ h.metas.length ≤ 16 := by
 unfold bk at e
 repeat' split at e
 all_goals first
  | (exfalso; revert e; decide)
  | skip
 rename_i a b c
 have h1 : cL h.svc.data.toList = true := by simpa using fun x => a (.inl x)
 have h2 : bp h.mth.data.toList = true := by simpa using fun x => a (.inr x)
 unfold cL at h1
 unfold bp at h2
 simp only [Bool.and_eq_true, decide_eq_true_eq, Array.length_toList] at h1 h2
 refine ⟨⟨?_, ?_, uh h.metas 0 _ e⟩, by omega⟩
 · have := h1.1
   show h.svc.data.size < _
   omega
 · have := h2.1.1.2
   show h.mth.data.size < _
   omega
end Go.Proofs.YthiocbcokfondaaGreatDoor.Y
namespace Go.Proofs.YthiocbcokfondaaGreatDoor.Y
theorem dj (d : ByteArray) : 1 ≤ aT d := by unfold aT; split <;> omega
theorem bi {w : bm} : bq w = true ↔ (1 ≤ w.size ∧ w.size ≤ 1048576 ∧ 0 ≤ w.left ∧ 0 ≤ w.held ∧ w.left ≤ 1048576 ∧ w.left + w.held ≤ 1048576) := by unfold bq; exact decide_eq_true_iff
theorem fD {w : bm} {n : Int} (h : bq w = true) (h0 : 0 ≤ n) (h1 : n ≤ w.left) : dE w n = ⟨⟨w.size, w.left - n, w.held⟩, 0⟩ := by
 unfold dE
 rw [if_neg (by rw [h]; simp; omega), if_neg (by omega)]
theorem kS {w : bm} {n : Int} (h : (dE w n).err = 0) : bq w = true ∧ 0 ≤ n ∧ n ≤ w.left ∧ dE w n = ⟨⟨w.size, w.left - n, w.held⟩, 0⟩ := by
 unfold dE at h
 split at h
 · cases h
 · rename_i h1
   split at h
   · cases h
   · have h2 : bq w = true := by simpa using fun e => h1 (.inl e)
     exact ⟨h2, by omega, by omega, fD h2 (by omega) (by omega)⟩
theorem ql {w : bm} {n : Int} (h : bq w = true) (h0 : 0 ≤ n) (h1 : n ≤ w.left) : cb w n = ⟨⟨w.size, w.left - n, w.held + n⟩, 0⟩ := by
 unfold cb
 rw [if_neg (by rw [h]; simp; omega), if_neg (by omega)]
theorem zu {w : bm} {n : Int} (h : (cb w n).err = 0) : bq w = true ∧ 0 ≤ n ∧ n ≤ w.left ∧ cb w n = ⟨⟨w.size, w.left - n, w.held + n⟩, 0⟩ := by
 unfold cb at h
 split at h
 · cases h
 · rename_i h1
   split at h
   · cases h
   · have h2 : bq w = true := by simpa using fun e => h1 (.inl e)
     exact ⟨h2, by omega, by omega, ql h2 (by omega) (by omega)⟩
theorem xG {w : bm} {n : Int} (h : bq w = true) (h0 : 1 ≤ n) (h1 : n ≤ 1048576 - w.left - w.held) : cW w n = ⟨⟨w.size, w.left + n, w.held⟩, 0⟩ := by
 unfold cW
 rw [if_neg (by rw [h]; simp; omega), if_neg (by omega)]
theorem lw {w : bm} {n : Int} (h : (cW w n).err = 0) : bq w = true ∧ 1 ≤ n ∧ n ≤ 1048576 - w.left - w.held ∧ cW w n = ⟨⟨w.size, w.left + n, w.held⟩, 0⟩ := by
 unfold cW at h
 split at h
 · cases h
 · rename_i h1
   split at h
   · cases h
   · have h2 : bq w = true := by simpa using fun e => h1 (.inl e)
     exact ⟨h2, by omega, by omega, xG h2 (by omega) (by omega)⟩
theorem nM {w : bm} {n : Int} (h : bq w = true) (h0 : 0 ≤ n) (h1 : n ≤ w.left) : bq ⟨w.size, w.left - n, w.held⟩ = true := by
 rw [bi] at h ⊢; dsimp only; omega
theorem qm {w : bm} {n : Int} (h : bq w = true) (h0 : 0 ≤ n) (h1 : n ≤ w.left) : bq ⟨w.size, w.left - n, w.held + n⟩ = true := by
 rw [bi] at h ⊢; dsimp only; omega
theorem lx {w : bm} {n : Int} (h : bq w = true) (h0 : 1 ≤ n) (h1 : n ≤ 1048576 - w.left - w.held) : bq ⟨w.size, w.left + n, w.held⟩ = true := by
 rw [bi] at h ⊢; dsimp only; omega
structure VS (s : cJ) : Prop where
 id : 1 ≤ s.id ∧ s.id ≤ 2147483647
 sd : s.side = 1 ∨ s.side = 2
 sh : qs s.shape = true
 sn : bq s.snd = true
 rv : bq s.rcv = true
 rq : 0 ≤ i7 s ∧ i7 s ≤ ke (c2 s.shape)
 rs : 0 ≤ lU s ∧ lU s ≤ ke (c4 s.shape)
 dn : s.done = true → s.se = true ∧ s.ge = true ∧ bj s.code s.text = 0
 nd : s.done = false → sN s = false ∧ (pM s = true → c1 s.shape ≤ i7 s) ∧ s.code = 0 ∧ s.text.size = 0
theorem gK {s : cJ} : dY s = true ↔ VS s := by
 unfold dY sO pN wF
 constructor
 · intro h
   simp only [Bool.and_eq_true, decide_eq_true_eq] at h
   obtain ⟨⟨⟨⟨a1, a2, a3⟩, a4⟩, ⟨a5, a6⟩, a7, a8, a9, a10⟩, a11⟩ := h
   refine ⟨⟨a1, a2⟩, a3, a4, a5, a6, ⟨a7, a8⟩, ⟨a9, a10⟩, fun hd => ?_, fun hd => ?_⟩
   · rw [if_pos hd] at a11
     simp only [Bool.and_eq_true, decide_eq_true_eq] at a11
     exact ⟨a11.1.1, a11.1.2, a11.2⟩
   · rw [if_neg (by rw [hd]; simp)] at a11
     simp only [Bool.and_eq_true, decide_eq_true_eq, Bool.not_eq_true', Bool.or_eq_true] at a11
     exact ⟨a11.1.1.1, fun h => a11.1.1.2.resolve_left (by rw [h]; simp), a11.1.2, a11.2⟩
 · intro h
   simp only [Bool.and_eq_true, decide_eq_true_eq]
   refine ⟨⟨⟨⟨h.id.1, h.id.2, h.sd⟩, h.sh⟩, ⟨h.sn, h.rv⟩, h.rq.1, h.rq.2, h.rs⟩, ?_⟩
   cases hd : s.done with
   | true =>
    obtain ⟨a, b, c⟩ := h.dn hd
    rw [if_pos rfl, a, b, c]; rfl
   | false =>
    obtain ⟨a, b, c, d⟩ := h.nd hd
    rw [if_neg (by simp)]
    simp only [Bool.and_eq_true, decide_eq_true_eq, Bool.not_eq_true', Bool.or_eq_true]
    refine ⟨⟨⟨a, ?_⟩, c⟩, d⟩
    cases hq : pM s with
    | false => exact .inl rfl
    | true => exact .inr (b hq)
inductive Be (s : cJ) (f : bd) : cJ → Prop
 | data (hk : f.kind = 2) (he : s.se = false) (hm : s.sent < jC s (s.side == 1)) (hz : aT f.data ≤ s.snd.size) (hl : aT f.data ≤ s.snd.left) : Be s f { s with sent := s.sent + 1, snd := ⟨s.snd.size, s.snd.left - aT f.data, s.snd.held⟩ }
 | fin (hk : f.kind = 3) (he : s.se = false) (hs : s.side = 1) (hm : c1 s.shape ≤ s.sent) : Be s f { s with se := true }
 | stat (hk : f.kind = 4) (hs : s.side ≠ 1) (hm : (bA f.data).code = 0 → im s = false) : Be s f (ea s (bA f.data).code (bA f.data).text)
 | reset (hk : f.kind = 5) : Be s f (ea s f.num ⟨#[]⟩)
structure SndOk (s : cJ) (f : bd) (t : cJ) : Prop where
 v : dY s = true
 fe : aQ f = 0
 i : f.strm = s.id
 d : s.done = false
 h : Be s f t
theorem fQ {s : cJ} {f : bd} (h : (bE s f).err = 0) : SndOk s f (bE s f).st := by
 unfold bE at h ⊢
 split at h
 · cases h
 rename_i g0
 rw [if_neg g0]
 have hv : dY s = true := by simpa using fun e => g0 (.inl e)
 have hf : aQ f = 0 := Decidable.not_not.1 fun e => g0 (.inr (.inl e))
 have hi : f.strm = s.id := Decidable.not_not.1 fun e => g0 (.inr (.inr e))
 split at h
 · rename_i hk
   rw [if_pos hk]
   split at h
   · cases h
   rename_i g1
   rw [if_neg g1]
   split at h
   · cases h
   rename_i g2
   rw [if_neg g2]
   split at h
   · cases h
   rename_i g3
   rw [if_neg g3]
   split at h
   · rename_i g4; exact absurd h g4
   rename_i g4
   rw [if_neg g4]
   obtain ⟨_, _, t3, t4⟩ := kS (Decidable.not_not.1 g4)
   refine ⟨hv, hf, hi, eq_false_of_ne_true fun e => g1 (.inl e), ?_⟩
   rw [t4]
   exact .data hk (eq_false_of_ne_true fun e => g1 (.inr e)) (by omega) (by omega) t3
 · rename_i hk2
   rw [if_neg hk2]
   split at h
   · rename_i hk
     rw [if_pos hk]
     split at h
     · cases h
     rename_i g1
     rw [if_neg g1]
     split at h
     · cases h
     rename_i g2
     rw [if_neg g2]
     exact ⟨hv, hf, hi, eq_false_of_ne_true fun e => g1 (.inl e), .fin hk (eq_false_of_ne_true fun e => g1 (.inr (.inl e))) (Decidable.not_not.1 fun e => g1 (.inr (.inr e))) (by omega)⟩
   · rename_i hk3
     rw [if_neg hk3]
     split at h
     · rename_i hk
       rw [if_pos hk]
       split at h
       · cases h
       rename_i g1
       rw [if_neg g1]
       split at h
       · cases h
       rename_i g2
       rw [if_neg g2]
       refine ⟨hv, hf, hi, eq_false_of_ne_true fun e => g1 (.inl e), ?_⟩
       rw [eC, if_neg (by omega)]
       exact .stat hk (fun e => g1 (.inr e)) (fun e => eq_false_of_ne_true fun e' => g2 ⟨e, e'⟩)
     · rename_i hk4
       rw [if_neg hk4]
       split at h
       · rename_i hk
         rw [if_pos hk]
         split at h
         · cases h
         rename_i g1
         rw [if_neg g1, eC, if_pos hk]
         exact ⟨hv, hf, hi, eq_false_of_ne_true g1, .reset hk⟩
       · cases h
theorem jN {s t : cJ} {f : bd} (h : SndOk s f t) : bE s f = ⟨t, 0⟩ := by
 obtain ⟨hv, hf, hi, hd, h⟩ := h
 have hd' : ¬ s.done = true := by rw [hd]; simp
 unfold bE
 rw [if_neg (by rw [hv, hf, hi]; simp)]
 cases h with
 | data hk he hm hz hl =>
  have hw := (gK.1 hv).sn
  have he' : ¬ s.se = true := by rw [he]; simp
  have ht := fD hw (show 0 ≤ aT f.data by have := dj f.data; omega) hl
  rw [if_pos hk, if_neg (by rintro (e | e); exact hd' e; exact he' e), if_neg (by omega), if_neg (by omega), ht, if_neg (by simp)]
 | fin hk he hs hm =>
  have he' : ¬ s.se = true := by rw [he]; simp
  rw [if_neg (by omega), if_pos hk, if_neg (by rintro (e | e | e); exact hd' e; exact he' e; exact e hs), if_neg (by omega)]
 | stat hk hs hm =>
  rw [if_neg (by omega), if_neg (by omega), if_pos hk, if_neg (by rintro (e | e); exact hd' e; exact hs e), if_neg (by rintro ⟨e, e'⟩; rw [hm e] at e'; cases e'), eC, if_neg (by omega)]
 | reset hk =>
  rw [if_neg (by omega), if_neg (by omega), if_neg (by omega), if_pos hk, if_neg hd', eC, if_pos hk]
theorem nN {f : bd} (h : aQ f = 0) : ij f.kind f.num = true := by
 unfold aQ at h
 split at h
 · cases h
 · rename_i g
   simpa using fun e => g (.inr (.inr (.inr (.inl e))))
theorem mN {f : bd} (h : aQ f = 0) : eY f.kind f.strm = true := by
 unfold aQ at h
 split at h
 · cases h
 · rename_i g
   simpa using fun e => g (.inr (.inr (.inl e)))
theorem ia {f : bd} (h : aQ f = 0) : f.data.size ≤ 16384 ∧ f.strm ≤ 2147483647 := by
 unfold aQ at h
 split at h
 · cases h
 · split at h
   · cases h
   · omega
theorem mO {f : bd} (h : aQ f = 0) : 1 ≤ f.kind ∧ f.kind ≤ 9 := by
 unfold aQ at h
 split at h
 · cases h
 · omega
theorem xH {f : bd} (h : aQ f = 0) (hk : f.kind = 4) : (bA f.data).err = 0 := by
 unfold aQ at h
 split at h
 · cases h
 · split at h
   · cases h
   · repeat' split at h
     all_goals first | exact h | omega
theorem rW {f : bd} (h : aQ f = 0) (hk : f.kind = 5) : 1 ≤ f.num ∧ f.num ≤ 13 := by
 have := nN h
 unfold ij at this
 rw [if_neg (by omega), if_pos hk] at this
 exact of_decide_eq_true this
theorem VS.done {s : cJ} (h : VS s) {c : Int} {t : ByteArray} (hc : bj c t = 0) : VS (ea s c t) := by
 refine ⟨h.id, h.sd, h.sh, h.sn, h.rv, h.rq, h.rs, fun _ => ⟨rfl, rfl, hc⟩, fun e => ?_⟩
 cases e
theorem iR {s t : cJ} {f : bd} (h : SndOk s f t) : VS t := by
 obtain ⟨hv, hf, hi, hd, h⟩ := h
 have v := gK.1 hv
 obtain ⟨n1, n2, n3, n4⟩ := v.nd hd
 cases h with
 | data hk he hm hz hl =>
  have hp := dj f.data
  have rq := v.rq
  have rs := v.rs
  refine ⟨v.id, v.sd, v.sh, nM v.sn (by omega) hl, v.rv, ?_, ?_, fun e => ?_, fun _ => ?_⟩
  · unfold i7 at rq ⊢
    unfold jC at hm
    rcases v.sd with e | e
    · rw [if_pos e] at rq
      rw [if_pos (show (s.side == 1) = true by rw [e]; rfl)] at hm
      dsimp only; rw [if_pos e]; omega
    · rw [if_neg (by omega)] at rq
      dsimp only; rw [if_neg (by omega)]; exact rq
  · unfold lU at rs ⊢
    unfold jC at hm
    rcases v.sd with e | e
    · rw [if_pos e] at rs
      dsimp only; rw [if_pos e]; exact rs
    · rw [if_neg (by omega)] at rs
      rw [if_neg (show ¬ (s.side == 1) = true by rw [e]; decide)] at hm
      dsimp only; rw [if_neg (by omega)]; omega
  · dsimp only at e; rw [hd] at e; cases e
  · refine ⟨n1, fun e => ?_, n3, n4⟩
    have h2 := n2 e
    unfold i7 at h2 ⊢
    split at h2
    · dsimp only; rw [if_pos (by assumption)]; omega
    · dsimp only; rw [if_neg (by assumption)]; omega
 | fin hk he hs hm =>
  refine ⟨v.id, v.sd, v.sh, v.sn, v.rv, v.rq, v.rs, fun e => ?_, fun _ => ⟨?_, fun _ => ?_, n3, n4⟩⟩
  · dsimp only at e; rw [hd] at e; cases e
  · unfold sN at n1 ⊢; dsimp only; rw [if_pos hs] at n1 ⊢; exact n1
  · unfold i7; dsimp only; rw [if_pos hs]; exact hm
 | stat hk hs hm => exact v.done (ug (xH hf hk))
 | reset hk =>
  have := rW hf hk
  exact v.done (mM (by omega) (by omega))
structure Kept (s t : cJ) : Prop where
 id : t.id = s.id
 sd : t.side = s.side
 sh : t.shape = s.shape
 got : t.got = s.got
 rcv : t.rcv = s.rcv
 sz : t.snd.size = s.snd.size
 hd : t.snd.held = s.snd.held
theorem Kept.refl (s : cJ) : Kept s s := ⟨rfl, rfl, rfl, rfl, rfl, rfl, rfl⟩
theorem Kept.trans {a b c : cJ} (h1 : Kept a b) (h2 : Kept b c) : Kept a c := ⟨h2.id.trans h1.id, h2.sd.trans h1.sd, h2.sh.trans h1.sh, h2.got.trans h1.got, h2.rcv.trans h1.rcv, h2.sz.trans h1.sz, h2.hd.trans h1.hd⟩
theorem SndOk.kept {s t : cJ} {f : bd} (h : SndOk s f t) : Kept s t := by
 cases h.h <;> exact ⟨rfl, rfl, rfl, rfl, rfl, rfl, rfl⟩
theorem SndOk.done {s t : cJ} {f : bd} (h : SndOk s f t) (hk : f.kind = 2 ∨ f.kind = 3) : t.done = false := by
 cases h.h with
 | data => exact h.d
 | fin => exact h.d
 | stat => omega
 | reset => omega
structure More (s t : cJ) : Prop where
 id : t.id = s.id
 sd : t.side = s.side
 sh : t.shape = s.shape
 sent : t.sent = s.sent
 se : t.se = s.se
 sz : t.snd.size = s.snd.size
 hd : t.snd.held = s.snd.held
 done : t.done = s.done
 got : s.got ≤ t.got
 ge : s.ge = true → t.ge = true
 v : VS t
theorem AO {s : cJ} (h : VS s) (hh : s.snd.held = 0) : VS (f9 s) := by
 have := bi.1 h.sn
 exact ⟨h.id, h.sd, h.sh, bi.2 ⟨this.1, this.2.1, (show (0 : Int) ≤ 1048576 by decide), by rw [show (f9 s).snd.held = s.snd.held from rfl]; omega, (show (1048576 : Int) ≤ 1048576 by decide), by show 1048576 + s.snd.held ≤ 1048576; omega⟩, h.rv, h.rq, h.rs, h.dn, h.nd⟩
theorem More.early {s t : cJ} (h : More s t) (hs : s.side ≠ 1) (he : im s = false) : im t = false := by
 have e2 : ¬ t.side = 1 := by rw [h.sd]; exact hs
 have hg := h.got
 have hge := h.ge
 unfold im i7 lU pM at he ⊢
 rw [if_neg hs, if_neg hs, if_neg hs] at he
 rw [if_neg e2, if_neg e2, if_neg e2, h.sent, h.sh]
 simp only [Bool.or_eq_false_iff, decide_eq_false_iff_not, Bool.and_eq_false_iff, Bool.not_eq_false'] at he ⊢
 refine ⟨⟨by omega, he.1.2⟩, he.2.imp (fun h => h) hge⟩
theorem More.send {s t s' : cJ} {f : bd} (h : More s t) (hl : f.kind = 2 → aT f.data ≤ t.snd.left) (ho : SndOk s f s') : ∃ t', SndOk t f t' ∧ (t'.done = true ∧ s'.done = true ∨ More s' t') := by
 have hv := ho.v
 have hd := ho.d
 have hm := h.done
 have base : ∀ t', Be t f t' → SndOk t f t' := fun t' hh => ⟨gK.2 h.v, ho.fe, by rw [ho.i, h.id], by rw [h.done, hd], hh⟩
 cases ho.h with
 | data hk he hm2 hz _ =>
  have hh := base _ (.data hk (by rw [h.se, he]) (by rw [h.sent]; unfold jC at hm2 ⊢; rw [h.sd, h.sh]; exact hm2) (by rw [h.sz]; exact hz) (hl hk))
  exact ⟨_, hh, .inr ⟨h.id, h.sd, h.sh, by show t.sent + 1 = s.sent + 1; rw [h.sent], h.se, h.sz, h.hd, h.done, h.got, h.ge, iR hh⟩⟩
 | fin hk he hs hm2 =>
  have hh := base _ (.fin hk (by rw [h.se, he]) (by rw [h.sd, hs]) (by rw [h.sent, h.sh]; exact hm2))
  exact ⟨_, hh, .inr ⟨h.id, h.sd, h.sh, h.sent, rfl, h.sz, h.hd, h.done, h.got, h.ge, iR hh⟩⟩
 | stat hk hs hm2 =>
  have hh := base _ (.stat hk (by rw [h.sd]; exact hs) (fun e => h.early hs (hm2 e)))
  exact ⟨_, hh, .inl ⟨rfl, rfl⟩⟩
 | reset hk =>
  have hh := base _ (.reset hk)
  exact ⟨_, hh, .inl ⟨rfl, rfl⟩⟩
theorem More.ful {s t : cJ} (h : More s t) (h0 : t.snd.held = 0) : More (f9 s) (f9 t) :=
 ⟨h.id, h.sd, h.sh, h.sent, h.se, h.sz, h.hd, h.done, h.got, h.ge, AO h.v h0⟩
theorem ka {s : cJ} {f : bd} (h : s.done = true) : (bE s f).err ≠ 0 := fun e => by
 have := (fQ e).d
 rw [h] at this; cases this
theorem nO {s : cJ} {f : bd} {l : List bd} (h : s.done = true) : (dh (f :: l) s).err ≠ 0 := by
 have h1 : (bE (f9 s) f).err ≠ 0 := ka (s := f9 s) h
 rw [dh, if_pos h1]
 exact h1
theorem fR {s : cJ} {f : bd} {l : List bd} : (dh (f :: l) s).err = 0 ↔ (bE (f9 s) f).err = 0 ∧ (dh l (bE (f9 s) f).st).err = 0 := by
 rw [dh]
 by_cases h : (bE (f9 s) f).err = 0
 · rw [if_neg (by simpa using h)]
   exact ⟨fun e => ⟨h, e⟩, fun e => e.2⟩
 · rw [if_pos h]
   exact ⟨fun e => absurd e h, fun e => absurd e.1 h⟩
theorem ly {f : bd} : ∀ {l : List bd} {s : cJ}, (dh l s).err = 0 → (bE (dh l s).st f).err = 0 → (dh (l ++ [f]) s).err = 0
 | [], s, _, h => by
  rw [List.nil_append, fR]
  exact ⟨h, rfl⟩
 | g :: l, s, h1, h2 => by
  rw [fR] at h1
  rw [List.cons_append, fR]
  rw [dh, if_neg (by simpa using h1.1)] at h2
  exact ⟨h1.1, ly h1.2 h2⟩
theorem lz : ∀ {l : List bd} {s t : cJ}, (∀ f ∈ l, aT f.data ≤ 1048576) → More s t → t.snd.held = 0 → (dh l s).err = 0 → (dh l t).err = 0
 | [], _, _, _, _, _, _ => rfl
 | f :: l, s, t, hc, hm, h0, h => by
  rw [fR] at h ⊢
  obtain ⟨t', h1, h2⟩ := (hm.ful h0).send (fun _ => by show _ ≤ (1048576 : Int); exact hc f (List.mem_cons_self ..)) (fQ h.1)
  have e1 := jN h1
  rw [e1]
  refine ⟨rfl, ?_⟩
  have hc' := fun x hx => hc x (List.mem_cons_of_mem f hx)
  rcases h2 with ⟨h2, h3⟩ | h2
  · cases l with
    | nil => rfl
    | cons g l => exact absurd h.2 (nO h3)
  · refine lz hc' h2 ?_ h.2
    show t'.snd.held = 0
    rw [h1.kept.hd]; exact h0
theorem lA : ∀ {l : List bd} {s : cJ}, (dh l s).err = 0 → ∀ f ∈ l, aT f.data ≤ 1048576
 | [], _, _, _, hg => by cases hg
 | f :: l, s, h, g, hg => by
  rw [fR] at h
  rcases List.mem_cons.1 hg with rfl | hg
  · have := (ia (fQ h.1).fe).1
    unfold aT
    split <;> omega
  · exact lA h.2 g hg
theorem xI : ∀ {l : List bd} {s : cJ}, (dh l s).err = 0 → ∀ f ∈ l, aQ f = 0 ∧ f.strm = s.id
 | [], _, _, _, hg => by cases hg
 | f :: l, s, h, g, hg => by
  rw [fR] at h
  rcases List.mem_cons.1 hg with rfl | hg
  · exact ⟨(fQ h.1).fe, (fQ h.1).i⟩
  · have := xI h.2 g hg
    exact ⟨this.1, this.2.trans (fQ h.1).kept.id⟩
theorem rX {s : cJ} {f : bd} (v : VS s) (hl : f.kind = 2 → aT f.data ≤ s.snd.left) (h : (bE (f9 s) f).err = 0) : SndOk s f (bE s f).st ∧ (bE s f).err = 0 ∧ ((bE s f).st.done = true ∧ (bE (f9 s) f).st.done = true ∨ More (bE (f9 s) f).st (bE s f).st) := by
 have hm : More (f9 s) s := ⟨rfl, rfl, rfl, rfl, rfl, rfl, rfl, rfl, Int.le_refl _, fun h => h, v⟩
 obtain ⟨t', h1, h2⟩ := hm.send hl (fQ h)
 have e1 := jN h1
 rw [e1]
 exact ⟨h1, rfl, h2⟩
end Go.Proofs.YthiocbcokfondaaGreatDoor.Y
namespace Go.Proofs.YthiocbcokfondaaGreatDoor.Y
inductive AP (s : cJ) (f : bd) : cJ → Prop
 | old (hd : s.done = true) : AP s f s
 | data (hd : s.done = false) (hk : f.kind = 2) (he : s.ge = false) (hm : s.got < jC s (s.side != 1)) (hz : aT f.data ≤ s.rcv.size) (hl : aT f.data ≤ s.rcv.left) : AP s f { s with got := s.got + 1, rcv := ⟨s.rcv.size, s.rcv.left - aT f.data, s.rcv.held + aT f.data⟩ }
 | fin (hd : s.done = false) (hk : f.kind = 3) (he : s.ge = false) (hs : s.side ≠ 1) (hm : c1 s.shape ≤ s.got) : AP s f { s with ge := true }
 | stat (hd : s.done = false) (hk : f.kind = 4) (hs : s.side = 1) (hm : (bA f.data).code = 0 → im s = false) : AP s f (ea s (bA f.data).code (bA f.data).text)
 | reset (hd : s.done = false) (hk : f.kind = 5) : AP s f (ea s f.num ⟨#[]⟩)
 | win (hd : s.done = false) (hk : f.kind = 6) (hm : f.num ≤ 1048576 - s.snd.left - s.snd.held) (hn : 1 ≤ f.num) : AP s f { s with snd := ⟨s.snd.size, s.snd.left + f.num, s.snd.held⟩ }
structure RcvOk (s : cJ) (f : bd) (t : cJ) : Prop where
 v : dY s = true
 fe : aQ f = 0
 i : f.strm = s.id
 k : 2 ≤ f.kind ∧ f.kind ≤ 6
 h : AP s f t
theorem xJ {s : cJ} {f : bd} (h : (bY s f).err = 0) : RcvOk s f (bY s f).st := by
 unfold bY at h ⊢
 split at h
 · cases h
 rename_i g0
 rw [if_neg g0]
 have hv : dY s = true := by simpa using fun e => g0 (.inl e)
 have hf : aQ f = 0 := Decidable.not_not.1 fun e => g0 (.inr (.inl e))
 have hi : f.strm = s.id := Decidable.not_not.1 fun e => g0 (.inr (.inr (.inl e)))
 have hkk : 2 ≤ f.kind ∧ f.kind ≤ 6 := by
  have := fun e => g0 (.inr (.inr (.inr e)))
  omega
 refine ⟨hv, hf, hi, hkk, ?_⟩
 split at h
 · rename_i hd
   rw [if_pos hd]
   exact .old hd
 rename_i hd
 rw [if_neg hd]
 have hd' : s.done = false := eq_false_of_ne_true hd
 split at h
 · rename_i hk
   rw [if_pos hk]
   split at h
   · cases h
   rename_i g1
   rw [if_neg g1]
   split at h
   · cases h
   rename_i g2
   rw [if_neg g2]
   split at h
   · cases h
   rename_i g3
   rw [if_neg g3]
   split at h
   · rename_i g4; exact absurd h g4
   rename_i g4
   rw [if_neg g4]
   obtain ⟨_, _, t3, t4⟩ := zu (Decidable.not_not.1 g4)
   rw [t4]
   exact .data hd' hk (eq_false_of_ne_true g1) (by omega) (by omega) t3
 · rename_i hk2
   rw [if_neg hk2]
   split at h
   · rename_i hk
     rw [if_pos hk]
     split at h
     · cases h
     rename_i g1
     rw [if_neg g1]
     split at h
     · cases h
     rename_i g2
     rw [if_neg g2]
     exact .fin hd' hk (eq_false_of_ne_true fun e => g1 (.inl e)) (fun e => g1 (.inr e)) (by omega)
   · rename_i hk3
     rw [if_neg hk3]
     split at h
     · rename_i hk
       rw [if_pos hk]
       split at h
       · cases h
       rename_i g1
       rw [if_neg g1]
       split at h
       · cases h
       rename_i g2
       rw [if_neg g2, eC, if_neg (by omega)]
       exact .stat hd' hk (Decidable.not_not.1 g1) (fun e => eq_false_of_ne_true fun e' => g2 ⟨e, e'⟩)
     · rename_i hk4
       rw [if_neg hk4]
       split at h
       · rename_i hk
         rw [if_pos hk, eC, if_pos hk]
         exact .reset hd' hk
       · rename_i hk5
         rw [if_neg hk5]
         split at h
         · rename_i g; exact absurd h g
         rename_i g
         rw [if_neg g]
         obtain ⟨_, t2, t3, t4⟩ := lw (Decidable.not_not.1 g)
         rw [t4]
         exact .win hd' (by omega) t3 t2
theorem rY {s t : cJ} {f : bd} (h : RcvOk s f t) : bY s f = ⟨t, 0⟩ := by
 obtain ⟨hv, hf, hi, hkk, h⟩ := h
 have v := gK.1 hv
 unfold bY
 rw [if_neg (by rw [hv, hf, hi]; simp; omega)]
 have nd : ∀ {d}, d = false → ¬ d = true := fun e e' => by rw [e] at e'; cases e'
 cases h with
 | old hd => rw [if_pos hd]
 | data hd hk he hm hz hl =>
  have ht := ql v.rv (show 0 ≤ aT f.data by have := dj f.data; omega) hl
  rw [if_neg (nd hd), if_pos hk, if_neg (nd he), if_neg (by omega), if_neg (by omega), ht, if_neg (by simp)]
 | fin hd hk he hs hm => rw [if_neg (nd hd), if_neg (by omega), if_pos hk, if_neg (by rintro (e | e); exact nd he e; exact hs e), if_neg (by omega)]
 | stat hd hk hs hm => rw [if_neg (nd hd), if_neg (by omega), if_neg (by omega), if_pos hk, if_neg (by simpa using hs), if_neg (by rintro ⟨e, e'⟩; rw [hm e] at e'; cases e'), eC, if_neg (by omega)]
 | reset hd hk => rw [if_neg (nd hd), if_neg (by omega), if_neg (by omega), if_neg (by omega), if_pos hk, eC, if_pos hk]
 | win hd hk hm hn => rw [if_neg (nd hd), if_neg (by omega), if_neg (by omega), if_neg (by omega), if_neg (by omega), xG v.sn hn hm, if_neg (by simp)]
theorem rZ {s t : cJ} {f : bd} (h : RcvOk s f t) : VS t := by
 obtain ⟨hv, hf, hi, hkk, h⟩ := h
 have v := gK.1 hv
 cases h with
 | old => exact v
 | data hd hk he hm hz hl =>
  have hp := dj f.data
  have rq := v.rq
  have rs := v.rs
  obtain ⟨n1, n2, n3, n4⟩ := v.nd hd
  refine ⟨v.id, v.sd, v.sh, v.sn, qm v.rv (by omega) hl, ?_, ?_, fun e => ?_, fun _ => ?_⟩
  · unfold i7 at rq ⊢
    unfold jC at hm
    rcases v.sd with e | e
    · rw [if_pos e] at rq
      dsimp only; rw [if_pos e]; exact rq
    · rw [if_neg (by omega)] at rq
      rw [if_pos (show (s.side != 1) = true by rw [e]; decide)] at hm
      dsimp only; rw [if_neg (by omega)]; omega
  · unfold lU at rs ⊢
    unfold jC at hm
    rcases v.sd with e | e
    · rw [if_pos e] at rs
      rw [if_neg (show ¬ (s.side != 1) = true by rw [e]; decide)] at hm
      dsimp only; rw [if_pos e]; omega
    · rw [if_neg (by omega)] at rs
      dsimp only; rw [if_neg (by omega)]; exact rs
  · dsimp only at e; rw [hd] at e; cases e
  · refine ⟨n1, fun e => ?_, n3, n4⟩
    have h2 := n2 e
    unfold i7 at h2 ⊢
    split at h2
    · dsimp only; rw [if_pos (by assumption)]; omega
    · dsimp only; rw [if_neg (by assumption)]; omega
 | fin hd hk he hs hm =>
  obtain ⟨n1, n2, n3, n4⟩ := v.nd hd
  refine ⟨v.id, v.sd, v.sh, v.sn, v.rv, v.rq, v.rs, fun e => ?_, fun _ => ⟨?_, fun _ => ?_, n3, n4⟩⟩
  · dsimp only at e; rw [hd] at e; cases e
  · unfold sN at n1 ⊢; dsimp only; rw [if_neg hs] at n1 ⊢; exact n1
  · unfold i7; dsimp only; rw [if_neg hs]; exact hm
 | stat hd hk hs hm => exact v.done (ug (xH hf hk))
 | reset hd hk =>
  have := rW hf hk
  exact v.done (mM (by omega) (by omega))
 | win hd hk hm hn =>
  obtain ⟨n1, n2, n3, n4⟩ := v.nd hd
  exact ⟨v.id, v.sd, v.sh, lx v.sn hn hm, v.rv, v.rq, v.rs, fun e => (by dsimp only at e; rw [hd] at e; cases e), fun _ => ⟨n1, n2, n3, n4⟩⟩
structure BU (s t : cJ) : Prop where
 id : t.id = s.id
 sd : t.side = s.side
 sh : t.shape = s.shape
 sz : t.snd.size = s.snd.size
 hd : t.snd.held = s.snd.held
 rz : t.rcv.size = s.rcv.size
theorem RcvOk.kept {s t : cJ} {f : bd} (h : RcvOk s f t) : BU s t := by
 cases h.h <;> exact ⟨rfl, rfl, rfl, rfl, rfl, rfl⟩
theorem RcvOk.more {s t : cJ} {f : bd} (h : RcvOk s f t) (hd : t.done = false) : More s t := by
 have v := rZ h
 cases h.h with
 | old hd' => exact ⟨rfl, rfl, rfl, rfl, rfl, rfl, rfl, rfl, Int.le_refl _, fun h => h, v⟩
 | data hd' hk he hm hz hl => exact ⟨rfl, rfl, rfl, rfl, rfl, rfl, rfl, rfl, by show s.got ≤ s.got + 1; omega, fun h => h, v⟩
 | fin hd' hk he hs hm => exact ⟨rfl, rfl, rfl, rfl, rfl, rfl, rfl, rfl, Int.le_refl _, fun _ => rfl, v⟩
 | stat => cases hd
 | reset => cases hd
 | win hd' hk hm hn => exact ⟨rfl, rfl, rfl, rfl, rfl, rfl, rfl, rfl, Int.le_refl _, fun h => h, v⟩
theorem RcvOk.keepDone {s t : cJ} {f : bd} (h : RcvOk s f t) (hd : s.done = true) : t = s := by
 cases h.h with
 | old => rfl
 | data hd' => rw [hd] at hd'; cases hd'
 | fin hd' => rw [hd] at hd'; cases hd'
 | stat hd' => rw [hd] at hd'; cases hd'
 | reset hd' => rw [hd] at hd'; cases hd'
 | win hd' => rw [hd] at hd'; cases hd'
theorem kb (f : bd) : 0 ≤ bz f := by
 unfold bz
 have := dj f.data
 split <;> omega
theorem jh {f : bd} (h : f.kind = 2) : bz f = aT f.data := by unfold bz; rw [if_pos h]
def aX (l : List bd) : Int := (l.map bz).sum
theorem cq : aX [] = 0 := rfl
theorem ie (f : bd) (l : List bd) : aX (f :: l) = bz f + aX l := by unfold aX; simp
theorem gL (a b : List bd) : aX (a ++ b) = aX a + aX b := by unfold aX; simp
theorem cU : ∀ l : List bd, 0 ≤ aX l
 | [] => Int.le_refl _
 | f :: l => by rw [ie]; have := cU l; have := kb f; omega
def Cj (w : bm) (n : Int) : bm := ⟨w.size, w.left - n, w.held⟩
inductive AQ : List bd → cJ → bm → List bd → cJ → bm → List bd → Prop
 | nil {s : cJ} {w : bm} : AQ [] s w [] s w []
 | stop {f : bd} {r : List bd} {s : cJ} {w : bm} (h : s.snd.left < bz f ∨ w.left < bz f) : AQ (f :: r) s w [] s w (f :: r)
 | step {f : bd} {r q rest : List bd} {s t s' : cJ} {w w' : bm} (h1 : bz f ≤ s.snd.left) (h2 : bz f ≤ w.left) (h3 : SndOk s f t) (h4 : AQ r t (Cj w (bz f)) q s' w' rest) : AQ (f :: r) s w (f :: q) s' w' rest
theorem r5 {s t : cJ} {f : bd} {r : List bd} (v : VS s) (h0 : s.snd.held = 0) (hl : bz f ≤ s.snd.left) (h : (dh (f :: r) s).err = 0) (ht : SndOk s f t) : (dh r t).err = 0 ∧ (t.done = true → r = []) := by
 rw [fR] at h
 obtain ⟨_, h2, h3⟩ := rX v (fun hk => by rw [← jh hk]; exact hl) h.1
 rw [jN ht] at h3
 dsimp only at h3
 have hr : t.done = true → r = [] := fun hd => by
  have h4 : (bE (f9 s) f).st.done = true := by
   rcases h3 with h3 | h3
   · exact h3.2
   · rw [← h3.done]; exact hd
  cases r with
  | nil => rfl
  | cons g r => exact absurd h.2 (nO h4)
 refine ⟨?_, hr⟩
 rcases h3 with h3 | h3
 · rw [hr h3.1]; rfl
 · exact lz (lA h.2) h3 (by rw [ht.kept.hd]; exact h0) h.2
theorem xK : ∀ (l : List bd) (s : cJ) (w : bm) (o : List bd), VS s → s.snd.held = 0 → bq w = true → (dh l s).err = 0 → ∃ q, AQ l s w q (jW l s w o).st (jW l s w o).w (jW l s w o).ob ∧ (jW l s w o).ou = o ++ q
 | [], s, w, o, _, _, _, _ => ⟨[], .nil, by rw [jW]; simp⟩
 | f :: r, s, w, o, v, h0, hw, h => by
  rw [jW]
  by_cases hA : s.snd.left < bz f ∨ w.left < bz f
  · rw [if_pos hA]
    exact ⟨[], .stop hA, by simp⟩
  have h1 : bz f ≤ s.snd.left := by omega
  have h2 : bz f ≤ w.left := by omega
  obtain ⟨g1, g2, _⟩ := rX v (fun hk => by rw [← jh hk]; exact h1) (fR.1 h).1
  obtain ⟨g3, g4⟩ := r5 v h0 h1 h g1
  have ht := fD hw (kb f) h2
  have hw' : bq (Cj w (bz f)) = true := nM hw (kb f) h2
  rw [if_neg hA, if_neg (by rw [g2]; simp), if_neg (by rw [ht]; simp), ht]
  dsimp only
  cases hd : (bE s f).st.done with
  | true =>
   rw [if_pos rfl]
   rw [g4 hd]
   exact ⟨[f], .step h1 h2 g1 .nil, rfl⟩
  | false =>
   rw [if_neg (by simp)]
   obtain ⟨q, i1, i2⟩ := xK r (bE s f).st (Cj w (bz f)) (o ++ [f]) (iR g1) (by rw [g1.kept.hd]; exact h0) hw' g3
   exact ⟨f :: q, .step h1 h2 g1 i1, by rw [show (⟨w.size, w.left - bz f, w.held⟩ : bm) = Cj w (bz f) from rfl, i2]; simp⟩
structure BV (l : List bd) (s : cJ) (w : bm) (q : List bd) (s' : cJ) (w' : bm) (rest : List bd) : Prop where
 vs : VS s'
 kp : Kept s s'
 wk : bq w' = true
 ws : w'.size = w.size
 wh : w'.held = w.held
 wl : w'.left = w.left - aX q
 sp : l = q ++ rest
 ah : (dh rest s').err = 0
 st : ∀ f r, rest = f :: r → s'.snd.left < bz f ∨ w'.left < bz f
 dn : s'.done = true → rest = []
 fr : ∀ f ∈ q, aQ f = 0 ∧ f.strm = s.id
 sl : s'.snd.left = s.snd.left - aX q
theorem vm : ∀ {l : List bd} {s : cJ} {w : bm} {q : List bd} {s' : cJ} {w' : bm} {rest : List bd}, AQ l s w q s' w' rest → VS s → s.snd.held = 0 → bq w = true → (dh l s).err = 0 → (∀ f ∈ l, f.kind = 2 ∨ f.kind = 3 ∨ f.kind = 4) → BV l s w q s' w' rest := by
 intro l s w q s' w' rest h
 induction h with
 | nil => intro v h0 hw ha hk; exact ⟨v, Kept.refl _, hw, rfl, rfl, by rw [cq]; omega, rfl, ha, fun f r e => (by cases e), fun _ => rfl, fun f hf => (by cases hf), by rw [cq]; omega⟩
 | @stop f r s w hst =>
  intro v h0 hw ha hk
  refine ⟨v, Kept.refl _, hw, rfl, rfl, by rw [cq]; omega, rfl, ha, fun g r' e => ?_, fun hd => absurd ha (nO hd), fun f hf => (by cases hf), by rw [cq]; omega⟩
  obtain ⟨rfl, rfl⟩ := (by simpa using e : f = g ∧ r = r')
  exact hst
 | @step f r q rest s t s' w w' h1 h2 h3 h4 ih =>
  intro v h0 hw ha hk
  obtain ⟨g1, g2⟩ := r5 v h0 h1 ha h3
  have i := ih (iR h3) (by rw [h3.kept.hd]; exact h0) (nM hw (kb f) h2) g1 (fun x hx => hk x (List.mem_cons_of_mem _ hx))
  have wl := i.wl
  have sl := i.sl
  refine ⟨i.vs, h3.kept.trans i.kp, i.wk, i.ws, i.wh, ?_, by rw [i.sp]; rfl, i.ah, i.st, i.dn, fun x hx => ?_, ?_⟩
  · rw [ie]
    show w'.left = _
    rw [wl]
    show w.left - bz f - aX q = _
    omega
  · rcases List.mem_cons.1 hx with rfl | hx
    · exact ⟨h3.fe, h3.i⟩
    · exact ⟨(i.fr x hx).1, (i.fr x hx).2.trans h3.kept.id⟩
  · rw [ie, sl]
    have e : t.snd.left = s.snd.left - bz f := by
     have hkf := hk f (List.mem_cons_self ..)
     cases h3.h with
     | data hk => rw [jh hk]
     | fin hk => rw [bz, if_neg (by omega)]; show s.snd.left = _; omega
     | stat hk => rw [bz, if_neg (by omega)]; show s.snd.left = _; omega
     | reset hk => omega
    omega
end Go.Proofs.YthiocbcokfondaaGreatDoor.Y
namespace Go.Proofs.YthiocbcokfondaaGreatDoor.Y
structure PK (sd sz la : Int) (k : KR) : Prop where
 vs : VS k.st
 sd : k.st.side = sd
 z1 : k.st.snd.size = sz
 z2 : k.st.rcv.size = sz
 h0 : k.st.snd.held = 0
 he : bk k.hd = 0
 ib : ∀ m ∈ k.ib, m.size ≤ 16384
 la : k.st.id ≤ la
 dn : k.st.done = true → k.ob = []
 un : k.st.done = false → aZ k.ib ≤ k.st.rcv.held
 ah : k.st.done = false → (dh k.ob k.st).err = 0
 kd : ∀ f ∈ k.ob, f.kind = 2 ∨ f.kind = 3 ∨ f.kind = 4
def NF (sw : bm) (k : KR) : Prop := ∀ f r, k.ob = f :: r → k.st.snd.left < bz f ∨ sw.left < bz f
theorem PK.ahd {sd sz la : Int} {k : KR} (h : PK sd sz la k) : (dh k.ob k.st).err = 0 := by
 cases hd : k.st.done with
 | true => rw [h.dn hd]; rfl
 | false => exact h.ah hd
theorem PK.la' {sd sz la la' : Int} {k : KR} (h : PK sd sz la k) (hl : la ≤ la') : PK sd sz la' k := ⟨h.vs, h.sd, h.z1, h.z2, h.h0, h.he, h.ib, Int.le_trans h.la hl, h.dn, h.un, h.ah, h.kd⟩
structure VB (c : NL) : Prop where
 sd : c.sd = 1 ∨ c.sd = 2
 sz : 1 ≤ c.sz ∧ c.sz ≤ 1048576
 sw : bq c.sw = true
 rw : bq c.rw = true
 ss : c.sw.size = c.sz
 rs : c.rw.size = c.sz
 sh : c.sw.held = 0
 la : 0 ≤ c.la ∧ c.la ≤ 2147483647
 aw : 0 ≤ c.aw ∧ c.aw ≤ 2147483648
 n1 : c.sd = 1 → c.nx = c.la + 1
 n2 : c.sd = 2 → c.nx = 1 ∧ c.aw ≤ c.la + 1
 pg : c.pg.length ≤ 16
 pn : ∀ n ∈ c.pg, 0 ≤ n ∧ n ≤ 4294967295
 cn : dS c.ks ≤ 64
 pk : ∀ k ∈ c.ks, PK c.sd c.sz c.la k
 asc : (c.ks.map (·.st.id)).Pairwise (· < ·)
 ou : ∀ f ∈ c.ou, aQ f = 0
 cl : c.cl = true → c.ou = [] ∧ dS c.ks = 0
 tt : bh c.ks ≤ c.rw.held
structure VN (c : NL) : Prop extends VB c where
 nf : ∀ k ∈ c.ks, NF c.sw k
theorem eJ : ∀ l : List ByteArray, 0 ≤ aZ l
 | [] => Int.le_refl _
 | s :: r => by rw [aZ]; have := eJ r; have := dj s; omega
theorem jO (s : ByteArray) : ∀ l : List ByteArray, aZ (l ++ [s]) = aZ l + aT s
 | [] => by simp [aZ]
 | a :: r => by rw [List.cons_append, aZ, jO s r, aZ]; omega
theorem en : ∀ l : List KR, 0 ≤ bh l
 | [] => Int.le_refl _
 | k :: r => by rw [bh]; have := en r; have := eJ k.ib; omega
theorem r6 : ∀ a b : List KR, bh (a ++ b) = bh a + bh b
 | [], b => by simp [bh]
 | k :: a, b => by rw [List.cons_append, bh, r6 a b, bh]; omega
theorem dk {k' k : KR} : ∀ {l : List KR} {i : Nat}, l[i]? = some k → bh (l.set i k') = bh l - aZ k.ib + aZ k'.ib
 | a :: l, 0, h => by
  obtain rfl := (by simpa using h : a = k)
  rw [List.set_cons_zero, bh, bh]; omega
 | a :: l, i + 1, h => by
  have h1 : l[i]? = some k := by simpa using h
  rw [List.set_cons_succ, bh, dk h1, bh]; omega
theorem kP {k : KR} : ∀ {l : List KR} {i : Nat}, l[i]? = some k → bh (l.eraseIdx i) = bh l - aZ k.ib
 | a :: l, 0, h => by
  obtain rfl := (by simpa using h : a = k)
  rw [List.eraseIdx_cons_zero, bh]; omega
 | a :: l, i + 1, h => by
  have h1 : l[i]? = some k := by simpa using h
  rw [List.eraseIdx_cons_succ, bh, kP h1, bh]; omega
theorem ui {k' k : KR} (hd : k.st.done = true → k'.st.done = true) : ∀ {l : List KR} {i : Nat}, l[i]? = some k → dS (l.set i k') ≤ dS l
 | a :: l, 0, h => by
  obtain rfl := (by simpa using h : a = k)
  rw [List.set_cons_zero]
  unfold dS
  rw [List.countP_cons, List.countP_cons]
  cases h1 : a.st.done with
  | true => rw [hd h1]; simp
  | false => simp; split <;> omega
 | a :: l, i + 1, h => by
  have h1 : l[i]? = some k := by simpa using h
  have := ui hd h1
  unfold dS at this ⊢
  rw [List.set_cons_succ, List.countP_cons, List.countP_cons]
  omega
theorem tn {k' k : KR} (hid : k'.st.id = k.st.id) {l : List KR} {i : Nat} (h : l[i]? = some k) : (l.set i k').map (·.st.id) = l.map (·.st.id) := by
 rw [List.map_set, hid]
 obtain ⟨h1, h2⟩ := List.getElem?_eq_some_iff.1 h
 apply List.ext_getElem?
 intro j
 by_cases hj : i = j
 · subst hj
   rw [List.getElem?_set_self (by rw [List.length_map]; exact h1), List.getElem?_map, h]; rfl
 · rw [List.getElem?_set_ne hj]
theorem r7 {k' x : KR} {l : List KR} {i : Nat} (h : x ∈ l.set i k') : x = k' ∨ x ∈ l := by
 rcases List.mem_or_eq_of_mem_set h with h | h
 · exact .inr h
 · exact .inl h
theorem VB.upd {c : NL} (h : VB c) {i : Nat} {k k' : KR} (hi : c.ks[i]? = some k) (hp : PK c.sd c.sz c.la k') (hid : k'.st.id = k.st.id) (hdn : k.st.done = true → k'.st.done = true) {sw' rw' : bm} {ou' : List bd}
 (w1 : bq sw' = true) (w2 : sw'.size = c.sz) (w3 : sw'.held = 0) (r1 : bq rw' = true) (r2 : rw'.size = c.sz) (ho : ∀ f ∈ ou', aQ f = 0) (hcl : c.cl = true → ou' = []) (ht : bh (c.ks.set i k') ≤ rw'.held) :
 VB { c with sw := sw', rw := rw', ks := c.ks.set i k', ou := ou' } := by
 have hc := ui hdn hi
 exact ⟨h.sd, h.sz, w1, r1, w2, r2, w3, h.la, h.aw, h.n1, h.n2, h.pg, h.pn, Nat.le_trans hc h.cn, fun x hx => (r7 hx).elim (fun e => e ▸ hp) (h.pk x), by
  show ((c.ks.set i k').map (·.st.id)).Pairwise (· < ·)
  rw [tn hid hi]; exact h.asc, ho, fun e => ⟨hcl e, by have := (h.cl e).2; show dS (c.ks.set i k') = 0; omega⟩, ht⟩
theorem NF.less {sw sw' : bm} {k : KR} (h : NF sw k) (hl : sw'.left ≤ sw.left) : NF sw' k := fun f r e => (h f r e).imp id (fun h => by omega)
theorem VN.upd {c : NL} (h : VN c) {i : Nat} {k k' : KR} (hi : c.ks[i]? = some k) (hp : PK c.sd c.sz c.la k') (hid : k'.st.id = k.st.id) (hdn : k.st.done = true → k'.st.done = true) {sw' rw' : bm} {ou' : List bd}
 (w1 : bq sw' = true) (w2 : sw'.size = c.sz) (w3 : sw'.held = 0) (w4 : sw'.left ≤ c.sw.left) (hn : NF sw' k') (r1 : bq rw' = true) (r2 : rw'.size = c.sz) (ho : ∀ f ∈ ou', aQ f = 0) (hcl : c.cl = true → ou' = []) (ht : bh (c.ks.set i k') ≤ rw'.held) :
 VN { c with sw := sw', rw := rw', ks := c.ks.set i k', ou := ou' } :=
 ⟨h.toVB.upd hi hp hid hdn w1 w2 w3 r1 r2 ho hcl ht, fun x hx => (r7 hx).elim (fun e => e ▸ hn) (fun hx => (h.nf x hx).less w4)⟩
theorem dQ {c : NL} {i : Nat} {k : KR} (h : c.ks[i]? = some k) : ld c i = k := by unfold ld; rw [h]; rfl
theorem bQ {c : NL} {i : Nat} {k : KR} (h : c.ks[i]? = some k) (g : KR → KR) : eb c i g = { c with ks := c.ks.set i (g k) } := by unfold eb; rw [dQ h]
theorem uj {c : NL} (h : VB c) (hc : c.cl = true) : ∀ k ∈ c.ks, k.st.done = true := fun k hk => by
 have h1 := (h.cl hc).2
 unfold dS at h1
 have := List.countP_eq_zero.1 h1 k hk
 simpa using this
structure CB (c : NL) (k : KR) (q : List bd) (r : Ce) : Prop where
 run : AQ k.ob k.st c.sw q r.st r.w r.ob
 fac : BV k.ob k.st c.sw q r.st r.w r.ob
 ou : r.ou = c.ou ++ q
 pk : PK c.sd c.sz c.la { k with st := r.st, ob := r.ob }
 nf : NF r.w { k with st := r.st, ob := r.ob }
 dn : k.st.done = true → r.st.done = true ∧ q = []
theorem qn {c : NL} {k : KR} (hw : bq c.sw = true) (h : PK c.sd c.sz c.la k) : ∃ q, CB c k q (jW k.ob k.st c.sw c.ou) := by
 obtain ⟨q, hr, ho⟩ := xK k.ob k.st c.sw c.ou h.vs h.h0 hw h.ahd
 have hf := vm hr h.vs h.h0 hw h.ahd h.kd
 have hdn : k.st.done = true → (jW k.ob k.st c.sw c.ou).st.done = true ∧ q = [] := fun hd => by
  have e := h.dn hd
  rw [e]
  refine ⟨hd, ?_⟩
  rw [e, jW] at hr
  cases hr; rfl
 generalize jW k.ob k.st c.sw c.ou = r at *
 refine ⟨q, hr, hf, ho, ?_, hf.st, hdn⟩
 refine ⟨hf.vs, by rw [← h.sd]; exact hf.kp.sd, by rw [← h.z1]; exact hf.kp.sz, by rw [← h.z2]; show r.st.rcv.size = _; rw [hf.kp.rcv], by rw [← h.h0]; exact hf.kp.hd, h.he, h.ib, by rw [show ({ k with st := r.st, ob := r.ob } : KR).st.id = k.st.id from hf.kp.id]; exact h.la, hf.dn, fun hd => ?_, fun _ => hf.ah, fun f hx => h.kd f (by rw [hf.sp]; exact List.mem_append_right _ hx)⟩
 show aZ k.ib ≤ r.st.rcv.held
 rw [hf.kp.rcv]
 cases hd0 : k.st.done with
 | true => rw [(hdn hd0).1] at hd; cases hd
 | false => exact h.un hd0
theorem gr {c : NL} {i : Nat} {k : KR} (h : c.ks[i]? = some k) : eM c i = { c with sw := (jW k.ob k.st c.sw c.ou).w, ks := c.ks.set i { k with st := (jW k.ob k.st c.sw c.ou).st, ob := (jW k.ob k.st c.sw c.ou).ob }, ou := (jW k.ob k.st c.sw c.ou).ou } := by
 unfold eM uF
 rw [dQ h, bQ h]
theorem VB.son {c : NL} (h : VB c) {i : Nat} {k : KR} (hi : c.ks[i]? = some k) : VB (eM c i) ∧ (eM c i).sw.left ≤ c.sw.left ∧ (∀ k', (eM c i).ks[i]? = some k' → NF (eM c i).sw k') := by
 have hk := h.pk k (List.mem_of_getElem? hi)
 obtain ⟨q, hf⟩ := qn h.sw hk
 rw [gr hi]
 generalize jW k.ob k.st c.sw c.ou = r at *
 have hq := cU q
 have hl := hf.fac.wl
 refine ⟨?_, ?_, fun k' h' => ?_⟩
 · refine h.upd (rw' := c.rw) hi hf.pk hf.fac.kp.id (fun e => (hf.dn e).1) hf.fac.wk (by rw [hf.fac.ws]; exact h.ss) (by rw [hf.fac.wh]; exact h.sh) h.rw h.rs (fun f hx => ?_) (fun e => ?_) ?_
   · rw [hf.ou] at hx
     rcases List.mem_append.1 hx with hx | hx
     · exact h.ou f hx
     · exact (hf.fac.fr f hx).1
   · have hd := uj h e k (List.mem_of_getElem? hi)
     rw [hf.ou, (hf.dn hd).2, (h.cl e).1]; rfl
   · rw [dk hi]
     have := h.tt
     show bh c.ks - aZ k.ib + aZ k.ib ≤ c.rw.held
     omega
 · show r.w.left ≤ c.sw.left; omega
 · have h1 : i < c.ks.length := (List.getElem?_eq_some_iff.1 hi).1
   have h2 : (c.ks.set i { k with st := r.st, ob := r.ob })[i]? = some k' := h'
   rw [List.getElem?_set_self h1] at h2
   obtain rfl := Option.some.inj h2
   exact hf.nf
theorem VN.son {c : NL} (h : VB c) {i : Nat} {k : KR} (hi : c.ks[i]? = some k) (hn : ∀ j k', j ≠ i → c.ks[j]? = some k' → NF c.sw k') : VN (eM c i) := by
 obtain ⟨h1, h2, h3⟩ := h.son hi
 refine ⟨h1, fun x hx => ?_⟩
 obtain ⟨j, hj⟩ := List.getElem?_of_mem hx
 by_cases e : j = i
 · subst e; exact h3 x hj
 · refine (hn j x e ?_).less h2
   rw [gr hi] at hj
   rw [← hj]
   exact (List.getElem?_set_ne (fun e' => e e'.symm)).symm
end Go.Proofs.YthiocbcokfondaaGreatDoor.Y
namespace Go.Proofs.YthiocbcokfondaaGreatDoor.Y
theorem C7 {id n : Int} (h0 : 0 ≤ id) (h1 : id ≤ 2147483647) (h2 : 1 ≤ n) (h3 : n ≤ 1048576) : aQ ⟨6, id, n, emptyB⟩ = 0 := by
 unfold aQ eY ij gS
 have e : emptyB.size = 0 := rfl
 simp [e]; omega
theorem CC {id n : Int} (h0 : 1 ≤ id) (h1 : id ≤ 2147483647) (h2 : 1 ≤ n) (h3 : n ≤ 13) : aQ ⟨5, id, n, emptyB⟩ = 0 := by
 unfold aQ eY ij gS
 have e : emptyB.size = 0 := rfl
 simp [e]; omega
theorem Dq {n : Int} (h2 : 0 ≤ n) (h3 : n ≤ 2147483647) : aQ ⟨9, 0, n, emptyB⟩ = 0 := by
 unfold aQ eY ij gS
 have e : emptyB.size = 0 := rfl
 simp [e]; omega
theorem Dr {n : Int} (h2 : 0 ≤ n) (h3 : n ≤ 4294967295) : aQ ⟨8, 0, n, emptyB⟩ = 0 := by
 unfold aQ eY ij gS
 have e : emptyB.size = 0 := rfl
 simp [e]; omega
theorem d7 {id : Int} {l : List KR} {i : Nat} (h : cX id l 0 = some i) : ∃ k, l[i]? = some k ∧ k.st.id = id := by
 have key : ∀ (l : List KR) (a i : Nat), cX id l a = some i → a ≤ i ∧ ∃ k, l[i - a]? = some k ∧ k.st.id = id := by
  intro l
  induction l with
  | nil => intro a i h; cases h
  | cons k r ih =>
   intro a i h
   unfold cX at h
   split at h
   · obtain rfl := (by simpa using h : a = i)
     exact ⟨Nat.le_refl _, k, by simp, by assumption⟩
   · obtain ⟨h1, k', h2, h3⟩ := ih (a + 1) i h
     refine ⟨by omega, k', ?_, h3⟩
     rw [show i - a = i - (a + 1) + 1 by omega]
     simpa using h2
 obtain ⟨_, h2⟩ := key l 0 i h
 exact h2
theorem lB {w : bm} (h : bq w = true) {u : Int} (_h0 : 0 ≤ u) (h1 : u ≤ w.held) : 0 ≤ ec w u ∧ ec w u ≤ w.held - u := by
 have := bi.1 h
 unfold ec
 split
 · omega
 · unfold yW
   split
   · omega
   · dsimp only; omega
theorem xL {w : bm} (h : bq w = true) {u : Int} (h0 : 0 ≤ u) (h1 : u ≤ w.held) : bq (yi w (ec w u)) = true := by
 obtain ⟨a, b⟩ := lB h h0 h1
 have := bi.1 h
 rw [bi]
 unfold yi
 dsimp only
 omega
theorem VN.gbC {c : NL} (h : VN c) : VN (gbC c) := by
 unfold Y.gbC
 split
 · exact h
 · rename_i hn
   have hcl : c.cl = false := eq_false_of_ne_true fun e => hn (.inl e)
   have h0 : 0 < ec c.rw (bh c.ks) := by have := fun e => hn (.inr e); omega
   obtain ⟨a, b⟩ := lB h.rw (en c.ks) h.tt
   have := bi.1 h.rw
   have hp := en c.ks
   refine ⟨⟨h.sd, h.sz, h.sw, xL h.rw (en c.ks) h.tt, h.ss, h.rs, h.sh, h.la, h.aw, h.n1, h.n2, h.pg, h.pn, h.cn, h.pk, h.asc, fun f hf => ?_, fun e => ?_, ?_⟩, h.nf⟩
   · rcases List.mem_append.1 hf with hf | hf
     · exact h.ou f hf
     · obtain rfl := List.mem_singleton.1 hf
       exact C7 (Int.le_refl _) (by omega) (by omega) (by omega)
   · dsimp only at e; rw [hcl] at e; cases e
   · show bh c.ks ≤ (yi c.rw (ec c.rw (bh c.ks))).held
     unfold yi; dsimp only; omega
theorem PK.rcv {sd sz la : Int} {k : KR} (h : PK sd sz la k) {w : bm} (hw : bq w = true) (hz : w.size = k.st.rcv.size) {ib : List ByteArray} (hib : ∀ m ∈ ib, m.size ≤ 16384) (hu : k.st.done = false → aZ ib ≤ w.held) : PK sd sz la { k with st := { k.st with rcv := w }, ib := ib } := by
 have hv : VS { k.st with rcv := w } := ⟨h.vs.id, h.vs.sd, h.vs.sh, h.vs.sn, hw, h.vs.rq, h.vs.rs, h.vs.dn, h.vs.nd⟩
 refine ⟨hv, h.sd, h.z1, hz.trans h.z2, h.h0, h.he, hib, h.la, h.dn, hu, fun hd => ?_, h.kd⟩
 exact lz (s := k.st) (lA h.ahd) ⟨rfl, rfl, rfl, rfl, rfl, rfl, rfl, rfl, Int.le_refl _, fun h => h, hv⟩ h.h0 (PK.ahd (k := k) h)
theorem VN.gbK {c : NL} (h : VN c) {i : Nat} {k : KR} (hi : c.ks[i]? = some k) (hd : k.st.done = false) : VN (gbK c i k.st.id) ∧ (gbK c i k.st.id).ks.map (fun k => (k.ib, k.st.done)) = c.ks.map (fun k => (k.ib, k.st.done)) := by
 have hk := h.pk k (List.mem_of_getElem? hi)
 unfold Y.gbK
 rw [show qR c i = ec k.st.rcv (aZ k.ib) by unfold qR; rw [dQ hi]]
 split
 · exact ⟨h, rfl⟩
 · rename_i hn
   have hcl : c.cl = false := eq_false_of_ne_true fun e => hn (.inl e)
   have h0 : 0 < ec k.st.rcv (aZ k.ib) := by have := fun e => hn (.inr e); omega
   obtain ⟨a, b⟩ := lB hk.vs.rv (eJ k.ib) (hk.un hd)
   have := bi.1 hk.vs.rv
   have hp := eJ k.ib
   rw [bQ hi]
   refine ⟨h.upd (sw' := c.sw) (rw' := c.rw) hi (hk.rcv (xL hk.vs.rv hp (hk.un hd)) rfl hk.ib (fun _ => ?_)) rfl (fun e => e) h.sw h.ss h.sh (Int.le_refl _) (h.nf k (List.mem_of_getElem? hi)) h.rw h.rs (fun f hf => ?_) (fun e => ?_) ?_, ?_⟩
   · unfold yi; dsimp only; omega
   · rcases List.mem_append.1 hf with hf | hf
     · exact h.ou f hf
     · obtain rfl := List.mem_singleton.1 hf
       have := hk.vs.id
       exact C7 (by omega) (by omega) (by omega) (by omega)
   · rw [hcl] at e; cases e
   · rw [dk hi]
     have := h.tt
     show bh c.ks - aZ k.ib + aZ k.ib ≤ c.rw.held
     omega
   · show (c.ks.set i _).map _ = _
     rw [List.map_set]
     obtain ⟨h1, h2⟩ := List.getElem?_eq_some_iff.1 hi
     apply List.ext_getElem?
     intro j
     by_cases hj : i = j
     · subst hj
       rw [List.getElem?_set_self (by rw [List.length_map]; exact h1), List.getElem?_map, hi]; rfl
     · rw [List.getElem?_set_ne hj]
theorem VN.new {sd sz : Int} (h : (eZ sd sz).2 = 0) : VN (eZ sd sz).1 := by
 unfold eZ at h ⊢
 split at h
 · cases h
 · rename_i g
   rw [if_neg g]
   have g1 : sd = 1 ∨ sd = 2 := by have := fun e => g (.inl e); omega
   have g2 : (iE sz).err = 0 := Decidable.not_not.1 fun e => g (.inr e)
   have g3 : 1 ≤ sz ∧ sz ≤ 1048576 ∧ iE sz = ⟨⟨sz, sz, 0⟩, 0⟩ := by
    unfold iE at g2 ⊢
    split at g2
    · cases g2
    · rename_i g'
      rw [if_neg g']
      exact ⟨by omega, by omega, rfl⟩
   obtain ⟨z1, z2, z3⟩ := g3
   rw [z3]
   have hw : bq ⟨sz, sz, 0⟩ = true := bi.2 ⟨z1, z2, by dsimp only; omega, Int.le_refl _, z2, by dsimp only; omega⟩
   exact ⟨⟨g1, ⟨z1, z2⟩, hw, hw, rfl, rfl, rfl, ⟨Int.le_refl _, (show (0 : Int) ≤ 2147483647 by decide)⟩, ⟨Int.le_refl _, (show (0 : Int) ≤ 2147483648 by decide)⟩, fun _ => rfl, fun _ => ⟨rfl, (show (0 : Int) ≤ 1 by decide)⟩, Nat.zero_le _, (fun _ h => by cases h), Nat.zero_le _, (fun _ h => by cases h), List.Pairwise.nil, (fun _ h => by cases h), fun _ => ⟨rfl, rfl⟩, Int.le_refl _⟩, fun _ h => by cases h⟩
theorem VN.flush {c : NL} (h : VN c) : VN (iF c).1 :=
 ⟨⟨h.sd, h.sz, h.sw, h.rw, h.ss, h.rs, h.sh, h.la, h.aw, h.n1, h.n2, h.pg, h.pn, h.cn, h.pk, h.asc, (fun _ h => by cases h), fun e => ⟨rfl, (h.cl e).2⟩, h.tt⟩, h.nf⟩
theorem VN.out {c : NL} (h : VN c) {f : bd} (hf : aQ f = 0) (hc : c.cl = false) : VN { c with ou := c.ou ++ [f] } :=
 ⟨⟨h.sd, h.sz, h.sw, h.rw, h.ss, h.rs, h.sh, h.la, h.aw, h.n1, h.n2, h.pg, h.pn, h.cn, h.pk, h.asc, fun x hx => (List.mem_append.1 hx).elim (h.ou x) (fun hx => by obtain rfl := List.mem_singleton.1 hx; exact hf), (fun e => by dsimp only at e; rw [hc] at e; cases e), h.tt⟩, h.nf⟩
theorem VN.ping {c : NL} (h : VN c) (n : Int) : VN (e9 c n).1 := by
 unfold e9
 split
 · exact h
 · rename_i hc
   split
   · exact h
   · rename_i hf
     exact h.out (Decidable.not_not.1 hf) (eq_false_of_ne_true hc)
theorem VN.away {c : NL} (h : VN c) : VN (iG c) := by
 unfold iG
 split
 · rename_i hc
   have h1 := h.out (f := ⟨9, 0, c.la, emptyB⟩) (Dq h.la.1 h.la.2) hc.2.1
   have hla := h.la
   exact ⟨⟨h1.sd, h1.sz, h1.sw, h1.rw, h1.ss, h1.rs, h1.sh, h1.la, ⟨by show 0 ≤ c.la + 1; omega, by show c.la + 1 ≤ 2147483648; omega⟩, h1.n1, fun e => ⟨(h1.n2 e).1, Int.le_refl _⟩, h1.pg, h1.pn, h1.cn, h1.pk, h1.asc, h1.ou, h1.cl, h1.tt⟩, h1.nf⟩
 · exact h
theorem uk {sd sz la above : Int} {k : KR} (h : PK sd sz la k) : PK sd sz la (fU above k) ∧ (fU above k).st.id = k.st.id ∧ (k.st.done = true → fU above k = k) ∧ (fU above k).ib = k.ib ∧ (above < k.st.id → (fU above k).st.done = true) ∧ (k.st.id ≤ above → fU above k = k) ∧ (fU above k = k ∨ (fU above k).ob = []) := by
 unfold fU
 split
 · rename_i hc
   have he : qQ k.st 12 emptyB = ea k.st 12 emptyB := by
    unfold qQ
    rw [if_neg]
    rintro (e | e | e)
    · rw [hc.1] at e; cases e
    · rw [gK.2 h.vs] at e; cases e
    · exact e (mM (by decide) (by decide))
   rw [he]
   unfold ez
   rw [if_pos (show ({ k with st := ea k.st 12 emptyB } : KR).st.done = true from rfl)]
   exact ⟨⟨h.vs.done (mM (by decide) (by decide)), h.sd, h.z1, h.z2, h.h0, h.he, h.ib, h.la, fun _ => rfl, (fun e => by cases e), (fun e => by cases e), fun _ h => by cases h⟩, rfl, fun e => absurd e (by rw [hc.1]; simp), rfl, fun _ => rfl, fun e => absurd hc.2 (by omega), .inr rfl⟩
 · rename_i hc
   refine ⟨h, rfl, fun _ => rfl, rfl, fun e => ?_, fun _ => rfl, .inl rfl⟩
   cases hd : k.st.done with
   | true => rfl
   | false => exact absurd ⟨hd, e⟩ hc
theorem ul {c : NL} (h : VN c) (above : Int) : VN (pO c above) := by
 have hp := fun k hk => uk (above := above) (h.pk k hk)
 have hmap : (c.ks.map (fU above)).map (·.st.id) = c.ks.map (·.st.id) := by
  rw [List.map_map]
  exact List.map_congr_left fun k hk => (hp k hk).2.1
 have hcnt : dS (c.ks.map (fU above)) ≤ dS c.ks := by
  unfold dS
  rw [List.countP_map]
  refine List.countP_mono_left fun k hk hd => ?_
  cases hd' : k.st.done with
  | false => rfl
  | true =>
   have := (hp k hk).2.2.1 hd'
   simp only [Function.comp, this, hd'] at hd
   exact absurd hd (by decide)
 have htot : ∀ l : List KR, (∀ k ∈ l, (fU above k).ib = k.ib) → bh (l.map (fU above)) = bh l := by
  intro l
  induction l with
  | nil => intro _; rfl
  | cons k r ih =>
   intro hx
   rw [List.map_cons, bh, bh, ih (fun x hxm => hx x (List.mem_cons_of_mem _ hxm)), hx k (List.mem_cons_self ..)]
 refine ⟨⟨h.sd, h.sz, h.sw, h.rw, h.ss, h.rs, h.sh, h.la, h.aw, h.n1, h.n2, h.pg, h.pn, Nat.le_trans hcnt h.cn, fun k hk => ?_, by show ((c.ks.map (fU above)).map (·.st.id)).Pairwise (· < ·); rw [hmap]; exact h.asc, h.ou, fun e => ⟨(h.cl e).1, by have := (h.cl e).2; show dS (c.ks.map (fU above)) = 0; omega⟩, ?_⟩, fun k hk => ?_⟩
 · obtain ⟨k0, hk0, rfl⟩ := List.mem_map.1 hk
   exact (hp k0 hk0).1
 · show bh (c.ks.map (fU above)) ≤ c.rw.held
   rw [htot c.ks (fun k hk => (hp k hk).2.2.2.1)]
   exact h.tt
 · obtain ⟨k0, hk0, rfl⟩ := List.mem_map.1 hk
   rcases (hp k0 hk0).2.2.2.2.2.2 with e | e
   · rw [e]; exact h.nf k0 hk0
   · intro f r e'; rw [e] at e'; cases e'
theorem tp {c : NL} (h : VN c) : ∀ k ∈ (gU c).ks, k.st.done = true := fun k hk => by
 obtain ⟨k0, hk0, rfl⟩ := List.mem_map.1 hk
 have hp := h.pk k0 hk0
 have := hp.vs.id
 exact (uk (above := 0) hp).2.2.2.2.1 (by omega)
theorem xM {l : List KR} (h : ∀ k ∈ l, k.st.done = true) : dS l = 0 := by
 unfold dS
 refine List.countP_eq_zero.2 fun k hk => ?_
 rw [h k hk]; decide
theorem VN.close {c : NL} (h : VN c) : VN (gU c) := by
 have h1 : VN { c with ou := [] } := h.flush
 have h2 := ul h1 0
 exact ⟨⟨h2.sd, h2.sz, h2.sw, h2.rw, h2.ss, h2.rs, h2.sh, h2.la, h2.aw, h2.n1, h2.n2, h2.pg, h2.pn, h2.cn, h2.pk, h2.asc, (fun _ h => by cases h), fun _ => ⟨rfl, xM (tp h)⟩, h2.tt⟩, h2.nf⟩
theorem VN.wait {c : NL} (h : VN c) (f : bd) (chk : Int) (hk : f.kind = 2 ∨ f.kind = 3 ∨ f.kind = 4) : VN (bJ c f chk).1 := by
 unfold bJ
 split
 · exact h
 · rename_i hw
   have hw : fK c f chk = 0 := Decidable.not_not.1 hw
   unfold fK at hw
   cases hfi : cX f.strm c.ks 0 with
   | none => rw [hfi] at hw; cases hw
   | some i =>
    obtain ⟨k, hi, hid⟩ := d7 hfi
    rw [hfi] at hw
    dsimp only at hw
    rw [dQ hi] at hw
    have hp := h.pk k (List.mem_of_getElem? hi)
    have e1 : chk = 0 := by
     refine Decidable.not_not.1 fun e => ?_
     rw [if_pos e] at hw; exact e hw
    rw [if_neg (by simpa using e1), if_neg (by simpa using hp.ahd)] at hw
    have hah := ly hp.ahd hw
    show VN (eM (eb c i _) i)
    rw [bQ hi]
    have hb : VB { c with ks := c.ks.set i { k with ob := k.ob ++ [f] } } := by
     refine h.toVB.upd (k' := { k with ob := k.ob ++ [f] }) (sw' := c.sw) (rw' := c.rw) (ou' := c.ou) hi ?_ rfl (fun e => e) h.sw h.ss h.sh h.rw h.rs h.ou (fun e => (h.cl e).1) ?_
     · refine ⟨hp.vs, hp.sd, hp.z1, hp.z2, hp.h0, hp.he, hp.ib, hp.la, fun e => ?_, hp.un, fun _ => hah, fun x hx => ?_⟩
       · have hob := hp.dn e
         rw [hob, dh] at hw
         exact absurd hw (ka (s := f9 k.st) e)
       · rcases List.mem_append.1 hx with hx | hx
         · exact hp.kd x hx
         · obtain rfl := List.mem_singleton.1 hx
           exact hk
     · rw [dk hi]
       have := h.tt
       show bh c.ks - aZ k.ib + aZ k.ib ≤ c.rw.held
       omega
    have hil := (List.getElem?_eq_some_iff.1 hi).1
    refine VN.son hb (k := { k with ob := k.ob ++ [f] }) (List.getElem?_set_self hil) (fun j k' hj hk' => ?_)
    rw [List.getElem?_set_ne (fun e => hj e.symm)] at hk'
    exact h.nf k' (List.mem_of_getElem? hk')
theorem VN.cancel {c : NL} (h : VN c) (id code : Int) : VN (eT c id code).1 := by
 unfold eT
 split
 · exact h
 · rename_i hw
   have hw : lf c id code = 0 := Decidable.not_not.1 hw
   unfold lf at hw
   cases hfi : cX id c.ks 0 with
   | none => rw [hfi] at hw; cases hw
   | some i =>
    obtain ⟨k, hi, hid⟩ := d7 hfi
    rw [hfi] at hw
    dsimp only at hw
    rw [dQ hi] at hw
    have hp := h.pk k (List.mem_of_getElem? hi)
    have ho := fQ hw
    have hcl : c.cl = false := eq_false_of_ne_true fun e => by
     have := uj h.toVB e k (List.mem_of_getElem? hi)
     rw [ho.d] at this; cases this
    show VN { eb c i _ with ou := _ }
    rw [bQ hi]
    have hd : (bE k.st ⟨5, id, code, emptyB⟩).st = ea k.st code ⟨#[]⟩ := by
     generalize (bE k.st ⟨5, id, code, emptyB⟩).st = t at *
     cases ho.h with
     | data hk => simp at hk
     | fin hk => simp at hk
     | stat hk => simp at hk
     | reset hk => rfl
    have hs : ez { k with st := (bE k.st ⟨5, id, code, emptyB⟩).st } = { k with st := ea k.st code ⟨#[]⟩, ob := [] } := by
     rw [hd]; unfold ez; exact if_pos rfl
    rw [hs]
    rw [hd] at ho
    refine h.upd (k' := { k with st := ea k.st code ⟨#[]⟩, ob := [] }) (sw' := c.sw) (rw' := c.rw) hi ⟨iR ho, hp.sd, hp.z1, hp.z2, hp.h0, hp.he, hp.ib, hp.la, fun _ => rfl, (fun e => by cases e), (fun e => by cases e), fun _ h => by cases h⟩ rfl (fun _ => rfl) h.sw h.ss h.sh (Int.le_refl _) (fun f r e => by cases e) h.rw h.rs (fun x hx => ?_) (fun e => ?_) ?_
    · rcases List.mem_append.1 hx with hx | hx
      · exact h.ou x hx
      · obtain rfl := List.mem_singleton.1 hx
        exact ho.fe
    · rw [hcl] at e; cases e
    · rw [dk hi]
      have := h.tt
      show bh c.ks - aZ k.ib + aZ k.ib ≤ c.rw.held
      omega
theorem VN.read {c : NL} (h : VN c) (id : Int) : VN (dK c id).1 := by
 unfold dK
 cases hfi : cX id c.ks 0 with
 | none => exact h
 | some i =>
  obtain ⟨k, hi, hid⟩ := d7 hfi
  dsimp only
  rw [dQ hi]
  cases hib : k.ib with
  | nil => exact h
  | cons s r =>
   dsimp only
   have hp := h.pk k (List.mem_of_getElem? hi)
   have hu := eJ r
   have hs := dj s
   have hup : VN { c with ks := c.ks.set i { k with ib := r } } := by
    refine h.upd (k' := { k with ib := r }) (sw' := c.sw) (rw' := c.rw) (ou' := c.ou) hi (hp.rcv (w := k.st.rcv) (ib := r) hp.vs.rv rfl (fun m hm => hp.ib m (by rw [hib]; exact List.mem_cons_of_mem _ hm)) (fun hd => ?_)) rfl (fun e => e) h.sw h.ss h.sh (Int.le_refl _) (h.nf k (List.mem_of_getElem? hi)) h.rw h.rs h.ou (fun e => (h.cl e).1) ?_
    · have := hp.un hd
      rw [hib, aZ] at this
      omega
    · rw [dk hi, hib, aZ]
      have := h.tt
      show bh c.ks - (aT s + aZ r) + aZ r ≤ c.rw.held
      omega
   rw [bQ hi]
   refine VN.gbC ?_
   split
   · exact hup
   · rename_i hd
     have hil := (List.getElem?_eq_some_iff.1 hi).1
     rw [← hid]
     exact (hup.gbK (i := i) (k := { k with ib := r }) (List.getElem?_set_self hil) (eq_false_of_ne_true hd)).1
theorem VN.drop {c : NL} (h : VN c) (id : Int) : VN (fZ c id) := by
 unfold fZ
 cases hfi : cX id c.ks 0 with
 | none => exact h
 | some i =>
  obtain ⟨k, hi, hid⟩ := d7 hfi
  dsimp only
  split
  · exact h
  · refine VN.gbC ?_
    have hsub : (c.ks.eraseIdx i).Sublist c.ks := List.eraseIdx_sublist ..
    refine ⟨⟨h.sd, h.sz, h.sw, h.rw, h.ss, h.rs, h.sh, h.la, h.aw, h.n1, h.n2, h.pg, h.pn, Nat.le_trans (hsub.countP_le) h.cn, fun k hk => h.pk k (hsub.subset hk), h.asc.sublist (hsub.map _), h.ou, fun e => ⟨(h.cl e).1, ?_⟩, ?_⟩, fun k hk => h.nf k (hsub.subset hk)⟩
    · have := (h.cl e).2
      have h2 : dS (c.ks.eraseIdx i) ≤ dS c.ks := hsub.countP_le
      show dS (c.ks.eraseIdx i) = 0
      omega
    · show bh (c.ks.eraseIdx i) ≤ c.rw.held
      rw [kP hi]
      have := h.tt
      have := eJ k.ib
      omega
theorem xN {id sd sh n : Int} (h : (dv id sd sh n).err = 0) : (dv id sd sh n).st = ⟨id, sd, sh, 0, 0, false, false, false, 0, ⟨#[]⟩, ⟨n, n, 0⟩, ⟨n, n, 0⟩⟩ ∧ VS (dv id sd sh n).st ∧ 1 ≤ id ∧ id ≤ 2147483647 := by
 unfold dv at h ⊢
 split at h
 · cases h
 · rename_i g
   rw [if_neg g]
   have g1 : ¬ id < 1 := fun e => g (.inl e)
   have g2 : ¬ 2147483647 < id := fun e => g (.inr (.inl e))
   have g3 : sd = 1 ∨ sd = 2 := by have := fun e => g (.inr (.inr (.inl e))); omega
   have g4 : qs sh = true := by simpa using fun e => g (.inr (.inr (.inr (.inl e))))
   have g5 : (iE n).err = 0 := Decidable.not_not.1 fun e => g (.inr (.inr (.inr (.inr e))))
   have g6 : 1 ≤ n ∧ n ≤ 1048576 ∧ iE n = ⟨⟨n, n, 0⟩, 0⟩ := by
    unfold iE at g5 ⊢
    split at g5
    · cases g5
    · rename_i g'
      rw [if_neg g']
      exact ⟨by omega, by omega, rfl⟩
   obtain ⟨z1, z2, z3⟩ := g6
   rw [z3]
   have hw : bq ⟨n, n, 0⟩ = true := bi.2 ⟨z1, z2, by dsimp only; omega, Int.le_refl _, z2, by dsimp only; omega⟩
   have ht : ∀ m : Int, m = -1 ∨ 0 ≤ m → 0 ≤ ke m := fun m hm => by unfold ke; split <;> omega
   have hc2 : 0 ≤ ke (c2 sh) := ht _ (by unfold c2; rw [if_pos g4]; split <;> simp)
   have hc4 : 0 ≤ ke (c4 sh) := ht _ (by unfold c4; rw [if_pos g4]; split <;> simp)
   refine ⟨rfl, ⟨⟨by dsimp only; omega, by dsimp only; omega⟩, g3, g4, hw, hw, ?_, ?_, (fun e => by cases e), fun _ => ⟨?_, fun e => ?_, rfl, rfl⟩⟩, by omega, by omega⟩
   · unfold i7; split <;> exact ⟨Int.le_refl _, hc2⟩
   · unfold lU; split <;> exact ⟨Int.le_refl _, hc4⟩
   · unfold sN; split <;> rfl
   · unfold pM at e; split at e <;> cases e
theorem VN.more {c : NL} (h : VN c) {id sh nx' la' : Int} (ho : (dv id c.sd sh c.sz).err = 0) (hi : c.la < id) (hla : la' = id) (hn1 : c.sd = 1 → nx' = la' + 1) (hn2 : c.sd = 2 → nx' = 1) (hc : dS c.ks < 64) (hcl : c.cl = false) {hd : ju} (he : bk hd = 0) {ou' : List bd} (hou : ∀ f ∈ ou', aQ f = 0) :
 VN { c with nx := nx', la := la', ks := c.ks ++ [⟨(dv id c.sd sh c.sz).st, hd.svc, hd.mth, hd.late, hd.metas, [], []⟩], ou := ou' } := by
 obtain ⟨e, v, i1, i2⟩ := xN ho
 subst hla
 have hla := h.la
 refine ⟨⟨h.sd, h.sz, h.sw, h.rw, h.ss, h.rs, h.sh, ⟨by show 0 ≤ la'; omega, i2⟩, h.aw, hn1, fun e => ⟨hn2 e, by have := (h.n2 e).2; show c.aw ≤ la' + 1; omega⟩, h.pg, h.pn, ?_, fun k hk => ?_, ?_, hou, (fun e => by dsimp only at e; rw [hcl] at e; cases e), ?_⟩, fun k hk => ?_⟩
 · show dS (c.ks ++ _) ≤ 64
   unfold dS at hc ⊢
   rw [List.countP_append, List.countP_singleton]
   split <;> omega
 · rcases List.mem_append.1 hk with hk | hk
   · exact (h.pk k hk).la' (by show c.la ≤ la'; omega)
   · obtain rfl := List.mem_singleton.1 hk
     exact ⟨v, by rw [e], by rw [e], by rw [e], by rw [e], he, (fun _ h => by cases h), by rw [e]; exact Int.le_refl _, fun _ => rfl, fun _ => by rw [e]; exact Int.le_refl _, fun _ => rfl, fun _ h => by cases h⟩
 · show ((c.ks ++ _).map (·.st.id)).Pairwise (· < ·)
   rw [List.map_append]
   refine List.pairwise_append.2 ⟨h.asc, List.pairwise_singleton _ _, fun a ha b hb => ?_⟩
   obtain ⟨k, hk, rfl⟩ := List.mem_map.1 ha
   obtain rfl := List.mem_singleton.1 hb
   have := (h.pk k hk).la
   show k.st.id < (dv la' c.sd sh c.sz).st.id
   rw [e]
   show k.st.id < la'
   omega
 · show bh (c.ks ++ _) ≤ c.rw.held
   rw [r6]
   have := h.tt
   simp only [bh, aZ]
   omega
 · rcases List.mem_append.1 hk with hk | hk
   · exact h.nf k hk
   · obtain rfl := List.mem_singleton.1 hk
     intro f r e'; cases e'
theorem VN.open {c : NL} (h : VN c) (hd : ju) (sh : Int) : VN (bx c hd sh).1 := by
 unfold bx
 split
 · exact h
 · rename_i hw
   have hw : lV c hd sh = 0 := Decidable.not_not.1 hw
   unfold lV at hw
   split at hw
   · cases hw
   rename_i g1
   split at hw
   · cases hw
   rename_i g2
   split at hw
   · rename_i g; exact absurd hw g
   rename_i g3
   split at hw
   · rename_i g; exact absurd hw g
   rename_i g4
   have h1 : c.sd = 1 := Decidable.not_not.1 fun e => g1 (.inl e)
   have h2 : c.cl = false := eq_false_of_ne_true fun e => g1 (.inr (.inl e))
   have hnx := h.n1 h1
   have e1 : dv c.nx 1 sh c.sz = dv c.nx c.sd sh c.sz := by rw [h1]
   dsimp only
   rw [e1] at hw ⊢
   refine h.more (id := c.nx) hw (by omega) rfl (fun _ => rfl) (fun e => by omega) (by omega) h2 (Decidable.not_not.1 g3) (fun f hf => ?_)
   rcases List.mem_append.1 hf with hf | hf
   · exact h.ou f hf
   · obtain rfl := List.mem_singleton.1 hf
     exact Decidable.not_not.1 g4
end Go.Proofs.YthiocbcokfondaaGreatDoor.Y
