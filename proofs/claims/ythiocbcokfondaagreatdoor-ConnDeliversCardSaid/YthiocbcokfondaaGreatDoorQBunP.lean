/- Texts of this claim merged into one: QHdLaw, QVFac, QVInv, QVSon, QVCon, QVOps. -/
import Derived.Test.YthiocbcokfondaaGreatDoorQBunI
import Derived.Test.YthiocbcokfondaaGreatDoorQBunX
namespace Go.Proofs.YthiocbcokfondaaGreatDoor
open Go.RowKit
theorem tW {s : ByteArray} (h : (cP s).err = 0) : bo (cP s).head = 0 ∧ dE (cP s).head = s.data.toList := by
  unfold cP iv at h ⊢
  simp only at h ⊢
  split at h
  · rename_i q; exact absurd h q
  · rename_i q1
    rw [if_neg q1]
    split at h
    · cases h
    · rename_i q2
      rw [if_neg q2]
      split at h
      · cases h
      · rename_i q3
        rw [if_neg q3]
        split at h
        · rename_i q; exact absurd h q
        · rename_i q4
          rw [if_neg q4]
          split at h
          · cases h
          · rename_i q5
            rw [if_neg q5]
            exact ⟨Decidable.not_not.1 q4, Decidable.not_not.1 q5⟩
end Go.Proofs.YthiocbcokfondaaGreatDoor
namespace Go.Proofs.YthiocbcokfondaaGreatDoor.Y
theorem wv {d : ByteArray} (h : (bu d).err = 0) : bU (bu d).code (bu d).text = 0 := by
  unfold bu at h ⊢
  by_cases h0 : (cM d).2.2 = 0
  · rw [if_pos h0] at h ⊢
    unfold gF at h ⊢
    by_cases a : (cM d).2.1 ≠ (bB (cM d).1).length
    · rw [if_pos a] at h; exact absurd h (by decide)
    rw [if_neg a] at h ⊢
    by_cases b : 13 < (cM d).1
    · rw [if_pos b] at h; exact absurd h (by decide)
    rw [if_neg b] at h ⊢
    by_cases c : bU (cM d).1 (d.extract (cM d).2.1 d.size) = 0
    · rw [if_pos c]; exact c
    · rw [if_neg c] at h; exact absurd h c
  · rw [if_neg h0] at h
    exact absurd h h0
theorem nF {n : Int} (h0 : 0 ≤ n) (h1 : n ≤ 13) : bU n ⟨#[]⟩ = 0 := by
  unfold bU
  have hv : gV ⟨#[]⟩ = true := by kernel_rfl
  rw [if_neg (by omega), hv, if_neg (by simp), if_neg (by decide), if_neg (by rintro ⟨_, e⟩; exact e rfl)]
theorem zK {n : Int} {t : ByteArray} (h : bU n t = 0) : t.size ≤ 4096 := by
  unfold bU at h
  repeat' split at h
  all_goals omega
theorem CZ {s : ByteArray} (h : (cP s).err = 0) : bo (cP s).head = 0 := (tW h).1
theorem ww : ∀ (ms : List (ByteArray × ByteArray)) (i : Nat) (p : ByteArray), ek i p ms = 0 → ∀ m ∈ ms, m.1.size < 4294967281 ∧ m.2.size < 4294967281
  | [], _, _, _, _, h => by cases h
  | (k, v) :: r, i, p, h, m, hm => by
    rw [ek] at h
    repeat' split at h
    all_goals first
      | (exfalso; revert h; decide)
      | skip
    rename_i a b _ _
    have hk : iu k.data.toList = true := by simpa using a
    unfold iu at hk
    simp only [Bool.and_eq_true, decide_eq_true_eq] at hk
    rcases List.mem_cons.1 hm with rfl | hm
    · have h1 := hk.1.2
      rw [Array.length_toList] at h1
      refine ⟨?_, by show v.size < _; omega⟩
      show k.data.size < _
      omega
    · exact ww r (i + 1) k h m hm
theorem Ec {h : ir} (e : bo h = 0) : ii h ∧ h.metas.length ≤ 16 := by
  unfold bo at e
  repeat' split at e
  all_goals first
    | (exfalso; revert e; decide)
    | skip
  rename_i a b c
  have h1 : cH h.svc.data.toList = true := by simpa using fun x => a (.inl x)
  have h2 : bm h.mth.data.toList = true := by simpa using fun x => a (.inr x)
  unfold cH at h1
  unfold bm at h2
  simp only [Bool.and_eq_true, decide_eq_true_eq, Array.length_toList] at h1 h2
  refine ⟨⟨?_, ?_, ww h.metas 0 _ e⟩, by omega⟩
  · have := h1.1
    show h.svc.data.size < _
    omega
  · have := h2.1.1.2
    show h.mth.data.size < _
    omega
end Go.Proofs.YthiocbcokfondaaGreatDoor.Y
namespace Go.Proofs.YthiocbcokfondaaGreatDoor.Y
theorem cZ (d : ByteArray) : 1 ≤ aI d := by unfold aI; split <;> omega
theorem aX {w : bj} : bl w = true ↔ (1 ≤ w.size ∧ w.size ≤ 1048576 ∧ 0 ≤ w.left ∧ 0 ≤ w.held ∧ w.left ≤ 1048576 ∧ w.left + w.held ≤ 1048576) := by unfold bl; exact decide_eq_true_iff
theorem fT {w : bj} {n : Int} (h : bl w = true) (h0 : 0 ≤ n) (h1 : n ≤ w.left) : dG w n = ⟨⟨w.size, w.left - n, w.held⟩, 0⟩ := by
  unfold dG
  rw [if_neg (by rw [h]; simp; omega), if_neg (by omega)]
theorem lJ {w : bj} {n : Int} (h : (dG w n).err = 0) : bl w = true ∧ 0 ≤ n ∧ n ≤ w.left ∧ dG w n = ⟨⟨w.size, w.left - n, w.held⟩, 0⟩ := by
  unfold dG at h
  split at h
  · cases h
  · rename_i h1
    split at h
    · cases h
    · have h2 : bl w = true := by simpa using fun e => h1 (.inl e)
      exact ⟨h2, by omega, by omega, fT h2 (by omega) (by omega)⟩
theorem rT {w : bj} {n : Int} (h : bl w = true) (h0 : 0 ≤ n) (h1 : n ≤ w.left) : bV w n = ⟨⟨w.size, w.left - n, w.held + n⟩, 0⟩ := by
  unfold bV
  rw [if_neg (by rw [h]; simp; omega), if_neg (by omega)]
theorem BJ {w : bj} {n : Int} (h : (bV w n).err = 0) : bl w = true ∧ 0 ≤ n ∧ n ≤ w.left ∧ bV w n = ⟨⟨w.size, w.left - n, w.held + n⟩, 0⟩ := by
  unfold bV at h
  split at h
  · cases h
  · rename_i h1
    split at h
    · cases h
    · have h2 : bl w = true := by simpa using fun e => h1 (.inl e)
      exact ⟨h2, by omega, by omega, rT h2 (by omega) (by omega)⟩
theorem vo {w : bj} {n : Int} (h : bl w = true) (h0 : 1 ≤ n) (h1 : n ≤ 1048576 - w.left - w.held) : cS w n = ⟨⟨w.size, w.left + n, w.held⟩, 0⟩ := by
  unfold cS
  rw [if_neg (by rw [h]; simp; omega), if_neg (by omega)]
theorem nG {w : bj} {n : Int} (h : (cS w n).err = 0) : bl w = true ∧ 1 ≤ n ∧ n ≤ 1048576 - w.left - w.held ∧ cS w n = ⟨⟨w.size, w.left + n, w.held⟩, 0⟩ := by
  unfold cS at h
  split at h
  · cases h
  · rename_i h1
    split at h
    · cases h
    · have h2 : bl w = true := by simpa using fun e => h1 (.inl e)
      exact ⟨h2, by omega, by omega, vo h2 (by omega) (by omega)⟩
theorem pt {w : bj} {n : Int} (h : bl w = true) (h0 : 0 ≤ n) (h1 : n ≤ w.left) : bl ⟨w.size, w.left - n, w.held⟩ = true := by
  rw [aX] at h ⊢; dsimp only; omega
theorem nH {w : bj} {n : Int} (h : bl w = true) (h0 : 0 ≤ n) (h1 : n ≤ w.left) : bl ⟨w.size, w.left - n, w.held + n⟩ = true := by
  rw [aX] at h ⊢; dsimp only; omega
theorem ma {w : bj} {n : Int} (h : bl w = true) (h0 : 1 ≤ n) (h1 : n ≤ 1048576 - w.left - w.held) : bl ⟨w.size, w.left + n, w.held⟩ = true := by
  rw [aX] at h ⊢; dsimp only; omega
structure VS (s : cx) : Prop where
  id : 1 ≤ s.id ∧ s.id ≤ 2147483647
  sd : s.side = 1 ∨ s.side = 2
  sh : rA s.shape = true
  sn : bl s.snd = true
  rv : bl s.rcv = true
  rq : 0 ≤ ju s ∧ ju s ≤ jK (c2 s.shape)
  rs : 0 ≤ mF s ∧ mF s ≤ jK (c4 s.shape)
  dn : s.done = true → s.se = true ∧ s.ge = true ∧ bU s.code s.text = 0
  nd : s.done = false → uK s = false ∧ (rB s = true → c1 s.shape ≤ ju s) ∧ s.code = 0 ∧ s.text.size = 0
theorem fD {s : cx} : ei s = true ↔ VS s := by
  unfold ei uL rC yM
  constructor
  · intro h
    simp only [Bool.and_eq_true, decide_eq_true_eq] at h
    obtain ⟨⟨⟨⟨a1, a2, a3⟩, a4⟩, ⟨a5, a6⟩, a7, a8, a9, a10⟩, a11⟩ := h
    refine ⟨⟨a1, a2⟩, a3, a4, a5, a6, ⟨a7, a8⟩, ⟨a9, a10⟩, fun hd => ?_, fun hd => ?_⟩
    · rw [if_pos hd] at a11
      simp only [Bool.and_eq_true, decide_eq_true_eq] at a11
      exact ⟨a11.1.1, a11.1.2, a11.2⟩
    · rw [if_neg (by rw [hd]; simp)] at a11
      simp only [Bool.and_eq_true, decide_eq_true_eq, Bool.not_eq_true', Bool.or_eq_true] at a11
      exact ⟨a11.1.1.1, fun h => a11.1.1.2.resolve_left (by rw [h]; simp), a11.1.2, a11.2⟩
  · intro h
    simp only [Bool.and_eq_true, decide_eq_true_eq]
    refine ⟨⟨⟨⟨h.id.1, h.id.2, h.sd⟩, h.sh⟩, ⟨h.sn, h.rv⟩, h.rq.1, h.rq.2, h.rs⟩, ?_⟩
    cases hd : s.done with
    | true =>
      obtain ⟨a, b, c⟩ := h.dn hd
      rw [if_pos rfl, a, b, c]; rfl
    | false =>
      obtain ⟨a, b, c, d⟩ := h.nd hd
      rw [if_neg (by simp)]
      simp only [Bool.and_eq_true, decide_eq_true_eq, Bool.not_eq_true', Bool.or_eq_true]
      refine ⟨⟨⟨a, ?_⟩, c⟩, d⟩
      cases hq : rB s with
      | false => exact .inl rfl
      | true => exact .inr (b hq)
inductive Dr (s : cx) (f : aY) : cx → Prop
  | data (hk : f.kind = 2) (he : s.se = false) (hm : s.sent < iV s (s.side == 1)) (hz : aI f.data ≤ s.snd.size) (hl : aI f.data ≤ s.snd.left) : Dr s f { s with sent := s.sent + 1, snd := ⟨s.snd.size, s.snd.left - aI f.data, s.snd.held⟩ }
  | fin (hk : f.kind = 3) (he : s.se = false) (hs : s.side = 1) (hm : c1 s.shape ≤ s.sent) : Dr s f { s with se := true }
  | stat (hk : f.kind = 4) (hs : s.side ≠ 1) (hm : (bu f.data).code = 0 → iH s = false) : Dr s f (eA s (bu f.data).code (bu f.data).text)
  | reset (hk : f.kind = 5) : Dr s f (eA s f.num ⟨#[]⟩)
structure SndOk (s : cx) (f : aY) (t : cx) : Prop where
  v : ei s = true
  fe : aR f = 0
  i : f.strm = s.id
  d : s.done = false
  h : Dr s f t
theorem eW {s : cx} {f : aY} (h : (bD s f).err = 0) : SndOk s f (bD s f).st := by
  unfold bD at h ⊢
  split at h
  · cases h
  rename_i g0
  rw [if_neg g0]
  have hv : ei s = true := by simpa using fun e => g0 (.inl e)
  have hf : aR f = 0 := Decidable.not_not.1 fun e => g0 (.inr (.inl e))
  have hi : f.strm = s.id := Decidable.not_not.1 fun e => g0 (.inr (.inr e))
  split at h
  · rename_i hk
    rw [if_pos hk]
    split at h
    · cases h
    rename_i g1
    rw [if_neg g1]
    split at h
    · cases h
    rename_i g2
    rw [if_neg g2]
    split at h
    · cases h
    rename_i g3
    rw [if_neg g3]
    split at h
    · rename_i g4; exact absurd h g4
    rename_i g4
    rw [if_neg g4]
    obtain ⟨_, _, t3, t4⟩ := lJ (Decidable.not_not.1 g4)
    refine ⟨hv, hf, hi, eq_false_of_ne_true fun e => g1 (.inl e), ?_⟩
    rw [t4]
    exact .data hk (eq_false_of_ne_true fun e => g1 (.inr e)) (by omega) (by omega) t3
  · rename_i hk2
    rw [if_neg hk2]
    split at h
    · rename_i hk
      rw [if_pos hk]
      split at h
      · cases h
      rename_i g1
      rw [if_neg g1]
      split at h
      · cases h
      rename_i g2
      rw [if_neg g2]
      exact ⟨hv, hf, hi, eq_false_of_ne_true fun e => g1 (.inl e), .fin hk (eq_false_of_ne_true fun e => g1 (.inr (.inl e))) (Decidable.not_not.1 fun e => g1 (.inr (.inr e))) (by omega)⟩
    · rename_i hk3
      rw [if_neg hk3]
      split at h
      · rename_i hk
        rw [if_pos hk]
        split at h
        · cases h
        rename_i g1
        rw [if_neg g1]
        split at h
        · cases h
        rename_i g2
        rw [if_neg g2]
        refine ⟨hv, hf, hi, eq_false_of_ne_true fun e => g1 (.inl e), ?_⟩
        rw [eO, if_neg (by omega)]
        exact .stat hk (fun e => g1 (.inr e)) (fun e => eq_false_of_ne_true fun e' => g2 ⟨e, e'⟩)
      · rename_i hk4
        rw [if_neg hk4]
        split at h
        · rename_i hk
          rw [if_pos hk]
          split at h
          · cases h
          rename_i g1
          rw [if_neg g1, eO, if_pos hk]
          exact ⟨hv, hf, hi, eq_false_of_ne_true g1, .reset hk⟩
        · cases h
theorem jf {s t : cx} {f : aY} (h : SndOk s f t) : bD s f = ⟨t, 0⟩ := by
  obtain ⟨hv, hf, hi, hd, h⟩ := h
  have hd' : ¬ s.done = true := by rw [hd]; simp
  unfold bD
  rw [if_neg (by rw [hv, hf, hi]; simp)]
  cases h with
  | data hk he hm hz hl =>
    have hw := (fD.1 hv).sn
    have he' : ¬ s.se = true := by rw [he]; simp
    have ht := fT hw (show 0 ≤ aI f.data by have := cZ f.data; omega) hl
    rw [if_pos hk, if_neg (by rintro (e | e); exact hd' e; exact he' e), if_neg (by omega), if_neg (by omega), ht, if_neg (by simp)]
  | fin hk he hs hm =>
    have he' : ¬ s.se = true := by rw [he]; simp
    rw [if_neg (by omega), if_pos hk, if_neg (by rintro (e | e | e); exact hd' e; exact he' e; exact e hs), if_neg (by omega)]
  | stat hk hs hm =>
    rw [if_neg (by omega), if_neg (by omega), if_pos hk, if_neg (by rintro (e | e); exact hd' e; exact hs e), if_neg (by rintro ⟨e, e'⟩; rw [hm e] at e'; cases e'), eO, if_neg (by omega)]
  | reset hk =>
    rw [if_neg (by omega), if_neg (by omega), if_neg (by omega), if_pos hk, if_neg hd', eO, if_pos hk]
theorem lA {f : aY} (h : aR f = 0) : gG f.kind f.num = true := by
  unfold aR at h
  split at h
  · cases h
  · rename_i g
    simpa using fun e => g (.inr (.inr (.inr (.inl e))))
theorem nI {f : aY} (h : aR f = 0) : ft f.kind f.strm = true := by
  unfold aR at h
  split at h
  · cases h
  · rename_i g
    simpa using fun e => g (.inr (.inr (.inl e)))
theorem gI {f : aY} (h : aR f = 0) : f.data.size ≤ 16384 ∧ f.strm ≤ 2147483647 := by
  unfold aR at h
  split at h
  · cases h
  · split at h
    · cases h
    · omega
theorem rU {f : aY} (h : aR f = 0) : 1 ≤ f.kind ∧ f.kind ≤ 9 := by
  unfold aR at h
  split at h
  · cases h
  · omega
theorem zL {f : aY} (h : aR f = 0) (hk : f.kind = 4) : (bu f.data).err = 0 := by
  unfold aR at h
  split at h
  · cases h
  · split at h
    · cases h
    · repeat' split at h
      all_goals first | exact h | omega
theorem tX {f : aY} (h : aR f = 0) (hk : f.kind = 5) : 1 ≤ f.num ∧ f.num ≤ 13 := by
  have := lA h
  unfold gG at this
  rw [if_neg (by omega), if_pos hk] at this
  exact of_decide_eq_true this
theorem VS.done {s : cx} (h : VS s) {c : Int} {t : ByteArray} (hc : bU c t = 0) : VS (eA s c t) := by
  refine ⟨h.id, h.sd, h.sh, h.sn, h.rv, h.rq, h.rs, fun _ => ⟨rfl, rfl, hc⟩, fun e => ?_⟩
  cases e
theorem ia {s t : cx} {f : aY} (h : SndOk s f t) : VS t := by
  obtain ⟨hv, hf, hi, hd, h⟩ := h
  have v := fD.1 hv
  obtain ⟨n1, n2, n3, n4⟩ := v.nd hd
  cases h with
  | data hk he hm hz hl =>
    have hp := cZ f.data
    have rq := v.rq
    have rs := v.rs
    refine ⟨v.id, v.sd, v.sh, pt v.sn (by omega) hl, v.rv, ?_, ?_, fun e => ?_, fun _ => ?_⟩
    · unfold ju at rq ⊢
      unfold iV at hm
      rcases v.sd with e | e
      · rw [if_pos e] at rq
        rw [if_pos (show (s.side == 1) = true by rw [e]; rfl)] at hm
        dsimp only; rw [if_pos e]; omega
      · rw [if_neg (by omega)] at rq
        dsimp only; rw [if_neg (by omega)]; exact rq
    · unfold mF at rs ⊢
      unfold iV at hm
      rcases v.sd with e | e
      · rw [if_pos e] at rs
        dsimp only; rw [if_pos e]; exact rs
      · rw [if_neg (by omega)] at rs
        rw [if_neg (show ¬ (s.side == 1) = true by rw [e]; decide)] at hm
        dsimp only; rw [if_neg (by omega)]; omega
    · dsimp only at e; rw [hd] at e; cases e
    · refine ⟨n1, fun e => ?_, n3, n4⟩
      have h2 := n2 e
      unfold ju at h2 ⊢
      split at h2
      · dsimp only; rw [if_pos (by assumption)]; omega
      · dsimp only; rw [if_neg (by assumption)]; omega
  | fin hk he hs hm =>
    refine ⟨v.id, v.sd, v.sh, v.sn, v.rv, v.rq, v.rs, fun e => ?_, fun _ => ⟨?_, fun _ => ?_, n3, n4⟩⟩
    · dsimp only at e; rw [hd] at e; cases e
    · unfold uK at n1 ⊢; dsimp only; rw [if_pos hs] at n1 ⊢; exact n1
    · unfold ju; dsimp only; rw [if_pos hs]; exact hm
  | stat hk hs hm => exact v.done (wv (zL hf hk))
  | reset hk =>
    have := tX hf hk
    exact v.done (nF (by omega) (by omega))
structure Kept (s t : cx) : Prop where
  id : t.id = s.id
  sd : t.side = s.side
  sh : t.shape = s.shape
  got : t.got = s.got
  rcv : t.rcv = s.rcv
  sz : t.snd.size = s.snd.size
  hd : t.snd.held = s.snd.held
theorem Kept.refl (s : cx) : Kept s s := ⟨rfl, rfl, rfl, rfl, rfl, rfl, rfl⟩
theorem Kept.trans {a b c : cx} (h1 : Kept a b) (h2 : Kept b c) : Kept a c := ⟨h2.id.trans h1.id, h2.sd.trans h1.sd, h2.sh.trans h1.sh, h2.got.trans h1.got, h2.rcv.trans h1.rcv, h2.sz.trans h1.sz, h2.hd.trans h1.hd⟩
theorem SndOk.kept {s t : cx} {f : aY} (h : SndOk s f t) : Kept s t := by
  cases h.h <;> exact ⟨rfl, rfl, rfl, rfl, rfl, rfl, rfl⟩
theorem SndOk.done {s t : cx} {f : aY} (h : SndOk s f t) (hk : f.kind = 2 ∨ f.kind = 3) : t.done = false := by
  cases h.h with
  | data => exact h.d
  | fin => exact h.d
  | stat => omega
  | reset => omega
structure More (s t : cx) : Prop where
  id : t.id = s.id
  sd : t.side = s.side
  sh : t.shape = s.shape
  sent : t.sent = s.sent
  se : t.se = s.se
  sz : t.snd.size = s.snd.size
  hd : t.snd.held = s.snd.held
  done : t.done = s.done
  got : s.got ≤ t.got
  ge : s.ge = true → t.ge = true
  v : VS t
theorem zM {s : cx} (h : VS s) (hh : s.snd.held = 0) : VS (gy s) := by
  have := aX.1 h.sn
  exact ⟨h.id, h.sd, h.sh, aX.2 ⟨this.1, this.2.1, (show (0 : Int) ≤ 1048576 by decide), by rw [show (gy s).snd.held = s.snd.held from rfl]; omega, (show (1048576 : Int) ≤ 1048576 by decide), by show 1048576 + s.snd.held ≤ 1048576; omega⟩, h.rv, h.rq, h.rs, h.dn, h.nd⟩
theorem More.early {s t : cx} (h : More s t) (hs : s.side ≠ 1) (he : iH s = false) : iH t = false := by
  have e2 : ¬ t.side = 1 := by rw [h.sd]; exact hs
  have hg := h.got
  have hge := h.ge
  unfold iH ju mF rB at he ⊢
  rw [if_neg hs, if_neg hs, if_neg hs] at he
  rw [if_neg e2, if_neg e2, if_neg e2, h.sent, h.sh]
  simp only [Bool.or_eq_false_iff, decide_eq_false_iff_not, Bool.and_eq_false_iff, Bool.not_eq_false'] at he ⊢
  refine ⟨⟨by omega, he.1.2⟩, he.2.imp (fun h => h) hge⟩
theorem More.send {s t s' : cx} {f : aY} (h : More s t) (hl : f.kind = 2 → aI f.data ≤ t.snd.left) (ho : SndOk s f s') : ∃ t', SndOk t f t' ∧ (t'.done = true ∧ s'.done = true ∨ More s' t') := by
  have hv := ho.v
  have hd := ho.d
  have hm := h.done
  have base : ∀ t', Dr t f t' → SndOk t f t' := fun t' hh => ⟨fD.2 h.v, ho.fe, by rw [ho.i, h.id], by rw [h.done, hd], hh⟩
  cases ho.h with
  | data hk he hm2 hz _ =>
    have hh := base _ (.data hk (by rw [h.se, he]) (by rw [h.sent]; unfold iV at hm2 ⊢; rw [h.sd, h.sh]; exact hm2) (by rw [h.sz]; exact hz) (hl hk))
    exact ⟨_, hh, .inr ⟨h.id, h.sd, h.sh, by show t.sent + 1 = s.sent + 1; rw [h.sent], h.se, h.sz, h.hd, h.done, h.got, h.ge, ia hh⟩⟩
  | fin hk he hs hm2 =>
    have hh := base _ (.fin hk (by rw [h.se, he]) (by rw [h.sd, hs]) (by rw [h.sent, h.sh]; exact hm2))
    exact ⟨_, hh, .inr ⟨h.id, h.sd, h.sh, h.sent, rfl, h.sz, h.hd, h.done, h.got, h.ge, ia hh⟩⟩
  | stat hk hs hm2 =>
    have hh := base _ (.stat hk (by rw [h.sd]; exact hs) (fun e => h.early hs (hm2 e)))
    exact ⟨_, hh, .inl ⟨rfl, rfl⟩⟩
  | reset hk =>
    have hh := base _ (.reset hk)
    exact ⟨_, hh, .inl ⟨rfl, rfl⟩⟩
theorem More.ful {s t : cx} (h : More s t) (h0 : t.snd.held = 0) : More (gy s) (gy t) :=
  ⟨h.id, h.sd, h.sh, h.sent, h.se, h.sz, h.hd, h.done, h.got, h.ge, zM h.v h0⟩
theorem mR {s : cx} {f : aY} (h : s.done = true) : (bD s f).err ≠ 0 := fun e => by
  have := (eW e).d
  rw [h] at this; cases this
theorem pu {s : cx} {f : aY} {l : List aY} (h : s.done = true) : (cy (f :: l) s).err ≠ 0 := by
  have h1 : (bD (gy s) f).err ≠ 0 := mR (s := gy s) h
  rw [cy, if_pos h1]
  exact h1
theorem eX {s : cx} {f : aY} {l : List aY} : (cy (f :: l) s).err = 0 ↔ (bD (gy s) f).err = 0 ∧ (cy l (bD (gy s) f).st).err = 0 := by
  rw [cy]
  by_cases h : (bD (gy s) f).err = 0
  · rw [if_neg (by simpa using h)]
    exact ⟨fun e => ⟨h, e⟩, fun e => e.2⟩
  · rw [if_pos h]
    exact ⟨fun e => absurd e h, fun e => absurd e.1 h⟩
theorem pw {f : aY} : ∀ {l : List aY} {s : cx}, (cy l s).err = 0 → (bD (cy l s).st f).err = 0 → (cy (l ++ [f]) s).err = 0
  | [], s, _, h => by
    rw [List.nil_append, eX]
    exact ⟨h, rfl⟩
  | g :: l, s, h1, h2 => by
    rw [eX] at h1
    rw [List.cons_append, eX]
    rw [cy, if_neg (by simpa using h1.1)] at h2
    exact ⟨h1.1, pw h1.2 h2⟩
theorem mb : ∀ {l : List aY} {s t : cx}, (∀ f ∈ l, aI f.data ≤ 1048576) → More s t → t.snd.held = 0 → (cy l s).err = 0 → (cy l t).err = 0
  | [], _, _, _, _, _, _ => rfl
  | f :: l, s, t, hc, hm, h0, h => by
    rw [eX] at h ⊢
    obtain ⟨t', h1, h2⟩ := (hm.ful h0).send (fun _ => by show _ ≤ (1048576 : Int); exact hc f (List.mem_cons_self ..)) (eW h.1)
    have e1 := jf h1
    rw [e1]
    refine ⟨rfl, ?_⟩
    have hc' := fun x hx => hc x (List.mem_cons_of_mem f hx)
    rcases h2 with ⟨h2, h3⟩ | h2
    · cases l with
      | nil => rfl
      | cons g l => exact absurd h.2 (pu h3)
    · refine mb hc' h2 ?_ h.2
      show t'.snd.held = 0
      rw [h1.kept.hd]; exact h0
theorem me : ∀ {l : List aY} {s : cx}, (cy l s).err = 0 → ∀ f ∈ l, aI f.data ≤ 1048576
  | [], _, _, _, hg => by cases hg
  | f :: l, s, h, g, hg => by
    rw [eX] at h
    rcases List.mem_cons.1 hg with rfl | hg
    · have := (gI (eW h.1).fe).1
      unfold aI
      split <;> omega
    · exact me h.2 g hg
theorem zN : ∀ {l : List aY} {s : cx}, (cy l s).err = 0 → ∀ f ∈ l, aR f = 0 ∧ f.strm = s.id
  | [], _, _, _, hg => by cases hg
  | f :: l, s, h, g, hg => by
    rw [eX] at h
    rcases List.mem_cons.1 hg with rfl | hg
    · exact ⟨(eW h.1).fe, (eW h.1).i⟩
    · have := zN h.2 g hg
      exact ⟨this.1, this.2.trans (eW h.1).kept.id⟩
theorem tY {s : cx} {f : aY} (v : VS s) (hl : f.kind = 2 → aI f.data ≤ s.snd.left) (h : (bD (gy s) f).err = 0) : SndOk s f (bD s f).st ∧ (bD s f).err = 0 ∧ ((bD s f).st.done = true ∧ (bD (gy s) f).st.done = true ∨ More (bD (gy s) f).st (bD s f).st) := by
  have hm : More (gy s) s := ⟨rfl, rfl, rfl, rfl, rfl, rfl, rfl, rfl, Int.le_refl _, fun h => h, v⟩
  obtain ⟨t', h1, h2⟩ := hm.send hl (eW h)
  have e1 := jf h1
  rw [e1]
  exact ⟨h1, rfl, h2⟩
end Go.Proofs.YthiocbcokfondaaGreatDoor.Y
namespace Go.Proofs.YthiocbcokfondaaGreatDoor.Y
inductive C0 (s : cx) (f : aY) : cx → Prop
  | old (hd : s.done = true) : C0 s f s
  | data (hd : s.done = false) (hk : f.kind = 2) (he : s.ge = false) (hm : s.got < iV s (s.side != 1)) (hz : aI f.data ≤ s.rcv.size) (hl : aI f.data ≤ s.rcv.left) : C0 s f { s with got := s.got + 1, rcv := ⟨s.rcv.size, s.rcv.left - aI f.data, s.rcv.held + aI f.data⟩ }
  | fin (hd : s.done = false) (hk : f.kind = 3) (he : s.ge = false) (hs : s.side ≠ 1) (hm : c1 s.shape ≤ s.got) : C0 s f { s with ge := true }
  | stat (hd : s.done = false) (hk : f.kind = 4) (hs : s.side = 1) (hm : (bu f.data).code = 0 → iH s = false) : C0 s f (eA s (bu f.data).code (bu f.data).text)
  | reset (hd : s.done = false) (hk : f.kind = 5) : C0 s f (eA s f.num ⟨#[]⟩)
  | win (hd : s.done = false) (hk : f.kind = 6) (hm : f.num ≤ 1048576 - s.snd.left - s.snd.held) (hn : 1 ≤ f.num) : C0 s f { s with snd := ⟨s.snd.size, s.snd.left + f.num, s.snd.held⟩ }
structure RcvOk (s : cx) (f : aY) (t : cx) : Prop where
  v : ei s = true
  fe : aR f = 0
  i : f.strm = s.id
  k : 2 ≤ f.kind ∧ f.kind ≤ 6
  h : C0 s f t
theorem zO {s : cx} {f : aY} (h : (bQ s f).err = 0) : RcvOk s f (bQ s f).st := by
  unfold bQ at h ⊢
  split at h
  · cases h
  rename_i g0
  rw [if_neg g0]
  have hv : ei s = true := by simpa using fun e => g0 (.inl e)
  have hf : aR f = 0 := Decidable.not_not.1 fun e => g0 (.inr (.inl e))
  have hi : f.strm = s.id := Decidable.not_not.1 fun e => g0 (.inr (.inr (.inl e)))
  have hkk : 2 ≤ f.kind ∧ f.kind ≤ 6 := by
    have := fun e => g0 (.inr (.inr (.inr e)))
    omega
  refine ⟨hv, hf, hi, hkk, ?_⟩
  split at h
  · rename_i hd
    rw [if_pos hd]
    exact .old hd
  rename_i hd
  rw [if_neg hd]
  have hd' : s.done = false := eq_false_of_ne_true hd
  split at h
  · rename_i hk
    rw [if_pos hk]
    split at h
    · cases h
    rename_i g1
    rw [if_neg g1]
    split at h
    · cases h
    rename_i g2
    rw [if_neg g2]
    split at h
    · cases h
    rename_i g3
    rw [if_neg g3]
    split at h
    · rename_i g4; exact absurd h g4
    rename_i g4
    rw [if_neg g4]
    obtain ⟨_, _, t3, t4⟩ := BJ (Decidable.not_not.1 g4)
    rw [t4]
    exact .data hd' hk (eq_false_of_ne_true g1) (by omega) (by omega) t3
  · rename_i hk2
    rw [if_neg hk2]
    split at h
    · rename_i hk
      rw [if_pos hk]
      split at h
      · cases h
      rename_i g1
      rw [if_neg g1]
      split at h
      · cases h
      rename_i g2
      rw [if_neg g2]
      exact .fin hd' hk (eq_false_of_ne_true fun e => g1 (.inl e)) (fun e => g1 (.inr e)) (by omega)
    · rename_i hk3
      rw [if_neg hk3]
      split at h
      · rename_i hk
        rw [if_pos hk]
        split at h
        · cases h
        rename_i g1
        rw [if_neg g1]
        split at h
        · cases h
        rename_i g2
        rw [if_neg g2, eO, if_neg (by omega)]
        exact .stat hd' hk (Decidable.not_not.1 g1) (fun e => eq_false_of_ne_true fun e' => g2 ⟨e, e'⟩)
      · rename_i hk4
        rw [if_neg hk4]
        split at h
        · rename_i hk
          rw [if_pos hk, eO, if_pos hk]
          exact .reset hd' hk
        · rename_i hk5
          rw [if_neg hk5]
          split at h
          · rename_i g; exact absurd h g
          rename_i g
          rw [if_neg g]
          obtain ⟨_, t2, t3, t4⟩ := nG (Decidable.not_not.1 g)
          rw [t4]
          exact .win hd' (by omega) t3 t2
theorem mf {s t : cx} {f : aY} (h : RcvOk s f t) : bQ s f = ⟨t, 0⟩ := by
  obtain ⟨hv, hf, hi, hkk, h⟩ := h
  have v := fD.1 hv
  unfold bQ
  rw [if_neg (by rw [hv, hf, hi]; simp; omega)]
  have nd : ∀ {d}, d = false → ¬ d = true := fun e e' => by rw [e] at e'; cases e'
  cases h with
  | old hd => rw [if_pos hd]
  | data hd hk he hm hz hl =>
    have ht := rT v.rv (show 0 ≤ aI f.data by have := cZ f.data; omega) hl
    rw [if_neg (nd hd), if_pos hk, if_neg (nd he), if_neg (by omega), if_neg (by omega), ht, if_neg (by simp)]
  | fin hd hk he hs hm => rw [if_neg (nd hd), if_neg (by omega), if_pos hk, if_neg (by rintro (e | e); exact nd he e; exact hs e), if_neg (by omega)]
  | stat hd hk hs hm => rw [if_neg (nd hd), if_neg (by omega), if_neg (by omega), if_pos hk, if_neg (by simpa using hs), if_neg (by rintro ⟨e, e'⟩; rw [hm e] at e'; cases e'), eO, if_neg (by omega)]
  | reset hd hk => rw [if_neg (nd hd), if_neg (by omega), if_neg (by omega), if_neg (by omega), if_pos hk, eO, if_pos hk]
  | win hd hk hm hn => rw [if_neg (nd hd), if_neg (by omega), if_neg (by omega), if_neg (by omega), if_neg (by omega), vo v.sn hn hm, if_neg (by simp)]
theorem tZ {s t : cx} {f : aY} (h : RcvOk s f t) : VS t := by
  obtain ⟨hv, hf, hi, hkk, h⟩ := h
  have v := fD.1 hv
  cases h with
  | old => exact v
  | data hd hk he hm hz hl =>
    have hp := cZ f.data
    have rq := v.rq
    have rs := v.rs
    obtain ⟨n1, n2, n3, n4⟩ := v.nd hd
    refine ⟨v.id, v.sd, v.sh, v.sn, nH v.rv (by omega) hl, ?_, ?_, fun e => ?_, fun _ => ?_⟩
    · unfold ju at rq ⊢
      unfold iV at hm
      rcases v.sd with e | e
      · rw [if_pos e] at rq
        dsimp only; rw [if_pos e]; exact rq
      · rw [if_neg (by omega)] at rq
        rw [if_pos (show (s.side != 1) = true by rw [e]; decide)] at hm
        dsimp only; rw [if_neg (by omega)]; omega
    · unfold mF at rs ⊢
      unfold iV at hm
      rcases v.sd with e | e
      · rw [if_pos e] at rs
        rw [if_neg (show ¬ (s.side != 1) = true by rw [e]; decide)] at hm
        dsimp only; rw [if_pos e]; omega
      · rw [if_neg (by omega)] at rs
        dsimp only; rw [if_neg (by omega)]; exact rs
    · dsimp only at e; rw [hd] at e; cases e
    · refine ⟨n1, fun e => ?_, n3, n4⟩
      have h2 := n2 e
      unfold ju at h2 ⊢
      split at h2
      · dsimp only; rw [if_pos (by assumption)]; omega
      · dsimp only; rw [if_neg (by assumption)]; omega
  | fin hd hk he hs hm =>
    obtain ⟨n1, n2, n3, n4⟩ := v.nd hd
    refine ⟨v.id, v.sd, v.sh, v.sn, v.rv, v.rq, v.rs, fun e => ?_, fun _ => ⟨?_, fun _ => ?_, n3, n4⟩⟩
    · dsimp only at e; rw [hd] at e; cases e
    · unfold uK at n1 ⊢; dsimp only; rw [if_neg hs] at n1 ⊢; exact n1
    · unfold ju; dsimp only; rw [if_neg hs]; exact hm
  | stat hd hk hs hm => exact v.done (wv (zL hf hk))
  | reset hd hk =>
    have := tX hf hk
    exact v.done (nF (by omega) (by omega))
  | win hd hk hm hn =>
    obtain ⟨n1, n2, n3, n4⟩ := v.nd hd
    exact ⟨v.id, v.sd, v.sh, ma v.sn hn hm, v.rv, v.rq, v.rs, fun e => (by dsimp only at e; rw [hd] at e; cases e), fun _ => ⟨n1, n2, n3, n4⟩⟩
structure Ed (s t : cx) : Prop where
  id : t.id = s.id
  sd : t.side = s.side
  sh : t.shape = s.shape
  sz : t.snd.size = s.snd.size
  hd : t.snd.held = s.snd.held
  rz : t.rcv.size = s.rcv.size
theorem RcvOk.kept {s t : cx} {f : aY} (h : RcvOk s f t) : Ed s t := by
  cases h.h <;> exact ⟨rfl, rfl, rfl, rfl, rfl, rfl⟩
theorem RcvOk.more {s t : cx} {f : aY} (h : RcvOk s f t) (hd : t.done = false) : More s t := by
  have v := tZ h
  cases h.h with
  | old hd' => exact ⟨rfl, rfl, rfl, rfl, rfl, rfl, rfl, rfl, Int.le_refl _, fun h => h, v⟩
  | data hd' hk he hm hz hl => exact ⟨rfl, rfl, rfl, rfl, rfl, rfl, rfl, rfl, by show s.got ≤ s.got + 1; omega, fun h => h, v⟩
  | fin hd' hk he hs hm => exact ⟨rfl, rfl, rfl, rfl, rfl, rfl, rfl, rfl, Int.le_refl _, fun _ => rfl, v⟩
  | stat => cases hd
  | reset => cases hd
  | win hd' hk hm hn => exact ⟨rfl, rfl, rfl, rfl, rfl, rfl, rfl, rfl, Int.le_refl _, fun h => h, v⟩
theorem RcvOk.keepDone {s t : cx} {f : aY} (h : RcvOk s f t) (hd : s.done = true) : t = s := by
  cases h.h with
  | old => rfl
  | data hd' => rw [hd] at hd'; cases hd'
  | fin hd' => rw [hd] at hd'; cases hd'
  | stat hd' => rw [hd] at hd'; cases hd'
  | reset hd' => rw [hd] at hd'; cases hd'
  | win hd' => rw [hd] at hd'; cases hd'
theorem kJ (f : aY) : 0 ≤ bR f := by
  unfold bR
  have := cZ f.data
  split <;> omega
theorem fm {f : aY} (h : f.kind = 2) : bR f = aI f.data := by unfold bR; rw [if_pos h]
def dN (l : List aY) : Int := (l.map bR).sum
theorem fo : dN [] = 0 := rfl
theorem dv (f : aY) (l : List aY) : dN (f :: l) = bR f + dN l := by unfold dN; simp
theorem eE (a b : List aY) : dN (a ++ b) = dN a + dN b := by unfold dN; simp
theorem ie : ∀ l : List aY, 0 ≤ dN l
  | [] => Int.le_refl _
  | f :: l => by rw [dv]; have := ie l; have := kJ f; omega
def Ev (w : bj) (n : Int) : bj := ⟨w.size, w.left - n, w.held⟩
inductive Ch : List aY → cx → bj → List aY → cx → bj → List aY → Prop
  | nil {s : cx} {w : bj} : Ch [] s w [] s w []
  | stop {f : aY} {r : List aY} {s : cx} {w : bj} (h : s.snd.left < bR f ∨ w.left < bR f) : Ch (f :: r) s w [] s w (f :: r)
  | step {f : aY} {r q rest : List aY} {s t s' : cx} {w w' : bj} (h1 : bR f ≤ s.snd.left) (h2 : bR f ≤ w.left) (h3 : SndOk s f t) (h4 : Ch r t (Ev w (bR f)) q s' w' rest) : Ch (f :: r) s w (f :: q) s' w' rest
theorem ua {s t : cx} {f : aY} {r : List aY} (v : VS s) (h0 : s.snd.held = 0) (hl : bR f ≤ s.snd.left) (h : (cy (f :: r) s).err = 0) (ht : SndOk s f t) : (cy r t).err = 0 ∧ (t.done = true → r = []) := by
  rw [eX] at h
  obtain ⟨_, h2, h3⟩ := tY v (fun hk => by rw [← fm hk]; exact hl) h.1
  rw [jf ht] at h3
  dsimp only at h3
  have hr : t.done = true → r = [] := fun hd => by
    have h4 : (bD (gy s) f).st.done = true := by
      rcases h3 with h3 | h3
      · exact h3.2
      · rw [← h3.done]; exact hd
    cases r with
    | nil => rfl
    | cons g r => exact absurd h.2 (pu h4)
  refine ⟨?_, hr⟩
  rcases h3 with h3 | h3
  · rw [hr h3.1]; rfl
  · exact mb (me h.2) h3 (by rw [ht.kept.hd]; exact h0) h.2
theorem zP : ∀ (l : List aY) (s : cx) (w : bj) (o : List aY), VS s → s.snd.held = 0 → bl w = true → (cy l s).err = 0 → ∃ q, Ch l s w q (kL l s w o).st (kL l s w o).w (kL l s w o).ob ∧ (kL l s w o).ou = o ++ q
  | [], s, w, o, _, _, _, _ => ⟨[], .nil, by rw [kL]; simp⟩
  | f :: r, s, w, o, v, h0, hw, h => by
    rw [kL]
    by_cases hA : s.snd.left < bR f ∨ w.left < bR f
    · rw [if_pos hA]
      exact ⟨[], .stop hA, by simp⟩
    have h1 : bR f ≤ s.snd.left := by omega
    have h2 : bR f ≤ w.left := by omega
    obtain ⟨g1, g2, _⟩ := tY v (fun hk => by rw [← fm hk]; exact h1) (eX.1 h).1
    obtain ⟨g3, g4⟩ := ua v h0 h1 h g1
    have ht := fT hw (kJ f) h2
    have hw' : bl (Ev w (bR f)) = true := pt hw (kJ f) h2
    rw [if_neg hA, if_neg (by rw [g2]; simp), if_neg (by rw [ht]; simp), ht]
    dsimp only
    cases hd : (bD s f).st.done with
    | true =>
      rw [if_pos rfl]
      rw [g4 hd]
      exact ⟨[f], .step h1 h2 g1 .nil, rfl⟩
    | false =>
      rw [if_neg (by simp)]
      obtain ⟨q, i1, i2⟩ := zP r (bD s f).st (Ev w (bR f)) (o ++ [f]) (ia g1) (by rw [g1.kept.hd]; exact h0) hw' g3
      exact ⟨f :: q, .step h1 h2 g1 i1, by rw [show (⟨w.size, w.left - bR f, w.held⟩ : bj) = Ev w (bR f) from rfl, i2]; simp⟩
structure Ee (l : List aY) (s : cx) (w : bj) (q : List aY) (s' : cx) (w' : bj) (rest : List aY) : Prop where
  vs : VS s'
  kp : Kept s s'
  wk : bl w' = true
  ws : w'.size = w.size
  wh : w'.held = w.held
  wl : w'.left = w.left - dN q
  sp : l = q ++ rest
  ah : (cy rest s').err = 0
  st : ∀ f r, rest = f :: r → s'.snd.left < bR f ∨ w'.left < bR f
  dn : s'.done = true → rest = []
  fr : ∀ f ∈ q, aR f = 0 ∧ f.strm = s.id
  sl : s'.snd.left = s.snd.left - dN q
theorem xH : ∀ {l : List aY} {s : cx} {w : bj} {q : List aY} {s' : cx} {w' : bj} {rest : List aY}, Ch l s w q s' w' rest → VS s → s.snd.held = 0 → bl w = true → (cy l s).err = 0 → (∀ f ∈ l, f.kind = 2 ∨ f.kind = 3 ∨ f.kind = 4) → Ee l s w q s' w' rest := by
  intro l s w q s' w' rest h
  induction h with
  | nil => intro v h0 hw ha hk; exact ⟨v, Kept.refl _, hw, rfl, rfl, by rw [fo]; omega, rfl, ha, fun f r e => (by cases e), fun _ => rfl, fun f hf => (by cases hf), by rw [fo]; omega⟩
  | @stop f r s w hst =>
    intro v h0 hw ha hk
    refine ⟨v, Kept.refl _, hw, rfl, rfl, by rw [fo]; omega, rfl, ha, fun g r' e => ?_, fun hd => absurd ha (pu hd), fun f hf => (by cases hf), by rw [fo]; omega⟩
    obtain ⟨rfl, rfl⟩ := (by simpa using e : f = g ∧ r = r')
    exact hst
  | @step f r q rest s t s' w w' h1 h2 h3 h4 ih =>
    intro v h0 hw ha hk
    obtain ⟨g1, g2⟩ := ua v h0 h1 ha h3
    have i := ih (ia h3) (by rw [h3.kept.hd]; exact h0) (pt hw (kJ f) h2) g1 (fun x hx => hk x (List.mem_cons_of_mem _ hx))
    have wl := i.wl
    have sl := i.sl
    refine ⟨i.vs, h3.kept.trans i.kp, i.wk, i.ws, i.wh, ?_, by rw [i.sp]; rfl, i.ah, i.st, i.dn, fun x hx => ?_, ?_⟩
    · rw [dv]
      show w'.left = _
      rw [wl]
      show w.left - bR f - dN q = _
      omega
    · rcases List.mem_cons.1 hx with rfl | hx
      · exact ⟨h3.fe, h3.i⟩
      · exact ⟨(i.fr x hx).1, (i.fr x hx).2.trans h3.kept.id⟩
    · rw [dv, sl]
      have e : t.snd.left = s.snd.left - bR f := by
        have hkf := hk f (List.mem_cons_self ..)
        cases h3.h with
        | data hk => rw [fm hk]
        | fin hk => rw [bR, if_neg (by omega)]; show s.snd.left = _; omega
        | stat hk => rw [bR, if_neg (by omega)]; show s.snd.left = _; omega
        | reset hk => omega
      omega
end Go.Proofs.YthiocbcokfondaaGreatDoor.Y
namespace Go.Proofs.YthiocbcokfondaaGreatDoor.Y
structure PK (sd sz la : Int) (k : KR) : Prop where
  vs : VS k.st
  sd : k.st.side = sd
  z1 : k.st.snd.size = sz
  z2 : k.st.rcv.size = sz
  h0 : k.st.snd.held = 0
  he : bo k.hd = 0
  ib : ∀ m ∈ k.ib, m.size ≤ 16384
  la : k.st.id ≤ la
  dn : k.st.done = true → k.ob = []
  un : k.st.done = false → aW k.ib ≤ k.st.rcv.held
  ah : k.st.done = false → (cy k.ob k.st).err = 0
  kd : ∀ f ∈ k.ob, f.kind = 2 ∨ f.kind = 3 ∨ f.kind = 4
def NF (sw : bj) (k : KR) : Prop := ∀ f r, k.ob = f :: r → k.st.snd.left < bR f ∨ sw.left < bR f
theorem PK.ahd {sd sz la : Int} {k : KR} (h : PK sd sz la k) : (cy k.ob k.st).err = 0 := by
  cases hd : k.st.done with
  | true => rw [h.dn hd]; rfl
  | false => exact h.ah hd
theorem PK.la' {sd sz la la' : Int} {k : KR} (h : PK sd sz la k) (hl : la ≤ la') : PK sd sz la' k := ⟨h.vs, h.sd, h.z1, h.z2, h.h0, h.he, h.ib, Int.le_trans h.la hl, h.dn, h.un, h.ah, h.kd⟩
structure VB (c : NL) : Prop where
  sd : c.sd = 1 ∨ c.sd = 2
  sz : 1 ≤ c.sz ∧ c.sz ≤ 1048576
  sw : bl c.sw = true
  rw : bl c.rw = true
  ss : c.sw.size = c.sz
  rs : c.rw.size = c.sz
  sh : c.sw.held = 0
  la : 0 ≤ c.la ∧ c.la ≤ 2147483647
  aw : 0 ≤ c.aw ∧ c.aw ≤ 2147483648
  n1 : c.sd = 1 → c.nx = c.la + 1
  n2 : c.sd = 2 → c.nx = 1 ∧ c.aw ≤ c.la + 1
  pg : c.pg.length ≤ 16
  pn : ∀ n ∈ c.pg, 0 ≤ n ∧ n ≤ 4294967295
  cn : eo c.ks ≤ 64
  pk : ∀ k ∈ c.ks, PK c.sd c.sz c.la k
  asc : (c.ks.map (·.st.id)).Pairwise (· < ·)
  ou : ∀ f ∈ c.ou, aR f = 0
  cl : c.cl = true → c.ou = [] ∧ eo c.ks = 0
  tt : be c.ks ≤ c.rw.held
structure VN (c : NL) : Prop extends VB c where
  nf : ∀ k ∈ c.ks, NF c.sw k
theorem eF : ∀ l : List ByteArray, 0 ≤ aW l
  | [] => Int.le_refl _
  | s :: r => by rw [aW]; have := eF r; have := cZ s; omega
theorem jg (s : ByteArray) : ∀ l : List ByteArray, aW (l ++ [s]) = aW l + aI s
  | [] => by simp [aW]
  | a :: r => by rw [List.cons_append, aW, jg s r, aW]; omega
theorem eY : ∀ l : List KR, 0 ≤ be l
  | [] => Int.le_refl _
  | k :: r => by rw [be]; have := eY r; have := eF k.ib; omega
theorem ud : ∀ a b : List KR, be (a ++ b) = be a + be b
  | [], b => by simp [be]
  | k :: a, b => by rw [List.cons_append, be, ud a b, be]; omega
theorem dw {k' k : KR} : ∀ {l : List KR} {i : Nat}, l[i]? = some k → be (l.set i k') = be l - aW k.ib + aW k'.ib
  | a :: l, 0, h => by
    obtain rfl := (by simpa using h : a = k)
    rw [List.set_cons_zero, be, be]; omega
  | a :: l, i + 1, h => by
    have h1 : l[i]? = some k := by simpa using h
    rw [List.set_cons_succ, be, dw h1, be]; omega
theorem pz {k : KR} : ∀ {l : List KR} {i : Nat}, l[i]? = some k → be (l.eraseIdx i) = be l - aW k.ib
  | a :: l, 0, h => by
    obtain rfl := (by simpa using h : a = k)
    rw [List.eraseIdx_cons_zero, be]; omega
  | a :: l, i + 1, h => by
    have h1 : l[i]? = some k := by simpa using h
    rw [List.eraseIdx_cons_succ, be, pz h1, be]; omega
theorem wz {k' k : KR} (hd : k.st.done = true → k'.st.done = true) : ∀ {l : List KR} {i : Nat}, l[i]? = some k → eo (l.set i k') ≤ eo l
  | a :: l, 0, h => by
    obtain rfl := (by simpa using h : a = k)
    rw [List.set_cons_zero]
    unfold eo
    rw [List.countP_cons, List.countP_cons]
    cases h1 : a.st.done with
    | true => rw [hd h1]; simp
    | false => simp; split <;> omega
  | a :: l, i + 1, h => by
    have h1 : l[i]? = some k := by simpa using h
    have := wz hd h1
    unfold eo at this ⊢
    rw [List.set_cons_succ, List.countP_cons, List.countP_cons]
    omega
theorem vp {k' k : KR} (hid : k'.st.id = k.st.id) {l : List KR} {i : Nat} (h : l[i]? = some k) : (l.set i k').map (·.st.id) = l.map (·.st.id) := by
  rw [List.map_set, hid]
  obtain ⟨h1, h2⟩ := List.getElem?_eq_some_iff.1 h
  apply List.ext_getElem?
  intro j
  by_cases hj : i = j
  · subst hj
    rw [List.getElem?_set_self (by rw [List.length_map]; exact h1), List.getElem?_map, h]; rfl
  · rw [List.getElem?_set_ne hj]
theorem ue {k' x : KR} {l : List KR} {i : Nat} (h : x ∈ l.set i k') : x = k' ∨ x ∈ l := by
  rcases List.mem_or_eq_of_mem_set h with h | h
  · exact .inr h
  · exact .inl h
theorem VB.upd {c : NL} (h : VB c) {i : Nat} {k k' : KR} (hi : c.ks[i]? = some k) (hp : PK c.sd c.sz c.la k') (hid : k'.st.id = k.st.id) (hdn : k.st.done = true → k'.st.done = true) {sw' rw' : bj} {ou' : List aY}
    (w1 : bl sw' = true) (w2 : sw'.size = c.sz) (w3 : sw'.held = 0) (r1 : bl rw' = true) (r2 : rw'.size = c.sz) (ho : ∀ f ∈ ou', aR f = 0) (hcl : c.cl = true → ou' = []) (ht : be (c.ks.set i k') ≤ rw'.held) :
    VB { c with sw := sw', rw := rw', ks := c.ks.set i k', ou := ou' } := by
  have hc := wz hdn hi
  exact ⟨h.sd, h.sz, w1, r1, w2, r2, w3, h.la, h.aw, h.n1, h.n2, h.pg, h.pn, Nat.le_trans hc h.cn, fun x hx => (ue hx).elim (fun e => e ▸ hp) (h.pk x), by
    show ((c.ks.set i k').map (·.st.id)).Pairwise (· < ·)
    rw [vp hid hi]; exact h.asc, ho, fun e => ⟨hcl e, by have := (h.cl e).2; show eo (c.ks.set i k') = 0; omega⟩, ht⟩
theorem NF.less {sw sw' : bj} {k : KR} (h : NF sw k) (hl : sw'.left ≤ sw.left) : NF sw' k := fun f r e => (h f r e).imp id (fun h => by omega)
theorem VN.upd {c : NL} (h : VN c) {i : Nat} {k k' : KR} (hi : c.ks[i]? = some k) (hp : PK c.sd c.sz c.la k') (hid : k'.st.id = k.st.id) (hdn : k.st.done = true → k'.st.done = true) {sw' rw' : bj} {ou' : List aY}
    (w1 : bl sw' = true) (w2 : sw'.size = c.sz) (w3 : sw'.held = 0) (w4 : sw'.left ≤ c.sw.left) (hn : NF sw' k') (r1 : bl rw' = true) (r2 : rw'.size = c.sz) (ho : ∀ f ∈ ou', aR f = 0) (hcl : c.cl = true → ou' = []) (ht : be (c.ks.set i k') ≤ rw'.held) :
    VN { c with sw := sw', rw := rw', ks := c.ks.set i k', ou := ou' } :=
  ⟨h.toVB.upd hi hp hid hdn w1 w2 w3 r1 r2 ho hcl ht, fun x hx => (ue hx).elim (fun e => e ▸ hn) (fun hx => (h.nf x hx).less w4)⟩
theorem df {c : NL} {i : Nat} {k : KR} (h : c.ks[i]? = some k) : mG c i = k := by unfold mG; rw [h]; rfl
theorem bM {c : NL} {i : Nat} {k : KR} (h : c.ks[i]? = some k) (g : KR → KR) : gb c i g = { c with ks := c.ks.set i (g k) } := by unfold gb; rw [df h]
theorem wA {c : NL} (h : VB c) (hc : c.cl = true) : ∀ k ∈ c.ks, k.st.done = true := fun k hk => by
  have h1 := (h.cl hc).2
  unfold eo at h1
  have := List.countP_eq_zero.1 h1 k hk
  simpa using this
structure ET (c : NL) (k : KR) (q : List aY) (r : Eq) : Prop where
  run : Ch k.ob k.st c.sw q r.st r.w r.ob
  fac : Ee k.ob k.st c.sw q r.st r.w r.ob
  ou : r.ou = c.ou ++ q
  pk : PK c.sd c.sz c.la { k with st := r.st, ob := r.ob }
  nf : NF r.w { k with st := r.st, ob := r.ob }
  dn : k.st.done = true → r.st.done = true ∧ q = []
theorem rV {c : NL} {k : KR} (hw : bl c.sw = true) (h : PK c.sd c.sz c.la k) : ∃ q, ET c k q (kL k.ob k.st c.sw c.ou) := by
  obtain ⟨q, hr, ho⟩ := zP k.ob k.st c.sw c.ou h.vs h.h0 hw h.ahd
  have hf := xH hr h.vs h.h0 hw h.ahd h.kd
  have hdn : k.st.done = true → (kL k.ob k.st c.sw c.ou).st.done = true ∧ q = [] := fun hd => by
    have e := h.dn hd
    rw [e]
    refine ⟨hd, ?_⟩
    rw [e, kL] at hr
    cases hr; rfl
  generalize kL k.ob k.st c.sw c.ou = r at *
  refine ⟨q, hr, hf, ho, ?_, hf.st, hdn⟩
  refine ⟨hf.vs, by rw [← h.sd]; exact hf.kp.sd, by rw [← h.z1]; exact hf.kp.sz, by rw [← h.z2]; show r.st.rcv.size = _; rw [hf.kp.rcv], by rw [← h.h0]; exact hf.kp.hd, h.he, h.ib, by rw [show ({ k with st := r.st, ob := r.ob } : KR).st.id = k.st.id from hf.kp.id]; exact h.la, hf.dn, fun hd => ?_, fun _ => hf.ah, fun f hx => h.kd f (by rw [hf.sp]; exact List.mem_append_right _ hx)⟩
  show aW k.ib ≤ r.st.rcv.held
  rw [hf.kp.rcv]
  cases hd0 : k.st.done with
  | true => rw [(hdn hd0).1] at hd; cases hd
  | false => exact h.un hd0
theorem gQ {c : NL} {i : Nat} {k : KR} (h : c.ks[i]? = some k) : fw c i = { c with sw := (kL k.ob k.st c.sw c.ou).w, ks := c.ks.set i { k with st := (kL k.ob k.st c.sw c.ou).st, ob := (kL k.ob k.st c.sw c.ou).ob }, ou := (kL k.ob k.st c.sw c.ou).ou } := by
  unfold fw sonR
  rw [df h, bM h]
theorem VB.son {c : NL} (h : VB c) {i : Nat} {k : KR} (hi : c.ks[i]? = some k) : VB (fw c i) ∧ (fw c i).sw.left ≤ c.sw.left ∧ (∀ k', (fw c i).ks[i]? = some k' → NF (fw c i).sw k') := by
  have hk := h.pk k (List.mem_of_getElem? hi)
  obtain ⟨q, hf⟩ := rV h.sw hk
  rw [gQ hi]
  generalize kL k.ob k.st c.sw c.ou = r at *
  have hq := ie q
  have hl := hf.fac.wl
  refine ⟨?_, ?_, fun k' h' => ?_⟩
  · refine h.upd (rw' := c.rw) hi hf.pk hf.fac.kp.id (fun e => (hf.dn e).1) hf.fac.wk (by rw [hf.fac.ws]; exact h.ss) (by rw [hf.fac.wh]; exact h.sh) h.rw h.rs (fun f hx => ?_) (fun e => ?_) ?_
    · rw [hf.ou] at hx
      rcases List.mem_append.1 hx with hx | hx
      · exact h.ou f hx
      · exact (hf.fac.fr f hx).1
    · have hd := wA h e k (List.mem_of_getElem? hi)
      rw [hf.ou, (hf.dn hd).2, (h.cl e).1]; rfl
    · rw [dw hi]
      have := h.tt
      show be c.ks - aW k.ib + aW k.ib ≤ c.rw.held
      omega
  · show r.w.left ≤ c.sw.left; omega
  · have h1 : i < c.ks.length := (List.getElem?_eq_some_iff.1 hi).1
    have h2 : (c.ks.set i { k with st := r.st, ob := r.ob })[i]? = some k' := h'
    rw [List.getElem?_set_self h1] at h2
    obtain rfl := Option.some.inj h2
    exact hf.nf
theorem VN.son {c : NL} (h : VB c) {i : Nat} {k : KR} (hi : c.ks[i]? = some k) (hn : ∀ j k', j ≠ i → c.ks[j]? = some k' → NF c.sw k') : VN (fw c i) := by
  obtain ⟨h1, h2, h3⟩ := h.son hi
  refine ⟨h1, fun x hx => ?_⟩
  obtain ⟨j, hj⟩ := List.getElem?_of_mem hx
  by_cases e : j = i
  · subst e; exact h3 x hj
  · refine (hn j x e ?_).less h2
    rw [gQ hi] at hj
    rw [← hj]
    exact (List.getElem?_set_ne (fun e' => e e'.symm)).symm
end Go.Proofs.YthiocbcokfondaaGreatDoor.Y
namespace Go.Proofs.YthiocbcokfondaaGreatDoor.Y
theorem EU {id n : Int} (h0 : 0 ≤ id) (h1 : id ≤ 2147483647) (h2 : 1 ≤ n) (h3 : n ≤ 1048576) : aR ⟨6, id, n, emptyB⟩ = 0 := by
  unfold aR ft gG gX
  have e : emptyB.size = 0 := rfl
  simp [e]; omega
theorem EV {id n : Int} (h0 : 1 ≤ id) (h1 : id ≤ 2147483647) (h2 : 1 ≤ n) (h3 : n ≤ 13) : aR ⟨5, id, n, emptyB⟩ = 0 := by
  unfold aR ft gG gX
  have e : emptyB.size = 0 := rfl
  simp [e]; omega
theorem FI {n : Int} (h2 : 0 ≤ n) (h3 : n ≤ 2147483647) : aR ⟨9, 0, n, emptyB⟩ = 0 := by
  unfold aR ft gG gX
  have e : emptyB.size = 0 := rfl
  simp [e]; omega
theorem FJ {n : Int} (h2 : 0 ≤ n) (h3 : n ≤ 4294967295) : aR ⟨8, 0, n, emptyB⟩ = 0 := by
  unfold aR ft gG gX
  have e : emptyB.size = 0 := rfl
  simp [e]; omega
theorem gJ {id : Int} {l : List KR} {i : Nat} (h : dO id l 0 = some i) : ∃ k, l[i]? = some k ∧ k.st.id = id := by
  have key : ∀ (l : List KR) (a i : Nat), dO id l a = some i → a ≤ i ∧ ∃ k, l[i - a]? = some k ∧ k.st.id = id := by
    intro l
    induction l with
    | nil => intro a i h; cases h
    | cons k r ih =>
      intro a i h
      unfold dO at h
      split at h
      · obtain rfl := (by simpa using h : a = i)
        exact ⟨Nat.le_refl _, k, by simp, by assumption⟩
      · obtain ⟨h1, k', h2, h3⟩ := ih (a + 1) i h
        refine ⟨by omega, k', ?_, h3⟩
        rw [show i - a = i - (a + 1) + 1 by omega]
        simpa using h2
  obtain ⟨_, h2⟩ := key l 0 i h
  exact h2
theorem kK {w : bj} (h : bl w = true) {u : Int} (_h0 : 0 ≤ u) (h1 : u ≤ w.held) : 0 ≤ bI w u ∧ bI w u ≤ w.held - u := by
  have := aX.1 h
  unfold bI
  split
  · omega
  · unfold Bg
    split
    · omega
    · dsimp only; omega
theorem zQ {w : bj} (h : bl w = true) {u : Int} (h0 : 0 ≤ u) (h1 : u ≤ w.held) : bl (tl w (bI w u)) = true := by
  obtain ⟨a, b⟩ := kK h h0 h1
  have := aX.1 h
  rw [aX]
  unfold tl
  dsimp only
  omega
theorem VN.gbC {c : NL} (h : VN c) : VN (gbC c) := by
  unfold Y.gbC
  split
  · exact h
  · rename_i hn
    have hcl : c.cl = false := eq_false_of_ne_true fun e => hn (.inl e)
    have h0 : 0 < bI c.rw (be c.ks) := by have := fun e => hn (.inr e); omega
    obtain ⟨a, b⟩ := kK h.rw (eY c.ks) h.tt
    have := aX.1 h.rw
    have hp := eY c.ks
    refine ⟨⟨h.sd, h.sz, h.sw, zQ h.rw (eY c.ks) h.tt, h.ss, h.rs, h.sh, h.la, h.aw, h.n1, h.n2, h.pg, h.pn, h.cn, h.pk, h.asc, fun f hf => ?_, fun e => ?_, ?_⟩, h.nf⟩
    · rcases List.mem_append.1 hf with hf | hf
      · exact h.ou f hf
      · obtain rfl := List.mem_singleton.1 hf
        exact EU (Int.le_refl _) (by omega) (by omega) (by omega)
    · dsimp only at e; rw [hcl] at e; cases e
    · show be c.ks ≤ (tl c.rw (bI c.rw (be c.ks))).held
      unfold tl; dsimp only; omega
theorem PK.rcv {sd sz la : Int} {k : KR} (h : PK sd sz la k) {w : bj} (hw : bl w = true) (hz : w.size = k.st.rcv.size) {ib : List ByteArray} (hib : ∀ m ∈ ib, m.size ≤ 16384) (hu : k.st.done = false → aW ib ≤ w.held) : PK sd sz la { k with st := { k.st with rcv := w }, ib := ib } := by
  have hv : VS { k.st with rcv := w } := ⟨h.vs.id, h.vs.sd, h.vs.sh, h.vs.sn, hw, h.vs.rq, h.vs.rs, h.vs.dn, h.vs.nd⟩
  refine ⟨hv, h.sd, h.z1, hz.trans h.z2, h.h0, h.he, hib, h.la, h.dn, hu, fun hd => ?_, h.kd⟩
  exact mb (s := k.st) (me h.ahd) ⟨rfl, rfl, rfl, rfl, rfl, rfl, rfl, rfl, Int.le_refl _, fun h => h, hv⟩ h.h0 (PK.ahd (k := k) h)
theorem VN.gbK {c : NL} (h : VN c) {i : Nat} {k : KR} (hi : c.ks[i]? = some k) (hd : k.st.done = false) : VN (gbK c i k.st.id) ∧ (gbK c i k.st.id).ks.map (fun k => (k.ib, k.st.done)) = c.ks.map (fun k => (k.ib, k.st.done)) := by
  have hk := h.pk k (List.mem_of_getElem? hi)
  unfold Y.gbK
  rw [show rD c i = bI k.st.rcv (aW k.ib) by unfold rD; rw [df hi]]
  split
  · exact ⟨h, rfl⟩
  · rename_i hn
    have hcl : c.cl = false := eq_false_of_ne_true fun e => hn (.inl e)
    have h0 : 0 < bI k.st.rcv (aW k.ib) := by have := fun e => hn (.inr e); omega
    obtain ⟨a, b⟩ := kK hk.vs.rv (eF k.ib) (hk.un hd)
    have := aX.1 hk.vs.rv
    have hp := eF k.ib
    rw [bM hi]
    refine ⟨h.upd (sw' := c.sw) (rw' := c.rw) hi (hk.rcv (zQ hk.vs.rv hp (hk.un hd)) rfl hk.ib (fun _ => ?_)) rfl (fun e => e) h.sw h.ss h.sh (Int.le_refl _) (h.nf k (List.mem_of_getElem? hi)) h.rw h.rs (fun f hf => ?_) (fun e => ?_) ?_, ?_⟩
    · unfold tl; dsimp only; omega
    · rcases List.mem_append.1 hf with hf | hf
      · exact h.ou f hf
      · obtain rfl := List.mem_singleton.1 hf
        have := hk.vs.id
        exact EU (by omega) (by omega) (by omega) (by omega)
    · rw [hcl] at e; cases e
    · rw [dw hi]
      have := h.tt
      show be c.ks - aW k.ib + aW k.ib ≤ c.rw.held
      omega
    · show (c.ks.set i _).map _ = _
      rw [List.map_set]
      obtain ⟨h1, h2⟩ := List.getElem?_eq_some_iff.1 hi
      apply List.ext_getElem?
      intro j
      by_cases hj : i = j
      · subst hj
        rw [List.getElem?_set_self (by rw [List.length_map]; exact h1), List.getElem?_map, hi]; rfl
      · rw [List.getElem?_set_ne hj]
theorem VN.new {sd sz : Int} (h : (dP sd sz).2 = 0) : VN (dP sd sz).1 := by
  unfold dP at h ⊢
  split at h
  · cases h
  · rename_i g
    rw [if_neg g]
    have g1 : sd = 1 ∨ sd = 2 := by have := fun e => g (.inl e); omega
    have g2 : (ig sz).err = 0 := Decidable.not_not.1 fun e => g (.inr e)
    have g3 : 1 ≤ sz ∧ sz ≤ 1048576 ∧ ig sz = ⟨⟨sz, sz, 0⟩, 0⟩ := by
      unfold ig at g2 ⊢
      split at g2
      · cases g2
      · rename_i g'
        rw [if_neg g']
        exact ⟨by omega, by omega, rfl⟩
    obtain ⟨z1, z2, z3⟩ := g3
    rw [z3]
    have hw : bl ⟨sz, sz, 0⟩ = true := aX.2 ⟨z1, z2, by dsimp only; omega, Int.le_refl _, z2, by dsimp only; omega⟩
    exact ⟨⟨g1, ⟨z1, z2⟩, hw, hw, rfl, rfl, rfl, ⟨Int.le_refl _, (show (0 : Int) ≤ 2147483647 by decide)⟩, ⟨Int.le_refl _, (show (0 : Int) ≤ 2147483648 by decide)⟩, fun _ => rfl, fun _ => ⟨rfl, (show (0 : Int) ≤ 1 by decide)⟩, Nat.zero_le _, (fun _ h => by cases h), Nat.zero_le _, (fun _ h => by cases h), List.Pairwise.nil, (fun _ h => by cases h), fun _ => ⟨rfl, rfl⟩, Int.le_refl _⟩, fun _ h => by cases h⟩
theorem VN.flush {c : NL} (h : VN c) : VN (jF c).1 :=
  ⟨⟨h.sd, h.sz, h.sw, h.rw, h.ss, h.rs, h.sh, h.la, h.aw, h.n1, h.n2, h.pg, h.pn, h.cn, h.pk, h.asc, (fun _ h => by cases h), fun e => ⟨rfl, (h.cl e).2⟩, h.tt⟩, h.nf⟩
theorem VN.out {c : NL} (h : VN c) {f : aY} (hf : aR f = 0) (hc : c.cl = false) : VN { c with ou := c.ou ++ [f] } :=
  ⟨⟨h.sd, h.sz, h.sw, h.rw, h.ss, h.rs, h.sh, h.la, h.aw, h.n1, h.n2, h.pg, h.pn, h.cn, h.pk, h.asc, fun x hx => (List.mem_append.1 hx).elim (h.ou x) (fun hx => by obtain rfl := List.mem_singleton.1 hx; exact hf), (fun e => by dsimp only at e; rw [hc] at e; cases e), h.tt⟩, h.nf⟩
theorem VN.ping {c : NL} (h : VN c) (n : Int) : VN (tn c n).1 := by
  unfold tn
  split
  · exact h
  · rename_i hc
    split
    · exact h
    · rename_i hf
      exact h.out (Decidable.not_not.1 hf) (eq_false_of_ne_true hc)
theorem VN.away {c : NL} (h : VN c) : VN (vP c) := by
  unfold vP
  split
  · rename_i hc
    have h1 := h.out (f := ⟨9, 0, c.la, emptyB⟩) (FI h.la.1 h.la.2) hc.2.1
    have hla := h.la
    exact ⟨⟨h1.sd, h1.sz, h1.sw, h1.rw, h1.ss, h1.rs, h1.sh, h1.la, ⟨by show 0 ≤ c.la + 1; omega, by show c.la + 1 ≤ 2147483648; omega⟩, h1.n1, fun e => ⟨(h1.n2 e).1, Int.le_refl _⟩, h1.pg, h1.pn, h1.cn, h1.pk, h1.asc, h1.ou, h1.cl, h1.tt⟩, h1.nf⟩
  · exact h
theorem wB {sd sz la above : Int} {k : KR} (h : PK sd sz la k) : PK sd sz la (gz above k) ∧ (gz above k).st.id = k.st.id ∧ (k.st.done = true → gz above k = k) ∧ (gz above k).ib = k.ib ∧ (above < k.st.id → (gz above k).st.done = true) ∧ (k.st.id ≤ above → gz above k = k) ∧ (gz above k = k ∨ (gz above k).ob = []) := by
  unfold gz
  split
  · rename_i hc
    have he : ti k.st 12 emptyB = eA k.st 12 emptyB := by
      unfold ti
      rw [if_neg]
      rintro (e | e | e)
      · rw [hc.1] at e; cases e
      · rw [fD.2 h.vs] at e; cases e
      · exact e (nF (by decide) (by decide))
    rw [he]
    unfold eL
    rw [if_pos (show ({ k with st := eA k.st 12 emptyB } : KR).st.done = true from rfl)]
    exact ⟨⟨h.vs.done (nF (by decide) (by decide)), h.sd, h.z1, h.z2, h.h0, h.he, h.ib, h.la, fun _ => rfl, (fun e => by cases e), (fun e => by cases e), fun _ h => by cases h⟩, rfl, fun e => absurd e (by rw [hc.1]; simp), rfl, fun _ => rfl, fun e => absurd hc.2 (by omega), .inr rfl⟩
  · rename_i hc
    refine ⟨h, rfl, fun _ => rfl, rfl, fun e => ?_, fun _ => rfl, .inl rfl⟩
    cases hd : k.st.done with
    | true => rfl
    | false => exact absurd ⟨hd, e⟩ hc
theorem wC {c : NL} (h : VN c) (above : Int) : VN (tp c above) := by
  have hp := fun k hk => wB (above := above) (h.pk k hk)
  have hmap : (c.ks.map (gz above)).map (·.st.id) = c.ks.map (·.st.id) := by
    rw [List.map_map]
    exact List.map_congr_left fun k hk => (hp k hk).2.1
  have hcnt : eo (c.ks.map (gz above)) ≤ eo c.ks := by
    unfold eo
    rw [List.countP_map]
    refine List.countP_mono_left fun k hk hd => ?_
    cases hd' : k.st.done with
    | false => rfl
    | true =>
      have := (hp k hk).2.2.1 hd'
      simp only [Function.comp, this, hd'] at hd
      exact absurd hd (by decide)
  have htot : ∀ l : List KR, (∀ k ∈ l, (gz above k).ib = k.ib) → be (l.map (gz above)) = be l := by
    intro l
    induction l with
    | nil => intro _; rfl
    | cons k r ih =>
      intro hx
      rw [List.map_cons, be, be, ih (fun x hxm => hx x (List.mem_cons_of_mem _ hxm)), hx k (List.mem_cons_self ..)]
  refine ⟨⟨h.sd, h.sz, h.sw, h.rw, h.ss, h.rs, h.sh, h.la, h.aw, h.n1, h.n2, h.pg, h.pn, Nat.le_trans hcnt h.cn, fun k hk => ?_, by show ((c.ks.map (gz above)).map (·.st.id)).Pairwise (· < ·); rw [hmap]; exact h.asc, h.ou, fun e => ⟨(h.cl e).1, by have := (h.cl e).2; show eo (c.ks.map (gz above)) = 0; omega⟩, ?_⟩, fun k hk => ?_⟩
  · obtain ⟨k0, hk0, rfl⟩ := List.mem_map.1 hk
    exact (hp k0 hk0).1
  · show be (c.ks.map (gz above)) ≤ c.rw.held
    rw [htot c.ks (fun k hk => (hp k hk).2.2.2.1)]
    exact h.tt
  · obtain ⟨k0, hk0, rfl⟩ := List.mem_map.1 hk
    rcases (hp k0 hk0).2.2.2.2.2.2 with e | e
    · rw [e]; exact h.nf k0 hk0
    · intro f r e'; rw [e] at e'; cases e'
theorem vq {c : NL} (h : VN c) : ∀ k ∈ (kR c).ks, k.st.done = true := fun k hk => by
  obtain ⟨k0, hk0, rfl⟩ := List.mem_map.1 hk
  have hp := h.pk k0 hk0
  have := hp.vs.id
  exact (wB (above := 0) hp).2.2.2.2.1 (by omega)
theorem zR {l : List KR} (h : ∀ k ∈ l, k.st.done = true) : eo l = 0 := by
  unfold eo
  refine List.countP_eq_zero.2 fun k hk => ?_
  rw [h k hk]; decide
theorem VN.close {c : NL} (h : VN c) : VN (kR c) := by
  have h1 : VN { c with ou := [] } := h.flush
  have h2 := wC h1 0
  exact ⟨⟨h2.sd, h2.sz, h2.sw, h2.rw, h2.ss, h2.rs, h2.sh, h2.la, h2.aw, h2.n1, h2.n2, h2.pg, h2.pn, h2.cn, h2.pk, h2.asc, (fun _ h => by cases h), fun _ => ⟨rfl, zR (vq h)⟩, h2.tt⟩, h2.nf⟩
theorem VN.wait {c : NL} (h : VN c) (f : aY) (chk : Int) (hk : f.kind = 2 ∨ f.kind = 3 ∨ f.kind = 4) : VN (eM c f chk).1 := by
  unfold eM
  split
  · exact h
  · rename_i hw
    have hw : jT c f chk = 0 := Decidable.not_not.1 hw
    unfold jT at hw
    cases hfi : dO f.strm c.ks 0 with
    | none => rw [hfi] at hw; cases hw
    | some i =>
      obtain ⟨k, hi, hid⟩ := gJ hfi
      rw [hfi] at hw
      dsimp only at hw
      rw [df hi] at hw
      have hp := h.pk k (List.mem_of_getElem? hi)
      have e1 : chk = 0 := by
        refine Decidable.not_not.1 fun e => ?_
        rw [if_pos e] at hw; exact e hw
      rw [if_neg (by simpa using e1), if_neg (by simpa using hp.ahd)] at hw
      have hah := pw hp.ahd hw
      show VN (fw (gb c i _) i)
      rw [bM hi]
      have hb : VB { c with ks := c.ks.set i { k with ob := k.ob ++ [f] } } := by
        refine h.toVB.upd (k' := { k with ob := k.ob ++ [f] }) (sw' := c.sw) (rw' := c.rw) (ou' := c.ou) hi ?_ rfl (fun e => e) h.sw h.ss h.sh h.rw h.rs h.ou (fun e => (h.cl e).1) ?_
        · refine ⟨hp.vs, hp.sd, hp.z1, hp.z2, hp.h0, hp.he, hp.ib, hp.la, fun e => ?_, hp.un, fun _ => hah, fun x hx => ?_⟩
          · have hob := hp.dn e
            rw [hob, cy] at hw
            exact absurd hw (mR (s := gy k.st) e)
          · rcases List.mem_append.1 hx with hx | hx
            · exact hp.kd x hx
            · obtain rfl := List.mem_singleton.1 hx
              exact hk
        · rw [dw hi]
          have := h.tt
          show be c.ks - aW k.ib + aW k.ib ≤ c.rw.held
          omega
      have hil := (List.getElem?_eq_some_iff.1 hi).1
      refine VN.son hb (k := { k with ob := k.ob ++ [f] }) (List.getElem?_set_self hil) (fun j k' hj hk' => ?_)
      rw [List.getElem?_set_ne (fun e => hj e.symm)] at hk'
      exact h.nf k' (List.mem_of_getElem? hk')
theorem VN.cancel {c : NL} (h : VN c) (id code : Int) : VN (tm c id code).1 := by
  unfold tm
  split
  · exact h
  · rename_i hw
    have hw : vO c id code = 0 := Decidable.not_not.1 hw
    unfold vO at hw
    cases hfi : dO id c.ks 0 with
    | none => rw [hfi] at hw; cases hw
    | some i =>
      obtain ⟨k, hi, hid⟩ := gJ hfi
      rw [hfi] at hw
      dsimp only at hw
      rw [df hi] at hw
      have hp := h.pk k (List.mem_of_getElem? hi)
      have ho := eW hw
      have hcl : c.cl = false := eq_false_of_ne_true fun e => by
        have := wA h.toVB e k (List.mem_of_getElem? hi)
        rw [ho.d] at this; cases this
      show VN { gb c i _ with ou := _ }
      rw [bM hi]
      have hd : (bD k.st ⟨5, id, code, emptyB⟩).st = eA k.st code ⟨#[]⟩ := by
        generalize (bD k.st ⟨5, id, code, emptyB⟩).st = t at *
        cases ho.h with
        | data hk => simp at hk
        | fin hk => simp at hk
        | stat hk => simp at hk
        | reset hk => rfl
      have hs : eL { k with st := (bD k.st ⟨5, id, code, emptyB⟩).st } = { k with st := eA k.st code ⟨#[]⟩, ob := [] } := by
        rw [hd]; unfold eL; exact if_pos rfl
      rw [hs]
      rw [hd] at ho
      refine h.upd (k' := { k with st := eA k.st code ⟨#[]⟩, ob := [] }) (sw' := c.sw) (rw' := c.rw) hi ⟨ia ho, hp.sd, hp.z1, hp.z2, hp.h0, hp.he, hp.ib, hp.la, fun _ => rfl, (fun e => by cases e), (fun e => by cases e), fun _ h => by cases h⟩ rfl (fun _ => rfl) h.sw h.ss h.sh (Int.le_refl _) (fun f r e => by cases e) h.rw h.rs (fun x hx => ?_) (fun e => ?_) ?_
      · rcases List.mem_append.1 hx with hx | hx
        · exact h.ou x hx
        · obtain rfl := List.mem_singleton.1 hx
          exact ho.fe
      · rw [hcl] at e; cases e
      · rw [dw hi]
        have := h.tt
        show be c.ks - aW k.ib + aW k.ib ≤ c.rw.held
        omega
theorem VN.read {c : NL} (h : VN c) (id : Int) : VN (bY c id).1 := by
  unfold bY
  cases hfi : dO id c.ks 0 with
  | none => exact h
  | some i =>
    obtain ⟨k, hi, hid⟩ := gJ hfi
    dsimp only
    rw [df hi]
    cases hib : k.ib with
    | nil => exact h
    | cons s r =>
      dsimp only
      have hp := h.pk k (List.mem_of_getElem? hi)
      have hu := eF r
      have hs := cZ s
      have hup : VN { c with ks := c.ks.set i { k with ib := r } } := by
        refine h.upd (k' := { k with ib := r }) (sw' := c.sw) (rw' := c.rw) (ou' := c.ou) hi (hp.rcv (w := k.st.rcv) (ib := r) hp.vs.rv rfl (fun m hm => hp.ib m (by rw [hib]; exact List.mem_cons_of_mem _ hm)) (fun hd => ?_)) rfl (fun e => e) h.sw h.ss h.sh (Int.le_refl _) (h.nf k (List.mem_of_getElem? hi)) h.rw h.rs h.ou (fun e => (h.cl e).1) ?_
        · have := hp.un hd
          rw [hib, aW] at this
          omega
        · rw [dw hi, hib, aW]
          have := h.tt
          show be c.ks - (aI s + aW r) + aW r ≤ c.rw.held
          omega
      rw [bM hi]
      refine VN.gbC ?_
      split
      · exact hup
      · rename_i hd
        have hil := (List.getElem?_eq_some_iff.1 hi).1
        rw [← hid]
        exact (hup.gbK (i := i) (k := { k with ib := r }) (List.getElem?_set_self hil) (eq_false_of_ne_true hd)).1
theorem VN.drop {c : NL} (h : VN c) (id : Int) : VN (vQ c id) := by
  unfold vQ
  cases hfi : dO id c.ks 0 with
  | none => exact h
  | some i =>
    obtain ⟨k, hi, hid⟩ := gJ hfi
    dsimp only
    split
    · exact h
    · refine VN.gbC ?_
      have hsub : (c.ks.eraseIdx i).Sublist c.ks := List.eraseIdx_sublist ..
      refine ⟨⟨h.sd, h.sz, h.sw, h.rw, h.ss, h.rs, h.sh, h.la, h.aw, h.n1, h.n2, h.pg, h.pn, Nat.le_trans (hsub.countP_le) h.cn, fun k hk => h.pk k (hsub.subset hk), h.asc.sublist (hsub.map _), h.ou, fun e => ⟨(h.cl e).1, ?_⟩, ?_⟩, fun k hk => h.nf k (hsub.subset hk)⟩
      · have := (h.cl e).2
        have h2 : eo (c.ks.eraseIdx i) ≤ eo c.ks := hsub.countP_le
        show eo (c.ks.eraseIdx i) = 0
        omega
      · show be (c.ks.eraseIdx i) ≤ c.rw.held
        rw [pz hi]
        have := h.tt
        have := eF k.ib
        omega
theorem zS {id sd sh n : Int} (h : (dH id sd sh n).err = 0) : (dH id sd sh n).st = ⟨id, sd, sh, 0, 0, false, false, false, 0, ⟨#[]⟩, ⟨n, n, 0⟩, ⟨n, n, 0⟩⟩ ∧ VS (dH id sd sh n).st ∧ 1 ≤ id ∧ id ≤ 2147483647 := by
  unfold dH at h ⊢
  split at h
  · cases h
  · rename_i g
    rw [if_neg g]
    have g1 : ¬ id < 1 := fun e => g (.inl e)
    have g2 : ¬ 2147483647 < id := fun e => g (.inr (.inl e))
    have g3 : sd = 1 ∨ sd = 2 := by have := fun e => g (.inr (.inr (.inl e))); omega
    have g4 : rA sh = true := by simpa using fun e => g (.inr (.inr (.inr (.inl e))))
    have g5 : (ig n).err = 0 := Decidable.not_not.1 fun e => g (.inr (.inr (.inr (.inr e))))
    have g6 : 1 ≤ n ∧ n ≤ 1048576 ∧ ig n = ⟨⟨n, n, 0⟩, 0⟩ := by
      unfold ig at g5 ⊢
      split at g5
      · cases g5
      · rename_i g'
        rw [if_neg g']
        exact ⟨by omega, by omega, rfl⟩
    obtain ⟨z1, z2, z3⟩ := g6
    rw [z3]
    have hw : bl ⟨n, n, 0⟩ = true := aX.2 ⟨z1, z2, by dsimp only; omega, Int.le_refl _, z2, by dsimp only; omega⟩
    have ht : ∀ m : Int, m = -1 ∨ 0 ≤ m → 0 ≤ jK m := fun m hm => by unfold jK; split <;> omega
    have hc2 : 0 ≤ jK (c2 sh) := ht _ (by unfold c2; rw [if_pos g4]; split <;> simp)
    have hc4 : 0 ≤ jK (c4 sh) := ht _ (by unfold c4; rw [if_pos g4]; split <;> simp)
    refine ⟨rfl, ⟨⟨by dsimp only; omega, by dsimp only; omega⟩, g3, g4, hw, hw, ?_, ?_, (fun e => by cases e), fun _ => ⟨?_, fun e => ?_, rfl, rfl⟩⟩, by omega, by omega⟩
    · unfold ju; split <;> exact ⟨Int.le_refl _, hc2⟩
    · unfold mF; split <;> exact ⟨Int.le_refl _, hc4⟩
    · unfold uK; split <;> rfl
    · unfold rB at e; split at e <;> cases e
theorem VN.more {c : NL} (h : VN c) {id sh nx' la' : Int} (ho : (dH id c.sd sh c.sz).err = 0) (hi : c.la < id) (hla : la' = id) (hn1 : c.sd = 1 → nx' = la' + 1) (hn2 : c.sd = 2 → nx' = 1) (hc : eo c.ks < 64) (hcl : c.cl = false) {hd : ir} (he : bo hd = 0) {ou' : List aY} (hou : ∀ f ∈ ou', aR f = 0) :
    VN { c with nx := nx', la := la', ks := c.ks ++ [⟨(dH id c.sd sh c.sz).st, hd.svc, hd.mth, hd.late, hd.metas, [], []⟩], ou := ou' } := by
  obtain ⟨e, v, i1, i2⟩ := zS ho
  subst hla
  have hla := h.la
  refine ⟨⟨h.sd, h.sz, h.sw, h.rw, h.ss, h.rs, h.sh, ⟨by show 0 ≤ la'; omega, i2⟩, h.aw, hn1, fun e => ⟨hn2 e, by have := (h.n2 e).2; show c.aw ≤ la' + 1; omega⟩, h.pg, h.pn, ?_, fun k hk => ?_, ?_, hou, (fun e => by dsimp only at e; rw [hcl] at e; cases e), ?_⟩, fun k hk => ?_⟩
  · show eo (c.ks ++ _) ≤ 64
    unfold eo at hc ⊢
    rw [List.countP_append, List.countP_singleton]
    split <;> omega
  · rcases List.mem_append.1 hk with hk | hk
    · exact (h.pk k hk).la' (by show c.la ≤ la'; omega)
    · obtain rfl := List.mem_singleton.1 hk
      exact ⟨v, by rw [e], by rw [e], by rw [e], by rw [e], he, (fun _ h => by cases h), by rw [e]; exact Int.le_refl _, fun _ => rfl, fun _ => by rw [e]; exact Int.le_refl _, fun _ => rfl, fun _ h => by cases h⟩
  · show ((c.ks ++ _).map (·.st.id)).Pairwise (· < ·)
    rw [List.map_append]
    refine List.pairwise_append.2 ⟨h.asc, List.pairwise_singleton _ _, fun a ha b hb => ?_⟩
    obtain ⟨k, hk, rfl⟩ := List.mem_map.1 ha
    obtain rfl := List.mem_singleton.1 hb
    have := (h.pk k hk).la
    show k.st.id < (dH la' c.sd sh c.sz).st.id
    rw [e]
    show k.st.id < la'
    omega
  · show be (c.ks ++ _) ≤ c.rw.held
    rw [ud]
    have := h.tt
    simp only [be, aW]
    omega
  · rcases List.mem_append.1 hk with hk | hk
    · exact h.nf k hk
    · obtain rfl := List.mem_singleton.1 hk
      intro f r e'; cases e'
theorem VN.open {c : NL} (h : VN c) (hd : ir) (sh : Int) : VN (cQ c hd sh).1 := by
  unfold cQ
  split
  · exact h
  · rename_i hw
    have hw : lj c hd sh = 0 := Decidable.not_not.1 hw
    unfold lj at hw
    split at hw
    · cases hw
    rename_i g1
    split at hw
    · cases hw
    rename_i g2
    split at hw
    · rename_i g; exact absurd hw g
    rename_i g3
    split at hw
    · rename_i g; exact absurd hw g
    rename_i g4
    have h1 : c.sd = 1 := Decidable.not_not.1 fun e => g1 (.inl e)
    have h2 : c.cl = false := eq_false_of_ne_true fun e => g1 (.inr (.inl e))
    have hnx := h.n1 h1
    have e1 : dH c.nx 1 sh c.sz = dH c.nx c.sd sh c.sz := by rw [h1]
    dsimp only
    rw [e1] at hw ⊢
    refine h.more (id := c.nx) hw (by omega) rfl (fun _ => rfl) (fun e => by omega) (by omega) h2 (Decidable.not_not.1 g3) (fun f hf => ?_)
    rcases List.mem_append.1 hf with hf | hf
    · exact h.ou f hf
    · obtain rfl := List.mem_singleton.1 hf
      exact Decidable.not_not.1 g4
end Go.Proofs.YthiocbcokfondaaGreatDoor.Y
