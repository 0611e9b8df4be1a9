/- Streams, plain: what one end sends the other one receives, and both stay mirror images. No program in sight. -/
import Derived.Test.YtcedpdofjbaciaaDoorStrLaw
namespace Go.Proofs.YtcedpdofjbaciaaDoor
open Go.RowKit
structure PairW (x y : WinV) : Prop where
  size : x.size = y.size
  left : x.left = y.left
  okx : winOk x = true
  oky : winOk y = true
structure Mir (a b : StV) : Prop where
  side : (a.side = 1 ∧ b.side = 2) ∨ (a.side = 2 ∧ b.side = 1)
  id : a.id = b.id
  shape : a.shape = b.shape
  sent : a.sent = b.got
  got : a.got = b.sent
  se : a.se = b.ge
  ge : a.ge = b.se
  done : a.done = b.done
  code : a.code = b.code
  text : a.text = b.text
  out : PairW a.snd b.rcv
  inn : PairW b.snd a.rcv
theorem Mir.symm {a b : StV} (h : Mir a b) : Mir b a :=
  ⟨h.side.symm.imp (fun x => ⟨x.2, x.1⟩) (fun x => ⟨x.2, x.1⟩), h.id.symm, h.shape.symm, h.got.symm, h.sent.symm, h.ge.symm, h.se.symm, h.done.symm, h.code.symm, h.text.symm, h.inn, h.out⟩
theorem Mir.nums {a b : StV} (h : Mir a b) : reqN a = reqN b ∧ resN a = resN b ∧ reqE a = reqE b ∧ resE a = resE b := by
  have h1 := h.sent; have h2 := h.got; have h3 := h.se; have h4 := h.ge
  unfold reqN resN reqE resE
  rcases h.side with ⟨e1, e2⟩ | ⟨e1, e2⟩ <;> simp [e1, e2, h1, h2, h3, h4]
theorem Mir.valid {a b : StV} (h : Mir a b) (hv : validT a = true) : validT b = true := by
  obtain ⟨n1, n2, n3, n4⟩ := h.nums
  unfold validT headOk numsOk at hv ⊢
  simp only [Bool.and_eq_true, decide_eq_true_eq] at hv ⊢
  obtain ⟨⟨⟨⟨a1, a2, _⟩, a4⟩, ⟨_, a6⟩, a7⟩, a8⟩ := hv
  refine ⟨⟨⟨⟨by rw [← h.id]; exact a1, by rw [← h.id]; exact a2, by rcases h.side with ⟨_, e⟩ | ⟨_, e⟩ <;> omega⟩, by rw [← h.shape]; exact a4⟩, ⟨⟨h.inn.okx, h.out.oky⟩, by rw [← n1, ← n2, ← h.shape]; exact a7⟩⟩, ?_⟩
  unfold endOk at a8 ⊢
  rw [← h.done, ← n4, ← n3, ← n1, ← h.shape, ← h.code, ← h.text]
  by_cases hd : a.done = true
  · rw [if_pos hd] at a8 ⊢
    rw [← h.ge, ← h.se, Bool.and_comm a.ge a.se]; exact a8
  · rw [if_neg hd] at a8 ⊢; exact a8
theorem Mir.early {a b : StV} (h : Mir a b) : earlyT a = earlyT b := by
  obtain ⟨n1, n2, n3, _⟩ := h.nums
  unfold earlyT; rw [n1, n2, n3, h.shape]
theorem Mir.close {a b : StV} (h : Mir a b) (f : FrV) : Mir (closeT a f) (closeT b f) := by
  unfold closeT
  split
  · exact ⟨h.side, h.id, h.shape, h.sent, h.got, rfl, rfl, rfl, rfl, rfl, h.out, h.inn⟩
  · exact ⟨h.side, h.id, h.shape, h.sent, h.got, rfl, rfl, rfl, rfl, rfl, h.out, h.inn⟩
theorem costT_pos (d : ByteArray) : 0 < costT d := by unfold costT; split <;> omega
theorem pair_take {x y : WinV} (h : PairW x y) {n : Int} (hn : 0 < n) (ht : (takeW x n).err = 0) : (acceptW y n).err = 0 ∧ PairW (takeW x n).win (acceptW y n).win := by
  have ox := h.okx; have oy := h.oky; have hl := h.left; have hs := h.size
  unfold takeW at ht ⊢
  unfold acceptW
  have g1 : ¬ (winOk x = false ∨ n < 0) := by rw [ox]; simp; omega
  have g2 : ¬ (winOk y = false ∨ n < 0) := by rw [oy]; simp; omega
  rw [if_neg g1] at ht ⊢
  rw [if_neg g2]
  by_cases g3 : x.left < n
  · rw [if_pos g3] at ht; cases ht
  · rw [if_neg g3, if_neg (by omega)]
    unfold winOk at ox oy
    simp only [decide_eq_true_eq] at ox oy
    refine ⟨rfl, hs, by show x.left - n = y.left - n; omega, ?_, ?_⟩
    · unfold winOk; simp only [decide_eq_true_eq]; omega
    · unfold winOk; simp only [decide_eq_true_eq]; omega
theorem send_recv {a b : StV} {f : FrV} (h : Mir a b) (he : (sendT a f).err = 0) : (recvT b f).err = 0 ∧ Mir (sendT a f).st (recvT b f).st := by
  unfold sendT at he ⊢
  unfold recvT
  split at he
  · cases he
  rename_i g0
  rw [if_neg g0]
  have hv : validT a = true := by simpa using fun e => g0 (.inl e)
  have hf : frameE f = 0 := Decidable.not_not.1 fun e => g0 (.inr (.inl e))
  have hi : f.strm = a.id := Decidable.not_not.1 fun e => g0 (.inr (.inr e))
  have base : ∀ k, f.kind = k → 2 ≤ k → k ≤ 6 → ¬ (validT b = false ∨ frameE f ≠ 0 ∨ f.strm ≠ b.id ∨ f.kind < 2 ∨ 6 < f.kind) := by
    intro k hk h1 h2
    rw [h.valid hv, hf, hi, h.id]; simp; omega
  have hnd : ∀ (_ : ¬ a.done = true), ¬ b.done = true := fun e => by rw [← h.done]; exact e
  split at he
  · rename_i hk
    rw [if_pos hk]
    split at he
    · cases he
    rename_i g1
    rw [if_neg g1]
    split at he
    · cases he
    rename_i g2
    rw [if_neg g2]
    split at he
    · cases he
    rename_i g3
    rw [if_neg g3]
    split at he
    · rename_i g4; exact absurd he g4
    rename_i g4
    rw [if_neg g4]
    obtain ⟨t1, t2⟩ := pair_take h.out (costT_pos f.data) (Decidable.not_not.1 g4)
    have hm : mostT b (b.side != 1) = mostT a (a.side == 1) := by
      unfold mostT; rcases h.side with ⟨e1, e2⟩ | ⟨e1, e2⟩ <;> rw [e1, e2, h.shape] <;> rfl
    rw [if_neg (base 2 hk (by omega) (by omega)), if_neg (hnd fun e => g1 (.inl e)), if_pos hk, if_neg (by rw [← h.se]; exact fun e => g1 (.inr e)), hm, ← h.sent, if_neg g2, ← h.out.size, if_neg g3, if_neg (by rw [t1]; simp)]
    exact ⟨rfl, ⟨h.side, h.id, by first | exact h.shape | rfl, by first | rfl | (show a.sent + 1 = b.got + 1; rw [h.sent]), h.got, h.se, h.ge, h.done, h.code, h.text, t2, h.inn⟩⟩
  · rename_i hk2
    rw [if_neg hk2]
    split at he
    · rename_i hk
      rw [if_pos hk]
      split at he
      · cases he
      rename_i g1
      rw [if_neg g1]
      split at he
      · cases he
      rename_i g2
      rw [if_neg g2]
      have h1 : a.side = 1 := Decidable.not_not.1 fun e => g1 (.inr (.inr e))
      have h2 : b.side = 2 := by rcases h.side with ⟨_, e⟩ | ⟨e, _⟩; exact e; omega
      rw [if_neg (base 3 hk (by omega) (by omega)), if_neg (hnd fun e => g1 (.inl e)), if_neg hk2, if_pos hk, if_neg (by rw [← h.se]; rintro (e | e); exact g1 (.inr (.inl e)); omega), ← h.sent, ← h.shape, if_neg g2]
      exact ⟨rfl, ⟨h.side, h.id, by first | exact h.shape | rfl, by first | exact h.sent | rfl, h.got, rfl, h.ge, h.done, h.code, h.text, h.out, h.inn⟩⟩
    · rename_i hk3
      rw [if_neg hk3]
      split at he
      · rename_i hk
        rw [if_pos hk]
        split at he
        · cases he
        rename_i g1
        rw [if_neg g1]
        split at he
        · cases he
        rename_i g2
        rw [if_neg g2]
        have h2 : b.side = 1 := by rcases h.side with ⟨e, _⟩ | ⟨_, e⟩; exact absurd (.inr e) g1; exact e
        rw [if_neg (base 4 hk (by omega) (by omega)), if_neg (hnd fun e => g1 (.inl e)), if_neg hk2, if_neg hk3, if_pos hk, if_neg (by omega), ← h.early, if_neg g2]
        exact ⟨rfl, h.close f⟩
      · rename_i hk4
        rw [if_neg hk4]
        split at he
        · rename_i hk
          rw [if_pos hk]
          split at he
          · cases he
          rename_i g1
          rw [if_neg g1]
          rw [if_neg (base 5 hk (by omega) (by omega)), if_neg (hnd g1), if_neg hk2, if_neg hk3, if_neg hk4, if_pos hk]
          exact ⟨rfl, h.close f⟩
        · cases he
theorem open_mir {shape size : Int} (h1 : (openT 1 1 shape size).err = 0) (h2 : (openT 1 2 shape size).err = 0) : Mir (openT 1 1 shape size).st (openT 1 2 shape size).st := by
  unfold openT at h1 h2 ⊢
  split at h1
  · cases h1
  rename_i g
  split at h2
  · cases h2
  rename_i g'
  rw [if_neg g, if_neg g']
  have hn : (newW size).err = 0 := Decidable.not_not.1 fun e => g (.inr (.inr (.inr (.inr e))))
  have hw : PairW (newW size).win (newW size).win := by
    unfold newW at hn ⊢
    split at hn
    · cases hn
    · rename_i q
      rw [if_neg q]
      have : winOk ⟨size, size, 0⟩ = true := by unfold winOk; simp only [decide_eq_true_eq]; omega
      exact ⟨rfl, rfl, this, this⟩
  exact ⟨.inl ⟨rfl, rfl⟩, rfl, rfl, rfl, rfl, rfl, rfl, rfl, rfl, rfl, hw, hw⟩
end Go.Proofs.YtcedpdofjbaciaaDoor
