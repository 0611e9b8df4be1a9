/- Variable-length integers, plain: their bytes, and what is read of bytes. No program in sight. -/
import Derived.Lib.Hide
namespace Go.Proofs.YtngieldaebnffaaDoor
open Go

def putF : Nat → Nat → List UInt8
  | 0, u => [UInt8.ofNat u]
  | n + 1, u => if 128 ≤ u then UInt8.ofNat (u % 128 + 128) :: putF n (u / 128) else [UInt8.ofNat u]
/-- the bytes of u. -/
def putL (u : Nat) : List UInt8 := putF 9 u
def takeF : Nat → List UInt8 → Nat → Nat → Nat × Nat × Int
  | 0, _, _, _ => (0, 0, 6)
  | _ + 1, [], _, _ => (0, 0, 4)
  | k + 1, c :: l, n, u =>
    if k = 0 ∧ 1 < c.toNat then (0, 0, 6)
    else if c.toNat < 128 then (u + c.toNat % 128 * 128 ^ n, n + 1, 0)
    else takeF k l (n + 1) (u + c.toNat % 128 * 128 ^ n)
/-- the number that l begins with, its length, and the error. -/
def takeL (l : List UInt8) : Nat × Nat × Int := takeF 10 l 0 0
theorem putF_len : ∀ n u, 1 ≤ (putF n u).length ∧ (putF n u).length ≤ n + 1
  | 0, _ => by simp [putF]
  | n + 1, u => by
    unfold putF; split
    · have := putF_len n (u / 128); simp only [List.length_cons]; omega
    · simp
theorem putL_len (u : Nat) : 1 ≤ (putL u).length ∧ (putL u).length ≤ 10 := putF_len 9 u
theorem pow_step (n : Nat) : 128 ^ (n + 1) = 128 * 128 ^ n := by rw [Nat.pow_succ, Nat.mul_comm]
theorem take_put : ∀ (k u n a : Nat) (rest : List UInt8), (u < 2 * 128 ^ k) → takeF (k + 1) (putF k u ++ rest) n a = (a + u * 128 ^ n, n + (putF k u).length, 0)
  | 0, u, n, a, rest, h => by
    have hu : u < 2 := by simpa using h
    have e : (UInt8.ofNat u).toNat = u := by rw [UInt8.toNat_ofNat']; omega
    simp only [putF, List.cons_append, List.nil_append, takeF, e, List.length_cons, List.length_nil]
    rw [if_neg (by omega), if_pos (by omega), Nat.mod_eq_of_lt (by omega)]
  | k + 1, u, n, a, rest, h => by
    by_cases h1 : 128 ≤ u
    · have e : (UInt8.ofNat (u % 128 + 128)).toNat = u % 128 + 128 := by rw [UInt8.toNat_ofNat']; omega
      rw [pow_step] at h
      have ih := take_put k (u / 128) (n + 1) (a + u % 128 * 128 ^ n) rest (by omega)
      rw [putF, if_pos h1]
      simp only [List.cons_append, List.length_cons]
      rw [takeF, if_neg (by omega), if_neg (by omega), e, show (u % 128 + 128) % 128 = u % 128 by omega, ih]
      refine Prod.ext ?_ (Prod.ext ?_ rfl)
      · show a + u % 128 * 128 ^ n + u / 128 * 128 ^ (n + 1) = a + u * 128 ^ n
        rw [pow_step, ← Nat.mul_assoc, Nat.add_assoc, ← Nat.add_mul]
        congr 2; omega
      · show n + 1 + (putF k (u / 128)).length = n + ((putF k (u / 128)).length + 1); omega
    · have e : (UInt8.ofNat u).toNat = u := by rw [UInt8.toNat_ofNat']; omega
      rw [putF, if_neg h1]
      simp only [List.cons_append, List.nil_append, List.length_cons, List.length_nil]
      rw [takeF, if_neg (by omega), if_pos (by omega), e, Nat.mod_eq_of_lt (by omega)]
theorem takeL_put (u : Nat) (rest : List UInt8) (h : u < 18446744073709551616) : takeL (putL u ++ rest) = (u, (putL u).length, 0) := by
  unfold takeL putL
  rw [take_put 9 u 0 0 rest (by simpa using h)]
  simp
/-- what is read with success: where it ends. -/
theorem take_ok : ∀ (k : Nat) (l : List UInt8) (n a u m : Nat), takeF k l n a = (u, m, 0) → n < m ∧ m ≤ n + k ∧ m - n ≤ l.length
  | 0, _, _, _, _, _, h => by simp [takeF] at h
  | _ + 1, [], _, _, _, _, h => by simp [takeF] at h
  | k + 1, c :: l, n, a, u, m, h => by
    unfold takeF at h
    split at h
    · simp at h
    · split at h
      · simp only [Prod.mk.injEq] at h; simp only [List.length_cons]; omega
      · have := take_ok k l (n + 1) _ u m h; simp only [List.length_cons]; omega
theorem takeL_ok {l : List UInt8} {u m : Nat} (h : takeL l = (u, m, 0)) : 0 < m ∧ m ≤ 10 ∧ m ≤ l.length := by
  have := take_ok 10 l 0 0 u m h; omega
theorem take_err : ∀ (k : Nat) (l : List UInt8) (n a : Nat), (takeF k l n a).2.2 = 0 ∨ takeF k l n a = (0, 0, 4) ∨ takeF k l n a = (0, 0, 6)
  | 0, _, _, _ => .inr (.inr rfl)
  | _ + 1, [], _, _ => .inr (.inl rfl)
  | k + 1, c :: l, n, a => by
    unfold takeF
    split
    · exact .inr (.inr rfl)
    · split
      · exact .inl rfl
      · exact take_err k l _ _
theorem takeL_err (l : List UInt8) : (takeL l).2.2 = 0 ∨ takeL l = (0, 0, 4) ∨ takeL l = (0, 0, 6) := take_err 10 l 0 0
theorem pow_pos128 (n : Nat) : 0 < 128 ^ n := Nat.pow_pos (by decide)
/-- reading does not look behind. -/
theorem take_app : ∀ (k : Nat) (l : List UInt8) (n a u m : Nat) (r : List UInt8), takeF k l n a = (u, m, 0) → takeF k (l ++ r) n a = (u, m, 0)
  | 0, _, _, _, _, _, _, h => by simp [takeF] at h
  | _ + 1, [], _, _, _, _, _, h => by simp [takeF] at h
  | k + 1, c :: l, n, a, u, m, r, h => by
    unfold takeF at h
    rw [List.cons_append, takeF]
    split at h
    · simp at h
    · rename_i h1
      rw [if_neg h1]
      split at h
      · rename_i h2; rw [if_pos h2]; exact h
      · rename_i h2; rw [if_neg h2]; exact take_app k l _ _ u m r h
/-- what is read depends on its own bytes alone. -/
theorem take_cut : ∀ (k : Nat) (l : List UInt8) (n a u m : Nat), takeF k l n a = (u, m, 0) → takeF k (l.take (m - n)) n a = (u, m, 0)
  | 0, _, _, _, _, _, h => by simp [takeF] at h
  | _ + 1, [], _, _, _, _, h => by simp [takeF] at h
  | k + 1, c :: l, n, a, u, m, h => by
    have hm := take_ok (k + 1) (c :: l) n a u m h
    obtain ⟨j, hj⟩ : ∃ j, m - n = j + 1 := ⟨m - n - 1, by omega⟩
    rw [hj, List.take_succ_cons, takeF]
    unfold takeF at h
    split at h
    · simp at h
    · rename_i h1
      rw [if_neg h1]
      split at h
      · rename_i h2; rw [if_pos h2]; exact h
      · rename_i h2
        rw [if_neg h2]
        have := take_cut k l (n + 1) _ u m h
        rw [show m - (n + 1) = j by omega] at this
        exact this
theorem put_take : ∀ (k : Nat) (l : List UInt8) (n a u m : Nat), a < 128 ^ n → takeF (k + 1) l n a = (a + u * 128 ^ n, m, 0) → m - n = (putF k u).length → putF k u = l.take (m - n)
  | _, [], _, _, _, _, _, h, _ => by simp [takeF] at h
  | 0, c :: l, n, a, u, m, _, h, hl => by
    have hm := take_ok 1 (c :: l) n a _ m h
    have hm1 : m - n = 1 := by omega
    rw [hm1, List.take_succ_cons, List.take_zero]
    unfold takeF at h
    split at h
    · simp at h
    · rename_i h1
      have h1' : ¬ 1 < c.toNat := fun x => h1 ⟨rfl, x⟩
      rw [if_pos (show c.toNat < 128 by omega)] at h
      simp only [Prod.mk.injEq] at h
      have hp := pow_pos128 n
      have : c.toNat = u := by
        have h2 : c.toNat % 128 * 128 ^ n = u * 128 ^ n := by omega
        have h3 := Nat.eq_of_mul_eq_mul_right hp h2
        omega
      simp only [putF]
      rw [← this, UInt8.ofNat_toNat]
  | k + 1, c :: l, n, a, u, m, ha, h, hl => by
    have hm := take_ok (k + 2) (c :: l) n a _ m h
    have hp := pow_pos128 n
    have hcl := c.toNat_lt
    obtain ⟨j, hj⟩ : ∃ j, m - n = j + 1 := ⟨m - n - 1, by omega⟩
    unfold takeF at h
    rw [if_neg (show ¬ (k + 1 = 0 ∧ 1 < c.toNat) by omega)] at h
    split at h
    · rename_i h2
      simp only [Prod.mk.injEq] at h
      have hm1 : m - n = 1 := by omega
      have h3 : c.toNat % 128 = u := Nat.eq_of_mul_eq_mul_right hp (show c.toNat % 128 * 128 ^ n = u * 128 ^ n by omega)
      rw [hm1, List.take_succ_cons, List.take_zero, putF, if_neg (show ¬ 128 ≤ u by omega), ← h3, Nat.mod_eq_of_lt h2, UInt8.ofNat_toNat]
    · rename_i h2
      have ho := take_ok (k + 1) l (n + 1) _ _ m h
      by_cases hu : 128 ≤ u
      · have hge : c.toNat % 128 = u % 128 := by
          have hz : ∃ v, a + u * 128 ^ n = (a + c.toNat % 128 * 128 ^ n) + v * 128 ^ (n + 1) := by
            have hx : ∀ (k : Nat) (l : List UInt8) (n a u m : Nat), takeF k l n a = (u, m, 0) → ∃ v, u = a + v * 128 ^ n := by
              intro k
              induction k with
              | zero => intro l n a u m h; simp [takeF] at h
              | succ k ih =>
                intro l n a u m h
                cases l with
                | nil => simp [takeF] at h
                | cons c l =>
                  unfold takeF at h
                  split at h
                  · simp at h
                  · split at h
                    · simp only [Prod.mk.injEq] at h; exact ⟨_, h.1.symm⟩
                    · obtain ⟨v, hv⟩ := ih _ _ _ _ _ h
                      refine ⟨c.toNat % 128 + v * 128, ?_⟩
                      rw [hv, pow_step, Nat.add_mul, Nat.mul_assoc, Nat.add_assoc]
            exact hx _ _ _ _ _ _ h
          obtain ⟨v, hv⟩ := hz
          rw [pow_step, ← Nat.mul_assoc, Nat.add_assoc, ← Nat.add_mul] at hv
          have := Nat.eq_of_mul_eq_mul_right hp (show u * 128 ^ n = (c.toNat % 128 + v * 128) * 128 ^ n by omega)
          omega
        have e1 : a + u * 128 ^ n = (a + c.toNat % 128 * 128 ^ n) + (u / 128) * 128 ^ (n + 1) := by
          rw [pow_step, ← Nat.mul_assoc, Nat.add_assoc, ← Nat.add_mul]
          congr 2; omega
        rw [e1] at h
        rw [putF, if_pos hu] at hl ⊢
        simp only [List.length_cons] at hl
        have ih := put_take k l (n + 1) _ (u / 128) m (by
          rw [pow_step]
          have : c.toNat % 128 * 128 ^ n ≤ 127 * 128 ^ n := Nat.mul_le_mul_right _ (by omega)
          omega) h (by omega)
        rw [hj, List.take_succ_cons, ih, show m - (n + 1) = j by omega, ← hge]
        congr 1
        rw [show c.toNat % 128 + 128 = c.toNat by omega, UInt8.ofNat_toNat]
      · rw [putF, if_neg hu] at hl
        simp only [List.length_cons, List.length_nil] at hl
        omega
theorem putL_take {l : List UInt8} {u m : Nat} (h : takeL l = (u, m, 0)) (hl : m = (putL u).length) : putL u = l.take m := by
  unfold takeL at h
  unfold putL at *
  have := put_take 9 l 0 0 u m (by simp) (by rw [h]; simp) (by rw [hl]; rfl)
  rw [Nat.sub_zero] at this
  exact this
end Go.Proofs.YtngieldaebnffaaDoor
