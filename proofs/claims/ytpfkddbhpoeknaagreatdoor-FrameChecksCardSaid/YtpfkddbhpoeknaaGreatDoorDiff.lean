/- Plain laws: one byte changed changes the fingerprint and the checksum; four consecutive bytes changed change the checksum. No program in sight. -/
import Derived.Test.YtpfkddbhpoeknaaGreatDoorBitLaw
import Derived.Test.YtpfkddbhpoeknaaGreatDoorSeal
namespace Go.Proofs.YtpfkddbhpoeknaaGreatDoor
open Go.RowKit

theorem foldl_ne {α : Type} {f : α → UInt8 → α} {R : α → Prop} (hR : ∀ r c, R r → R (f r c)) (hi : ∀ r s c, R r → R s → f r c = f s c → r = s) : ∀ (l : List UInt8) (r s : α), R r → R s → r ≠ s → l.foldl f r ≠ l.foldl f s
  | [], _, _, _, _, h => h
  | c :: l, r, s, h1, h2, h => by
    simp only [List.foldl_cons]
    exact foldl_ne hR hi l _ _ (hR _ _ h1) (hR _ _ h2) (fun e => h (hi _ _ _ h1 h2 e))
theorem foldl_set_ne {α : Type} {f : α → UInt8 → α} {R : α → Prop} (hR : ∀ r c, R r → R (f r c)) (hi : ∀ r s c, R r → R s → f r c = f s c → r = s) (hc : ∀ r c d, R r → f r c = f r d → c = d)
    (l : List UInt8) (k : Nat) (hk : k < l.length) (v : UInt8) (hv : v ≠ l[k]) (r : α) (h : R r) : (l.set k v).foldl f r ≠ l.foldl f r := by
  have e1 : l.set k v = l.take k ++ v :: l.drop (k + 1) := List.set_eq_take_append_cons_drop.trans (if_pos hk)
  have e2 : l = l.take k ++ l[k] :: l.drop (k + 1) := by rw [← List.drop_eq_getElem_cons hk, List.take_append_drop]
  rw [e1]
  conv => rhs; rw [e2]
  rw [List.foldl_append, List.foldl_append, List.foldl_cons, List.foldl_cons]
  have hp : ∀ (m : List UInt8) r, R r → R (m.foldl f r) := by
    intro m; induction m with
    | nil => intro r h; exact h
    | cons c m ih => intro r h; exact ih _ (hR _ _ h)
  have h1 := hp (l.take k) r h
  exact foldl_ne hR hi _ _ _ (hR _ _ h1) (hR _ _ h1) (fun e => hv (hc _ _ _ h1 e))
-- the fingerprint
def Ok64 (h : Int) : Prop := 0 ≤ h ∧ h < 18446744073709551616
theorem fnvStep_nat (H : Nat) (hH : H < 18446744073709551616) (c : UInt8) : fnvStep (H : Int) c = (((H ^^^ c.toNat) * 1099511628211 % 18446744073709551616 : Nat) : Int) := by
  have := c.toNat_lt
  unfold fnvStep
  rw [u64_xor_nat H c.toNat hH (by omega), IntKind.wrap_u64]
  omega
theorem ok_step (r : Int) (c : UInt8) (_ : Ok64 r) : Ok64 (fnvStep r c) := by
  unfold fnvStep Ok64; rw [IntKind.wrap_u64]; omega
theorem mul_back (a : Nat) (h : a < 18446744073709551616) : (a * 1099511628211 % 18446744073709551616) * 14886173955864302971 % 18446744073709551616 = a := by
  rw [Nat.mod_mul_mod, Nat.mul_assoc, ← Nat.mul_mod_mod, show 1099511628211 * 14886173955864302971 % 18446744073709551616 = 1 by decide, Nat.mul_one, Nat.mod_eq_of_lt h]
theorem xor_lt64 {a b : Nat} (ha : a < 18446744073709551616) (hb : b < 18446744073709551616) : a ^^^ b < 18446744073709551616 := Nat.xor_lt_two_pow (n := 64) ha hb
theorem xor_cancel_right {a b c : Nat} (h : a ^^^ c = b ^^^ c) : a = b := by
  have := congrArg (· ^^^ c) h
  simpa [Nat.xor_assoc] using this
theorem xor_cancel_left {a b c : Nat} (h : c ^^^ a = c ^^^ b) : a = b := xor_cancel_right (c := c) (by rw [Nat.xor_comm, h, Nat.xor_comm])
theorem fnv_back {H K : Nat} {c d : UInt8} (hH : H < 18446744073709551616) (hK : K < 18446744073709551616) (h : fnvStep (H : Int) c = fnvStep (K : Int) d) : H ^^^ c.toNat = K ^^^ d.toNat := by
  rw [fnvStep_nat H hH, fnvStep_nat K hK] at h
  have h1 := mul_back (H ^^^ c.toNat) (xor_lt64 hH (by have := c.toNat_lt; omega))
  have h2 := mul_back (K ^^^ d.toNat) (xor_lt64 hK (by have := d.toNat_lt; omega))
  rw [show (H ^^^ c.toNat) * 1099511628211 % 18446744073709551616 = (K ^^^ d.toNat) * 1099511628211 % 18446744073709551616 by exact_mod_cast h] at h1
  exact h1.symm.trans h2
theorem fnv_inj (r s : Int) (c : UInt8) (hr : Ok64 r) (hs : Ok64 s) (h : fnvStep r c = fnvStep s c) : r = s := by
  obtain ⟨R, rfl⟩ : ∃ R : Nat, r = R := ⟨r.toNat, by unfold Ok64 at hr; omega⟩
  obtain ⟨S, rfl⟩ : ∃ S : Nat, s = S := ⟨s.toNat, by unfold Ok64 at hs; omega⟩
  have := xor_cancel_right (fnv_back (by unfold Ok64 at hr; omega) (by unfold Ok64 at hs; omega) h)
  rw [this]
theorem fnv_injc (r : Int) (c d : UInt8) (hr : Ok64 r) (h : fnvStep r c = fnvStep r d) : c = d := by
  obtain ⟨R, rfl⟩ : ∃ R : Nat, r = R := ⟨r.toNat, by unfold Ok64 at hr; omega⟩
  exact UInt8.toNat_inj.1 (xor_cancel_left (fnv_back (by unfold Ok64 at hr; omega) (by unfold Ok64 at hr; omega) h))
theorem fnv_set_ne (l : List UInt8) (k : Nat) (hk : k < l.length) (v : UInt8) (hv : v ≠ l[k]) : fnvI (l.set k v) ≠ fnvI l :=
  foldl_set_ne (R := Ok64) ok_step fnv_inj fnv_injc l k hk v hv _ (by unfold Ok64 fnv0; omega)
-- the checksum
theorem tab_top : ∀ a b : Fin 16, tabN a.1 / 268435456 = tabN b.1 / 268435456 → a = b := by decide
theorem st4_inj {a b : Nat} (ha : a < 4294967296) (hb : b < 4294967296) (h : st4 a = st4 b) : a = b := by
  have e : ∀ x, x < 4294967296 → st4 x / 268435456 = tabN (x % 16) / 268435456 := by
    intro x hx
    have := Nat.xor_div_two_pow (a := x / 16) (b := tabN (x % 16)) (n := 28)
    rw [show 2 ^ 28 = 268435456 from rfl] at this
    unfold st4
    rw [this, show x / 16 / 268435456 = 0 by omega, Nat.zero_xor]
  have h1 := (e a ha).symm.trans ((congrArg (· / 268435456) h).trans (e b hb))
  have h2 : a % 16 = b % 16 := congrArg Fin.val (tab_top ⟨a % 16, by omega⟩ ⟨b % 16, by omega⟩ h1)
  unfold st4 at h
  rw [h2] at h
  have h3 := xor_cancel_right h
  omega
def Ok32 (r : Nat) : Prop := r < 4294967296
theorem xor_byte {r : Nat} (h : r < 4294967296) (c : UInt8) : r ^^^ c.toNat < 4294967296 := xor_lt32 h (by have := c.toNat_lt; omega)
theorem crc_back {r s : Nat} {c d : UInt8} (hr : r < 4294967296) (hs : s < 4294967296) (h : crcStep r c = crcStep s d) : r ^^^ c.toNat = s ^^^ d.toNat :=
  st4_inj (xor_byte hr c) (xor_byte hs d) (st4_inj (st4_lt (xor_byte hr c)) (st4_lt (xor_byte hs d)) h)
theorem crc_inj (r s : Nat) (c : UInt8) (hr : Ok32 r) (hs : Ok32 s) (h : crcStep r c = crcStep s c) : r = s := xor_cancel_right (crc_back hr hs h)
theorem crc_injc (r : Nat) (c d : UInt8) (hr : Ok32 r) (h : crcStep r c = crcStep r d) : c = d := UInt8.toNat_inj.1 (xor_cancel_left (crc_back hr hr h))
theorem crc_set_ne (l : List UInt8) (k : Nat) (hk : k < l.length) (v : UInt8) (hv : v ≠ l[k]) : crcV (l.set k v) ≠ crcV l := by
  have := foldl_set_ne (R := Ok32) (fun _ c h => crcStep_lt h c) crc_inj crc_injc l k hk v hv 4294967295 (by unfold Ok32; omega)
  have h1 := crcR_lt (l.set k v); have h2 := crcR_lt l
  unfold crcV
  unfold crcR at *
  omega
-- four bytes at once
def st8 (x : Nat) : Nat := st4 (st4 x)
theorem st8_xor (a b : Nat) : st8 (a ^^^ b) = st8 a ^^^ st8 b := by
  unfold st8; simp only [st4_one, oneK_xor]
theorem st8_shift (y : Nat) : st8 (256 * y) = y := by
  have e : ∀ z, st4 (16 * z) = z := by
    intro z; unfold st4
    rw [show 16 * z % 16 = 0 by omega, show 16 * z / 16 = z by omega]
    exact Nat.xor_zero z
  unfold st8
  rw [show 256 * y = 16 * (16 * y) by omega, e, e]
def hor (a : UInt8) (y : Nat) : Nat := a.toNat ^^^ (256 * y)
theorem st8_hor (r : Nat) (a : UInt8) (y : Nat) : st8 (r ^^^ hor a y) = crcStep r a ^^^ y := by
  unfold hor
  rw [← Nat.xor_assoc, st8_xor, st8_shift]; rfl
theorem crc_four (r : Nat) (a b c d : UInt8) : crcStep (crcStep (crcStep (crcStep r a) b) c) d = st8 (st8 (st8 (st8 (r ^^^ hor a (hor b (hor c (hor d 0))))))) := by
  rw [st8_hor, st8_hor, st8_hor, st8_hor, Nat.xor_zero]
theorem hor_eq (a : UInt8) (y : Nat) : hor a y = a.toNat + 256 * y := by
  have h := Nat.two_pow_add_eq_or_of_lt (i := 8) (b := a.toNat) a.toNat_lt y
  rw [show 2 ^ 8 = 256 from rfl] at h
  have hd : (256 * y) ||| a.toNat = (256 * y) ^^^ a.toNat := by
    refine Nat.eq_of_testBit_eq fun i => ?_
    rw [Nat.testBit_or, Nat.testBit_xor]
    by_cases hi : i < 8
    · have : (256 * y).testBit i = false := by
        rw [show 256 = 2 ^ 8 from rfl, Nat.testBit_two_pow_mul]; simp; omega
      simp [this]
    · have : a.toNat.testBit i = false := Nat.testBit_lt_two_pow (Nat.lt_of_lt_of_le a.toNat_lt (Nat.pow_le_pow_right (by decide) (Nat.le_of_not_lt hi)))
      simp [this]
  unfold hor
  rw [Nat.xor_comm, ← hd, ← h]; omega
def word (a b c d : UInt8) : Nat := hor a (hor b (hor c (hor d 0)))
theorem word_eq (a b c d : UInt8) : word a b c d = a.toNat + 256 * (b.toNat + 256 * (c.toNat + 256 * d.toNat)) := by
  unfold word; simp only [hor_eq]; omega
theorem word_lt (a b c d : UInt8) : word a b c d < 4294967296 := by
  rw [word_eq]; have := a.toNat_lt; have := b.toNat_lt; have := c.toNat_lt; have := d.toNat_lt; omega
theorem word_inj {a b c d a' b' c' d' : UInt8} (h : word a b c d = word a' b' c' d') : a = a' ∧ b = b' ∧ c = c' ∧ d = d' := by
  rw [word_eq, word_eq] at h
  have := a.toNat_lt; have := b.toNat_lt; have := c.toNat_lt; have := d.toNat_lt
  have := a'.toNat_lt; have := b'.toNat_lt; have := c'.toNat_lt; have := d'.toNat_lt
  refine ⟨UInt8.toNat_inj.1 ?_, UInt8.toNat_inj.1 ?_, UInt8.toNat_inj.1 ?_, UInt8.toNat_inj.1 ?_⟩ <;> omega
theorem st8_inj {a b : Nat} (ha : a < 4294967296) (hb : b < 4294967296) (h : st8 a = st8 b) : a = b := st4_inj ha hb (st4_inj (st4_lt ha) (st4_lt hb) h)
theorem st8_lt {a : Nat} (ha : a < 4294967296) : st8 a < 4294967296 := st4_lt (st4_lt ha)
theorem four_inj {r s : Nat} {a b c d a' b' c' d' : UInt8} (hr : r < 4294967296) (hs : s < 4294967296) (h : crcStep (crcStep (crcStep (crcStep r a) b) c) d = crcStep (crcStep (crcStep (crcStep s a') b') c') d') :
    r ^^^ word a b c d = s ^^^ word a' b' c' d' := by
  rw [crc_four, crc_four] at h
  have h1 := xor_lt32 hr (word_lt a b c d); have h2 := xor_lt32 hs (word_lt a' b' c' d')
  exact st8_inj h1 h2 (st8_inj (st8_lt h1) (st8_lt h2) (st8_inj (st8_lt (st8_lt h1)) (st8_lt (st8_lt h2)) (st8_inj (st8_lt (st8_lt (st8_lt h1))) (st8_lt (st8_lt (st8_lt h2))) h)))
theorem crcR_app (l : List UInt8) (a b c d : UInt8) : crcR (l ++ [a, b, c, d]) = crcStep (crcStep (crcStep (crcStep (crcR l) a) b) c) d := by simp [crcR]
theorem word_le4 (v : Nat) (h : v < 4294967296) : word (UInt8.ofNat v) (UInt8.ofNat (v / 256)) (UInt8.ofNat (v / 65536)) (UInt8.ofNat (v / 16777216)) = v := by
  rw [word_eq]; simp only [UInt8.toNat_ofNat']; omega
theorem crcV_xor (l : List UInt8) : crcV l = 4294967295 ^^^ crcR l := (not_nat (crcR_lt l)).symm
/-- what the register holds behind sealed bytes. -/
def resid : Nat := st8 (st8 (st8 (st8 4294967295)))
theorem resid_of (l : List UInt8) : crcR (l ++ le4 (crcV l)) = resid := by
  show crcR (l ++ [_, _, _, _]) = resid
  rw [crcR_app, crc_four]
  have := word_le4 (crcV l) (crcV_lt l)
  unfold word at this
  rw [this, crcV_xor, Nat.xor_comm 4294967295, ← Nat.xor_assoc, Nat.xor_self, Nat.zero_xor]
  rfl
theorem of_resid (l : List UInt8) (a b c d : UInt8) (h : crcR (l ++ [a, b, c, d]) = resid) : [a, b, c, d] = le4 (crcV l) := by
  have h2 := h.trans (resid_of l).symm
  have e : le4 (crcV l) = [UInt8.ofNat (crcV l), UInt8.ofNat (crcV l / 256), UInt8.ofNat (crcV l / 65536), UInt8.ofNat (crcV l / 16777216)] := rfl
  rw [e] at h2 ⊢
  rw [crcR_app, crcR_app] at h2
  obtain ⟨h3, h4, h5, h6⟩ := word_inj (xor_cancel_left (four_inj (crcR_lt l) (crcR_lt l) h2))
  rw [h3, h4, h5, h6]
/-- what is the same but for four consecutive bytes has another register. -/
theorem window_ne (p m : List UInt8) (a b c d a' b' c' d' : UInt8) (hne : ¬ (a = a' ∧ b = b' ∧ c = c' ∧ d = d')) : crcR (p ++ ([a, b, c, d] ++ m)) ≠ crcR (p ++ ([a', b', c', d'] ++ m)) := by
  have e : ∀ x y z u, crcR (p ++ ([x, y, z, u] ++ m)) = m.foldl crcStep (crcR (p ++ [x, y, z, u])) := by intro x y z u; rw [← List.append_assoc]; exact List.foldl_append ..
  rw [e, e]
  refine foldl_ne (R := Ok32) (fun _ c h => crcStep_lt h c) crc_inj _ _ _ (crcR_lt _) (crcR_lt _) ?_
  rw [crcR_app, crcR_app]
  intro h
  exact hne (word_inj (xor_cancel_left (four_inj (crcR_lt p) (crcR_lt p) h)))
end Go.Proofs.YtpfkddbhpoeknaaGreatDoor
