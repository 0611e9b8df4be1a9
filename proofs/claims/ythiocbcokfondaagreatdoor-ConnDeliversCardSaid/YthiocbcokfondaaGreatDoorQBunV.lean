/- Texts of this claim merged into one: QVarLaw, QOwn, QVar, QTake. -/
import Derived.Lib.Hide
import Derived.Test.YthiocbcokfondaaGreatDoorChecked
import Derived.WalkKit
import Derived.WalkSpells
import Derived.WalkLawsBesides
import Derived.Below
import Derived.OwnWalk
import Derived.Laws.AppendOwn
import Derived.Maps.AppendAt
import Derived.Laws.BitsAllLaws
namespace Go.Proofs.YthiocbcokfondaaGreatDoor
open Go
def fP : Nat → Nat → List UInt8
  | 0, u => [UInt8.ofNat u]
  | n + 1, u => if 128 ≤ u then UInt8.ofNat (u % 128 + 128) :: fP n (u / 128) else [UInt8.ofNat u]
def bB (u : Nat) : List UInt8 := fP 9 u
def cD : Nat → List UInt8 → Nat → Nat → Nat × Nat × Int
  | 0, _, _, _ => (0, 0, 6)
  | _ + 1, [], _, _ => (0, 0, 4)
  | k + 1, c :: l, n, u =>
    if k = 0 ∧ 1 < c.toNat then (0, 0, 6)
    else if c.toNat < 128 then (u + c.toNat % 128 * 128 ^ n, n + 1, 0)
    else cD k l (n + 1) (u + c.toNat % 128 * 128 ^ n)
def iU (l : List UInt8) : Nat × Nat × Int := cD 10 l 0 0
theorem sS : ∀ n u, 1 ≤ (fP n u).length ∧ (fP n u).length ≤ n + 1
  | 0, _ => by simp [fP]
  | n + 1, u => by
    unfold fP; split
    · have := sS n (u / 128); simp only [List.length_cons]; omega
    · simp
theorem dK (u : Nat) : 1 ≤ (bB u).length ∧ (bB u).length ≤ 10 := sS 9 u
theorem eT (n : Nat) : 128 ^ (n + 1) = 128 * 128 ^ n := by rw [Nat.pow_succ, Nat.mul_comm]
theorem fT : ∀ (k : Nat) (l : List UInt8) (n a u m : Nat), cD k l n a = (u, m, 0) → n < m ∧ m ≤ n + k ∧ m - n ≤ l.length
  | 0, _, _, _, _, _, h => by simp [cD] at h
  | _ + 1, [], _, _, _, _, h => by simp [cD] at h
  | k + 1, c :: l, n, a, u, m, h => by
    unfold cD at h
    split at h
    · simp at h
    · split at h
      · simp only [Prod.mk.injEq] at h; simp only [List.length_cons]; omega
      · have := fT k l (n + 1) _ u m h; simp only [List.length_cons]; omega
theorem oB {l : List UInt8} {u m : Nat} (h : iU l = (u, m, 0)) : 0 < m ∧ m ≤ 10 ∧ m ≤ l.length := by
  have := fT 10 l 0 0 u m h; omega
theorem lJ : ∀ (k : Nat) (l : List UInt8) (n a : Nat), (cD k l n a).2.2 = 0 ∨ cD k l n a = (0, 0, 4) ∨ cD k l n a = (0, 0, 6)
  | 0, _, _, _ => .inr (.inr rfl)
  | _ + 1, [], _, _ => .inr (.inl rfl)
  | k + 1, c :: l, n, a => by
    unfold cD
    split
    · exact .inr (.inr rfl)
    · split
      · exact .inl rfl
      · exact lJ k l _ _
theorem mB (l : List UInt8) : (iU l).2.2 = 0 ∨ iU l = (0, 0, 4) ∨ iU l = (0, 0, 6) := lJ 10 l 0 0
end Go.Proofs.YthiocbcokfondaaGreatDoor
namespace Go.Proofs.YthiocbcokfondaaGreatDoor
open Go.RowKit
def eN (l : List UInt8) : List Value := l.map fun b => .int .u8 (b.toNat : Int)
theorem ga (l : List UInt8) (b : UInt8) : eN (l ++ [b]) = eN l ++ [.int .u8 (b.toNat : Int)] := by simp [eN]
theorem yH : (Tryz.prog.info? 5).map (fun i => (i.zero, i.size, i.bytes)) = some (some (.int .u8 0), 1, 1) := by kernel_rfl
theorem sT (W : World) (base : Nat) (v : Value) (l : List UInt8) (h0 : l ≠ []) (h : W.ownsRow base 5 1 v l.length (eN l)) :
    (convert 125 9 v).run Tryz.prog W = .ok (.string ⟨l.toArray⟩) W := by
  obtain ⟨h1, h2 | ⟨g, cap, cur, rfl, hb, hg, hn, hm, hsz, htake⟩⟩ := h
  · exact absurd (List.length_eq_zero_iff.1 h2.2) h0
  · refine run_convert_bytes_back _ _ _ _ _ _ l Tryz.underlying125 Tryz.underlying5 Tryz.underlying9 fun j hj => ?_
    have := World.ownsRow.cells (w := W) (base := base) (e := 5) (size := 1) (v := .slice (some ⟨g, 0, none⟩) l.length cap) (n := l.length) (xs := eN l) ⟨h1, .inr ⟨g, cap, cur, rfl, hb, hg, hn, hm, hsz, htake⟩⟩ (g := g) rfl j (.int .u8 (l[j].toNat : Int)) (by simp [eN, List.getElem?_eq_getElem hj])
    exact this
end Go.Proofs.YthiocbcokfondaaGreatDoor
namespace Go.Proofs.YthiocbcokfondaaGreatDoor
open Go.RowKit
theorem kz {a b : ByteArray} (h : a = b) : Ending.returned (.string a) = .returned (.string b) := by rw [h]
theorem bc {k : IntKind} {a b : Int} (h : a = b) : Ending.returned (.int k a) = .returned (.int k b) := by rw [h]
set_option maxRecDepth 20000 in
theorem DI : ∀ x : Fin 256, x.1 ||| 128 = x.1 % 128 + 128 := by decide
theorem A0 (U : Nat) : bits .or .u8 ((U : Int) % 256) 128 = ((U % 128 + 128 : Nat) : Int) := by
  have h := u8_or_nat (U % 256) 128 (by omega) (by omega)
  rw [DI ⟨U % 256, by omega⟩] at h
  rw [show ((128 : Nat) : Int) = 128 from rfl, show ((U % 256 : Nat) : Int) = (U : Int) % 256 by omega] at h
  rw [h]; show ((U % 256 % 128 + 128 : Nat) : Int) = _; omega
set_option maxRecDepth 100000 in
set_option maxHeartbeats 1000000 in
theorem lK (u : Nat) (w : World) (hu : u < 18446744073709551616) :
    Calls Tryz.prog 100 #[.int .u64 u] w fun e w' => e = .returned (.string ⟨(bB u).toArray⟩) ∧ Below w.heap.size w w' := by
  obtain ⟨i0, hi, hz0, hz1, hz2⟩ := info_parts yH
  have HI := Lib.hid hi; clear hi
  have HZ := Lib.hid hz0; clear hz0
  have HZ1 := Lib.hid hz1; clear hz1
  have HZ2 := Lib.hid hz2; clear hz2
  have HU := Lib.hid hu; clear hu
  go_enter Tryz.func100, Tryz.ntmps100
  go_wp2
  go_loopw [0, 3] (fun x v wr => ∃ (U j : Nat) (acc : List UInt8), j ≤ 9 ∧ x = .int .u64 U ∧ U < 2 * 128 ^ (9 - j) ∧ acc.length = j ∧ bB u = acc ++ fP (9 - j) U ∧ wr.ownsRow w.heap.size 5 1 v j (eN acc) ∧ Below w.heap.size w wr) (fun x _ _ => (intOf x).toNat)
  case atStart => exact ⟨u, 0, [], by omega, rfl, by have := HU.out; simpa using this, rfl, rfl, World.ownsRow_nil _ _ _ _, Below.refl _ _⟩
  case round =>
    obtain ⟨U, j, acc, hj, rfl, hU, hacc, hput, hown, hb⟩ := hrel
    have HO := Lib.hid hown; clear hown
    have HB := Lib.hid hb; have hbs := hb.size; clear hb
    have HP := Lib.hid hput; clear hput
    have HA := Lib.hid hacc; clear hacc
    have hU64 : U < 18446744073709551616 := Nat.lt_of_lt_of_le hU (Nat.le_trans (Nat.mul_le_mul_left 2 (Nat.pow_le_pow_right (by decide) (show 9 - j ≤ 9 by omega))) (by decide))
    by_cases hge : 128 ≤ U
    · have hj2 : j < 9 := by
        by_cases h : j = 9
        · subst h; simp at hU; omega
        · omega
      have HS := Lib.hid (show bB u = (acc ++ [UInt8.ofNat (U % 128 + 128)]) ++ fP (9 - (j + 1)) (U / 128) by
        rw [HP.out, show 9 - j = (9 - (j + 1)) + 1 by omega, fP, if_pos hge, List.append_assoc]; rfl)
      have HU2 := Lib.hid (show U / 128 < 2 * 128 ^ (9 - (j + 1)) by
        rw [show 9 - j = (9 - (j + 1)) + 1 by omega, eT] at hU; omega)
      have hor := A0 U
      have hgb : decide ((128 : Int) ≤ (U : Int)) = true := decide_eq_true (by omega)
      have hbc : ((U % 128 + 128 : Nat) : Int) = ((UInt8.ofNat (U % 128 + 128)).toNat : Int) := by rw [UInt8.toNat_ofNat']; omega
      rw [hbc] at hor
      clear hbc hU
      go_wp2_with (at_builtin; refine wpList_append_own _ rfl _ _ 125 rfl w.heap.size 5 i0 (.int .u8 0) 1 1 Tryz.underlying125 HI.out HZ.out HZ1.out HZ2.out rfl (by decide) _ j (eN acc) rfl (HO.out.alloc _) ⟨wr.heap.size, 0, none⟩ 1 1 [.int .u8 ((UInt8.ofNat (U % 128 + 128)).toNat : Int)] rfl rfl (cell_one_new _ _ _) (by simp [Value.oneCell']) (by unfold maxLen; omega) (by omega) (by simp; omega) ?_; intro v' w1 hown' hgrow _)
      have hb1 : Below w.heap.size w w1 := (HB.out.alloc hbs _).grown hgrow (by simp; omega) (fun g hg => (HO.out.lt g hg).1)
      have HO' := Lib.hid hown'; clear hown' hgrow
      go_wp2
      go_roundw
      case rel => exact ⟨U / 128, j + 1, acc ++ [UInt8.ofNat (U % 128 + 128)], by omega, by go_num, HU2.out, by rw [List.length_append, HA.out]; rfl, HS.out, by rw [ga]; exact HO'.out, hb1⟩
      case measure => simp [intOf]; omega
    · obtain ⟨c, rfl⟩ : ∃ c : UInt8, U = c.toNat := ⟨UInt8.ofNat U, by rw [UInt8.toNat_ofNat']; omega⟩
      have HS := Lib.hid (show bB u = acc ++ [c] by
        rw [HP.out]; congr 1
        cases hn : 9 - j with
        | zero => simp [fP]
        | succ n => rw [fP, if_neg hge]; simp)
      have hgb : decide ((128 : Int) ≤ (c.toNat : Int)) = false := decide_eq_false (by omega)
      clear hU hge hU64
      go_wp2_with (at_builtin; refine wpList_append_own _ rfl _ _ 125 rfl w.heap.size 5 i0 (.int .u8 0) 1 1 Tryz.underlying125 HI.out HZ.out HZ1.out HZ2.out rfl (by decide) _ j (eN acc) rfl (HO.out.alloc _) ⟨wr.heap.size, 0, none⟩ 1 1 [.int .u8 ((c.toNat : Int) % 256)] rfl rfl (cell_one_new _ _ _) (by simp [Value.oneCell']) (by unfold maxLen; omega) (by omega) (by simp; omega) ?_; intro v' w1 hown' hgrow _; have hb1 : Below w.heap.size w w1 := (HB.out.alloc hbs _).grown hgrow (by simp; omega) (fun g hg => (HO.out.lt g hg).1); rw [show (c.toNat : Int) % 256 = (c.toNat : Int) by have := c.toNat_lt; omega, ← ga, ← HA.out, show acc.length + 1 = (acc ++ [c]).length by simp] at hown'; have hcv := sT w1 w.heap.size _ (acc ++ [c]) (by simp) hown'; clear hown' hgrow)
      go_ret
      exact ⟨kz (by rw [HS.out]), hb1⟩
theorem A1 (u : Nat) (w : World) (hu : u < 18446744073709551616) :
    Calls Tryz.prog 144 #[.int .u64 u] w fun e w' => e = .returned (.int .i64 ((bB u).length : Nat)) ∧ w = w' := by
  have HU := Lib.hid hu; clear hu
  go_enter Tryz.func144, Tryz.ntmps144
  go_wp2
  go_loop [0, 3] (fun x v => ∃ (U j : Nat), j ≤ 9 ∧ x = .int .u64 U ∧ v = .int .i64 ((j : Int) + 1) ∧ U < 2 * 128 ^ (9 - j) ∧ (bB u).length = j + (fP (9 - j) U).length) (fun x _ => (intOf x).toNat)
  case atStart => exact ⟨u, 0, by omega, rfl, rfl, by have := HU.out; simpa using this, by rw [Nat.zero_add]; rfl⟩
  case round =>
    obtain ⟨U, j, hj, rfl, rfl, hU, hput⟩ := hrel
    have HP := Lib.hid hput; clear hput
    have hU64 : U < 18446744073709551616 := Nat.lt_of_lt_of_le hU (Nat.le_trans (Nat.mul_le_mul_left 2 (Nat.pow_le_pow_right (by decide) (show 9 - j ≤ 9 by omega))) (by decide))
    by_cases hge : 128 ≤ U
    · have hj2 : j < 9 := by
        by_cases h : j = 9
        · subst h; simp at hU; omega
        · omega
      have HS := Lib.hid (show (bB u).length = (j + 1) + (fP (9 - (j + 1)) (U / 128)).length by
        rw [HP.out, show 9 - j = (9 - (j + 1)) + 1 by omega, fP, if_pos hge, List.length_cons]; omega)
      have HU2 := Lib.hid (show U / 128 < 2 * 128 ^ (9 - (j + 1)) by
        rw [show 9 - j = (9 - (j + 1)) + 1 by omega, eT] at hU; omega)
      have hgb : decide ((128 : Int) ≤ (U : Int)) = true := decide_eq_true (by omega)
      clear hU
      go_wp2
      go_round
      case rel => exact ⟨U / 128, j + 1, by omega, by go_num, by go_num, HU2.out, HS.out⟩
      case measure => simp [intOf]; omega
    · have HS := Lib.hid (show (bB u).length = j + 1 by
        rw [HP.out]; congr 1
        cases hn : 9 - j with
        | zero => simp [fP]
        | succ n => rw [fP, if_neg hge]; simp)
      have hgb : decide ((128 : Int) ≤ (U : Int)) = false := decide_eq_false (by omega)
      clear hU
      go_wp2
      go_ret
      exact ⟨bc (by rw [HS.out]; omega), rfl⟩
end Go.Proofs.YthiocbcokfondaaGreatDoor
namespace Go.Proofs.YthiocbcokfondaaGreatDoor
open Go.RowKit
theorem CA (n : Nat) : (2 : Nat) ^ (7 * n) = 128 ^ n := by rw [Nat.pow_mul]
theorem uG (U x n : Nat) (hU : U < 128 ^ n) : U ||| (x * 128 ^ n) = U + x * 128 ^ n := by
  have h := Nat.two_pow_add_eq_or_of_lt (i := 7 * n) (b := U) (by rw [CA]; exact hU) x
  rw [CA] at h
  rw [Nat.mul_comm x, Nat.or_comm, ← h, Nat.add_comm]
theorem oD (n c : Nat) (h : n < 9 ∨ (n = 9 ∧ c ≤ 1)) : c % 128 * 128 ^ n ≤ 9223372036854775808 := by
  rcases h with h | ⟨rfl, h⟩
  · have h1 : 128 ^ n ≤ 128 ^ 8 := Nat.pow_le_pow_right (by decide) (by omega)
    have h2 : c % 128 * 128 ^ n ≤ 127 * 128 ^ 8 := Nat.mul_le_mul (by omega) h1
    exact Nat.le_trans h2 (by decide)
  · have h2 : c % 128 * 128 ^ 9 ≤ 1 * 128 ^ 9 := Nat.mul_le_mul_right _ (by omega)
    exact Nat.le_trans h2 (by decide)
theorem ro (n : Nat) (h : n ≤ 9) : 128 ^ n ≤ 9223372036854775808 := Nat.le_trans (Nat.pow_le_pow_right (by decide) h) (by decide)
theorem sU (U n : Nat) (c : UInt8) (hU : U < 128 ^ n) (hn : n < 9 ∨ (n = 9 ∧ c.toNat ≤ 1)) :
    bits .or .u64 (U : Int) (IntKind.u64.wrap (IntKind.u64.wrap (bits .and .u8 (c.toNat : Int) 127) * 2 ^ (7 * n))) = ((U + c.toNat % 128 * 128 ^ n : Nat) : Int) := by
  have hc := c.toNat_lt
  have h1 := u8_and_nat c.toNat 127 hc (by omega)
  rw [show ((127 : Nat) : Int) = 127 from rfl] at h1
  rw [h1, show (127 : Nat) = 2 ^ 7 - 1 from rfl, Nat.and_two_pow_sub_one_eq_mod]
  have hl := oD n c.toNat hn
  have hp := ro n (by omega)
  have e : ((c.toNat % 2 ^ 7 : Nat) : Int) * 2 ^ (7 * n) = ((c.toNat % 128 * 128 ^ n : Nat) : Int) := by
    rw [Int.natCast_mul, ← CA, Int.natCast_pow]; rfl
  have w1 : IntKind.u64.wrap ((c.toNat % 2 ^ 7 : Nat) : Int) = ((c.toNat % 2 ^ 7 : Nat) : Int) := by rw [IntKind.wrap_u64]; omega
  rw [w1, e]
  have w2 : IntKind.u64.wrap ((c.toNat % 128 * 128 ^ n : Nat) : Int) = ((c.toNat % 128 * 128 ^ n : Nat) : Int) := by rw [IntKind.wrap_u64]; omega
  rw [w2, u64_or_nat _ _ (by omega) (by omega), uG U _ n hU]
theorem wW (U : Nat) (c : UInt8) (hU : U < 128 ^ 9) (hc : c.toNat ≤ 1) :
    bits .or .u64 (U : Int) (IntKind.u64.wrap (IntKind.u64.wrap (bits .and .u8 (c.toNat : Int) 127) * 9223372036854775808)) = ((U + c.toNat % 128 * 128 ^ 9 : Nat) : Int) := sU U 9 c hU (.inr ⟨rfl, hc⟩)
def cM (s : ByteArray) : Nat × Nat × Int := iU s.data.toList
theorem mD (s : ByteArray) {k : Nat} (h : k < s.size) : s.data.toList.drop k = s[k] :: s.data.toList.drop (k + 1) := by
  rw [List.drop_eq_getElem_cons (by simpa using h)]; rfl
theorem sV (s : ByteArray) {k : Nat} (h : s.size ≤ k) : s.data.toList.drop k = [] := List.drop_eq_nil_of_le (by rw [Array.length_toList]; exact h)
theorem qr (s : ByteArray) (n U : Nat) (h : n < s.size) (hn : n ≤ 9) : cD (10 - n) (s.data.toList.drop n) n U =
    if n = 9 ∧ 1 < s[n].toNat then (0, 0, 6) else if s[n].toNat < 128 then (U + s[n].toNat % 128 * 128 ^ n, n + 1, 0) else cD (10 - (n + 1)) (s.data.toList.drop (n + 1)) (n + 1) (U + s[n].toNat % 128 * 128 ^ n) := by
  rw [mD s h, show 10 - n = (10 - (n + 1)) + 1 by omega, cD]
  simp only [show (10 - (n + 1) = 0) ↔ n = 9 by omega]
theorem rt {U n c : Nat} (hU : U < 128 ^ n) : U + c % 128 * 128 ^ n < 128 ^ (n + 1) := by
  rw [eT]
  have : c % 128 * 128 ^ n ≤ 127 * 128 ^ n := Nat.mul_le_mul_right _ (by omega)
  omega
theorem jR {a a' b b' c c' : Int} (h1 : a = a') (h2 : b = b') (h3 : c = c') : Ending.returned (.tuple #[.int .u64 a, .int .i64 b, .int .i64 c]) = .returned (.tuple #[.int .u64 a', .int .i64 b', .int .i64 c']) := by rw [h1, h2, h3]
set_option maxRecDepth 100000 in
set_option maxHeartbeats 2000000 in
theorem sW (s : ByteArray) (w : World) (hs : s.size ≤ 9223372036854775806) :
    Calls Tryz.prog 143 #[.string s] w fun e w' => e = .returned (.tuple #[.int .u64 ((cM s).1 : Nat), .int .i64 ((cM s).2.1 : Nat), .int .i64 (cM s).2.2]) ∧ w = w' := by
  have HT0 := Lib.hid (show cM s = cD 10 s.data.toList 0 0 from rfl)
  generalize cM s = R at *
  go_enter Tryz.func143, Tryz.ntmps143
  go_wp2
  go_step3
  go_wp2
  go_step3
  go_wp2
  go_loop [5, 6] (fun x i => ∃ n U : Nat, n ≤ 9 ∧ n ≤ s.size ∧ i = .int .i64 n ∧ x = .int .u64 U ∧ U < 128 ^ n ∧ R = cD (10 - n) (s.data.toList.drop n) n U) (fun _ i => 10 - (intOf i).toNat)
  case atStart => exact ⟨0, 0, by omega, Nat.zero_le _, rfl, rfl, by decide, HT0.out⟩
  case round =>
    obtain ⟨n, U, hn, hns, rfl, rfl, hU, hT⟩ := hrel
    have HT := Lib.hid hT; clear hT
    by_cases hz : n = s.size
    · have hqs : ((n : Int) == (s.size : Int)) = true := by rw [beq_iff_eq]; omega
      have HR := Lib.hid (show R = (0, 0, 4) by
        rw [HT.out, sV s (by omega)]
        obtain ⟨k, hk⟩ : ∃ k, 10 - n = k + 1 := ⟨9 - n, by omega⟩
        rw [hk]; rfl)
      clear hz hU
      go_wp2_with fail
      try rw [Exit.noGoto_ret]
      go_ret3
      exact ⟨jR (by rw [HR.out]; rfl) (by rw [HR.out]; rfl) (by rw [HR.out]), rfl⟩
    · have hlt : n < s.size := by omega
      have hqs : ((n : Int) == (s.size : Int)) = false := by rw [beq_eq_false_iff_ne]; omega
      have hnx := qr s n U hlt hn
      by_cases h9 : n = 9 ∧ 1 < s[n].toNat
      · have HR := Lib.hid (show R = (0, 0, 6) by rw [HT.out, hnx, if_pos h9])
        obtain ⟨rfl, h9b⟩ := h9
        have hqs2 : ((9 : Int) == (s.size : Int)) = false := hqs
        clear hz hnx hU hqs
        go_wp2_with fail
        try rw [Exit.noGoto_ret]
        go_ret3
        exact ⟨jR (by rw [HR.out]; rfl) (by rw [HR.out]; rfl) (by rw [HR.out]), rfl⟩
      · rw [if_neg h9] at hnx
        have hor := sU U n s[n] hU (by omega)
        have HL := Lib.hid (rt (c := s[n].toNat) hU)
        have HOR9 := Lib.hid (fun (e : n = 9) (h1 : s[n].toNat ≤ 1) => show bits .or .u64 (U : Int) (IntKind.u64.wrap (IntKind.u64.wrap (bits .and .u8 (s[n].toNat : Int) 127) * 9223372036854775808)) = ((U + s[n].toNat % 128 * 128 ^ n : Nat) : Int) by subst e; exact wW U _ hU h1)
        generalize U + s[n].toNat % 128 * 128 ^ n = V at *
        by_cases h8 : s[n].toNat < 128
        · rw [if_pos h8] at hnx
          have HR := Lib.hid (show R = (V, n + 1, 0) by rw [HT.out, hnx])
          clear hnx hU hz
          by_cases hq : n = 9
          · subst hq
            have h1 : s[9].toNat ≤ 1 := by omega
            have hqs2 : ((9 : Int) == (s.size : Int)) = false := hqs
            have hor9 := HOR9.out rfl h1
            clear h9 h8 hqs hor HOR9
            have h8 : s[9].toNat < 128 := by omega
            go_wp2_with fail
            try rw [Exit.noGoto_ret]
            go_ret3
            exact ⟨jR (by rw [HR.out]) (by rw [HR.out]; rfl) (by rw [HR.out]), rfl⟩
          · have hq9 : ((n : Int) == 9) = false := by rw [beq_eq_false_iff_ne]; omega
            clear h9 hq
            go_wp2_with fail
            try rw [Exit.noGoto_ret]
            go_ret3
            exact ⟨jR (by rw [HR.out]) (by rw [HR.out]; rfl) (by rw [HR.out]), rfl⟩
        · rw [if_neg h8] at hnx
          have HR := Lib.hid (show R = cD (10 - (n + 1)) (s.data.toList.drop (n + 1)) (n + 1) V by rw [HT.out, hnx])
          have hq : n < 9 := by omega
          have hq9 : ((n : Int) == 9) = false := by rw [beq_eq_false_iff_ne]; omega
          have h8' : 128 ≤ s[n].toNat := by omega
          clear hnx hU hz h9 h8
          go_wp2_with fail
          go_round
          case rel => exact ⟨n + 1, V, by omega, by omega, by go_num, rfl, HL.out, HR.out⟩
          case measure => simp [intOf]; omega
theorem vN : ∀ (k : Nat) (l : List UInt8) (n a u m : Nat), n + k = 10 → a < 128 ^ n → cD k l n a = (u, m, 0) → u < 18446744073709551616
  | 0, _, _, _, _, _, _, _, h => by simp [cD] at h
  | _ + 1, [], _, _, _, _, _, _, h => by simp [cD] at h
  | k + 1, c :: l, n, a, u, m, hk, ha, h => by
    unfold cD at h
    split at h
    · simp at h
    · rename_i h1
      split at h
      · simp only [Prod.mk.injEq] at h
        have := oD n c.toNat (by omega)
        have := ro n (by omega)
        omega
      · exact vN k l (n + 1) _ u m (by omega) (rt ha) h
theorem sX {s : ByteArray} {u n : Nat} (h : cM s = (u, n, 0)) : u < 18446744073709551616 := vN 10 _ 0 0 u n rfl (by decide) h
end Go.Proofs.YthiocbcokfondaaGreatDoor
