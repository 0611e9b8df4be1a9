/- The reference's Text and Parse: the walks. -/
import Derived.Test.YtngdndkgmbcnpaaDoorRTexts
namespace Go.Proofs.YtngdndkgmbcnpaaDoor
open Go.RowKit

theorem ext_one (d : Nat) (h : d < 16) : (⟨#[48, 49, 50, 51, 52, 53, 54, 55, 56, 57, 97, 98, 99, 100, 101, 102]⟩ : ByteArray).extract d (d + 1) = ⟨#[hexC d]⟩ := by
  have hc : d = 0 ∨ d = 1 ∨ d = 2 ∨ d = 3 ∨ d = 4 ∨ d = 5 ∨ d = 6 ∨ d = 7 ∨ d = 8 ∨ d = 9 ∨ d = 10 ∨ d = 11 ∨ d = 12 ∨ d = 13 ∨ d = 14 ∨ d = 15 := by omega
  rcases hc with rfl | rfl | rfl | rfl | rfl | rfl | rfl | rfl | rfl | rfl | rfl | rfl | rfl | rfl | rfl | rfl <;> rfl
theorem one_cat (c : UInt8) (l : List UInt8) : ((⟨#[c]⟩ : ByteArray) ++ ⟨l.toArray⟩ : ByteArray) = ⟨(c :: l).toArray⟩ := cat_eq [c] l
set_option maxRecDepth 100000 in
theorem refText_any (u : Nat) (w : World) (hu : u < 18446744073709551616) :
    Calls Tryd.prog 12 #[.int .u64 u] w fun e w' => e = .returned (.string ⟨(textL u).toArray⟩) ∧ w = w' := by
  have HR := Lib.hid (textL_hx u hu)
  have HU := Lib.hid hu
  clear hu
  go_enter Tryd.func12, Tryd.ntmps12
  go_wp2
  go_loop [0, 4, 5] (fun U x i => ∃ (k N : Nat) (l : List UInt8), k ≤ 16 ∧ i = .int .i64 k ∧ U = .int .u64 N ∧ x = .string ⟨l.toArray⟩ ∧ l.length = k ∧ N < 18446744073709551616 ∧ textL u = hx (16 - k) N l) (fun _ _ i => 16 - (intOf i).toNat)
  case atStart => exact ⟨0, u, [], by omega, rfl, rfl, rfl, rfl, HU.out, HR.out⟩
  case round =>
    obtain ⟨k, N, l, hk, rfl, rfl, rfl, hl, hN, hx⟩ := hrel
    have HN := Lib.hid hN
    have HX := Lib.hid hx; clear hx
    by_cases hlt : k < 16
    · have hw1 : IntKind.u64.wrap ((N : Int) / 16) = (N : Int) / 16 := by rw [IntKind.wrap_u64]; omega
      clear hN
      have hno : ¬ 9223372036854775807 < 1 + l.length := by omega
      go_wp2_with fail
      go_round
      case rel =>
        refine ⟨k + 1, N / 16, hexC (N % 16) :: l, by omega, by go_num, by go_num, by rw [ext_one _ (Nat.mod_lt _ (by decide)), one_cat], by rw [List.length_cons, hl], by have := HN.out; omega, ?_⟩
        rw [HX.out, show 16 - k = (16 - (k + 1)) + 1 by omega, hx]
      case measure => simp [intOf]; omega
    · clear hN
      go_wp2_with fail
      go_ret
      exact ⟨by rw [HX.out, show 16 - k = 0 by omega]; rfl, rfl⟩
theorem rPu_at (s : ByteArray) (h : s.size = 16) : rPu s.data.toList = toPu (rp s.data.toList 0) := by
  unfold rPu; rw [if_pos (by rw [Array.length_toList]; exact h)]
set_option maxRecDepth 100000 in
theorem refParse_any (s : ByteArray) (w : World) :
    Calls Tryd.prog 11 #[.string s] w fun e w' => e = .returned (.tuple #[.int .u64 (rPu s.data.toList).1, .int .i64 (rPu s.data.toList).2]) ∧ w = w' := by
  by_cases h16 : s.size = 16
  · have HR := Lib.hid (rPu_at s h16)
    go_enter Tryd.func11, Tryd.ntmps11
    go_wp2
    go_loop [4, 5] (fun U i => ∃ (k N : Nat), k ≤ 16 ∧ i = .int .i64 k ∧ U = .int .u64 N ∧ N < 16 ^ k ∧ rPu s.data.toList = toPu (rp (s.data.toList.drop k) N)) (fun _ i => 16 - (intOf i).toNat)
    case atStart => exact ⟨0, 0, by omega, rfl, rfl, by decide, HR.out⟩
    case round =>
      obtain ⟨k, N, hk, rfl, rfl, hN, hx⟩ := hrel
      have HX := Lib.hid hx; clear hx
      by_cases hlt : k < 16
      · have hks : k < s.size := by omega
        have hPU : rPu s.data.toList = toPu (match lowV s[k] with | some d => rp (s.data.toList.drop (k + 1)) (N * 16 + d) | none => none) := by
          rw [HX.out, drop_at s hks, rp]
          cases lowV s[k] <;> rfl
        have hdig : lowV s[k] = (if 48 ≤ s[k].toNat ∧ s[k].toNat ≤ 57 then some (s[k].toNat - 48) else if 97 ≤ s[k].toNat ∧ s[k].toNat ≤ 102 then some (s[k].toNat - 87) else none) := by first | rfl | (unfold lowV; rfl)
        have hcl := s[k].toNat_lt
        have hN60 : N < 1152921504606846976 := Nat.lt_of_lt_of_le hN (Nat.le_trans (Nat.pow_le_pow_right (by decide) (show k ≤ 15 by omega)) (by decide))
        have hN16 := Lib.hid (show ∀ d, d < 16 → N * 16 + d < 16 ^ (k + 1) by intro d hd; rw [Nat.pow_succ]; omega)
        generalize lowV s[k] = D at *
        have hw1 : IntKind.u64.wrap ((N : Int) * 16) = (N : Int) * 16 := by rw [IntKind.wrap_u64]; omega
        by_cases hA : 48 ≤ s[k].toNat ∧ s[k].toNat ≤ 57
        · rw [if_pos hA] at hdig; subst hdig
          obtain ⟨hA1, hA2⟩ := hA
          have HD := Lib.hid hPU; clear hPU
          have hw2 : IntKind.u64.wrap ((N : Int) * 16 + ((s[k].toNat : Int) - 48)) = (N : Int) * 16 + ((s[k].toNat : Int) - 48) := by rw [IntKind.wrap_u64]; omega
          clear hN hN60
          go_wp2_with fail
          go_round
          case rel => exact ⟨k + 1, N * 16 + (s[k].toNat - 48), by omega, by go_num, by go_num, hN16.out _ (by omega), HD.out⟩
          case measure => simp [intOf]; omega
        · rw [if_neg hA] at hdig
          have hA' : s[k].toNat < 48 ∨ 57 < s[k].toNat := by omega
          clear hA
          by_cases hB : 97 ≤ s[k].toNat ∧ s[k].toNat ≤ 102
          · rw [if_pos hB] at hdig; subst hdig
            obtain ⟨hB1, hB2⟩ := hB
            have hA2 : 57 < s[k].toNat := by omega
            have HD := Lib.hid hPU; clear hPU hA'
            have hw2 : IntKind.u64.wrap ((N : Int) * 16 + ((s[k].toNat : Int) - 97)) = (N : Int) * 16 + ((s[k].toNat : Int) - 97) := by rw [IntKind.wrap_u64]; omega
            have hw3 : IntKind.u64.wrap ((N : Int) * 16 + ((s[k].toNat : Int) - 97) + 10) = (N : Int) * 16 + ((s[k].toNat : Int) - 97) + 10 := by rw [IntKind.wrap_u64]; omega
            clear hN hN60
            go_wp2_with fail
            go_round
            case rel => exact ⟨k + 1, N * 16 + (s[k].toNat - 87), by omega, by go_num, by go_num, hN16.out _ (by omega), HD.out⟩
            case measure => simp [intOf]; omega
          · rw [if_neg hB] at hdig; subst hdig
            have hB' : s[k].toNat < 97 ∨ 102 < s[k].toNat := by omega
            have HD := Lib.hid (show rPu s.data.toList = (0, 2) from hPU); clear hPU hB hN hN60
            rcases hA' with hA' | hA' <;> rcases hB' with hB' | hB' <;> first | (exfalso; omega) | (go_wp2_with fail; go_ret2; exact ⟨by rw [HD.out]; rfl, rfl⟩)
      · have HD := Lib.hid (show rPu s.data.toList = (N, 0) by rw [HX.out, show k = s.data.toList.length by rw [Array.length_toList]; show k = s.size; omega, List.drop_length]; rfl)
        clear hN
        go_wp2_with fail
        go_ret2
        exact ⟨by rw [HD.out]; rfl, rfl⟩
  · have HR := Lib.hid (show rPu s.data.toList = (0, 2) by unfold rPu; rw [if_neg (by rw [Array.length_toList]; exact h16)])
    go_enter Tryd.func11, Tryd.ntmps11
    go_wp2_with fail
    go_ret2
    exact ⟨by rw [HR.out]; rfl, rfl⟩
end Go.Proofs.YtngdndkgmbcnpaaDoor
