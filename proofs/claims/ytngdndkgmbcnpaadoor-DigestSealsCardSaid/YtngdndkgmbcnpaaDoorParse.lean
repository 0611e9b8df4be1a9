/- internal/strconv.ParseUint at base 16 and 64 bits: whatever the string. -/
import Derived.Test.YtngdndkgmbcnpaaDoorShelf
import Derived.WalkKit
import Derived.WalkSpells
import Derived.WalkLawsBesides
import Derived.Lib.Hide
import Derived.Below
import Derived.Laws.BitsAllLaws
namespace Go.Proofs.YtngdndkgmbcnpaaDoor
open Go.RowKit

/-- the digit that a byte stands for, or 99. -/
def dig16 (c : UInt8) : Nat :=
  if 48 ≤ c.toNat ∧ c.toNat ≤ 57 then c.toNat - 48
  else if 97 ≤ (c.toNat ||| 32) ∧ (c.toNat ||| 32) ≤ 102 then (c.toNat ||| 32) - 87
  else 99
def cut16 : Nat := 1152921504606846976
def max64 : Nat := 18446744073709551615
def pu : List UInt8 → Nat → Nat × Int
  | [], n => (n, 0)
  | c :: l, n => if 16 ≤ dig16 c then (0, 2) else if cut16 ≤ n then (max64, 1) else pu l (n * 16 + dig16 c)
def pu16 (l : List UInt8) : Nat × Int := if l = [] then (0, 2) else pu l 0
def errV (c : Int) : Value := if c = 0 then .nilIface else .iface 62 (.int .i64 c)
theorem drop_at (s : ByteArray) {k : Nat} (h : k < s.size) : s.data.toList.drop k = s[k] :: s.data.toList.drop (k + 1) := by
  rw [List.drop_eq_getElem_cons (by simpa using h)]; rfl
theorem bytes_of (s : ByteArray) (w : World) : ∃ cap W1, (convert 9 29 (.string s)).run Tryd.prog w = .ok (.slice (some ⟨w.heap.size, 0, none⟩) s.size cap) W1 ∧ Below w.heap.size w W1 ∧
    w.heap.size < W1.heap.size ∧ s.size ≤ cap ∧ (∀ o, o < s.size → W1.frozen? ⟨w.heap.size, o, none⟩ = false) ∧ ∀ k (hk : k < s.size), W1.cell? ⟨w.heap.size, k, none⟩ = some (.int .u8 (s[k].toNat : Int)) := by
  refine ⟨_, _, run_bytes_of_string w _ _ _ s Tryd.underlying9 Tryd.underlying29 Tryd.underlying5, (Below.refl _ _).drew.alloc (Nat.le_refl _) _, by show _ < (w.heap.push _).size; simp, ?_, fun o ho => ?_, fun k hk => ?_⟩
  · unfold grownCap Question.cut; simp only; exact Nat.le_add_right _ _
  · have h := World.frozen?_alloc_mark w.drew (bytesRow s (grownCap w s.size 0 5)) 5 (bytesRow s (grownCap w s.size 0 5)).size ((bytesRow s (grownCap w s.size 0 5)).size + 1) o
    refine h.trans ?_
    have hb : s.size ≤ (bytesRow s (grownCap w s.size 0 5)).size := by unfold bytesRow; simp
    have : ¬ (bytesRow s (grownCap w s.size 0 5)).size ≤ o := by omega
    simp [this]
  · have h := World.cell?_alloc_mark w.drew (bytesRow s (grownCap w s.size 0 5)) 5 ((bytesRow s (grownCap w s.size 0 5)).size, (bytesRow s (grownCap w s.size 0 5)).size + 1) k
    refine h.trans ?_
    unfold bytesRow
    have hk' : k < s.data.size := hk
    rw [Array.getElem?_append_left (by simpa using hk')]
    rw [Array.getElem?_map, Array.getElem?_eq_getElem hk']
    rfl
set_option maxRecDepth 100000 in
set_option maxHeartbeats 2000000 in
theorem ipu_any (s : ByteArray) (w : World) (h0 : 0 < s.size) (hs : s.size ≤ 281474976710656) :
    Calls Tryd.prog 30 #[.string s, .int .i64 16, .int .i64 64] w fun e w' => e = .returned (.tuple #[.int .u64 (pu16 s.data.toList).1, errV (pu16 s.data.toList).2]) ∧ Below w.heap.size w w' := by
  have hne : s.toList.isEmpty = false := by
    rw [ByteArray.toList_eq]; cases hh : s.data.toList with
    | nil => have := congrArg List.length hh; rw [Array.length_toList] at this; exact absurd this (by show ¬ s.size = 0; omega)
    | cons => rfl
  have hne2 : ¬ s.toList = [] := by simpa using hne
  have hne3 : ¬ s.data.toList = [] := by rw [← ByteArray.toList_eq]; exact hne2
  obtain ⟨cap, W1, hcv, hB, hsz, _, _, hcell⟩ := bytes_of s w
  have HCL := Lib.hid hcell; clear hcell
  have HBB := Lib.hid hB; clear hB
  have hmv : IntKind.u64.wrap (IntKind.u64.wrap 18446744073709551616 - 1) = ((max64 : Nat) : Int) := by
    rw [IntKind.wrap_u64, IntKind.wrap_u64]; unfold max64; omega
  go_enter Tryd.func30, Tryd.ntmps30
  go_wp2
  go_loop [12, 13, 101] (fun U n i => ∃ (k N : Nat), k ≤ s.size ∧ i = .int .i64 k ∧ U = .bool false ∧ n = .int .u64 (N : Int) ∧ N ≤ max64 ∧ pu16 s.data.toList = pu (s.data.toList.drop k) N) (fun _ _ i => s.size - (intOf i).toNat)
  case atStart => exact ⟨0, 0, Nat.zero_le _, rfl, rfl, rfl, Nat.zero_le _, by unfold pu16; rw [if_neg hne3]; rfl⟩
  case round =>
    obtain ⟨k, N, hk, rfl, rfl, rfl, hN, hp⟩ := hrel
    have HP := Lib.hid hp; clear hp
    by_cases hlt : k < s.size
    · have hc := HCL.out k hlt
      have hPU : pu16 s.data.toList = (if 16 ≤ dig16 s[k] then (0, 2) else if cut16 ≤ N then (max64, 1) else pu (s.data.toList.drop (k + 1)) (N * 16 + dig16 s[k])) := by
        rw [HP.out, drop_at s hlt, pu]
      have hdig : dig16 s[k] = (if 48 ≤ s[k].toNat ∧ s[k].toNat ≤ 57 then s[k].toNat - 48 else if 97 ≤ (s[k].toNat ||| 32) ∧ (s[k].toNat ||| 32) ≤ 102 then (s[k].toNat ||| 32) - 87 else 99) := rfl
      have e1 : bits .or .u8 (s[k].toNat : Int) 32 = ((s[k].toNat ||| 32 : Nat) : Int) := u8_or_nat _ 32 s[k].toNat_lt (by omega)
      have hl : s[k].toNat ||| 32 < 256 := Nat.or_lt_two_pow (n := 8) s[k].toNat_lt (by omega)
      have h95 : s[k].toNat = 95 → 122 < s[k].toNat ||| 32 := fun h => by rw [h]; decide
      have hcl := s[k].toNat_lt
      generalize dig16 s[k] = D at *
      generalize s[k].toNat ||| 32 = lc at *
      generalize s[k].toNat = c at *
      have hM : N < cut16 → N * 16 + 15 ≤ max64 := fun h => by unfold cut16 at h; unfold max64; omega
      have hcut : cut16 = 1152921504606846976 := rfl
      by_cases hA : 48 ≤ c ∧ c ≤ 57
      · rw [if_pos hA] at hdig
        obtain ⟨hA1, hA2⟩ := hA
        by_cases hq : cut16 ≤ N
        · have HD := Lib.hid (show pu16 s.data.toList = (max64, 1) by rw [hPU, if_neg (by omega), if_pos hq])
          have hge : decide ((1152921504606846976 : Int) ≤ (N : Int)) = true := decide_eq_true (by rw [hcut] at hq; omega)
          clear hPU hdig hM hcut h95 hq
          go_wp2_with (go_at_call 39; refine (Tryd.internal_strconv_lower _ _).mono ?_; rintro e w' ⟨rfl, rfl⟩)
          go_ret2
          exact ⟨by rw [HD.out]; rfl, HBB.out⟩
        · have HD := Lib.hid (show pu16 s.data.toList = pu (s.data.toList.drop (k + 1)) (N * 16 + D) by rw [hPU, if_neg (by omega), if_neg hq])
          have hge : decide ((1152921504606846976 : Int) ≤ (N : Int)) = false := decide_eq_false (by rw [hcut] at hq; omega)
          have hM2 := hM (by omega)
          have hw1 : IntKind.u64.wrap ((N : Int) * 16) = (N : Int) * 16 := by rw [IntKind.wrap_u64]; rw [hcut] at hq; omega
          have hlt1 : N * 16 + 15 < 18446744073709551616 := by rw [hcut] at hq; omega
          clear hPU hM hcut h95 hq
          have hdn : D < 16 := by omega
          have HDG := Lib.hid hdig; clear hdig
          go_wp2_with (go_at_call 39; refine (Tryd.internal_strconv_lower _ _).mono ?_; rintro e w' ⟨rfl, rfl⟩)
          go_round
          case rel =>
            have hD := HDG.out
            exact ⟨k + 1, N * 16 + D, hlt, by go_num, rfl, by rw [hD]; go_num, by omega, HD.out⟩
          case measure => simp [intOf]; omega
      · rw [if_neg hA] at hdig
        have hA' : c < 48 ∨ 57 < c := by omega
        clear hA
        by_cases hB : 97 ≤ lc ∧ lc ≤ 102
        · rw [if_pos hB] at hdig
          obtain ⟨hB1, hB2⟩ := hB
          have n95 : ¬ c = 95 := fun h => by have := h95 h; omega
          rcases hA' with hA' | hA'
          · by_cases hq : cut16 ≤ N
            · have HD := Lib.hid (show pu16 s.data.toList = (max64, 1) by rw [hPU, if_neg (by omega), if_pos hq])
              have hge : decide ((1152921504606846976 : Int) ≤ (N : Int)) = true := decide_eq_true (by rw [hcut] at hq; omega)
              clear hPU hdig hM hcut h95 hq
              go_wp2_with (go_at_call 39; refine (Tryd.internal_strconv_lower _ _).mono ?_; rintro e w' ⟨rfl, rfl⟩)
              go_ret2
              exact ⟨by rw [HD.out]; rfl, HBB.out⟩
            · have HD := Lib.hid (show pu16 s.data.toList = pu (s.data.toList.drop (k + 1)) (N * 16 + D) by rw [hPU, if_neg (by omega), if_neg hq])
              have hge : decide ((1152921504606846976 : Int) ≤ (N : Int)) = false := decide_eq_false (by rw [hcut] at hq; omega)
              have hM2 := hM (by omega)
              have hw1 : IntKind.u64.wrap ((N : Int) * 16) = (N : Int) * 16 := by rw [IntKind.wrap_u64]; rw [hcut] at hq; omega
              have hlt1 : N * 16 + 15 < 18446744073709551616 := by rw [hcut] at hq; omega
              clear hPU hM hcut h95 hq
              have hdn : D < 16 := by omega
              have HDG := Lib.hid hdig; clear hdig
              go_wp2_with (go_at_call 39; refine (Tryd.internal_strconv_lower _ _).mono ?_; rintro e w' ⟨rfl, rfl⟩)
              go_round
              case rel =>
                have hD := HDG.out
                exact ⟨k + 1, N * 16 + D, hlt, by go_num, rfl, by rw [hD]; go_num, by omega, HD.out⟩
              case measure => simp [intOf]; omega
          · by_cases hq : cut16 ≤ N
            · have HD := Lib.hid (show pu16 s.data.toList = (max64, 1) by rw [hPU, if_neg (by omega), if_pos hq])
              have hge : decide ((1152921504606846976 : Int) ≤ (N : Int)) = true := decide_eq_true (by rw [hcut] at hq; omega)
              clear hPU hdig hM hcut h95 hq
              go_wp2_with (go_at_call 39; refine (Tryd.internal_strconv_lower _ _).mono ?_; rintro e w' ⟨rfl, rfl⟩)
              go_ret2
              exact ⟨by rw [HD.out]; rfl, HBB.out⟩
            · have HD := Lib.hid (show pu16 s.data.toList = pu (s.data.toList.drop (k + 1)) (N * 16 + D) by rw [hPU, if_neg (by omega), if_neg hq])
              have hge : decide ((1152921504606846976 : Int) ≤ (N : Int)) = false := decide_eq_false (by rw [hcut] at hq; omega)
              have hM2 := hM (by omega)
              have hw1 : IntKind.u64.wrap ((N : Int) * 16) = (N : Int) * 16 := by rw [IntKind.wrap_u64]; rw [hcut] at hq; omega
              have hlt1 : N * 16 + 15 < 18446744073709551616 := by rw [hcut] at hq; omega
              clear hPU hM hcut h95 hq
              have hdn : D < 16 := by omega
              have HDG := Lib.hid hdig; clear hdig
              go_wp2_with (go_at_call 39; refine (Tryd.internal_strconv_lower _ _).mono ?_; rintro e w' ⟨rfl, rfl⟩)
              go_round
              case rel =>
                have hD := HDG.out
                exact ⟨k + 1, N * 16 + D, hlt, by go_num, rfl, by rw [hD]; go_num, by omega, HD.out⟩
              case measure => simp [intOf]; omega
        · rw [if_neg hB] at hdig
          have HD := Lib.hid (show pu16 s.data.toList = (0, 2) by rw [hPU, if_pos (by omega)])
          have hB' : lc < 97 ∨ (102 < lc ∧ lc ≤ 122) ∨ 122 < lc := by omega
          clear hPU hdig hM hcut hB
          rcases hB' with hB' | hB' | hB'
          · have n95 : ¬ c = 95 := fun h => by have := h95 h; omega
            clear h95
            rcases hA' with hA' | hA'
            all_goals
              go_wp2_with (go_at_call 39; refine (Tryd.internal_strconv_lower _ _).mono ?_; rintro e w' ⟨rfl, rfl⟩)
              go_ret2
              exact ⟨by rw [HD.out]; rfl, HBB.out⟩
          · have n95 : ¬ c = 95 := fun h => by have := h95 h; omega
            clear h95
            rcases hA' with hA' | hA'
            all_goals
              go_wp2_with (go_at_call 39; refine (Tryd.internal_strconv_lower _ _).mono ?_; rintro e w' ⟨rfl, rfl⟩)
              go_ret2
              exact ⟨by rw [HD.out]; rfl, HBB.out⟩
          · clear h95
            rcases hA' with hA' | hA'
            · go_wp2_with (go_at_call 39; refine (Tryd.internal_strconv_lower _ _).mono ?_; rintro e w' ⟨rfl, rfl⟩)
              go_ret2
              exact ⟨by rw [HD.out]; rfl, HBB.out⟩
            · cases h95 : ((c : Int) == 95)
              all_goals
                go_wp2_with (go_at_call 39; refine (Tryd.internal_strconv_lower _ _).mono ?_; rintro e w' ⟨rfl, rfl⟩)
                go_ret2
                exact ⟨by rw [HD.out]; rfl, HBB.out⟩
    · have HQ := Lib.hid (show pu16 s.data.toList = (N, 0) by rw [HP.out, List.drop_of_length_le (by rw [Array.length_toList]; show s.size ≤ k; omega)]; rfl)
      go_wp2
      go_ret2
      exact ⟨by rw [HQ.out]; rfl, HBB.out⟩
end Go.Proofs.YtngdndkgmbcnpaaDoor
