/- Heads: keys and sized texts, the program's and the reference's. -/
import Derived.Test.YtmdkfbmpenohiaaDoorTaker
namespace Go.Proofs.YtmdkfbmpenohiaaDoor
open Go.RowKit

set_option maxHeartbeats 2000000 in
set_option maxRecDepth 100000 in
theorem key_any (s : ByteArray) (w : World) (hs : s.size ≤ 4611686018427387900) :
    Calls Tryd.prog 76 #[.string s] w fun e w' => e = .returned (.bool (keyOk s.data.toList)) ∧ w = w' := by
  have hlen : s.data.toList.length = s.size := by rw [Array.length_toList]; rfl
  by_cases hl : 1 ≤ s.size ∧ s.size ≤ 40
  · have HLN := Lib.hid hlen; have HOK := Lib.hid hl; clear hlen
    obtain ⟨h1, h40⟩ := hl
    go_enter Tryd.func76, Tryd.ntmps76
    go_wp2_with fail
    go_loop [14] (fun x => ∃ k : Nat, k ≤ s.size ∧ x = .int .i64 k ∧ ∀ j (h : j < s.data.toList.length), j < k → keyC s.data.toList[j] = true) (fun x => s.size - (intOf x).toNat)
    case atStart => exact ⟨0, Nat.zero_le _, rfl, fun _ _ h => absurd h (Nat.not_lt_zero _)⟩
    case round =>
      obtain ⟨k, hk, rfl, hall⟩ := hrel
      have HA := Lib.hid hall; clear hall
      by_cases hlt : k < s.size
      · have HG := Lib.hid (fun (h : keyC s[k] = false) => keyOk_at (l := s.data.toList) (k := k) (by rw [HLN.out]; exact hlt) (show keyC s.data.toList[k] = false from h))
        have HNX := Lib.hid (fun (h : keyC s[k] = true) => show ∀ j (h : j < s.data.toList.length), j < k + 1 → keyC s.data.toList[j] = true from fun j hj hlt => by
          by_cases e : j = k
          · subst e; exact h
          · exact HA.out j hj (by omega))
        rcases keyC_facts s[k] with ⟨hc, hz1, hz2⟩ | ⟨hc, hz1, hz2⟩ | ⟨hc, hz1⟩ | ⟨hc, hz1, hz2, hz3⟩
        · have HN := Lib.hid (HNX.out hc); clear hc
          go_wp2_with fail
          go_round
          case rel => exact ⟨k + 1, hlt, by go_num, HN.out⟩
          case measure => simp [intOf]; omega
        · have HN := Lib.hid (HNX.out hc); clear hc
          go_wp2_with fail
          go_round
          case rel => exact ⟨k + 1, hlt, by go_num, HN.out⟩
          case measure => simp [intOf]; omega
        · have HN := Lib.hid (HNX.out hc)
          have hz3 : ((s[k].toNat : Int) != 45) = false := by simp; omega
          have hz4 : s[k].toNat < 48 := by omega
          have hz5 : s[k].toNat < 97 := by omega
          clear hc hz1
          go_wp2_with fail
          go_round
          case rel => exact ⟨k + 1, hlt, by go_num, HN.out⟩
          case measure => simp [intOf]; omega
        · have HR := Lib.hid (HG.out hc)
          have hz4 := (byte_eq (show (s[k].toNat : Int) ≠ 45 by omega)).2
          clear hc hz3
          rcases hz1 with hz1 | hz1
          all_goals
            rcases hz2 with hz2 | hz2
            all_goals
              try (exfalso; omega)
              try (
                go_wp2_with fail
                go_ret
                exact ⟨u_ret_bool HR.out.symm, rfl⟩)
      · have HR := Lib.hid (keyOk_ok (l := s.data.toList) (by rw [HLN.out]; exact HOK.out) (fun j hj => HA.out j hj (by have := HLN.out; omega)))
        go_wp2_with fail
        go_ret
        exact ⟨u_ret_bool HR.out.symm, rfl⟩
  · have HR := Lib.hid (keyOk_len (l := s.data.toList) (by rw [hlen]; exact hl))
    clear hlen
    go_enter Tryd.func76, Tryd.ntmps76
    go_wp2_with fail
    all_goals
      first
        | (go_ret; exact ⟨u_ret_bool HR.out.symm, rfl⟩)
        | (exfalso; omega)
theorem sized_any (s : ByteArray) (w : World) (hs : s.size ≤ 4611686018427387900) :
    Calls Tryd.prog 70 #[.string s] w fun e w' => e = .returned (.string ⟨(sized s).toArray⟩) ∧ Below w.heap.size w w' := by
  have hw : IntKind.u64.wrap (s.size : Int) = s.size := by rw [IntKind.wrap_u64]; omega
  have HP := Lib.hid (fun w => put_any s.size w (by omega))
  have hpl := putL_len s.size
  have hsz : (⟨(putL s.size).toArray⟩ : ByteArray).size = (putL s.size).length := by show (putL s.size).toArray.size = _; simp
  have hno : ¬ 9223372036854775807 < (putL s.size).length + s.size := by omega
  have HE := Lib.hid (show ((⟨(putL s.size).toArray⟩ : ByteArray) ++ s : ByteArray) = ⟨(sized s).toArray⟩ from ByteArray.ext (Array.ext' (by simp [ByteArray.data_append, sized])))
  go_enter Tryd.func70, Tryd.ntmps70
  go_wp2_with fail
  refine (HP.out _).mono ?_; rintro e w1 ⟨rfl, hb⟩
  go_wp2_with fail
  go_ret
  exact ⟨v_ret_str HE.out, hb⟩
end Go.Proofs.YtmdkfbmpenohiaaDoor
