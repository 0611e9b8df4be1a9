/- The walk of the law MethodLegal. -/
import Derived.Test.YtngieldaebnffaaPlain
import Derived.Test.YtngieldaebnffaaLawA
namespace Go.Proofs.Ytngieldaebnffaa
open Go.RowKit

theorem extract_full (ev : ByteArray) : (ev ++ ⟨#[120]⟩ : ByteArray).data.toList = ev.data.toList ++ [120] := by simp [ByteArray.data_append]
theorem size_x (ev : ByteArray) : (ev ++ ⟨#[120]⟩ : ByteArray).size = ev.size + 1 := by rw [ByteArray.size_append]; rfl
theorem legal_pre (s : Int) (ev : ByteArray) {k : Nat} (hk : k < ev.size) (h : legalS s ev.data.toList = true) : legalS s (ev.extract 0 k).data.toList = true ∧ completeS s (ev.extract 0 k).data.toList = false := by
  rw [extract_take]
  refine legal_drop s _ ev[k] (ev.data.toList.drop (k + 1)) ?_
  rw [← drop_at ev hk, List.take_append_drop]; exact h
set_option maxHeartbeats 4000000 in
theorem legal_law (s : Int) (ev : ByteArray) (w : World) : Calls Try.prog 5 #[.int .i64 s, .string ev] w (AnsB true w) := by
  by_cases hs : 100 < ev.size
  · go_enter Try.func5, Try.ntmps5
    go_wp2
    go_ret
    exact ⟨rfl, Below.refl _ _⟩
  · have h1 : ev.size ≤ 100 := by omega
    have h2 : ev.size ≤ 4611686018427387904 := by omega
    have h3 : ev.size ≤ 1000000000 := by omega
    have h4 : ¬ 9223372036854775807 < ev.size + 1 := by omega
    clear hs
    have HL := Lib.hid (fun w => legal_any s ev w h3)
    have HC1 := Lib.hid (fun w => complete_any s ev w h3)
    have HC2 := Lib.hid (fun w => complete_any s (ev ++ ⟨#[120]⟩) w (by rw [size_x]; omega))
    have HF := Lib.hid (fun w => first_any s ev w h2)
    have HP := Lib.hid (fun (k : Nat) (hk : k < ev.size) (h : legalS s ev.data.toList = true) => legal_pre s ev hk h)
    have hfe := legal_eq s ev.data.toList
    have hX : isS s = true → legalS s ev.data.toList = (completeS s ev.data.toList || completeS s (ev.data.toList ++ [120])) := fun h => legal_iff s h _
    rw [extract_full] at HC2
    unfold AnsB at HC1 HC2
    generalize completeS s (ev.data.toList ++ [120]) = C2 at *
    generalize completeS s ev.data.toList = C1 at *
    generalize firstS s ev.data.toList = F at *
    have HS := Lib.hid (fun (k : Nat) (w : World) => legal_any s (ev.extract 0 k) w (Nat.le_trans (extract_le ev k) h3))
    have HD := Lib.hid (fun (k : Nat) (w : World) => complete_any s (ev.extract 0 k) w (Nat.le_trans (extract_le ev k) h3))
    unfold AnsB at HD
    obtain ⟨V, hV⟩ : ∃ V, isS s = V := ⟨_, rfl⟩
    obtain ⟨L, hL⟩ : ∃ L, legalS s ev.data.toList = L := ⟨_, rfl⟩
    rw [hV, hL] at hX
    rw [hL] at HL HP hfe
    have HI := Lib.hid (fun w => refIs s w)
    rw [hV] at HI
    clear hV hL
    have hcases : (V = false ∧ L = false) ∨ (V = false ∧ L = true) ∨ (V = true ∧ L = true ∧ C1 = true) ∨ (V = true ∧ L = true ∧ C1 = false ∧ C2 = true) ∨ (V = true ∧ L = false ∧ C1 = false ∧ C2 = false) := by
      revert hX; cases V <;> cases L <;> cases C1 <;> cases C2 <;> decide
    clear hX
    rcases hcases with ⟨rfl, rfl⟩ | ⟨rfl, rfl⟩ | ⟨rfl, rfl, rfl⟩ | ⟨rfl, rfl, rfl, rfl⟩ | ⟨rfl, rfl, rfl, rfl⟩
    · go_enter Try.func5, Try.ntmps5
      go_wp2_with fail
      refine (HI.out _).mono ?_; rintro e w1 ⟨rfl, rfl⟩
      go_wp2_with fail
      refine (HL.out _).mono ?_; rintro e w2 ⟨rfl, hb2⟩
      go_wp2_with fail
      refine (HF.out _).mono ?_; rintro e w3 ⟨rfl, hb3⟩
      go_wp2_with fail
      have HB : Below w.heap.size w _ := (hb2.trans (hb3.mono hb2.size))
      go_loopw [7] (fun i wr => ∃ k : Nat, k ≤ ev.size ∧ i = .int .i64 k ∧ Below w.heap.size w wr) (fun i _ => ev.size - (intOf i).toNat)
      case atStart => exact ⟨0, Nat.zero_le _, rfl, HB⟩
      case round =>
        obtain ⟨k, hk, rfl, hb⟩ := hrel
        by_cases hlt : k < ev.size
        · go_wp2_with fail
          go_roundw
          case rel => exact ⟨k + 1, hlt, by go_num, hb⟩
          case measure => simp [intOf]; omega
        · go_wp2_with fail
          refine (awake_any _).mono ?_; rintro e wc ⟨rfl, hc⟩
          go_wp2_with fail
          go_ret
          exact ⟨rfl, hb.trans (hc.mono hb.size)⟩
    · go_enter Try.func5, Try.ntmps5
      go_wp2_with fail
      refine (HI.out _).mono ?_; rintro e w1 ⟨rfl, rfl⟩
      go_wp2_with fail
      refine (HL.out _).mono ?_; rintro e w2 ⟨rfl, hb2⟩
      go_wp2_with fail
      refine (HF.out _).mono ?_; rintro e w3 ⟨rfl, hb3⟩
      go_wp2_with fail
      have HB : Below w.heap.size w _ := (hb2.trans (hb3.mono hb2.size))
      go_loopw [7] (fun i wr => ∃ k : Nat, k ≤ ev.size ∧ i = .int .i64 k ∧ Below w.heap.size w wr) (fun i _ => ev.size - (intOf i).toNat)
      case atStart => exact ⟨0, Nat.zero_le _, rfl, HB⟩
      case round =>
        obtain ⟨k, hk, rfl, hb⟩ := hrel
        by_cases hlt : k < ev.size
        · have hp := HP.out k hlt trivial
          have HS2 := HS.out k; have HD2 := HD.out k
          rw [hp.1] at HS2; rw [hp.2] at HD2
          have HSh := Lib.hid HS2; have HDh := Lib.hid HD2
          clear hp HS2 HD2
          go_wp2_with fail
          refine (HSh.out _).mono ?_; rintro e wa ⟨rfl, ha⟩
          go_wp2_with fail
          refine (HDh.out _).mono ?_; rintro e wb ⟨rfl, hb'⟩
          go_wp2_with fail
          go_roundw
          case rel => exact ⟨k + 1, hlt, by go_num, hb.trans ((ha.mono hb.size).trans (hb'.mono (Nat.le_trans hb.size ha.size)))⟩
          case measure => simp [intOf]; omega
        · go_wp2_with fail
          refine (awake_any _).mono ?_; rintro e wc ⟨rfl, hc⟩
          go_wp2_with fail
          go_ret
          exact ⟨rfl, hb.trans (hc.mono hb.size)⟩
    · go_enter Try.func5, Try.ntmps5
      go_wp2_with fail
      refine (HI.out _).mono ?_; rintro e w1 ⟨rfl, rfl⟩
      go_wp2_with fail
      refine (HL.out _).mono ?_; rintro e w2 ⟨rfl, hb2⟩
      go_wp2_with fail
      refine (HC1.out _).mono ?_; rintro e w3 ⟨rfl, hb3⟩
      go_wp2_with fail
      refine (HF.out _).mono ?_; rintro e w4 ⟨rfl, hb4⟩
      go_wp2_with fail
      have HB : Below w.heap.size w _ := ((hb2.trans (hb3.mono hb2.size)).trans (hb4.mono (Nat.le_trans hb2.size hb3.size)))
      go_loopw [7] (fun i wr => ∃ k : Nat, k ≤ ev.size ∧ i = .int .i64 k ∧ Below w.heap.size w wr) (fun i _ => ev.size - (intOf i).toNat)
      case atStart => exact ⟨0, Nat.zero_le _, rfl, HB⟩
      case round =>
        obtain ⟨k, hk, rfl, hb⟩ := hrel
        by_cases hlt : k < ev.size
        · have hp := HP.out k hlt trivial
          have HS2 := HS.out k; have HD2 := HD.out k
          rw [hp.1] at HS2; rw [hp.2] at HD2
          have HSh := Lib.hid HS2; have HDh := Lib.hid HD2
          clear hp HS2 HD2
          go_wp2_with fail
          refine (HSh.out _).mono ?_; rintro e wa ⟨rfl, ha⟩
          go_wp2_with fail
          refine (HDh.out _).mono ?_; rintro e wb ⟨rfl, hb'⟩
          go_wp2_with fail
          go_roundw
          case rel => exact ⟨k + 1, hlt, by go_num, hb.trans ((ha.mono hb.size).trans (hb'.mono (Nat.le_trans hb.size ha.size)))⟩
          case measure => simp [intOf]; omega
        · go_wp2_with fail
          refine (awake_any _).mono ?_; rintro e wc ⟨rfl, hc⟩
          go_wp2_with fail
          go_ret
          exact ⟨rfl, hb.trans (hc.mono hb.size)⟩
    · go_enter Try.func5, Try.ntmps5
      go_wp2_with fail
      refine (HI.out _).mono ?_; rintro e w1 ⟨rfl, rfl⟩
      go_wp2_with fail
      refine (HL.out _).mono ?_; rintro e w2 ⟨rfl, hb2⟩
      go_wp2_with fail
      refine (HC1.out _).mono ?_; rintro e w3 ⟨rfl, hb3⟩
      go_wp2_with fail
      refine (HC2.out _).mono ?_; rintro e w4 ⟨rfl, hb4⟩
      go_wp2_with fail
      refine (HF.out _).mono ?_; rintro e w5 ⟨rfl, hb5⟩
      go_wp2_with fail
      have HB : Below w.heap.size w _ := (((hb2.trans (hb3.mono hb2.size)).trans (hb4.mono (Nat.le_trans hb2.size hb3.size))).trans (hb5.mono (Nat.le_trans (Nat.le_trans hb2.size hb3.size) hb4.size)))
      go_loopw [7] (fun i wr => ∃ k : Nat, k ≤ ev.size ∧ i = .int .i64 k ∧ Below w.heap.size w wr) (fun i _ => ev.size - (intOf i).toNat)
      case atStart => exact ⟨0, Nat.zero_le _, rfl, HB⟩
      case round =>
        obtain ⟨k, hk, rfl, hb⟩ := hrel
        by_cases hlt : k < ev.size
        · have hp := HP.out k hlt trivial
          have HS2 := HS.out k; have HD2 := HD.out k
          rw [hp.1] at HS2; rw [hp.2] at HD2
          have HSh := Lib.hid HS2; have HDh := Lib.hid HD2
          clear hp HS2 HD2
          go_wp2_with fail
          refine (HSh.out _).mono ?_; rintro e wa ⟨rfl, ha⟩
          go_wp2_with fail
          refine (HDh.out _).mono ?_; rintro e wb ⟨rfl, hb'⟩
          go_wp2_with fail
          go_roundw
          case rel => exact ⟨k + 1, hlt, by go_num, hb.trans ((ha.mono hb.size).trans (hb'.mono (Nat.le_trans hb.size ha.size)))⟩
          case measure => simp [intOf]; omega
        · go_wp2_with fail
          refine (awake_any _).mono ?_; rintro e wc ⟨rfl, hc⟩
          go_wp2_with fail
          go_ret
          exact ⟨rfl, hb.trans (hc.mono hb.size)⟩
    · go_enter Try.func5, Try.ntmps5
      go_wp2_with fail
      refine (HI.out _).mono ?_; rintro e w1 ⟨rfl, rfl⟩
      go_wp2_with fail
      refine (HL.out _).mono ?_; rintro e w2 ⟨rfl, hb2⟩
      go_wp2_with fail
      refine (HC1.out _).mono ?_; rintro e w3 ⟨rfl, hb3⟩
      go_wp2_with fail
      refine (HC2.out _).mono ?_; rintro e w4 ⟨rfl, hb4⟩
      go_wp2_with fail
      refine (HF.out _).mono ?_; rintro e w5 ⟨rfl, hb5⟩
      go_wp2_with fail
      have HB : Below w.heap.size w _ := (((hb2.trans (hb3.mono hb2.size)).trans (hb4.mono (Nat.le_trans hb2.size hb3.size))).trans (hb5.mono (Nat.le_trans (Nat.le_trans hb2.size hb3.size) hb4.size)))
      go_loopw [7] (fun i wr => ∃ k : Nat, k ≤ ev.size ∧ i = .int .i64 k ∧ Below w.heap.size w wr) (fun i _ => ev.size - (intOf i).toNat)
      case atStart => exact ⟨0, Nat.zero_le _, rfl, HB⟩
      case round =>
        obtain ⟨k, hk, rfl, hb⟩ := hrel
        by_cases hlt : k < ev.size
        · go_wp2_with fail
          go_roundw
          case rel => exact ⟨k + 1, hlt, by go_num, hb⟩
          case measure => simp [intOf]; omega
        · go_wp2_with fail
          refine (awake_any _).mono ?_; rintro e wc ⟨rfl, hc⟩
          go_wp2_with fail
          go_ret
          exact ⟨rfl, hb.trans (hc.mono hb.size)⟩
end Go.Proofs.Ytngieldaebnffaa
