/- Names: class, IsPart, IsFull, the program's and the reference's. -/
import Derived.Test.YtmdkfbmpenohiaaDoorBunV
import Derived.Test.YtmdkfbmpenohiaaDoorStat
import Derived.Test.YtmdkfbmpenohiaaDoorBunOw
import Derived.Test.YtmdkfbmpenohiaaDoorShelf
namespace Go.Proofs.YtmdkfbmpenohiaaDoor
open Go.RowKit

theorem class_any (c : Nat) (w : World) :
    Calls Tryd.prog 80 #[.int .i32 (c : Int)] w fun e w' => e = .returned (.int .i64 ((clsN c : Nat) : Int)) ∧ w = w' := by
  go_enter Tryd.func80, Tryd.ntmps80
  go_wp2
  all_goals
    go_ret
    refine ⟨v_ret_int ?_, rfl⟩
    unfold clsN
    (repeat' split) <;> simp_all <;> omega
theorem clsN_cases (c : Nat) : clsN c = 0 ∨ clsN c = 1 ∨ clsN c = 2 ∨ clsN c = 3 ∨ clsN c = 4 := by unfold clsN; (repeat' split) <;> simp
theorem at_drop (s : ByteArray) {k : Nat} (h : k < s.size) : atL (s.data.toList.drop k) 0 = s[k].toNat := by have := at_elem s (i := k) (k := 0) h; simpa using this.symm
theorem get_list (s : ByteArray) {k : Nat} (h : k < s.data.toList.length) : s.data.toList[k] = s[k]'(by simpa using h) := rfl
set_option maxHeartbeats 2000000 in
set_option maxRecDepth 100000 in
theorem isPart_any (s : ByteArray) (w : World) (hs : s.size ≤ 4611686018427387900) :
    Calls Tryd.prog 75 #[.string s] w fun e w' => e = .returned (.bool (partOk s.data.toList)) ∧ Below w.heap.size w w' := by
  have hlen : s.data.toList.length = s.size := by rw [Array.length_toList]; rfl
  go_enter Tryd.func75, Tryd.ntmps75
  go_wp2
  go_loopw [] (fun wr => ∃ pos : Nat, pos ≤ s.size ∧ wr.heap[w.heap.size]? = some (.stringIter s pos) ∧ Below w.heap.size w wr ∧ (∀ k (h : k < s.data.toList.length), k < pos → goC s.data.toList[k] = true) ∧ (∀ (h : 0 < s.data.toList.length), 0 < pos → letC s.data.toList[0] = true)) (fun wr => s.size - wr.iterPos w.heap.size)
  case atStart => exact ⟨0, Nat.zero_le _, World.iter_heap w s 0, (Below.refl _ w).alloc (Nat.le_refl _) _, fun _ _ h => absurd h (Nat.not_lt_zero _), fun _ h => absurd h (Nat.not_lt_zero _)⟩
  case round =>
    obtain ⟨pos, hpos, hit, hbw, hall, hhd⟩ := hrel
    have HA := Lib.hid hall; have HH := Lib.hid hhd; have HB := Lib.hid hbw; clear hall hhd hbw
    by_cases hp : pos < s.size
    · have hnx : ∀ ty, (Instr.next (.pointer (some ⟨w.heap.size, 0, none⟩)) true ty).run Tryd.prog wr = _ := fun ty => Lib.run_next_any_at wr w.heap.size s pos ty hit hp
      have HIT := Lib.hid (Lib.iterAt_heap wr w.heap.size s pos (pos + (Utf8.decode s pos).2) hit)
      have HB2 := Lib.hid (Lib.below_iterAt HB.out (k := w.heap.size) (Nat.le_refl _) s (pos + (Utf8.decode s pos).2))
      have HO := Lib.hid hit; clear hit
      have HL := Lib.hid hlen
      have hat := at_drop s hp
      have HG := Lib.hid (fun (h : clsN s[pos].toNat = 0) => partOk_at (l := s.data.toList) (k := pos) (by rw [hlen]; exact hp) (show goC s.data.toList[pos] = false by rw [get_list]; unfold goC; rw [h]; rfl))
      have HNX := Lib.hid (fun (h : clsN s[pos].toNat ≠ 0) => show ∀ k (h : k < s.data.toList.length), k < pos + 1 → goC s.data.toList[k] = true from fun k hk hlt => by
        by_cases e : k = pos
        · subst e; rw [get_list]; unfold goC; exact decide_eq_true h
        · exact HA.out k hk (by omega))
      by_cases hasc : s[pos].toNat < 128
      · have hD : Utf8.decode s pos = (s[pos].toNat, 1) := by rw [decode_dec, dec_asc _ (by rw [hat]; exact hasc), hat]
        rw [hD] at hnx HIT HB2
        have HC := Lib.hid (fun w => class_any s[pos].toNat w)
        have hcs := clsN_cases s[pos].toNat
        have HLT := Lib.hid (show letC s[pos] = decide (clsN s[pos].toNat = 1 ∨ clsN s[pos].toNat = 2) from rfl)
        clear hat hD hasc hlen
        generalize clsN s[pos].toNat = K at *
        by_cases hp0 : pos = 0
        · subst hp0
          have HP0 := Lib.hid (fun (h : ¬ (K = 1 ∨ K = 2)) => partOk_head (l := s.data.toList) (by rw [HL.out]; exact hp) (show letC s.data.toList[0] = false by rw [get_list, HLT.out]; exact decide_eq_false h))
          have HP1 := Lib.hid (fun (h : K = 1 ∨ K = 2) => show ∀ (h : 0 < s.data.toList.length), 0 < 0 + 1 → letC s.data.toList[0] = true from fun hh _ => by rw [get_list, HLT.out]; exact decide_eq_true h)
          rcases hcs with rfl | rfl | rfl | rfl | rfl
          · have HR := Lib.hid (HG.out rfl)
            go_wp2_with fail
            refine (HC.out _).mono ?_; rintro e w1 ⟨rfl, rfl⟩
            go_wp2_with fail
            go_ret
            exact ⟨u_ret_bool HR.out.symm, HB2.out⟩
          · go_wp2_with fail
            refine (HC.out _).mono ?_; rintro e w1 ⟨rfl, rfl⟩
            go_wp2_with fail
            go_roundw
            case rel => exact ⟨0 + 1, hp, HIT.out, HB2.out, HNX.out (by decide), HP1.out (by simp)⟩
            case measure => rw [iterPos_of HIT.out, iterPos_of HO.out]; show s.size - (0 + 1) < s.size - 0; omega
          · go_wp2_with fail
            refine (HC.out _).mono ?_; rintro e w1 ⟨rfl, rfl⟩
            go_wp2_with fail
            go_roundw
            case rel => exact ⟨0 + 1, hp, HIT.out, HB2.out, HNX.out (by decide), HP1.out (by simp)⟩
            case measure => rw [iterPos_of HIT.out, iterPos_of HO.out]; show s.size - (0 + 1) < s.size - 0; omega
          · have HR := Lib.hid (HP0.out (by omega))
            go_wp2_with fail
            refine (HC.out _).mono ?_; rintro e w1 ⟨rfl, rfl⟩
            go_wp2_with fail
            go_ret
            exact ⟨u_ret_bool HR.out.symm, HB2.out⟩
          · have HR := Lib.hid (HP0.out (by omega))
            go_wp2_with fail
            refine (HC.out _).mono ?_; rintro e w1 ⟨rfl, rfl⟩
            go_wp2_with fail
            go_ret
            exact ⟨u_ret_bool HR.out.symm, HB2.out⟩
        · obtain ⟨hq, _⟩ := byte_eq (show (pos : Int) ≠ 0 by omega)
          have hpp : 0 < pos := by omega
          clear hp0
          by_cases hK : K = 0
          · subst hK
            have HR := Lib.hid (HG.out rfl)
            go_wp2_with fail
            refine (HC.out _).mono ?_; rintro e w1 ⟨rfl, rfl⟩
            go_wp2_with fail
            go_ret
            exact ⟨u_ret_bool HR.out.symm, HB2.out⟩
          · obtain ⟨hk1, hk2⟩ := byte_eq (show (K : Int) ≠ 0 by omega)
            have HN := Lib.hid (HNX.out hK)
            clear hK hcs
            go_wp2_with fail
            refine (HC.out _).mono ?_; rintro e w1 ⟨rfl, rfl⟩
            go_wp2_with fail
            go_roundw
            case rel => exact ⟨pos + 1, hp, HIT.out, HB2.out, HN.out, fun h _ => HH.out h hpp⟩
            case measure => rw [iterPos_of HIT.out, iterPos_of HO.out]; show s.size - (pos + 1) < s.size - pos; omega
      · have hge := dec_ge (s.data.toList.drop pos) (by rw [hat]; omega)
        rw [← decode_dec] at hge
        have HR := Lib.hid (HG.out (clsN_big (by omega)))
        generalize Utf8.decode s pos = D at *
        obtain ⟨dc, dn⟩ := D
        have HC := Lib.hid (fun w => (class_any dc w).mono fun e w' h => (show e = .returned (.int .i64 0) ∧ w = w' by rw [clsN_big hge] at h; exact h))
        clear hat hasc hlen hge
        go_wp2_with fail
        refine (HC.out _).mono ?_; rintro e w1 ⟨rfl, rfl⟩
        go_wp2_with fail
        go_ret
        exact ⟨u_ret_bool HR.out.symm, HB2.out⟩
    · have hnx : ∀ ty, (Instr.next (.pointer (some ⟨w.heap.size, 0, none⟩)) true ty).run Tryd.prog wr = _ := fun ty => Lib.run_next_end_at wr w.heap.size s pos ty hit hp
      obtain rfl : pos = s.size := by omega
      have HR := Lib.hid (show partOk s.data.toList = decide (1 ≤ s.size ∧ s.size ≤ 40) by
        have := partOk_ok (l := s.data.toList) (fun k hk => HA.out k hk (by omega)) (fun h => HH.out h (by omega))
        rw [this, hlen])
      clear hlen
      go_wp2_with fail
      all_goals
        go_ret
        exact ⟨u_ret_bool (by rw [HR.out, Bool.eq_iff_iff]; simp; omega), HB.out⟩
/-- the cell that the library's search reads holds some number. -/
def MLen (w : World) : Prop := ∃ m : Int, w.cell? ⟨0, 0, none⟩ = some (.int .i64 m)
theorem cell_blk {w : World} {b o : Nat} {v : Value} (h : w.cell? ⟨b, o, none⟩ = some v) : b < w.heap.size := by
  unfold World.cell? at h
  cases hh : w.heap[b]? with
  | none => rw [hh] at h; cases h
  | some o => exact (Array.getElem?_eq_some_iff.1 hh).1
theorem MLen.below {w w' : World} (h : MLen w) (hb : Below w.heap.size w w') : MLen w' := by
  obtain ⟨m, hm⟩ := h
  exact ⟨m, (hb.cell (p := ⟨0, 0, none⟩) (cell_blk hm)).trans hm⟩
theorem split_any (s : ByteArray) (w : World) (hg : MLen w) (hs : s.size < 4294967281) :
    Calls Tryd.prog 79 #[.string s, .string ⟨#[46]⟩] w fun e w' =>
      e = .returned (.slice (some ⟨w.heap.size, 0, none⟩) (Lib.countB s ⟨#[46]⟩ + 1) (Lib.countB s ⟨#[46]⟩ + 1)) ∧ w' = w.alloc (.cells ((Lib.splitB ⟨#[46]⟩ 0 (Lib.countB s ⟨#[46]⟩) s).map Value.string).toArray 9) := by
  obtain ⟨m, hm⟩ := hg
  exact Tryd.strings_Split s ⟨#[46]⟩ m w hs hm (by decide)
theorem all_take {l : List (List UInt8)} {k : Nat} (h : k < l.length) (ht : (l.take k).all partOk = true) (hk : partOk l[k] = true) : (l.take (k + 1)).all partOk = true := by
  rw [List.take_succ_eq_append_getElem h, List.all_append, ht]; simp [hk]
theorem all_not {l : List (List UInt8)} {k : Nat} (h : k < l.length) (hk : partOk l[k] = false) : l.all partOk = false := by
  rw [List.all_eq_false]; exact ⟨l[k], List.getElem_mem h, by simp [hk]⟩
theorem bool_call {f : FuncId} {s : ByteArray} {b : Bool} {P : Bool} {w : World} (h : P = b) (hc : Calls Tryd.prog f #[.string s] w fun e w' => e = .returned (.bool P) ∧ Below w.heap.size w w') :
    Calls Tryd.prog f #[.string s] w fun e w' => e = .returned (.bool b) ∧ Below w.heap.size w w' := by subst h; exact hc
set_option maxHeartbeats 2000000 in
set_option maxRecDepth 100000 in
theorem isFull_any (s : ByteArray) (w : World) (hg : MLen w) (hs : s.size < 4294967281) :
    Calls Tryd.prog 74 #[.string s] w fun e w' => e = .returned (.bool (fullOk s.data.toList)) ∧ Below w.heap.size w w' := by
  have hlen : s.data.toList.length = s.size := by rw [Array.length_toList]; rfl
  have hL := splitB_dot s
  have hn := Lib.splitB_all ⟨#[46]⟩ (by decide) 0 _ s rfl
  have HFO := Lib.hid (show fullOk s.data.toList = (decide (s.size ≤ 120) && (dotP s.data.toList).all partOk) by unfold fullOk; rw [hlen])
  have hcb := Lib.countB_le ⟨#[46]⟩ (by decide) s.size s (Nat.le_refl _)
  have hsp := split_any s w hg hs
  have hmem : ∀ p ∈ Lib.splitB ⟨#[46]⟩ 0 (Lib.countB s ⟨#[46]⟩) s, p.size ≤ 4611686018427387900 := by
    have hgen : ∀ (k : Nat) (s : ByteArray), s.size < 4294967281 → ∀ p ∈ Lib.splitB ⟨#[46]⟩ 0 k s, p.size ≤ 4611686018427387900 := by
      intro k
      induction k with
      | zero => intro s hs p hp; simp [Lib.splitB] at hp; subst hp; omega
      | succ k ih =>
        intro s hs p hp
        unfold Lib.splitB at hp
        split at hp
        · simp at hp; subst hp; omega
        · rcases List.mem_cons.1 hp with rfl | hp
          · rw [ByteArray.size_extract]; omega
          · exact ih _ (by rw [ByteArray.size_extract]; omega) p hp
    exact hgen _ s hs
  generalize Lib.countB s ⟨#[46]⟩ = n at *
  generalize Lib.splitB ⟨#[46]⟩ 0 n s = L at *
  have hn10 : n + 1 ≤ 4294967282 := by omega
  clear hcb
  generalize n + 1 = N at *
  have HSP := Lib.hid hsp; clear hsp
  have HL := Lib.hid hL; have HN := Lib.hid hn; have HM := Lib.hid hmem; clear hL hn hmem hlen
  have hi1 : (N : Int) ≤ 9223372036854775807 := by omega
  clear hs hn10
  go_enter Tryd.func74, Tryd.ntmps74
  go_wp2_with fail
  refine (HSP.out).mono ?_; rintro e w1 ⟨rfl, rfl⟩
  have HCL := Lib.hid (show ∀ k (h : k < L.length), (w.alloc (.cells (L.map Value.string).toArray 9)).cell? ⟨w.heap.size, k, none⟩ = some (.string L[k]) from fun k h => by
    rw [World.cell?_alloc_mark]; simp [h])
  go_wp2_with fail
  go_loopw [8] (fun x wr => ∃ k : Nat, k ≤ N ∧ x = .int .i64 k ∧ Below (w.heap.size + 1) (w.alloc (.cells (L.map Value.string).toArray 9)) wr ∧ ((L.map (·.data.toList)).take k).all partOk = true) (fun x _ => N - (intOf x).toNat)
  case atStart => exact ⟨0, Nat.zero_le _, rfl, Below.refl _ _, rfl⟩
  case round =>
    obtain ⟨k, hk, rfl, hb, hall⟩ := hrel
    have HB := Lib.hid hb; have HA := Lib.hid hall; clear hb hall
    by_cases hlt : k < N
    · have hkl : k < L.length := by have := HN.out; omega
      have hcell := (HB.out.cell (p := ⟨w.heap.size, k, none⟩) (Nat.lt_succ_self _)).trans (HCL.out k hkl)
      have HMK := Lib.hid (HM.out L[k] (List.getElem_mem hkl))
      have hg1 : (L.map (·.data.toList))[k]'(by simpa using hkl) = L[k].data.toList := by simp
      have HST := Lib.hid (fun (h : partOk L[k].data.toList = true) => all_take (l := L.map (·.data.toList)) (k := k) (by simpa using hkl) HA.out (by rw [hg1]; exact h))
      have HNO := Lib.hid (fun (h : partOk L[k].data.toList = false) => all_not (l := L.map (·.data.toList)) (k := k) (by simpa using hkl) (by rw [hg1]; exact h))
      clear hg1
      generalize L[k] = p at *
      cases hP : partOk p.data.toList with
      | true =>
        have HC := Lib.hid (fun w => bool_call hP (isPart_any p w HMK.out))
        have HS := Lib.hid (HST.out hP)
        clear hP
        go_wp2_with fail
        refine (HC.out _).mono ?_; rintro e w2 ⟨rfl, hb2⟩
        have HB2 := Lib.hid (HB.out.trans (hb2.mono (by have := HB.out.size; simpa using this)))
        go_wp2_with fail
        go_roundw
        case rel => exact ⟨k + 1, by omega, by go_num, HB2.out, HS.out⟩
        case measure => simp [intOf]; omega
      | false =>
        have HC := Lib.hid (fun w => bool_call hP (isPart_any p w HMK.out))
        have HS := Lib.hid (show fullOk s.data.toList = false by rw [HFO.out, ← HL.out, HNO.out hP, Bool.and_false])
        clear hP
        go_wp2_with fail
        refine (HC.out _).mono ?_; rintro e w2 ⟨rfl, hb2⟩
        have HB2 := Lib.hid (HB.out.trans (hb2.mono (by have := HB.out.size; simpa using this)))
        go_wp2_with fail
        go_ret
        exact ⟨u_ret_bool HS.out.symm, (((Below.refl _ _).alloc (Nat.le_refl _) _).trans (HB2.out.mono (Nat.le_succ _)))⟩
    · have HR := Lib.hid (show fullOk s.data.toList = decide (s.size ≤ 120) by
        have := HA.out
        rw [List.take_of_length_le (by simp; have := HN.out; omega), HL.out] at this
        rw [HFO.out, this, Bool.and_true])
      go_wp2_with fail
      go_ret
      exact ⟨u_ret_bool (by rw [HR.out, Bool.eq_iff_iff]; simp; omega), (((Below.refl _ _).alloc (Nat.le_refl _) _).trans (HB.out.mono (Nat.le_succ _)))⟩
theorem bool_eq {f : FuncId} {s : ByteArray} {b : Bool} {P : Bool} {w : World} (h : P = b) (hc : Calls Tryd.prog f #[.string s] w fun e w' => e = .returned (.bool P) ∧ w = w') :
    Calls Tryd.prog f #[.string s] w fun e w' => e = .returned (.bool b) ∧ w = w' := by subst h; exact hc
theorem full_size (acc : List UInt8) : (⟨acc.toArray⟩ : ByteArray).size = acc.length := by show acc.toArray.size = _; simp
end Go.Proofs.YtmdkfbmpenohiaaDoor
