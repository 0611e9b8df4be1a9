/- Names: class, IsPart, IsFull, the program's and the reference's. -/
import Derived.Test.YtngieldaebnffaaDoorIdLaw
import Derived.Test.YtngieldaebnffaaDoorStat
import Derived.Test.YtngieldaebnffaaDoorVar
import Derived.Test.YtngieldaebnffaaDoorShelf
namespace Go.Proofs.YtngieldaebnffaaDoor
open Go.RowKit

theorem class_any (c : Nat) (w : World) :
    Calls Tryd.prog 35 #[.int .i32 (c : Int)] w fun e w' => e = .returned (.int .i64 ((clsN c : Nat) : Int)) ∧ w = w' := by
  go_enter Tryd.func35, Tryd.ntmps35
  go_wp2
  all_goals
    go_ret
    refine ⟨v_ret_int ?_, rfl⟩
    unfold clsN
    (repeat' split) <;> simp_all <;> omega
theorem small_any (b : UInt8) (w : World) :
    Calls Tryd.prog 19 #[.int .u8 (b.toNat : Int)] w fun e w' => e = .returned (.bool (decide (clsN b.toNat = 1))) ∧ w = w' := by
  go_enter Tryd.func19, Tryd.ntmps19
  go_wp2
  all_goals
    go_ret
    refine ⟨u_ret_bool ?_, rfl⟩
    unfold clsN
    (repeat' split) <;> simp_all <;> omega
theorem capital_any (b : UInt8) (w : World) :
    Calls Tryd.prog 20 #[.int .u8 (b.toNat : Int)] w fun e w' => e = .returned (.bool (decide (clsN b.toNat = 2))) ∧ w = w' := by
  go_enter Tryd.func20, Tryd.ntmps20
  go_wp2
  all_goals
    go_ret
    refine ⟨u_ret_bool ?_, rfl⟩
    unfold clsN
    (repeat' split) <;> simp_all <;> omega
theorem clsN_cases (c : Nat) : clsN c = 0 ∨ clsN c = 1 ∨ clsN c = 2 ∨ clsN c = 3 ∨ clsN c = 4 := by unfold clsN; (repeat' split) <;> simp
theorem at_drop (s : ByteArray) {k : Nat} (h : k < s.size) : atL (s.data.toList.drop k) 0 = s[k].toNat := by have := at_elem s (i := k) (k := 0) h; simpa using this.symm
theorem get_list (s : ByteArray) {k : Nat} (h : k < s.data.toList.length) : s.data.toList[k] = s[k]'(by simpa using h) := rfl
set_option maxHeartbeats 2000000 in
set_option maxRecDepth 100000 in
theorem isPart_any (s : ByteArray) (w : World) (hs : s.size ≤ 4611686018427387900) :
    Calls Tryd.prog 23 #[.string s] w fun e w' => e = .returned (.bool (partOk s.data.toList)) ∧ Below w.heap.size w w' := by
  have hlen : s.data.toList.length = s.size := by rw [Array.length_toList]; rfl
  go_enter Tryd.func23, Tryd.ntmps23
  go_wp2
  go_loopw [] (fun wr => ∃ pos : Nat, pos ≤ s.size ∧ wr.heap[w.heap.size]? = some (.stringIter s pos) ∧ Below w.heap.size w wr ∧ (∀ k (h : k < s.data.toList.length), k < pos → goC s.data.toList[k] = true) ∧ (∀ (h : 0 < s.data.toList.length), 0 < pos → letC s.data.toList[0] = true)) (fun wr => s.size - wr.iterPos w.heap.size)
  case atStart => exact ⟨0, Nat.zero_le _, World.iter_heap w s 0, (Below.refl _ w).alloc (Nat.le_refl _) _, fun _ _ h => absurd h (Nat.not_lt_zero _), fun _ h => absurd h (Nat.not_lt_zero _)⟩
  case round =>
    obtain ⟨pos, hpos, hit, hbw, hall, hhd⟩ := hrel
    have HA := Lib.hid hall; have HH := Lib.hid hhd; have HB := Lib.hid hbw; clear hall hhd hbw
    by_cases hp : pos < s.size
    · have hnx : ∀ ty, (Instr.next (.pointer (some ⟨w.heap.size, 0, none⟩)) true ty).run Tryd.prog wr = _ := fun ty => Lib.run_next_any_at wr w.heap.size s pos ty hit hp
      have HIT := Lib.hid (Lib.iterAt_heap wr w.heap.size s pos (pos + (Utf8.decode s pos).2) hit)
      have HB2 := Lib.hid (Lib.below_iterAt HB.out (k := w.heap.size) (Nat.le_refl _) s (pos + (Utf8.decode s pos).2))
      have HO := Lib.hid hit; clear hit
      have HL := Lib.hid hlen
      have hat := at_drop s hp
      have HG := Lib.hid (fun (h : clsN s[pos].toNat = 0) => partOk_at (l := s.data.toList) (k := pos) (by rw [hlen]; exact hp) (show goC s.data.toList[pos] = false by rw [get_list]; unfold goC; rw [h]; rfl))
      have HNX := Lib.hid (fun (h : clsN s[pos].toNat ≠ 0) => show ∀ k (h : k < s.data.toList.length), k < pos + 1 → goC s.data.toList[k] = true from fun k hk hlt => by
        by_cases e : k = pos
        · subst e; rw [get_list]; unfold goC; exact decide_eq_true h
        · exact HA.out k hk (by omega))
      by_cases hasc : s[pos].toNat < 128
      · have hD : Utf8.decode s pos = (s[pos].toNat, 1) := by rw [decode_dec, dec_asc _ (by rw [hat]; exact hasc), hat]
        rw [hD] at hnx HIT HB2
        have HC := Lib.hid (fun w => class_any s[pos].toNat w)
        have hcs := clsN_cases s[pos].toNat
        have HLT := Lib.hid (show letC s[pos] = decide (clsN s[pos].toNat = 1 ∨ clsN s[pos].toNat = 2) from rfl)
        clear hat hD hasc hlen
        generalize clsN s[pos].toNat = K at *
        by_cases hp0 : pos = 0
        · subst hp0
          have HP0 := Lib.hid (fun (h : ¬ (K = 1 ∨ K = 2)) => partOk_head (l := s.data.toList) (by rw [HL.out]; exact hp) (show letC s.data.toList[0] = false by rw [get_list, HLT.out]; exact decide_eq_false h))
          have HP1 := Lib.hid (fun (h : K = 1 ∨ K = 2) => show ∀ (h : 0 < s.data.toList.length), 0 < 0 + 1 → letC s.data.toList[0] = true from fun hh _ => by rw [get_list, HLT.out]; exact decide_eq_true h)
          rcases hcs with rfl | rfl | rfl | rfl | rfl
          · have HR := Lib.hid (HG.out rfl)
            go_wp2_with fail
            refine (HC.out _).mono ?_; rintro e w1 ⟨rfl, rfl⟩
            go_wp2_with fail
            go_ret
            exact ⟨u_ret_bool HR.out.symm, HB2.out⟩
          · go_wp2_with fail
            refine (HC.out _).mono ?_; rintro e w1 ⟨rfl, rfl⟩
            go_wp2_with fail
            go_roundw
            case rel => exact ⟨0 + 1, hp, HIT.out, HB2.out, HNX.out (by decide), HP1.out (by simp)⟩
            case measure => rw [iterPos_of HIT.out, iterPos_of HO.out]; show s.size - (0 + 1) < s.size - 0; omega
          · go_wp2_with fail
            refine (HC.out _).mono ?_; rintro e w1 ⟨rfl, rfl⟩
            go_wp2_with fail
            go_roundw
            case rel => exact ⟨0 + 1, hp, HIT.out, HB2.out, HNX.out (by decide), HP1.out (by simp)⟩
            case measure => rw [iterPos_of HIT.out, iterPos_of HO.out]; show s.size - (0 + 1) < s.size - 0; omega
          · have HR := Lib.hid (HP0.out (by omega))
            go_wp2_with fail
            refine (HC.out _).mono ?_; rintro e w1 ⟨rfl, rfl⟩
            go_wp2_with fail
            go_ret
            exact ⟨u_ret_bool HR.out.symm, HB2.out⟩
          · have HR := Lib.hid (HP0.out (by omega))
            go_wp2_with fail
            refine (HC.out _).mono ?_; rintro e w1 ⟨rfl, rfl⟩
            go_wp2_with fail
            go_ret
            exact ⟨u_ret_bool HR.out.symm, HB2.out⟩
        · obtain ⟨hq, _⟩ := byte_eq (show (pos : Int) ≠ 0 by omega)
          have hpp : 0 < pos := by omega
          clear hp0
          by_cases hK : K = 0
          · subst hK
            have HR := Lib.hid (HG.out rfl)
            go_wp2_with fail
            refine (HC.out _).mono ?_; rintro e w1 ⟨rfl, rfl⟩
            go_wp2_with fail
            go_ret
            exact ⟨u_ret_bool HR.out.symm, HB2.out⟩
          · obtain ⟨hk1, hk2⟩ := byte_eq (show (K : Int) ≠ 0 by omega)
            have HN := Lib.hid (HNX.out hK)
            clear hK hcs
            go_wp2_with fail
            refine (HC.out _).mono ?_; rintro e w1 ⟨rfl, rfl⟩
            go_wp2_with fail
            go_roundw
            case rel => exact ⟨pos + 1, hp, HIT.out, HB2.out, HN.out, fun h _ => HH.out h hpp⟩
            case measure => rw [iterPos_of HIT.out, iterPos_of HO.out]; show s.size - (pos + 1) < s.size - pos; omega
      · have hge := dec_ge (s.data.toList.drop pos) (by rw [hat]; omega)
        rw [← decode_dec] at hge
        have HR := Lib.hid (HG.out (clsN_big (by omega)))
        generalize Utf8.decode s pos = D at *
        obtain ⟨dc, dn⟩ := D
        have HC := Lib.hid (fun w => (class_any dc w).mono fun e w' h => (show e = .returned (.int .i64 0) ∧ w = w' by rw [clsN_big hge] at h; exact h))
        clear hat hasc hlen hge
        go_wp2_with fail
        refine (HC.out _).mono ?_; rintro e w1 ⟨rfl, rfl⟩
        go_wp2_with fail
        go_ret
        exact ⟨u_ret_bool HR.out.symm, HB2.out⟩
    · have hnx : ∀ ty, (Instr.next (.pointer (some ⟨w.heap.size, 0, none⟩)) true ty).run Tryd.prog wr = _ := fun ty => Lib.run_next_end_at wr w.heap.size s pos ty hit hp
      obtain rfl : pos = s.size := by omega
      have HR := Lib.hid (show partOk s.data.toList = decide (1 ≤ s.size ∧ s.size ≤ 40) by
        have := partOk_ok (l := s.data.toList) (fun k hk => HA.out k hk (by omega)) (fun h => HH.out h (by omega))
        rw [this, hlen])
      clear hlen
      go_wp2_with fail
      all_goals
        go_ret
        exact ⟨u_ret_bool (by rw [HR.out, Bool.eq_iff_iff]; simp; omega), HB.out⟩
/-- the cell that the library's search reads holds some number. -/
def MLen (w : World) : Prop := ∃ m : Int, w.cell? ⟨0, 0, none⟩ = some (.int .i64 m)
theorem cell_blk {w : World} {b o : Nat} {v : Value} (h : w.cell? ⟨b, o, none⟩ = some v) : b < w.heap.size := by
  unfold World.cell? at h
  cases hh : w.heap[b]? with
  | none => rw [hh] at h; cases h
  | some o => exact (Array.getElem?_eq_some_iff.1 hh).1
theorem MLen.below {w w' : World} (h : MLen w) (hb : Below w.heap.size w w') : MLen w' := by
  obtain ⟨m, hm⟩ := h
  exact ⟨m, (hb.cell (p := ⟨0, 0, none⟩) (cell_blk hm)).trans hm⟩
theorem split_any (s : ByteArray) (w : World) (hg : MLen w) (hs : s.size < 4294967281) :
    Calls Tryd.prog 34 #[.string s, .string ⟨#[46]⟩] w fun e w' =>
      e = .returned (.slice (some ⟨w.heap.size, 0, none⟩) (Lib.countB s ⟨#[46]⟩ + 1) (Lib.countB s ⟨#[46]⟩ + 1)) ∧ w' = w.alloc (.cells ((Lib.splitB ⟨#[46]⟩ 0 (Lib.countB s ⟨#[46]⟩) s).map Value.string).toArray 9) := by
  obtain ⟨m, hm⟩ := hg
  exact Tryd.strings_Split s ⟨#[46]⟩ m w hs hm (by decide)
theorem all_take {l : List (List UInt8)} {k : Nat} (h : k < l.length) (ht : (l.take k).all partOk = true) (hk : partOk l[k] = true) : (l.take (k + 1)).all partOk = true := by
  rw [List.take_succ_eq_append_getElem h, List.all_append, ht]; simp [hk]
theorem all_not {l : List (List UInt8)} {k : Nat} (h : k < l.length) (hk : partOk l[k] = false) : l.all partOk = false := by
  rw [List.all_eq_false]; exact ⟨l[k], List.getElem_mem h, by simp [hk]⟩
theorem bool_call {f : FuncId} {s : ByteArray} {b : Bool} {P : Bool} {w : World} (h : P = b) (hc : Calls Tryd.prog f #[.string s] w fun e w' => e = .returned (.bool P) ∧ Below w.heap.size w w') :
    Calls Tryd.prog f #[.string s] w fun e w' => e = .returned (.bool b) ∧ Below w.heap.size w w' := by subst h; exact hc
set_option maxHeartbeats 2000000 in
set_option maxRecDepth 100000 in
theorem isFull_any (s : ByteArray) (w : World) (hg : MLen w) (hs : s.size < 4294967281) :
    Calls Tryd.prog 22 #[.string s] w fun e w' => e = .returned (.bool (fullOk s.data.toList)) ∧ Below w.heap.size w w' := by
  have hlen : s.data.toList.length = s.size := by rw [Array.length_toList]; rfl
  have hL := splitB_dot s
  have hn := Lib.splitB_all ⟨#[46]⟩ (by decide) 0 _ s rfl
  have HFO := Lib.hid (show fullOk s.data.toList = (decide (s.size ≤ 120) && (dotP s.data.toList).all partOk) by unfold fullOk; rw [hlen])
  have hcb := Lib.countB_le ⟨#[46]⟩ (by decide) s.size s (Nat.le_refl _)
  have hsp := split_any s w hg hs
  have hmem : ∀ p ∈ Lib.splitB ⟨#[46]⟩ 0 (Lib.countB s ⟨#[46]⟩) s, p.size ≤ 4611686018427387900 := by
    have hgen : ∀ (k : Nat) (s : ByteArray), s.size < 4294967281 → ∀ p ∈ Lib.splitB ⟨#[46]⟩ 0 k s, p.size ≤ 4611686018427387900 := by
      intro k
      induction k with
      | zero => intro s hs p hp; simp [Lib.splitB] at hp; subst hp; omega
      | succ k ih =>
        intro s hs p hp
        unfold Lib.splitB at hp
        split at hp
        · simp at hp; subst hp; omega
        · rcases List.mem_cons.1 hp with rfl | hp
          · rw [ByteArray.size_extract]; omega
          · exact ih _ (by rw [ByteArray.size_extract]; omega) p hp
    exact hgen _ s hs
  generalize Lib.countB s ⟨#[46]⟩ = n at *
  generalize Lib.splitB ⟨#[46]⟩ 0 n s = L at *
  have hn10 : n + 1 ≤ 4294967282 := by omega
  clear hcb
  generalize n + 1 = N at *
  have HSP := Lib.hid hsp; clear hsp
  have HL := Lib.hid hL; have HN := Lib.hid hn; have HM := Lib.hid hmem; clear hL hn hmem hlen
  have hi1 : (N : Int) ≤ 9223372036854775807 := by omega
  clear hs hn10
  go_enter Tryd.func22, Tryd.ntmps22
  go_wp2_with fail
  refine (HSP.out).mono ?_; rintro e w1 ⟨rfl, rfl⟩
  have HCL := Lib.hid (show ∀ k (h : k < L.length), (w.alloc (.cells (L.map Value.string).toArray 9)).cell? ⟨w.heap.size, k, none⟩ = some (.string L[k]) from fun k h => by
    rw [World.cell?_alloc_mark]; simp [h])
  go_wp2_with fail
  go_loopw [8] (fun x wr => ∃ k : Nat, k ≤ N ∧ x = .int .i64 k ∧ Below (w.heap.size + 1) (w.alloc (.cells (L.map Value.string).toArray 9)) wr ∧ ((L.map (·.data.toList)).take k).all partOk = true) (fun x _ => N - (intOf x).toNat)
  case atStart => exact ⟨0, Nat.zero_le _, rfl, Below.refl _ _, rfl⟩
  case round =>
    obtain ⟨k, hk, rfl, hb, hall⟩ := hrel
    have HB := Lib.hid hb; have HA := Lib.hid hall; clear hb hall
    by_cases hlt : k < N
    · have hkl : k < L.length := by have := HN.out; omega
      have hcell := (HB.out.cell (p := ⟨w.heap.size, k, none⟩) (Nat.lt_succ_self _)).trans (HCL.out k hkl)
      have HMK := Lib.hid (HM.out L[k] (List.getElem_mem hkl))
      have hg1 : (L.map (·.data.toList))[k]'(by simpa using hkl) = L[k].data.toList := by simp
      have HST := Lib.hid (fun (h : partOk L[k].data.toList = true) => all_take (l := L.map (·.data.toList)) (k := k) (by simpa using hkl) HA.out (by rw [hg1]; exact h))
      have HNO := Lib.hid (fun (h : partOk L[k].data.toList = false) => all_not (l := L.map (·.data.toList)) (k := k) (by simpa using hkl) (by rw [hg1]; exact h))
      clear hg1
      generalize L[k] = p at *
      cases hP : partOk p.data.toList with
      | true =>
        have HC := Lib.hid (fun w => bool_call hP (isPart_any p w HMK.out))
        have HS := Lib.hid (HST.out hP)
        clear hP
        go_wp2_with fail
        refine (HC.out _).mono ?_; rintro e w2 ⟨rfl, hb2⟩
        have HB2 := Lib.hid (HB.out.trans (hb2.mono (by have := HB.out.size; simpa using this)))
        go_wp2_with fail
        go_roundw
        case rel => exact ⟨k + 1, by omega, by go_num, HB2.out, HS.out⟩
        case measure => simp [intOf]; omega
      | false =>
        have HC := Lib.hid (fun w => bool_call hP (isPart_any p w HMK.out))
        have HS := Lib.hid (show fullOk s.data.toList = false by rw [HFO.out, ← HL.out, HNO.out hP, Bool.and_false])
        clear hP
        go_wp2_with fail
        refine (HC.out _).mono ?_; rintro e w2 ⟨rfl, hb2⟩
        have HB2 := Lib.hid (HB.out.trans (hb2.mono (by have := HB.out.size; simpa using this)))
        go_wp2_with fail
        go_ret
        exact ⟨u_ret_bool HS.out.symm, (((Below.refl _ _).alloc (Nat.le_refl _) _).trans (HB2.out.mono (Nat.le_succ _)))⟩
    · have HR := Lib.hid (show fullOk s.data.toList = decide (s.size ≤ 120) by
        have := HA.out
        rw [List.take_of_length_le (by simp; have := HN.out; omega), HL.out] at this
        rw [HFO.out, this, Bool.and_true])
      go_wp2_with fail
      go_ret
      exact ⟨u_ret_bool (by rw [HR.out, Bool.eq_iff_iff]; simp; omega), (((Below.refl _ _).alloc (Nat.le_refl _) _).trans (HB.out.mono (Nat.le_succ _)))⟩
theorem partOk_len {l : List UInt8} (h : ¬ (1 ≤ l.length ∧ l.length ≤ 40)) : partOk l = false := by unfold partOk; rw [decide_eq_false h]; rfl
theorem clsN_facts (c : Nat) : (clsN c = 0 ∧ (c < 48 ∨ 57 < c) ∧ c ≠ 95) ∨ clsN c = 1 ∨ clsN c = 2 ∨ (clsN c = 3 ∧ 48 ≤ c ∧ c ≤ 57) ∨ (clsN c = 4 ∧ c = 95) := by
  unfold clsN; (repeat' split) <;> omega
set_option maxHeartbeats 2000000 in
set_option maxRecDepth 100000 in
theorem refIsPart_any (s : ByteArray) (w : World) (hs : s.size ≤ 4611686018427387900) :
    Calls Tryd.prog 7 #[.string s] w fun e w' => e = .returned (.bool (partOk s.data.toList)) ∧ w = w' := by
  have hlen : s.data.toList.length = s.size := by rw [Array.length_toList]; rfl
  by_cases hl : 1 ≤ s.size ∧ s.size ≤ 40
  · obtain ⟨h1, h40⟩ := hl
    have h0 : 0 < s.size := h1
    have HS0 := Lib.hid (fun w => small_any s[0] w); have HC0 := Lib.hid (fun w => capital_any s[0] w)
    have hcs := clsN_cases s[0].toNat
    have HLT := Lib.hid (show letC s[0] = decide (clsN s[0].toNat = 1 ∨ clsN s[0].toNat = 2) from rfl)
    have HG0 := Lib.hid (show goC s[0] = decide (clsN s[0].toNat ≠ 0) from rfl)
    generalize clsN s[0].toNat = K at *
    have fin : (K = 1 ∨ K = 2) → Calls Tryd.prog 7 #[.string s] w fun e w' => e = .returned (.bool (partOk s.data.toList)) ∧ w = w' := by
      intro hK
      have HL0 := Lib.hid (show letC s[0] = true by rw [HLT.out]; exact decide_eq_true hK)
      have HGG := Lib.hid (show goC s[0] = true by rw [HG0.out]; exact decide_eq_true (by omega))
      clear hcs HLT HG0
      have main : ∀ b1 b2 : Bool, (decide (K = 1)) = b1 → (decide (K = 2)) = b2 → (b1 || b2) = true → Calls Tryd.prog 7 #[.string s] w fun e w' => e = .returned (.bool (partOk s.data.toList)) ∧ w = w' := by
        intro b1 b2 e1 e2 hbb
        rw [e1] at HS0; rw [e2] at HC0
        clear e1 e2 hK
        have HLN := Lib.hid hlen; clear hlen
        have hq := (byte_eq (show (s.size : Int) ≠ 0 by omega)).1
        go_enter Tryd.func7, Tryd.ntmps7
        cases b1 with
        | true =>
          go_wp2_with fail
          refine (HS0.out _).mono ?_; rintro e w1 ⟨rfl, rfl⟩
          go_wp2_with fail
          go_loop [3] (fun x => ∃ k : Nat, 1 ≤ k ∧ k ≤ s.size ∧ x = .int .i64 k ∧ ∀ j (h : j < s.data.toList.length), j < k → goC s.data.toList[j] = true) (fun x => s.size - (intOf x).toNat)
          case atStart => exact ⟨1, by omega, h1, rfl, fun j hj h1 => by obtain rfl : j = 0 := (by omega); rw [get_list]; exact HGG.out⟩
          case round =>
            obtain ⟨k, hk1, hk, rfl, hall⟩ := hrel
            have HA := Lib.hid hall; clear hall
            by_cases hlt : k < s.size
            · have HG := Lib.hid (fun (h : clsN s[k].toNat = 0) => partOk_at (l := s.data.toList) (k := k) (by rw [HLN.out]; exact hlt) (show goC s.data.toList[k] = false by rw [get_list]; unfold goC; rw [h]; rfl))
              have HNX := Lib.hid (fun (h : clsN s[k].toNat ≠ 0) => show ∀ j (h : j < s.data.toList.length), j < k + 1 → goC s.data.toList[j] = true from fun j hj hlt => by
                by_cases e : j = k
                · subst e; rw [get_list]; unfold goC; exact decide_eq_true h
                · exact HA.out j hj (by omega))
              have HSK := Lib.hid (fun w => small_any s[k] w); have HCK := Lib.hid (fun w => capital_any s[k] w)
              have hcs := clsN_facts s[k].toNat
              generalize clsN s[k].toNat = K2 at *
              rcases hcs with ⟨rfl, hz1, hz2⟩ | rfl | rfl | ⟨rfl, hz1, hz2⟩ | ⟨rfl, hz1⟩
              · have HR := Lib.hid (HG.out rfl)
                have hz3 := (byte_eq (show (s[k].toNat : Int) ≠ 95 by omega)).2
                have hz4 := (byte_eq (show (s[k].toNat : Int) ≠ 95 by omega)).1
                clear hz2
                rcases hz1 with hz1 | hz1
                all_goals
                  go_wp2_with fail
                  refine (HSK.out _).mono ?_; rintro e w1 ⟨rfl, rfl⟩
                  go_wp2_with fail
                  refine (HCK.out _).mono ?_; rintro e w1 ⟨rfl, rfl⟩
                  go_wp2_with fail
                  go_ret
                  exact ⟨u_ret_bool HR.out.symm, rfl⟩
              · have HN := Lib.hid (HNX.out (by decide))
                go_wp2_with fail
                refine (HSK.out _).mono ?_; rintro e w1 ⟨rfl, rfl⟩
                go_wp2_with fail
                go_round
                case rel => exact ⟨k + 1, by omega, hlt, by go_num, HN.out⟩
                case measure => simp [intOf]; omega
              · have HN := Lib.hid (HNX.out (by decide))
                go_wp2_with fail
                refine (HSK.out _).mono ?_; rintro e w1 ⟨rfl, rfl⟩
                go_wp2_with fail
                refine (HCK.out _).mono ?_; rintro e w1 ⟨rfl, rfl⟩
                go_wp2_with fail
                go_round
                case rel => exact ⟨k + 1, by omega, hlt, by go_num, HN.out⟩
                case measure => simp [intOf]; omega
              · have HN := Lib.hid (HNX.out (by decide))
                have hz3 := (byte_eq (show (s[k].toNat : Int) ≠ 95 by omega)).2
                have hz4 := (byte_eq (show (s[k].toNat : Int) ≠ 95 by omega)).1
                go_wp2_with fail
                refine (HSK.out _).mono ?_; rintro e w1 ⟨rfl, rfl⟩
                go_wp2_with fail
                refine (HCK.out _).mono ?_; rintro e w1 ⟨rfl, rfl⟩
                go_wp2_with fail
                go_round
                case rel => exact ⟨k + 1, by omega, hlt, by go_num, HN.out⟩
                case measure => simp [intOf]; omega
              · have HN := Lib.hid (HNX.out (by decide))
                have hz3 : ((s[k].toNat : Int) != 95) = false := by simp; omega
                clear hz1
                go_wp2_with fail
                refine (HSK.out _).mono ?_; rintro e w1 ⟨rfl, rfl⟩
                go_wp2_with fail
                refine (HCK.out _).mono ?_; rintro e w1 ⟨rfl, rfl⟩
                go_wp2_with fail
                go_round
                case rel => exact ⟨k + 1, by omega, hlt, by go_num, HN.out⟩
                case measure => simp [intOf]; omega
            · have HR := Lib.hid (show partOk s.data.toList = true by
                rw [partOk_ok (l := s.data.toList) (fun j hj => HA.out j hj (by have := HLN.out; omega)) (fun h => by rw [get_list]; exact HL0.out), HLN.out]
                exact decide_eq_true ⟨h1, h40⟩)
              go_wp2_with fail
              go_ret
              exact ⟨u_ret_bool HR.out.symm, rfl⟩
        | false =>
          obtain rfl : b2 = true := by simpa using hbb
          go_wp2_with fail
          refine (HS0.out _).mono ?_; rintro e w1 ⟨rfl, rfl⟩
          go_wp2_with fail
          refine (HC0.out _).mono ?_; rintro e w1 ⟨rfl, rfl⟩
          go_wp2_with fail
          go_loop [3] (fun x => ∃ k : Nat, 1 ≤ k ∧ k ≤ s.size ∧ x = .int .i64 k ∧ ∀ j (h : j < s.data.toList.length), j < k → goC s.data.toList[j] = true) (fun x => s.size - (intOf x).toNat)
          case atStart => exact ⟨1, by omega, h1, rfl, fun j hj h1 => by obtain rfl : j = 0 := (by omega); rw [get_list]; exact HGG.out⟩
          case round =>
            obtain ⟨k, hk1, hk, rfl, hall⟩ := hrel
            have HA := Lib.hid hall; clear hall
            by_cases hlt : k < s.size
            · have HG := Lib.hid (fun (h : clsN s[k].toNat = 0) => partOk_at (l := s.data.toList) (k := k) (by rw [HLN.out]; exact hlt) (show goC s.data.toList[k] = false by rw [get_list]; unfold goC; rw [h]; rfl))
              have HNX := Lib.hid (fun (h : clsN s[k].toNat ≠ 0) => show ∀ j (h : j < s.data.toList.length), j < k + 1 → goC s.data.toList[j] = true from fun j hj hlt => by
                by_cases e : j = k
                · subst e; rw [get_list]; unfold goC; exact decide_eq_true h
                · exact HA.out j hj (by omega))
              have HSK := Lib.hid (fun w => small_any s[k] w); have HCK := Lib.hid (fun w => capital_any s[k] w)
              have hcs := clsN_facts s[k].toNat
              generalize clsN s[k].toNat = K2 at *
              rcases hcs with ⟨rfl, hz1, hz2⟩ | rfl | rfl | ⟨rfl, hz1, hz2⟩ | ⟨rfl, hz1⟩
              · have HR := Lib.hid (HG.out rfl)
                have hz3 := (byte_eq (show (s[k].toNat : Int) ≠ 95 by omega)).2
                have hz4 := (byte_eq (show (s[k].toNat : Int) ≠ 95 by omega)).1
                clear hz2
                rcases hz1 with hz1 | hz1
                all_goals
                  go_wp2_with fail
                  refine (HSK.out _).mono ?_; rintro e w1 ⟨rfl, rfl⟩
                  go_wp2_with fail
                  refine (HCK.out _).mono ?_; rintro e w1 ⟨rfl, rfl⟩
                  go_wp2_with fail
                  go_ret
                  exact ⟨u_ret_bool HR.out.symm, rfl⟩
              · have HN := Lib.hid (HNX.out (by decide))
                go_wp2_with fail
                refine (HSK.out _).mono ?_; rintro e w1 ⟨rfl, rfl⟩
                go_wp2_with fail
                go_round
                case rel => exact ⟨k + 1, by omega, hlt, by go_num, HN.out⟩
                case measure => simp [intOf]; omega
              · have HN := Lib.hid (HNX.out (by decide))
                go_wp2_with fail
                refine (HSK.out _).mono ?_; rintro e w1 ⟨rfl, rfl⟩
                go_wp2_with fail
                refine (HCK.out _).mono ?_; rintro e w1 ⟨rfl, rfl⟩
                go_wp2_with fail
                go_round
                case rel => exact ⟨k + 1, by omega, hlt, by go_num, HN.out⟩
                case measure => simp [intOf]; omega
              · have HN := Lib.hid (HNX.out (by decide))
                have hz3 := (byte_eq (show (s[k].toNat : Int) ≠ 95 by omega)).2
                have hz4 := (byte_eq (show (s[k].toNat : Int) ≠ 95 by omega)).1
                go_wp2_with fail
                refine (HSK.out _).mono ?_; rintro e w1 ⟨rfl, rfl⟩
                go_wp2_with fail
                refine (HCK.out _).mono ?_; rintro e w1 ⟨rfl, rfl⟩
                go_wp2_with fail
                go_round
                case rel => exact ⟨k + 1, by omega, hlt, by go_num, HN.out⟩
                case measure => simp [intOf]; omega
              · have HN := Lib.hid (HNX.out (by decide))
                have hz3 : ((s[k].toNat : Int) != 95) = false := by simp; omega
                clear hz1
                go_wp2_with fail
                refine (HSK.out _).mono ?_; rintro e w1 ⟨rfl, rfl⟩
                go_wp2_with fail
                refine (HCK.out _).mono ?_; rintro e w1 ⟨rfl, rfl⟩
                go_wp2_with fail
                go_round
                case rel => exact ⟨k + 1, by omega, hlt, by go_num, HN.out⟩
                case measure => simp [intOf]; omega
            · have HR := Lib.hid (show partOk s.data.toList = true by
                rw [partOk_ok (l := s.data.toList) (fun j hj => HA.out j hj (by have := HLN.out; omega)) (fun h => by rw [get_list]; exact HL0.out), HLN.out]
                exact decide_eq_true ⟨h1, h40⟩)
              go_wp2_with fail
              go_ret
              exact ⟨u_ret_bool HR.out.symm, rfl⟩
      exact main _ _ rfl rfl (by rcases hK with rfl | rfl <;> rfl)
    rcases hcs with rfl | rfl | rfl | rfl | rfl
    · have HR := Lib.hid (partOk_head (l := s.data.toList) (by rw [hlen]; exact h0) (show letC s.data.toList[0] = false by rw [get_list, HLT.out]; rfl))
      clear hlen
      have hq := (byte_eq (show (s.size : Int) ≠ 0 by omega)).1
      go_enter Tryd.func7, Tryd.ntmps7
      go_wp2_with fail
      refine (HS0.out _).mono ?_; rintro e w1 ⟨rfl, rfl⟩
      go_wp2_with fail
      refine (HC0.out _).mono ?_; rintro e w1 ⟨rfl, rfl⟩
      go_wp2_with fail
      go_ret
      exact ⟨u_ret_bool HR.out.symm, rfl⟩
    · exact fin (.inl rfl)
    · exact fin (.inr rfl)
    · have HR := Lib.hid (partOk_head (l := s.data.toList) (by rw [hlen]; exact h0) (show letC s.data.toList[0] = false by rw [get_list, HLT.out]; rfl))
      clear hlen
      have hq := (byte_eq (show (s.size : Int) ≠ 0 by omega)).1
      go_enter Tryd.func7, Tryd.ntmps7
      go_wp2_with fail
      refine (HS0.out _).mono ?_; rintro e w1 ⟨rfl, rfl⟩
      go_wp2_with fail
      refine (HC0.out _).mono ?_; rintro e w1 ⟨rfl, rfl⟩
      go_wp2_with fail
      go_ret
      exact ⟨u_ret_bool HR.out.symm, rfl⟩
    · have HR := Lib.hid (partOk_head (l := s.data.toList) (by rw [hlen]; exact h0) (show letC s.data.toList[0] = false by rw [get_list, HLT.out]; rfl))
      clear hlen
      have hq := (byte_eq (show (s.size : Int) ≠ 0 by omega)).1
      go_enter Tryd.func7, Tryd.ntmps7
      go_wp2_with fail
      refine (HS0.out _).mono ?_; rintro e w1 ⟨rfl, rfl⟩
      go_wp2_with fail
      refine (HC0.out _).mono ?_; rintro e w1 ⟨rfl, rfl⟩
      go_wp2_with fail
      go_ret
      exact ⟨u_ret_bool HR.out.symm, rfl⟩
  · have HR := Lib.hid (partOk_len (l := s.data.toList) (by rw [hlen]; exact hl))
    clear hlen
    by_cases hz : s.size = 0
    · obtain ⟨hq, _⟩ : ((s.size : Int) == 0) = true ∧ True := ⟨by rw [beq_iff_eq]; omega, trivial⟩
      clear hl
      go_enter Tryd.func7, Tryd.ntmps7
      go_wp2_with fail
      go_ret
      exact ⟨u_ret_bool HR.out.symm, rfl⟩
    · have hq := (byte_eq (show (s.size : Int) ≠ 0 by omega)).1
      have h4 : 40 < s.size := by omega
      clear hl hz
      go_enter Tryd.func7, Tryd.ntmps7
      go_wp2_with fail
      go_ret
      exact ⟨u_ret_bool HR.out.symm, rfl⟩
theorem drop_cons' (s : ByteArray) {k : Nat} (h : k < s.size) : s.data.toList.drop k = s[k] :: s.data.toList.drop (k + 1) := drop_cons s h
theorem bool_eq {f : FuncId} {s : ByteArray} {b : Bool} {P : Bool} {w : World} (h : P = b) (hc : Calls Tryd.prog f #[.string s] w fun e w' => e = .returned (.bool P) ∧ w = w') :
    Calls Tryd.prog f #[.string s] w fun e w' => e = .returned (.bool b) ∧ w = w' := by subst h; exact hc
theorem ext_one (s : ByteArray) {k : Nat} (h : k < s.size) (acc : List UInt8) : ((⟨acc.toArray⟩ : ByteArray) ++ s.extract k (k + 1) : ByteArray) = ⟨(acc ++ [s[k]]).toArray⟩ := by
  refine ByteArray.ext (Array.ext' ?_)
  rw [ByteArray.data_append, Array.toList_append, ByteArray.data_extract, Array.toList_extract, List.extract_eq_take_drop, drop_cons s h]
  simp
theorem full_size (acc : List UInt8) : (⟨acc.toArray⟩ : ByteArray).size = acc.length := by show acc.toArray.size = _; simp
set_option maxHeartbeats 2000000 in
set_option maxRecDepth 100000 in
theorem refIsFull_any (s : ByteArray) (w : World) (hs : s.size ≤ 4611686018427387900) :
    Calls Tryd.prog 5 #[.string s] w fun e w' => e = .returned (.bool (fullOk s.data.toList)) ∧ w = w' := by
  have hlen : s.data.toList.length = s.size := by rw [Array.length_toList]; rfl
  by_cases h120 : 120 < s.size
  · have HR := Lib.hid (show fullOk s.data.toList = false by unfold fullOk; rw [hlen, decide_eq_false (by omega)]; rfl)
    go_enter Tryd.func5, Tryd.ntmps5
    go_wp2_with fail
    go_ret
    exact ⟨u_ret_bool HR.out.symm, rfl⟩
  · have HF := Lib.hid (show fullOk s.data.toList = fullR [] s.data.toList by unfold fullOk; rw [hlen, decide_eq_true (by omega), fullR_all, Bool.true_and])
    go_enter Tryd.func5, Tryd.ntmps5
    go_wp2_with fail
    go_loop [3, 4] (fun p x => ∃ (k : Nat) (acc : List UInt8), k ≤ s.size ∧ x = .int .i64 k ∧ p = .string ⟨acc.toArray⟩ ∧ acc.length ≤ k ∧ fullOk s.data.toList = fullR acc (s.data.toList.drop k)) (fun _ x => s.size - (intOf x).toNat)
    case atStart => exact ⟨0, [], Nat.zero_le _, rfl, rfl, Nat.le_refl _, HF.out⟩
    case round =>
      obtain ⟨k, acc, hk, rfl, rfl, hacc, hf⟩ := hrel
      have HX := Lib.hid hf; clear hf
      have hsz := full_size acc
      have HPA := Lib.hid (fun w => refIsPart_any ⟨acc.toArray⟩ w (by rw [full_size]; omega))
      have HPL := Lib.hid (show (⟨acc.toArray⟩ : ByteArray).data.toList = acc from rfl)
      by_cases hlt : k < s.size
      · have hdc := drop_cons s hlt
        have hxo := ext_one s hlt acc
        have hno : ¬ 9223372036854775807 < acc.length + 1 := by omega
        have hes : (s.extract k (k + 1)).size = 1 := by rw [ByteArray.size_extract]; omega
        by_cases hd : s[k] = 46
        · have hq : ((s[k].toNat : Int) != 46) = false := by rw [hd]; rfl
          have HS := Lib.hid (show fullOk s.data.toList = (partOk acc && fullR [] (s.data.toList.drop (k + 1))) by rw [HX.out, hdc, fullR, if_pos hd])
          clear hdc hd hxo hes hno
          cases hP : partOk acc with
          | true =>
            have HC := Lib.hid (fun w => bool_eq (show partOk (⟨acc.toArray⟩ : ByteArray).data.toList = true from hP) (HPA.out w))
            have HR := Lib.hid (show fullOk s.data.toList = fullR [] (s.data.toList.drop (k + 1)) by rw [HS.out, hP, Bool.true_and])
            clear hP
            go_wp2_with fail
            refine (HC.out _).mono ?_; rintro e w2 ⟨rfl, rfl⟩
            go_wp2_with fail
            go_round
            case rel => exact ⟨k + 1, [], hlt, by go_num, rfl, Nat.zero_le _, HR.out⟩
            case measure => simp [intOf]; omega
          | false =>
            have HC := Lib.hid (fun w => bool_eq (show partOk (⟨acc.toArray⟩ : ByteArray).data.toList = false from hP) (HPA.out w))
            have HR := Lib.hid (show fullOk s.data.toList = false by rw [HS.out, hP, Bool.false_and])
            clear hP
            go_wp2_with fail
            refine (HC.out _).mono ?_; rintro e w2 ⟨rfl, rfl⟩
            go_wp2_with fail
            go_ret
            exact ⟨u_ret_bool HR.out.symm, rfl⟩
        · have hq : ((s[k].toNat : Int) != 46) = true := by
            rw [bne_iff_ne]; intro e; exact hd (UInt8.toNat_inj.1 (by have : (46 : UInt8).toNat = 46 := rfl; omega))
          have HS := Lib.hid (show fullOk s.data.toList = fullR (acc ++ [s[k]]) (s.data.toList.drop (k + 1)) by rw [HX.out, hdc, fullR, if_neg hd])
          have HL := Lib.hid (show (acc ++ [s[k]]).length ≤ k + 1 by simp; omega)
          clear hdc hd
          generalize acc ++ [s[k]] = acc2 at *
          go_wp2_with fail
          go_round
          case rel => exact ⟨k + 1, acc2, hlt, by go_num, rfl, HL.out, HS.out⟩
          case measure => simp [intOf]; omega
      · have HR := Lib.hid (show fullOk s.data.toList = partOk acc by
          rw [HX.out, List.drop_eq_nil_of_le (by rw [hlen]; omega)]; rfl)
        go_wp2_with fail
        refine (HPA.out _).mono ?_; rintro e w2 ⟨rfl, rfl⟩
        go_wp2_with fail
        go_ret
        exact ⟨u_ret_bool (by rw [HR.out]), rfl⟩
end Go.Proofs.YtngieldaebnffaaDoor
