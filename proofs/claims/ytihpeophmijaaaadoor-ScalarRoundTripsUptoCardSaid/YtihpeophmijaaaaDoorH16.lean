/- Base 16 of strconv: ParseUint and FormatUint, whatever the argument; the plain law between them. -/
import Derived.Test.YtihpeophmijaaaaDoorShelf
import Derived.Test.YtihpeophmijaaaaDoorGsc
import Derived.Test.YtihpeophmijaaaaDoorSyw
import Derived.WalkKit
import Derived.WalkSpells
import Derived.WalkLawsBesides
import Derived.Lib.Hide
import Derived.Below
import Derived.Laws.BitsAllLaws
namespace Go.Proofs.YtihpeophmijaaaaDoor.H
open Go.RowKit
open Go.Proofs.YtihpeophmijaaaaDoor.Y (cellsB cellsB_snoc)

/-- the digit that a byte stands for, or 99. -/
def dig16 (c : UInt8) : Nat :=
  if 48 ≤ c.toNat ∧ c.toNat ≤ 57 then c.toNat - 48
  else if 97 ≤ (c.toNat ||| 32) ∧ (c.toNat ||| 32) ≤ 102 then (c.toNat ||| 32) - 87
  else 99
def cut16 : Nat := 1152921504606846976
def max64 : Nat := 18446744073709551615
def pu : List UInt8 → Nat → Nat × Int
  | [], n => (n, 0)
  | c :: l, n => if 16 ≤ dig16 c then (0, 2) else if cut16 ≤ n then (max64, 1) else pu l (n * 16 + dig16 c)
def pu16 (l : List UInt8) : Nat × Int := if l = [] then (0, 2) else pu l 0
def errV (c : Int) : Value := if c = 0 then .nilIface else .iface 98 (.int .i64 c)
theorem drop_at (s : ByteArray) {k : Nat} (h : k < s.size) : s.data.toList.drop k = s[k] :: s.data.toList.drop (k + 1) := by
  rw [List.drop_eq_getElem_cons (by simpa using h)]; rfl
theorem bytes_of (s : ByteArray) (w : World) : ∃ cap W1, (convert 9 71 (.string s)).run Tryd.prog w = .ok (.slice (some ⟨w.heap.size, 0, none⟩) s.size cap) W1 ∧ Below w.heap.size w W1 ∧
    w.heap.size < W1.heap.size ∧ s.size ≤ cap ∧ (∀ o, o < s.size → W1.frozen? ⟨w.heap.size, o, none⟩ = false) ∧ ∀ k (hk : k < s.size), W1.cell? ⟨w.heap.size, k, none⟩ = some (.int .u8 (s[k].toNat : Int)) := by
  refine ⟨_, _, run_bytes_of_string w _ _ _ s Tryd.underlying9 Tryd.underlying71 Tryd.underlying5, (Below.refl _ _).drew.alloc (Nat.le_refl _) _, by show _ < (w.heap.push _).size; simp, ?_, fun o ho => ?_, fun k hk => ?_⟩
  · unfold grownCap Question.cut; simp only; exact Nat.le_add_right _ _
  · have h := World.frozen?_alloc_mark w.drew (bytesRow s (grownCap w s.size 0 5)) 5 (bytesRow s (grownCap w s.size 0 5)).size ((bytesRow s (grownCap w s.size 0 5)).size + 1) o
    refine h.trans ?_
    have hb : s.size ≤ (bytesRow s (grownCap w s.size 0 5)).size := by unfold bytesRow; simp
    have : ¬ (bytesRow s (grownCap w s.size 0 5)).size ≤ o := by omega
    simp [this]
  · have h := World.cell?_alloc_mark w.drew (bytesRow s (grownCap w s.size 0 5)) 5 ((bytesRow s (grownCap w s.size 0 5)).size, (bytesRow s (grownCap w s.size 0 5)).size + 1) k
    refine h.trans ?_
    unfold bytesRow
    have hk' : k < s.data.size := hk
    rw [Array.getElem?_append_left (by simpa using hk')]
    rw [Array.getElem?_map, Array.getElem?_eq_getElem hk']
    rfl
set_option maxRecDepth 100000 in
set_option maxHeartbeats 2000000 in
theorem ipu_any (s : ByteArray) (w : World) (h0 : 0 < s.size) (hs : s.size ≤ 281474976710656) :
    Calls Tryd.prog 63 #[.string s, .int .i64 16, .int .i64 64] w fun e w' => e = .returned (.tuple #[.int .u64 (pu16 s.data.toList).1, errV (pu16 s.data.toList).2]) ∧ Below w.heap.size w w' := by
  have hne : s.toList.isEmpty = false := by
    rw [ByteArray.toList_eq]; cases hh : s.data.toList with
    | nil => have := congrArg List.length hh; rw [Array.length_toList] at this; exact absurd this (by show ¬ s.size = 0; omega)
    | cons => rfl
  have hne2 : ¬ s.toList = [] := by simpa using hne
  have hne3 : ¬ s.data.toList = [] := by rw [← ByteArray.toList_eq]; exact hne2
  obtain ⟨cap, W1, hcv, hB, hsz, _, _, hcell⟩ := bytes_of s w
  have HCL := Lib.hid hcell; clear hcell
  have HBB := Lib.hid hB; clear hB
  have hmv : IntKind.u64.wrap (IntKind.u64.wrap 18446744073709551616 - 1) = ((max64 : Nat) : Int) := by
    rw [IntKind.wrap_u64, IntKind.wrap_u64]; unfold max64; omega
  go_enter Tryd.func63, Tryd.ntmps63
  go_wp2
  go_loop [12, 13, 101] (fun U n i => ∃ (k N : Nat), k ≤ s.size ∧ i = .int .i64 k ∧ U = .bool false ∧ n = .int .u64 (N : Int) ∧ N ≤ max64 ∧ pu16 s.data.toList = pu (s.data.toList.drop k) N) (fun _ _ i => s.size - (intOf i).toNat)
  case atStart => exact ⟨0, 0, Nat.zero_le _, rfl, rfl, rfl, Nat.zero_le _, by unfold pu16; rw [if_neg hne3]; rfl⟩
  case round =>
    obtain ⟨k, N, hk, rfl, rfl, rfl, hN, hp⟩ := hrel
    have HP := Lib.hid hp; clear hp
    by_cases hlt : k < s.size
    · have hc := HCL.out k hlt
      have hPU : pu16 s.data.toList = (if 16 ≤ dig16 s[k] then (0, 2) else if cut16 ≤ N then (max64, 1) else pu (s.data.toList.drop (k + 1)) (N * 16 + dig16 s[k])) := by
        rw [HP.out, drop_at s hlt, pu]
      have hdig : dig16 s[k] = (if 48 ≤ s[k].toNat ∧ s[k].toNat ≤ 57 then s[k].toNat - 48 else if 97 ≤ (s[k].toNat ||| 32) ∧ (s[k].toNat ||| 32) ≤ 102 then (s[k].toNat ||| 32) - 87 else 99) := rfl
      have e1 : bits .or .u8 (s[k].toNat : Int) 32 = ((s[k].toNat ||| 32 : Nat) : Int) := u8_or_nat _ 32 s[k].toNat_lt (by omega)
      have hl : s[k].toNat ||| 32 < 256 := Nat.or_lt_two_pow (n := 8) s[k].toNat_lt (by omega)
      have h95 : s[k].toNat = 95 → 122 < s[k].toNat ||| 32 := fun h => by rw [h]; decide
      have hcl := s[k].toNat_lt
      generalize dig16 s[k] = D at *
      generalize s[k].toNat ||| 32 = lc at *
      generalize s[k].toNat = c at *
      have hM : N < cut16 → N * 16 + 15 ≤ max64 := fun h => by unfold cut16 at h; unfold max64; omega
      have hcut : cut16 = 1152921504606846976 := rfl
      by_cases hA : 48 ≤ c ∧ c ≤ 57
      · rw [if_pos hA] at hdig
        obtain ⟨hA1, hA2⟩ := hA
        by_cases hq : cut16 ≤ N
        · have HD := Lib.hid (show pu16 s.data.toList = (max64, 1) by rw [hPU, if_neg (by omega), if_pos hq])
          have hge : decide ((1152921504606846976 : Int) ≤ (N : Int)) = true := decide_eq_true (by rw [hcut] at hq; omega)
          clear hPU hdig hM hcut h95 hq
          go_wp2_with (go_at_call 82; refine (Tryd.internal_strconv_lower _ _).mono ?_; rintro e w' ⟨rfl, rfl⟩)
          go_ret2
          exact ⟨by rw [HD.out]; rfl, HBB.out⟩
        · have HD := Lib.hid (show pu16 s.data.toList = pu (s.data.toList.drop (k + 1)) (N * 16 + D) by rw [hPU, if_neg (by omega), if_neg hq])
          have hge : decide ((1152921504606846976 : Int) ≤ (N : Int)) = false := decide_eq_false (by rw [hcut] at hq; omega)
          have hM2 := hM (by omega)
          have hw1 : IntKind.u64.wrap ((N : Int) * 16) = (N : Int) * 16 := by rw [IntKind.wrap_u64]; rw [hcut] at hq; omega
          have hlt1 : N * 16 + 15 < 18446744073709551616 := by rw [hcut] at hq; omega
          clear hPU hM hcut h95 hq
          have hdn : D < 16 := by omega
          have HDG := Lib.hid hdig; clear hdig
          go_wp2_with (go_at_call 82; refine (Tryd.internal_strconv_lower _ _).mono ?_; rintro e w' ⟨rfl, rfl⟩)
          go_round
          case rel =>
            have hD := HDG.out
            exact ⟨k + 1, N * 16 + D, hlt, by go_num, rfl, by rw [hD]; go_num, by omega, HD.out⟩
          case measure => simp [intOf]; omega
      · rw [if_neg hA] at hdig
        have hA' : c < 48 ∨ 57 < c := by omega
        clear hA
        by_cases hB : 97 ≤ lc ∧ lc ≤ 102
        · rw [if_pos hB] at hdig
          obtain ⟨hB1, hB2⟩ := hB
          have n95 : ¬ c = 95 := fun h => by have := h95 h; omega
          rcases hA' with hA' | hA'
          · by_cases hq : cut16 ≤ N
            · have HD := Lib.hid (show pu16 s.data.toList = (max64, 1) by rw [hPU, if_neg (by omega), if_pos hq])
              have hge : decide ((1152921504606846976 : Int) ≤ (N : Int)) = true := decide_eq_true (by rw [hcut] at hq; omega)
              clear hPU hdig hM hcut h95 hq
              go_wp2_with (go_at_call 82; refine (Tryd.internal_strconv_lower _ _).mono ?_; rintro e w' ⟨rfl, rfl⟩)
              go_ret2
              exact ⟨by rw [HD.out]; rfl, HBB.out⟩
            · have HD := Lib.hid (show pu16 s.data.toList = pu (s.data.toList.drop (k + 1)) (N * 16 + D) by rw [hPU, if_neg (by omega), if_neg hq])
              have hge : decide ((1152921504606846976 : Int) ≤ (N : Int)) = false := decide_eq_false (by rw [hcut] at hq; omega)
              have hM2 := hM (by omega)
              have hw1 : IntKind.u64.wrap ((N : Int) * 16) = (N : Int) * 16 := by rw [IntKind.wrap_u64]; rw [hcut] at hq; omega
              have hlt1 : N * 16 + 15 < 18446744073709551616 := by rw [hcut] at hq; omega
              clear hPU hM hcut h95 hq
              have hdn : D < 16 := by omega
              have HDG := Lib.hid hdig; clear hdig
              go_wp2_with (go_at_call 82; refine (Tryd.internal_strconv_lower _ _).mono ?_; rintro e w' ⟨rfl, rfl⟩)
              go_round
              case rel =>
                have hD := HDG.out
                exact ⟨k + 1, N * 16 + D, hlt, by go_num, rfl, by rw [hD]; go_num, by omega, HD.out⟩
              case measure => simp [intOf]; omega
          · by_cases hq : cut16 ≤ N
            · have HD := Lib.hid (show pu16 s.data.toList = (max64, 1) by rw [hPU, if_neg (by omega), if_pos hq])
              have hge : decide ((1152921504606846976 : Int) ≤ (N : Int)) = true := decide_eq_true (by rw [hcut] at hq; omega)
              clear hPU hdig hM hcut h95 hq
              go_wp2_with (go_at_call 82; refine (Tryd.internal_strconv_lower _ _).mono ?_; rintro e w' ⟨rfl, rfl⟩)
              go_ret2
              exact ⟨by rw [HD.out]; rfl, HBB.out⟩
            · have HD := Lib.hid (show pu16 s.data.toList = pu (s.data.toList.drop (k + 1)) (N * 16 + D) by rw [hPU, if_neg (by omega), if_neg hq])
              have hge : decide ((1152921504606846976 : Int) ≤ (N : Int)) = false := decide_eq_false (by rw [hcut] at hq; omega)
              have hM2 := hM (by omega)
              have hw1 : IntKind.u64.wrap ((N : Int) * 16) = (N : Int) * 16 := by rw [IntKind.wrap_u64]; rw [hcut] at hq; omega
              have hlt1 : N * 16 + 15 < 18446744073709551616 := by rw [hcut] at hq; omega
              clear hPU hM hcut h95 hq
              have hdn : D < 16 := by omega
              have HDG := Lib.hid hdig; clear hdig
              go_wp2_with (go_at_call 82; refine (Tryd.internal_strconv_lower _ _).mono ?_; rintro e w' ⟨rfl, rfl⟩)
              go_round
              case rel =>
                have hD := HDG.out
                exact ⟨k + 1, N * 16 + D, hlt, by go_num, rfl, by rw [hD]; go_num, by omega, HD.out⟩
              case measure => simp [intOf]; omega
        · rw [if_neg hB] at hdig
          have HD := Lib.hid (show pu16 s.data.toList = (0, 2) by rw [hPU, if_pos (by omega)])
          have hB' : lc < 97 ∨ (102 < lc ∧ lc ≤ 122) ∨ 122 < lc := by omega
          clear hPU hdig hM hcut hB
          rcases hB' with hB' | hB' | hB'
          · have n95 : ¬ c = 95 := fun h => by have := h95 h; omega
            clear h95
            rcases hA' with hA' | hA'
            all_goals
              go_wp2_with (go_at_call 82; refine (Tryd.internal_strconv_lower _ _).mono ?_; rintro e w' ⟨rfl, rfl⟩)
              go_ret2
              exact ⟨by rw [HD.out]; rfl, HBB.out⟩
          · have n95 : ¬ c = 95 := fun h => by have := h95 h; omega
            clear h95
            rcases hA' with hA' | hA'
            all_goals
              go_wp2_with (go_at_call 82; refine (Tryd.internal_strconv_lower _ _).mono ?_; rintro e w' ⟨rfl, rfl⟩)
              go_ret2
              exact ⟨by rw [HD.out]; rfl, HBB.out⟩
          · clear h95
            rcases hA' with hA' | hA'
            · go_wp2_with (go_at_call 82; refine (Tryd.internal_strconv_lower _ _).mono ?_; rintro e w' ⟨rfl, rfl⟩)
              go_ret2
              exact ⟨by rw [HD.out]; rfl, HBB.out⟩
            · cases h95 : ((c : Int) == 95)
              all_goals
                go_wp2_with (go_at_call 82; refine (Tryd.internal_strconv_lower _ _).mono ?_; rintro e w' ⟨rfl, rfl⟩)
                go_ret2
                exact ⟨by rw [HD.out]; rfl, HBB.out⟩
    · have HQ := Lib.hid (show pu16 s.data.toList = (N, 0) by rw [HP.out, List.drop_of_length_le (by rw [Array.length_toList]; show s.size ≤ k; omega)]; rfl)
      go_wp2
      go_ret2
      exact ⟨by rw [HQ.out]; rfl, HBB.out⟩

/-- what the road reads of the package-level variables of the library. -/
def Gl (w : World) : Prop := (∃ e0, w.cell? ⟨1, 0, none⟩ = some e0 ∧ (e0 = .nilIface ∨ ∃ te pe, e0 = .iface te pe)) ∧ (∃ e1, w.cell? ⟨2, 0, none⟩ = some e1 ∧ (e1 = .nilIface ∨ ∃ te pe, e1 = .iface te pe))
theorem cell_lt {w : World} {b o : Nat} {v : Value} (h : w.cell? ⟨b, o, none⟩ = some v) : b < w.heap.size := by
  unfold World.cell? at h
  cases hh : w.heap[b]? with
  | none => rw [hh] at h; cases h
  | some o => exact (Array.getElem?_eq_some_iff.1 hh).1
theorem Gl.below {w w' : World} (h : Gl w) (hb : Below w.heap.size w w') : Gl w' := by
  obtain ⟨⟨e0, h0, k0⟩, ⟨e1, h1, k1⟩⟩ := h
  exact ⟨⟨e0, (hb.cell (p := ⟨1, 0, none⟩) (cell_lt h0)).trans h0, k0⟩, ⟨e1, (hb.cell (p := ⟨2, 0, none⟩) (cell_lt h1)).trans h1, k1⟩⟩
theorem pu_code : ∀ (l : List UInt8) (n : Nat), (pu l n).2 = 0 ∨ (pu l n).2 = 1 ∨ (pu l n).2 = 2
  | [], _ => .inl rfl
  | c :: l, n => by
    unfold pu
    split
    · exact .inr (.inr rfl)
    · split
      · exact .inr (.inl rfl)
      · exact pu_code l _
theorem pu16_code (l : List UInt8) : (pu16 l).2 = 0 ∨ (pu16 l).2 = 1 ∨ (pu16 l).2 = 2 := by
  unfold pu16; split
  · exact .inr (.inr rfl)
  · exact pu_code l 0
set_option maxRecDepth 100000 in
theorem ipu_empty (w : World) :
    Calls Tryd.prog 63 #[.string ⟨#[]⟩, .int .i64 16, .int .i64 64] w fun e w' => e = .returned (.tuple #[.int .u64 0, errV 2]) ∧ Below w.heap.size w w' := by
  go_enter Tryd.func63, Tryd.ntmps63
  go_wp2
  go_ret2
  exact ⟨rfl, Below.refl _ _⟩
theorem ipu_all (s : ByteArray) (w : World) (hs : s.size ≤ 281474976710656) :
    Calls Tryd.prog 63 #[.string s, .int .i64 16, .int .i64 64] w fun e w' => e = .returned (.tuple #[.int .u64 (pu16 s.data.toList).1, errV (pu16 s.data.toList).2]) ∧ Below w.heap.size w w' := by
  by_cases h0 : 0 < s.size
  · exact ipu_any s w h0 hs
  · have : s = ⟨#[]⟩ := ByteArray.ext (Array.eq_empty_of_size_eq_zero (by show s.size = 0; omega))
    subst this
    exact ipu_empty w
/-- the error that the public function hands on. -/
def ErrIs (c : Int) (v : Value) : Prop := (c = 0 ∧ v = .nilIface) ∨ (c ≠ 0 ∧ ∃ N, v = .iface 100 (.pointer (some ⟨N, 0, none⟩)))
def ParseAns (n : Nat) (c : Int) (w : World) (e : Ending) (w' : World) : Prop := ∃ v, e = .returned (.tuple #[.int .u64 n, v]) ∧ ErrIs c v ∧ Below w.heap.size w w'
theorem parse_any (s : ByteArray) (w : World) (hs : s.size ≤ 281474976710656) (hg : Gl w) :
    Calls Tryd.prog 43 #[.string s, .int .i64 16, .int .i64 64] w (ParseAns (pu16 s.data.toList).1 (pu16 s.data.toList).2 w) := by
  have HI := Lib.hid (fun w => ipu_all s w hs)
  have hc := pu16_code s.data.toList
  generalize (pu16 s.data.toList).1 = n at *
  generalize (pu16 s.data.toList).2 = c at *
  have HG := Lib.hid hg; clear hg
  rcases hc with rfl | rfl | rfl
  · go_enter Tryd.func43, Tryd.ntmps43
    go_wp2_with fail
    refine (HI.out _).mono ?_; rw [show errV 0 = .nilIface from rfl]; rintro e w1 ⟨rfl, hb1⟩
    go_wp2_with fail
    go_ret2
    exact ⟨_, rfl, .inl ⟨rfl, rfl⟩, hb1⟩
  · go_enter Tryd.func43, Tryd.ntmps43
    go_wp2_with fail
    refine (HI.out _).mono ?_; rw [show errV 1 = .iface 98 (.int .i64 1) from rfl]; rintro e w1 ⟨rfl, hb1⟩
    obtain ⟨_, ⟨e1, h1, k1⟩⟩ := HG.out.below hb1
    have H1 := Lib.hid h1; clear h1
    go_wp2_with fail
    refine (Tryd.strconv_toError_range _ s _ _ e1 _ hs H1.out k1).mono ?_; rintro e w2 ⟨N, rfl, _, _, hb2⟩
    go_wp2_with fail
    go_ret2
    exact ⟨_, rfl, .inr ⟨by decide, N, rfl⟩, hb1.trans (hb2.mono hb1.size)⟩
  · go_enter Tryd.func43, Tryd.ntmps43
    go_wp2_with fail
    refine (HI.out _).mono ?_; rw [show errV 2 = .iface 98 (.int .i64 2) from rfl]; rintro e w1 ⟨rfl, hb1⟩
    obtain ⟨⟨e0, h0, k0⟩, _⟩ := HG.out.below hb1
    have H0 := Lib.hid h0; clear h0
    go_wp2_with fail
    refine (Tryd.strconv_toError_syntax _ s _ _ e0 _ hs H0.out k0).mono ?_; rintro e w2 ⟨N, rfl, _, _, hb2⟩
    go_wp2_with fail
    go_ret2
    exact ⟨_, rfl, .inr ⟨by decide, N, rfl⟩, hb1.trans (hb2.mono hb1.size)⟩

theorem tz64_16 (w : World) (hc : w.cell? ⟨5, 15, none⟩ = some (.int .u8 4)) :
    Calls Tryd.prog 108 #[.int .u64 16] w fun e w' => e = .returned (.int .i64 4) ∧ w = w' := by
  have e1 : bits .and .u64 16 (IntKind.u64.wrap (-16)) = 16 := by kernel_rfl
  have e2 : IntKind.u64.wrap (16 * 285870213051353865) = 4573923408821661840 := by kernel_rfl
  have e3 : IntKind.u64.wrap 4573923408821661840 = 4573923408821661840 := by kernel_rfl
  go_enter Tryd.func108, Tryd.ntmps108
  go_wp2
  go_ret
  exact ⟨rfl, rfl⟩
theorem pow2_16 (w : World) :
    Calls Tryd.prog 98 #[.int .i64 16] w fun e w' => e = .returned (.bool true) ∧ w = w' := by
  have e1 : bits .and .i64 16 15 = 0 := by kernel_rfl
  go_enter Tryd.func98, Tryd.ntmps98
  go_wp2
  go_ret
  exact ⟨rfl, rfl⟩
theorem tz_16 (w : World) (hc : w.cell? ⟨5, 15, none⟩ = some (.int .u8 4)) :
    Calls Tryd.prog 99 #[.int .u64 16] w fun e w' => e = .returned (.int .i64 4) ∧ w = w' := by
  go_enter Tryd.func99, Tryd.ntmps99
  go_wp2_with (go_at_call 108; refine (tz64_16 _ hc).mono ?_; rintro e w' ⟨rfl, rfl⟩)
  go_ret
  exact ⟨rfl, rfl⟩

def hexC (d : Nat) : UInt8 := if d < 10 then UInt8.ofNat (48 + d) else UInt8.ofNat (87 + d)
/-- the digits of u ahead of those in acc; the number tells how many steps it may take. -/
def hexF : Nat → Nat → List UInt8 → List UInt8
  | 0, u, acc => hexC u :: acc
  | n + 1, u, acc => if 16 ≤ u then hexF n (u / 16) (hexC (u % 16) :: acc) else hexC u :: acc
def hexS (u : Nat) : List UInt8 := hexF 15 u []
theorem digGet (d : Nat) (h : d < 16) (h2 : d < (⟨#[48, 49, 50, 51, 52, 53, 54, 55, 56, 57, 97, 98, 99, 100, 101, 102, 103, 104, 105, 106, 107, 108, 109, 110, 111, 112, 113, 114, 115, 116, 117, 118, 119, 120, 121, 122]⟩ : ByteArray).size) : (⟨#[48, 49, 50, 51, 52, 53, 54, 55, 56, 57, 97, 98, 99, 100, 101, 102, 103, 104, 105, 106, 107, 108, 109, 110, 111, 112, 113, 114, 115, 116, 117, 118, 119, 120, 121, 122]⟩ : ByteArray)[d] = hexC d := by
  have hc : d = 0 ∨ d = 1 ∨ d = 2 ∨ d = 3 ∨ d = 4 ∨ d = 5 ∨ d = 6 ∨ d = 7 ∨ d = 8 ∨ d = 9 ∨ d = 10 ∨ d = 11 ∨ d = 12 ∨ d = 13 ∨ d = 14 ∨ d = 15 := by omega
  rcases hc with rfl | rfl | rfl | rfl | rfl | rfl | rfl | rfl | rfl | rfl | rfl | rfl | rfl | rfl | rfl | rfl <;> rfl
theorem and15 (U : Nat) (h : U < 18446744073709551616) : bits .and .u64 (U : Int) 15 = ((U % 16 : Nat) : Int) := by
  have := u64_and_nat U 15 h (by omega)
  rw [show ((15 : Nat) : Int) = 15 from rfl] at this
  rw [this, show (15 : Nat) = 2 ^ 4 - 1 from rfl, Nat.and_two_pow_sub_one_eq_mod]
theorem setCell_block {w : World} {b i : Nat} {c : Array Value} {t : TypeId} {fz : Nat × Nat} (h : w.heap[b]? = some (.cells c t fz)) (v : Value) : (w.setCell ⟨b, i, none⟩ v).heap[b]? = some (.cells (c.setIfInBounds i v) t fz) := by
  obtain ⟨hlt, hk⟩ := Array.getElem?_eq_some_iff.1 h
  show (w.heap.modify b _)[b]? = _
  rw [Array.getElem?_eq_getElem (by rw [Array.size_modify]; exact hlt), Array.getElem_modify_self, hk]
  rfl
theorem drop_set (C : Array Value) (n : Nat) (v : Value) (tl : List Value) (hn : n < C.size) (h : C.toList.drop (n + 1) = tl) : (C.setIfInBounds n v).toList.drop n = v :: tl := by
  rw [Array.toList_setIfInBounds]
  have hl : n < (C.toList.set n v).length := by simpa using hn
  rw [List.drop_eq_getElem_cons hl]
  simp [List.drop_set, h]
/-- what the array holds when the digits from place p on are laid. -/
def Laid (w : World) (wr : World) (p : Nat) (tail : List UInt8) : Prop :=
  ∃ C : Array Value, wr.heap[w.heap.size]? = some (.cells C 116) ∧ C.size = 65 ∧ C.toList.drop p = cellsB tail ∧ tail.length = 65 - p ∧ Below w.heap.size w wr
theorem Laid.cell {w wr : World} {p : Nat} {tail : List UInt8} (h : Laid w wr p tail) {k : Nat} (hk : k < 65) : ∃ v, wr.cell? ⟨w.heap.size, k, none⟩ = some v := by
  obtain ⟨C, h1, h2, _⟩ := h
  exact ⟨C[k]'(by omega), by simp [World.cell?, h1, h2, hk]⟩
theorem Laid.frozen {w wr : World} {p : Nat} {tail : List UInt8} (h : Laid w wr p tail) (k : Nat) : wr.frozen? ⟨w.heap.size, k, none⟩ = false := by
  obtain ⟨C, h1, _⟩ := h
  simp [World.frozen?, h1]
theorem Laid.store {w wr : World} {p : Nat} {tail : List UInt8} (h : Laid w wr p tail) (h0 : 0 < p) (h65 : p ≤ 65) (c : UInt8) : Laid w (wr.setCell ⟨w.heap.size, p - 1, none⟩ (.int .u8 (c.toNat : Int))) (p - 1) (c :: tail) := by
  obtain ⟨C, h1, h2, h3, h4, h5⟩ := h
  refine ⟨_, setCell_block h1 _, by simpa using h2, ?_, by simp; omega, h5.setCell (p := ⟨w.heap.size, p - 1, none⟩) (Nat.le_refl _) _⟩
  rw [drop_set C (p - 1) _ (cellsB tail) (by omega) (by rw [show p - 1 + 1 = p by omega]; exact h3)]
  rfl
theorem Laid.conv {w W : World} {p : Nat} {tail : List UInt8} (h : Laid w W p tail) :
    (convert 71 9 (.slice (some ⟨w.heap.size, p, none⟩) (65 - p) (65 - p))).run Tryd.prog W = .ok (.string ⟨tail.toArray⟩) W := by
  obtain ⟨C, h1, h2, h3, h4, h5⟩ := h
  rw [← h4]
  refine run_convert_bytes_back _ _ _ _ _ _ tail Tryd.underlying71 Tryd.underlying5 Tryd.underlying9 fun j hj => ?_
  have ha : (⟨w.heap.size, p, none⟩ : Addr).add j = ⟨w.heap.size, p + j, none⟩ := by unfold Addr.add; split <;> simp_all
  rw [ha]
  have hC : C[p + j]? = some (.int .u8 (tail[j].toNat : Int)) := by
    have := congrArg (fun l : List Value => l[j]?) h3
    simp only [List.getElem?_drop, Array.getElem?_toList] at this
    rw [this]; simp [cellsB, hj]
  simp [World.cell?, h1, hC]
set_option maxRecDepth 100000 in
theorem slice_arr (w : World) (p : Nat) (W : World) (h1 : 1 ≤ p) (h2 : p ≤ 65) : (Instr.sliceAt 116 (.pointer (some ⟨w.heap.size, 0, none⟩)) (some (.int .i64 ((p : Int) - 1))) none none).run Tryd.prog W = .ok (.slice (some ⟨w.heap.size, p - 1, none⟩) (65 - (p - 1)) (65 - (p - 1))) W := by
  have hA : Tryd.prog.arrayLen 116 = 65 := by kernel_rfl
  have hS : (sizeOf (Tryd.prog.elem 116)).run Tryd.prog W = .ok 1 W := by kernel_rfl
  rw [run_sliceAt_array_l W 116 ⟨w.heap.size, 0, none⟩ Tryd.underlying116 .i64 ((p : Int) - 1) (by omega) (by rw [hA]; omega), hS, hA]
  have e : ((p : Int) - 1).toNat = p - 1 := by omega
  have ha : (⟨w.heap.size, 0, none⟩ : Addr).add (p - 1) = ⟨w.heap.size, p - 1, none⟩ := by unfold Addr.add; split <;> simp_all
  simp only [Result.andThen, slicedAt, e, Nat.mul_one, ha]
  rw [if_neg (by omega)]
theorem hexF_ge {n U : Nat} {acc : List UInt8} (h : 16 ≤ U) : hexF (n + 1) U acc = hexF n (U / 16) (hexC (U % 16) :: acc) := by rw [hexF, if_pos h]
theorem hexF_lt {n U : Nat} {acc : List UInt8} (h : U < 16) : hexF n U acc = hexC U :: acc := by
  cases n with
  | zero => rfl
  | succ n => rw [hexF, if_neg (by omega)]
set_option maxRecDepth 100000 in
set_option maxHeartbeats 1000000 in
theorem bits16_any (u : Nat) (w : World) (hu : u < 18446744073709551616) (hc : w.cell? ⟨5, 15, none⟩ = some (.int .u8 4)) :
    Calls Tryd.prog 80 #[.slice none 0 0, .int .u64 u, .int .i64 16, .bool false, .bool false] w fun e w' => e = .returned (.tuple #[.slice none 0 0, .string ⟨(hexS u).toArray⟩]) ∧ Below w.heap.size w w' := by
  have H5 : 5 < w.heap.size := cell_lt hc
  have HC := Lib.hid hc; clear hc
  have HU := Lib.hid hu; clear hu
  go_enter Tryd.func80, Tryd.ntmps80
  go_wp2_with (first | (go_at_call 98; refine (pow2_16 _).mono ?_; rintro e w' ⟨rfl, rfl⟩) | (go_at_call 99; refine (tz_16 _ (((Below.refl w.heap.size w).alloc (Nat.le_refl _) _ |>.cell (p := ⟨5, 15, none⟩) H5).trans HC.out)).mono ?_; rintro e w' ⟨rfl, rfl⟩))
  go_loopw [1, 13] (fun U i wr => ∃ (N p : Nat) (tail : List UInt8), 50 ≤ p ∧ p ≤ 65 ∧ i = .int .i64 p ∧ U = .int .u64 N ∧ N < 16 ^ (p - 49) ∧ Laid w wr p tail ∧ hexS u = hexF (p - 50) N tail) (fun _ i _ => (intOf i).toNat)
  case atStart =>
    refine ⟨u, 65, [], by omega, by omega, rfl, rfl, by have := HU.out; omega, ⟨_, heap_alloc_new _ _, by kernel_rfl, by kernel_rfl, rfl, (Below.refl _ _).alloc (Nat.le_refl _) _⟩, rfl⟩
  case round =>
    obtain ⟨N, p, tail, hp1, hp2, rfl, rfl, hN, hL, hx⟩ := hrel
    have HX := Lib.hid hx; clear hx
    have HL := Lib.hid hL
    have hN64 : N < 18446744073709551616 := Nat.lt_of_lt_of_le hN (Nat.le_trans (Nat.pow_le_pow_right (by decide) (show p - 49 ≤ 16 by omega)) (by decide))
    by_cases hge : 16 ≤ N
    · have hp3 : 51 ≤ p := by
        by_cases h : p = 50
        · subst h; simp at hN; omega
        · omega
      have HF := Lib.hid (show hexS u = hexF (p - 1 - 50) (N / 16) (hexC (N % 16) :: tail) by rw [HX.out, show p - 50 = (p - 1 - 50) + 1 by omega, hexF_ge hge])
      have HN2 := Lib.hid (show N / 16 < 16 ^ (p - 1 - 49) by
        rw [Nat.div_lt_iff_lt_mul (by omega)]
        have : 16 ^ (p - 49) = 16 ^ (p - 1 - 49) * 16 := by rw [← Nat.pow_succ]; congr 1; omega
        omega)
      have ea := and15 N hN64
      have hd : N % 16 < 16 := Nat.mod_lt _ (by omega)
      obtain ⟨v0, hc0⟩ := hL.cell (k := p - 1) (by omega)
      have hz0 := hL.frozen (p - 1)
      have HS := Lib.hid (hL.store (by omega) hp2 (hexC (N % 16)))
      have hgb : decide ((16 : Int) ≤ (N : Int)) = true := decide_eq_true (by omega)
      clear hL hN hN64
      go_wp2
      go_roundw
      case rel => exact ⟨N / 16, p - 1, _, by omega, by omega, by go_num, by go_num, HN2.out, by rw [digGet _ hd]; exact HS.out, HF.out⟩
      case measure => simp [intOf]; omega
    · have hlt : N < 16 := by omega
      have HF := Lib.hid (show hexS u = hexC N :: tail by rw [HX.out, hexF_lt hlt])
      obtain ⟨v0, hc0⟩ := hL.cell (k := p - 1) (by omega)
      have hz0 := hL.frozen (p - 1)
      have hgb : decide ((16 : Int) ≤ (N : Int)) = false := decide_eq_false (by omega)
      have hlt36 : N < (⟨#[48, 49, 50, 51, 52, 53, 54, 55, 56, 57, 97, 98, 99, 100, 101, 102, 103, 104, 105, 106, 107, 108, 109, 110, 111, 112, 113, 114, 115, 116, 117, 118, 119, 120, 121, 122]⟩ : ByteArray).size := Nat.lt_of_lt_of_le hlt (by decide)
      have HSt := hL.store (by omega) hp2 ((⟨#[48, 49, 50, 51, 52, 53, 54, 55, 56, 57, 97, 98, 99, 100, 101, 102, 103, 104, 105, 106, 107, 108, 109, 110, 111, 112, 113, 114, 115, 116, 117, 118, 119, 120, 121, 122]⟩ : ByteArray)[N]'hlt36)
      have hcv := HSt.conv
      have HS := Lib.hid HSt
      have hsl := fun W => slice_arr w p W (by omega) hp2
      have HD := Lib.hid (digGet N hlt hlt36)
      clear hL hN hN64 hge HSt
      go_wp2
      go_ret2
      obtain ⟨_, _, _, _, _, hB⟩ := HS.out
      exact ⟨by rw [HF.out, HD.out]; rfl, hB⟩
theorem ifmt_any (u : Nat) (w : World) (hu : u < 18446744073709551616) (hc : w.cell? ⟨5, 15, none⟩ = some (.int .u8 4)) :
    Calls Tryd.prog 56 #[.int .u64 u, .int .i64 16] w fun e w' => e = .returned (.string ⟨(hexS u).toArray⟩) ∧ Below w.heap.size w w' := by
  have HC := Lib.hid (fun w hc => bits16_any u w hu hc)
  have HX := Lib.hid hc; clear hc hu
  go_enter Tryd.func56, Tryd.ntmps56
  go_wp2_with (go_at_call 80; refine (HC.out _ HX.out).mono ?_; rintro e w' ⟨rfl, hb⟩)
  go_ret
  exact ⟨rfl, hb⟩
theorem fmt_any (u : Nat) (w : World) (hu : u < 18446744073709551616) (hc : w.cell? ⟨5, 15, none⟩ = some (.int .u8 4)) :
    Calls Tryd.prog 32 #[.int .u64 u, .int .i64 16] w fun e w' => e = .returned (.string ⟨(hexS u).toArray⟩) ∧ Below w.heap.size w w' := by
  have HC := Lib.hid (fun w hc => ifmt_any u w hu hc)
  have HX := Lib.hid hc; clear hc hu
  go_enter Tryd.func32, Tryd.ntmps32
  go_wp2_with (go_at_call 56; refine (HC.out _ HX.out).mono ?_; rintro e w' ⟨rfl, hb⟩)
  go_ret
  exact ⟨rfl, hb⟩
theorem hexF_len : ∀ (n u : Nat) (acc : List UInt8), acc.length + 1 ≤ (hexF n u acc).length ∧ (hexF n u acc).length ≤ acc.length + n + 1
  | 0, u, acc => by simp [hexF]
  | n + 1, u, acc => by
    unfold hexF
    split
    · have := hexF_len n (u / 16) (hexC (u % 16) :: acc)
      simp only [List.length_cons] at this
      omega
    · simp
theorem hexS_len (u : Nat) : 1 ≤ (hexS u).length ∧ (hexS u).length ≤ 16 := by
  have := hexF_len 15 u []
  simpa [hexS] using this
def textL (u : Nat) : List UInt8 := Lib.repeatL [48] (16 - (hexS u).length) ++ hexS u
theorem cat_eq (a b : List UInt8) : ((⟨a.toArray⟩ : ByteArray) ++ ⟨b.toArray⟩ : ByteArray) = ⟨(a ++ b).toArray⟩ := ByteArray.ext (by simp [ByteArray.data_append])
def Pu (l : List UInt8) : Nat × Int := if (pu16 l).2 = 0 ∧ textL (pu16 l).1 = l then ((pu16 l).1, 0) else (0, 2)
theorem pu_lt : ∀ (l : List UInt8) (n : Nat), n < 18446744073709551616 → (pu l n).1 < 18446744073709551616
  | [], _, h => h
  | c :: l, n, h => by
    unfold pu
    split
    · decide
    · rename_i hd
      split
      · decide
      · rename_i hc
        refine pu_lt l _ ?_
        unfold cut16 at hc
        omega
theorem pu16_lt (l : List UInt8) : (pu16 l).1 < 18446744073709551616 := by
  unfold pu16; split
  · decide
  · exact pu_lt l 0 (by decide)

/-- k digits of u, ahead of acc. -/
def hx : Nat → Nat → List UInt8 → List UInt8
  | 0, _, acc => acc
  | k + 1, u, acc => hx k (u / 16) (hexC (u % 16) :: acc)
theorem repeat_snoc (k : Nat) (l : List UInt8) : Lib.repeatL [48] (k + 1) ++ l = Lib.repeatL [48] k ++ 48 :: l := by
  induction k with
  | zero => rfl
  | succ k ih => rw [show Lib.repeatL [48] (k + 1 + 1) = 48 :: Lib.repeatL [48] (k + 1) from rfl, show Lib.repeatL [48] (k + 1) = 48 :: Lib.repeatL [48] k from rfl] at *; simp only [List.cons_append] at *; rw [ih]
theorem hx_pad : ∀ (n u : Nat) (acc : List UInt8), u < 16 ^ (n + 1) → hx (n + 1) u acc = Lib.repeatL [48] (n + 1 + acc.length - (hexF n u acc).length) ++ hexF n u acc
  | 0, u, acc, h => by
    simp only [hx, hexF, List.length_cons]
    rw [show 0 + 1 + acc.length - (acc.length + 1) = 0 by omega]
    rw [Nat.mod_eq_of_lt (by simpa using h)]; rfl
  | n + 1, u, acc, h => by
    rw [hx]
    by_cases hu : 16 ≤ u
    · rw [hx_pad n (u / 16) _ (by rw [Nat.div_lt_iff_lt_mul (by decide)]; rw [← Nat.pow_succ]; exact h), hexF_ge hu]
      congr 2; simp only [List.length_cons]; omega
    · rw [hexF_lt (n := n + 1) (by omega), show u / 16 = 0 by omega, Nat.mod_eq_of_lt (by omega), hx_pad n 0 _ (Nat.pow_pos (by decide)), hexF_lt (n := n) (by decide)]
      simp only [List.length_cons]
      rw [show n + 1 + (acc.length + 1) - (acc.length + 1 + 1) = n by omega, show n + 1 + 1 + acc.length - (acc.length + 1) = n + 1 by omega, repeat_snoc]
      rfl
theorem textL_hx (u : Nat) (h : u < 18446744073709551616) : textL u = hx 16 u [] := by
  rw [hx_pad 15 u [] (by simpa using h)]; rfl
theorem hx_len : ∀ (k u : Nat) (acc : List UInt8), (hx k u acc).length = k + acc.length
  | 0, _, _ => by simp [hx]
  | k + 1, u, acc => by rw [hx, hx_len k]; simp; omega
theorem hx_app : ∀ (k u : Nat) (acc : List UInt8), hx k u acc = hx k u [] ++ acc
  | 0, _, _ => rfl
  | k + 1, u, acc => by rw [hx, hx, hx_app k _ (_ :: acc), hx_app k _ [_]]; simp
/-- the value of a lower-case digit. -/
def lowV (c : UInt8) : Option Nat := if 48 ≤ c.toNat ∧ c.toNat ≤ 57 then some (c.toNat - 48) else if 97 ≤ c.toNat ∧ c.toNat ≤ 102 then some (c.toNat - 87) else none
def rp : List UInt8 → Nat → Option Nat
  | [], n => some n
  | c :: l, n => match lowV c with
    | some d => rp l (n * 16 + d)
    | none => none
def toPu : Option Nat → Nat × Int
  | some n => (n, 0)
  | none => (0, 2)
def rPu (l : List UInt8) : Nat × Int := if l.length = 16 then toPu (rp l 0) else (0, 2)
theorem lowV_hexC : ∀ d, d < 16 → lowV (hexC d) = some d := by decide
set_option maxRecDepth 20000 in
theorem lowV_some {c : UInt8} {d : Nat} (h : lowV c = some d) : d < 16 ∧ hexC d = c ∧ dig16 c = d := by
  have h2 : ∀ c : Fin 256, ∀ d, lowV (UInt8.ofNat c.1) = some d → d < 16 ∧ hexC d = UInt8.ofNat c.1 ∧ dig16 (UInt8.ofNat c.1) = d := by
    intro c d h
    have : ∀ c : Fin 256, ((lowV (UInt8.ofNat c.1)).all fun d => decide (d < 16 ∧ hexC d = UInt8.ofNat c.1 ∧ dig16 (UInt8.ofNat c.1) = d)) = true := by decide
    have := this c
    rw [h] at this
    exact of_decide_eq_true this
  have := h2 ⟨c.toNat, c.toNat_lt⟩ d
  simp only [UInt8.ofNat_toNat] at this
  exact this h
theorem rp_app : ∀ (l m : List UInt8) (n : Nat), rp (l ++ m) n = (rp l n).bind (rp m)
  | [], m, n => rfl
  | c :: l, m, n => by
    simp only [List.cons_append, rp]
    cases lowV c with
    | none => rfl
    | some d => exact rp_app l m _
theorem rp_hx : ∀ (k u n : Nat), u < 16 ^ k → rp (hx k u []) n = some (n * 16 ^ k + u)
  | 0, u, n, h => by simp at h; subst h; simp [hx, rp]
  | k + 1, u, n, h => by
    rw [hx, hx_app, rp_app, rp_hx k (u / 16) n (by rw [Nat.div_lt_iff_lt_mul (by decide), ← Nat.pow_succ]; exact h)]
    simp only [Option.bind_some, rp, lowV_hexC _ (Nat.mod_lt u (by decide))]
    congr 1
    rw [Nat.pow_succ]; have := Nat.div_add_mod u 16; rw [Nat.add_mul, Nat.mul_assoc]; omega
theorem hx_div : ∀ (k m d : Nat), d < 16 → hx (k + 1) (m * 16 + d) [] = hx k m [] ++ [hexC d]
  | k, m, d, h => by rw [hx, hx_app, show (m * 16 + d) / 16 = m by omega, show (m * 16 + d) % 16 = d by omega]
theorem rp_back : ∀ (l : List UInt8) (a n m : Nat), rp l n = some m → hx (a + l.length) m [] = hx a n [] ++ l
  | [], a, n, m, h => by simp only [rp, Option.some.injEq] at h; subst h; simp
  | c :: l, a, n, m, h => by
    rw [rp] at h
    cases hd : lowV c with
    | none => rw [hd] at h; cases h
    | some d =>
      rw [hd] at h
      obtain ⟨h1, h2, _⟩ := lowV_some hd
      have := rp_back l (a + 1) (n * 16 + d) m h
      rw [hx_div a n d h1, h2] at this
      rw [show a + (c :: l).length = a + 1 + l.length by simp only [List.length_cons]; omega, this]
      simp
theorem rp_pu : ∀ (l : List UInt8) (n m k : Nat), rp l n = some m → l.length + k = 16 → n < 16 ^ k → pu l n = (m, 0)
  | [], n, m, k, h, _, _ => by simp only [rp, Option.some.injEq] at h; subst h; rfl
  | c :: l, n, m, k, h, hk, hn => by
    rw [rp] at h
    cases hd : lowV c with
    | none => rw [hd] at h; cases h
    | some d =>
      rw [hd] at h
      obtain ⟨h1, _, h3⟩ := lowV_some hd
      simp only [List.length_cons] at hk
      have hcut : n < cut16 := by
        refine Nat.lt_of_lt_of_le hn (Nat.le_trans (Nat.pow_le_pow_right (by decide) (show k ≤ 15 by omega)) (by decide))
      rw [pu, if_neg (by omega), if_neg (by omega), h3]
      exact rp_pu l _ m (k + 1) h (by omega) (by rw [Nat.pow_succ]; omega)
theorem rp_lt : ∀ (l : List UInt8) (n m k : Nat), rp l n = some m → l.length + k = 16 → n < 16 ^ k → m < 18446744073709551616
  | [], n, m, k, h, hk, hn => by
    simp only [rp, Option.some.injEq] at h; subst h
    simp at hk; subst hk; simpa using hn
  | c :: l, n, m, k, h, hk, hn => by
    rw [rp] at h
    cases hd : lowV c with
    | none => rw [hd] at h; cases h
    | some d =>
      rw [hd] at h
      obtain ⟨h1, _, h3⟩ := lowV_some hd
      simp only [List.length_cons] at hk
      exact rp_lt l _ m (k + 1) h (by omega) (by rw [Nat.pow_succ]; omega)
theorem Pu_eq (l : List UInt8) : Pu l = rPu l := by
  unfold Pu rPu
  by_cases hl : l.length = 16
  · rw [if_pos hl]
    cases hr : rp l 0 with
    | none =>
      rw [if_neg]
      · rfl
      rintro ⟨_, h2⟩
      rw [textL_hx _ (pu16_lt l)] at h2
      have := rp_hx 16 (pu16 l).1 0 (by simpa using pu16_lt l)
      rw [h2, hr] at this
      cases this
    | some m =>
      have h1 : pu16 l = (m, 0) := by
        unfold pu16
        rw [if_neg (by intro h; subst h; simp at hl)]
        exact rp_pu l 0 m 0 hr (by omega) (by decide)
      have h2 := rp_back l 0 0 m hr
      rw [hl] at h2
      rw [h1, if_pos ⟨rfl, by rw [textL_hx m (rp_lt l 0 m 0 hr (by omega) (by decide))]; exact h2⟩]
      rfl
  · rw [if_neg hl, if_neg]
    rintro ⟨_, h2⟩
    rw [textL_hx _ (pu16_lt l)] at h2
    have := hx_len 16 (pu16 l).1 []
    rw [h2] at this
    simp at this
    exact hl this
theorem Pu_text (u : Nat) (h : u < 18446744073709551616) : Pu (textL u) = (u, 0) := by
  rw [Pu_eq, textL_hx u h]
  unfold rPu
  rw [if_pos (by rw [hx_len]; rfl), rp_hx 16 u 0 (by simpa using h)]
  simp [toPu]
theorem text_Pu (l : List UInt8) (h : (Pu l).2 = 0) : textL (Pu l).1 = l := by
  unfold Pu at *
  split at h
  · rename_i h2; rw [if_pos h2]; exact h2.2
  · cases h
end Go.Proofs.YtihpeophmijaaaaDoor.H
