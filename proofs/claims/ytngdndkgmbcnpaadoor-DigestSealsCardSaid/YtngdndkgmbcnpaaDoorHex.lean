/- internal/strconv.FormatUint at base 16: the hexadecimal digits, as few as serve. -/
import Derived.Test.YtngdndkgmbcnpaaDoorBits
import Derived.Test.YtngdndkgmbcnpaaDoorEight
namespace Go.Proofs.YtngdndkgmbcnpaaDoor
open Go.RowKit

def hexC (d : Nat) : UInt8 := if d < 10 then UInt8.ofNat (48 + d) else UInt8.ofNat (87 + d)
/-- the digits of u ahead of those in acc; the number tells how many steps it may take. -/
def hexF : Nat → Nat → List UInt8 → List UInt8
  | 0, u, acc => hexC u :: acc
  | n + 1, u, acc => if 16 ≤ u then hexF n (u / 16) (hexC (u % 16) :: acc) else hexC u :: acc
def hexS (u : Nat) : List UInt8 := hexF 15 u []
theorem digGet (d : Nat) (h : d < 16) (h2 : d < (⟨#[48, 49, 50, 51, 52, 53, 54, 55, 56, 57, 97, 98, 99, 100, 101, 102, 103, 104, 105, 106, 107, 108, 109, 110, 111, 112, 113, 114, 115, 116, 117, 118, 119, 120, 121, 122]⟩ : ByteArray).size) : (⟨#[48, 49, 50, 51, 52, 53, 54, 55, 56, 57, 97, 98, 99, 100, 101, 102, 103, 104, 105, 106, 107, 108, 109, 110, 111, 112, 113, 114, 115, 116, 117, 118, 119, 120, 121, 122]⟩ : ByteArray)[d] = hexC d := by
  have hc : d = 0 ∨ d = 1 ∨ d = 2 ∨ d = 3 ∨ d = 4 ∨ d = 5 ∨ d = 6 ∨ d = 7 ∨ d = 8 ∨ d = 9 ∨ d = 10 ∨ d = 11 ∨ d = 12 ∨ d = 13 ∨ d = 14 ∨ d = 15 := by omega
  rcases hc with rfl | rfl | rfl | rfl | rfl | rfl | rfl | rfl | rfl | rfl | rfl | rfl | rfl | rfl | rfl | rfl <;> rfl
theorem and15 (U : Nat) (h : U < 18446744073709551616) : bits .and .u64 (U : Int) 15 = ((U % 16 : Nat) : Int) := by
  have := u64_and_nat U 15 h (by omega)
  rw [show ((15 : Nat) : Int) = 15 from rfl] at this
  rw [this, show (15 : Nat) = 2 ^ 4 - 1 from rfl, Nat.and_two_pow_sub_one_eq_mod]
theorem setCell_block {w : World} {b i : Nat} {c : Array Value} {t : TypeId} {fz : Nat × Nat} (h : w.heap[b]? = some (.cells c t fz)) (v : Value) : (w.setCell ⟨b, i, none⟩ v).heap[b]? = some (.cells (c.setIfInBounds i v) t fz) := by
  obtain ⟨hlt, hk⟩ := Array.getElem?_eq_some_iff.1 h
  show (w.heap.modify b _)[b]? = _
  rw [Array.getElem?_eq_getElem (by rw [Array.size_modify]; exact hlt), Array.getElem_modify_self, hk]
  rfl
theorem drop_set (C : Array Value) (n : Nat) (v : Value) (tl : List Value) (hn : n < C.size) (h : C.toList.drop (n + 1) = tl) : (C.setIfInBounds n v).toList.drop n = v :: tl := by
  rw [Array.toList_setIfInBounds]
  have hl : n < (C.toList.set n v).length := by simpa using hn
  rw [List.drop_eq_getElem_cons hl]
  simp [List.drop_set, h]
/-- what the array holds when the digits from place p on are laid. -/
def Laid (w : World) (wr : World) (p : Nat) (tail : List UInt8) : Prop :=
  ∃ C : Array Value, wr.heap[w.heap.size]? = some (.cells C 84) ∧ C.size = 65 ∧ C.toList.drop p = cellsB tail ∧ tail.length = 65 - p ∧ Below w.heap.size w wr
theorem Laid.cell {w wr : World} {p : Nat} {tail : List UInt8} (h : Laid w wr p tail) {k : Nat} (hk : k < 65) : ∃ v, wr.cell? ⟨w.heap.size, k, none⟩ = some v := by
  obtain ⟨C, h1, h2, _⟩ := h
  exact ⟨C[k]'(by omega), by simp [World.cell?, h1, h2, hk]⟩
theorem Laid.frozen {w wr : World} {p : Nat} {tail : List UInt8} (h : Laid w wr p tail) (k : Nat) : wr.frozen? ⟨w.heap.size, k, none⟩ = false := by
  obtain ⟨C, h1, _⟩ := h
  simp [World.frozen?, h1]
theorem Laid.store {w wr : World} {p : Nat} {tail : List UInt8} (h : Laid w wr p tail) (h0 : 0 < p) (h65 : p ≤ 65) (c : UInt8) : Laid w (wr.setCell ⟨w.heap.size, p - 1, none⟩ (.int .u8 (c.toNat : Int))) (p - 1) (c :: tail) := by
  obtain ⟨C, h1, h2, h3, h4, h5⟩ := h
  refine ⟨_, setCell_block h1 _, by simpa using h2, ?_, by simp; omega, h5.setCell (p := ⟨w.heap.size, p - 1, none⟩) (Nat.le_refl _) _⟩
  rw [drop_set C (p - 1) _ (cellsB tail) (by omega) (by rw [show p - 1 + 1 = p by omega]; exact h3)]
  rfl
theorem Laid.conv {w W : World} {p : Nat} {tail : List UInt8} (h : Laid w W p tail) :
    (convert 29 9 (.slice (some ⟨w.heap.size, p, none⟩) (65 - p) (65 - p))).run Tryd.prog W = .ok (.string ⟨tail.toArray⟩) W := by
  obtain ⟨C, h1, h2, h3, h4, h5⟩ := h
  rw [← h4]
  refine run_convert_bytes_back _ _ _ _ _ _ tail Tryd.underlying29 Tryd.underlying5 Tryd.underlying9 fun j hj => ?_
  have ha : (⟨w.heap.size, p, none⟩ : Addr).add j = ⟨w.heap.size, p + j, none⟩ := by unfold Addr.add; split <;> simp_all
  rw [ha]
  have hC : C[p + j]? = some (.int .u8 (tail[j].toNat : Int)) := by
    have := congrArg (fun l : List Value => l[j]?) h3
    simp only [List.getElem?_drop, Array.getElem?_toList] at this
    rw [this]; simp [cellsB, hj]
  simp [World.cell?, h1, hC]
theorem slice_arr (w : World) (p : Nat) (W : World) (h1 : 1 ≤ p) (h2 : p ≤ 65) : (Instr.sliceAt 84 (.pointer (some ⟨w.heap.size, 0, none⟩)) (some (.int .i64 ((p : Int) - 1))) none none).run Tryd.prog W = .ok (.slice (some ⟨w.heap.size, p - 1, none⟩) (65 - (p - 1)) (65 - (p - 1))) W := by
  have hA : Tryd.prog.arrayLen 84 = 65 := by kernel_rfl
  have hS : (sizeOf (Tryd.prog.elem 84)).run Tryd.prog W = .ok 1 W := by kernel_rfl
  rw [run_sliceAt_array_l W 84 ⟨w.heap.size, 0, none⟩ Tryd.underlying84 .i64 ((p : Int) - 1) (by omega) (by rw [hA]; omega), hS, hA]
  have e : ((p : Int) - 1).toNat = p - 1 := by omega
  have ha : (⟨w.heap.size, 0, none⟩ : Addr).add (p - 1) = ⟨w.heap.size, p - 1, none⟩ := by unfold Addr.add; split <;> simp_all
  simp only [Result.andThen, slicedAt, e, Nat.mul_one, ha]
  rw [if_neg (by omega)]
theorem hexF_ge {n U : Nat} {acc : List UInt8} (h : 16 ≤ U) : hexF (n + 1) U acc = hexF n (U / 16) (hexC (U % 16) :: acc) := by rw [hexF, if_pos h]
theorem hexF_lt {n U : Nat} {acc : List UInt8} (h : U < 16) : hexF n U acc = hexC U :: acc := by
  cases n with
  | zero => rfl
  | succ n => rw [hexF, if_neg (by omega)]
set_option maxRecDepth 100000 in
set_option maxHeartbeats 1000000 in
theorem bits16_any (u : Nat) (w : World) (hu : u < 18446744073709551616) (hc : w.cell? ⟨5, 15, none⟩ = some (.int .u8 4)) :
    Calls Tryd.prog 48 #[.slice none 0 0, .int .u64 u, .int .i64 16, .bool false, .bool false] w fun e w' => e = .returned (.tuple #[.slice none 0 0, .string ⟨(hexS u).toArray⟩]) ∧ Below w.heap.size w w' := by
  have H5 : 5 < w.heap.size := cell_lt hc
  have HC := Lib.hid hc; clear hc
  have HU := Lib.hid hu; clear hu
  go_enter Tryd.func48, Tryd.ntmps48
  go_wp2_with (first | (go_at_call 60; refine (pow2_16 _).mono ?_; rintro e w' ⟨rfl, rfl⟩) | (go_at_call 61; refine (tz_16 _ (((Below.refl w.heap.size w).alloc (Nat.le_refl _) _ |>.cell (p := ⟨5, 15, none⟩) H5).trans HC.out)).mono ?_; rintro e w' ⟨rfl, rfl⟩))
  go_loopw [1, 13] (fun U i wr => ∃ (N p : Nat) (tail : List UInt8), 50 ≤ p ∧ p ≤ 65 ∧ i = .int .i64 p ∧ U = .int .u64 N ∧ N < 16 ^ (p - 49) ∧ Laid w wr p tail ∧ hexS u = hexF (p - 50) N tail) (fun _ i _ => (intOf i).toNat)
  case atStart =>
    refine ⟨u, 65, [], by omega, by omega, rfl, rfl, by have := HU.out; omega, ⟨_, heap_alloc_new _ _, by kernel_rfl, by kernel_rfl, rfl, (Below.refl _ _).alloc (Nat.le_refl _) _⟩, rfl⟩
  case round =>
    obtain ⟨N, p, tail, hp1, hp2, rfl, rfl, hN, hL, hx⟩ := hrel
    have HX := Lib.hid hx; clear hx
    have HL := Lib.hid hL
    have hN64 : N < 18446744073709551616 := Nat.lt_of_lt_of_le hN (Nat.le_trans (Nat.pow_le_pow_right (by decide) (show p - 49 ≤ 16 by omega)) (by decide))
    by_cases hge : 16 ≤ N
    · have hp3 : 51 ≤ p := by
        by_cases h : p = 50
        · subst h; simp at hN; omega
        · omega
      have HF := Lib.hid (show hexS u = hexF (p - 1 - 50) (N / 16) (hexC (N % 16) :: tail) by rw [HX.out, show p - 50 = (p - 1 - 50) + 1 by omega, hexF_ge hge])
      have HN2 := Lib.hid (show N / 16 < 16 ^ (p - 1 - 49) by
        rw [Nat.div_lt_iff_lt_mul (by omega)]
        have : 16 ^ (p - 49) = 16 ^ (p - 1 - 49) * 16 := by rw [← Nat.pow_succ]; congr 1; omega
        omega)
      have ea := and15 N hN64
      have hd : N % 16 < 16 := Nat.mod_lt _ (by omega)
      obtain ⟨v0, hc0⟩ := hL.cell (k := p - 1) (by omega)
      have hz0 := hL.frozen (p - 1)
      have HS := Lib.hid (hL.store (by omega) hp2 (hexC (N % 16)))
      have hgb : decide ((16 : Int) ≤ (N : Int)) = true := decide_eq_true (by omega)
      clear hL hN hN64
      go_wp2
      go_roundw
      case rel => exact ⟨N / 16, p - 1, _, by omega, by omega, by go_num, by go_num, HN2.out, by rw [digGet _ hd]; exact HS.out, HF.out⟩
      case measure => simp [intOf]; omega
    · have hlt : N < 16 := by omega
      have HF := Lib.hid (show hexS u = hexC N :: tail by rw [HX.out, hexF_lt hlt])
      obtain ⟨v0, hc0⟩ := hL.cell (k := p - 1) (by omega)
      have hz0 := hL.frozen (p - 1)
      have hgb : decide ((16 : Int) ≤ (N : Int)) = false := decide_eq_false (by omega)
      have hlt36 : N < (⟨#[48, 49, 50, 51, 52, 53, 54, 55, 56, 57, 97, 98, 99, 100, 101, 102, 103, 104, 105, 106, 107, 108, 109, 110, 111, 112, 113, 114, 115, 116, 117, 118, 119, 120, 121, 122]⟩ : ByteArray).size := Nat.lt_of_lt_of_le hlt (by decide)
      have HSt := hL.store (by omega) hp2 ((⟨#[48, 49, 50, 51, 52, 53, 54, 55, 56, 57, 97, 98, 99, 100, 101, 102, 103, 104, 105, 106, 107, 108, 109, 110, 111, 112, 113, 114, 115, 116, 117, 118, 119, 120, 121, 122]⟩ : ByteArray)[N]'hlt36)
      have hcv := HSt.conv
      have HS := Lib.hid HSt
      have hsl := fun W => slice_arr w p W (by omega) hp2
      have HD := Lib.hid (digGet N hlt hlt36)
      clear hL hN hN64 hge HSt
      go_wp2
      go_ret2
      obtain ⟨_, _, _, _, _, hB⟩ := HS.out
      exact ⟨by rw [HF.out, HD.out]; rfl, hB⟩
theorem ifmt_any (u : Nat) (w : World) (hu : u < 18446744073709551616) (hc : w.cell? ⟨5, 15, none⟩ = some (.int .u8 4)) :
    Calls Tryd.prog 32 #[.int .u64 u, .int .i64 16] w fun e w' => e = .returned (.string ⟨(hexS u).toArray⟩) ∧ Below w.heap.size w w' := by
  have HC := Lib.hid (fun w hc => bits16_any u w hu hc)
  have HX := Lib.hid hc; clear hc hu
  go_enter Tryd.func32, Tryd.ntmps32
  go_wp2_with (go_at_call 48; refine (HC.out _ HX.out).mono ?_; rintro e w' ⟨rfl, hb⟩)
  go_ret
  exact ⟨rfl, hb⟩
theorem fmt_any (u : Nat) (w : World) (hu : u < 18446744073709551616) (hc : w.cell? ⟨5, 15, none⟩ = some (.int .u8 4)) :
    Calls Tryd.prog 25 #[.int .u64 u, .int .i64 16] w fun e w' => e = .returned (.string ⟨(hexS u).toArray⟩) ∧ Below w.heap.size w w' := by
  have HC := Lib.hid (fun w hc => ifmt_any u w hu hc)
  have HX := Lib.hid hc; clear hc hu
  go_enter Tryd.func25, Tryd.ntmps25
  go_wp2_with (go_at_call 32; refine (HC.out _ HX.out).mono ?_; rintro e w' ⟨rfl, hb⟩)
  go_ret
  exact ⟨rfl, hb⟩
end Go.Proofs.YtngdndkgmbcnpaaDoor
