/- Texts of this claim merged into one: VarLaw, Own, Var, Take. -/
import Derived.Lib.Hide
import Derived.Test.YtmdkfbmpenohiaaGreatDoorChecked
import Derived.WalkKit
import Derived.WalkSpells
import Derived.WalkLawsBesides
import Derived.Below
import Derived.OwnWalk
import Derived.Laws.AppendOwn
import Derived.Maps.AppendAt
import Derived.Laws.BitsAllLaws
namespace Go.Proofs.YtmdkfbmpenohiaaGreatDoor
open Go
def iJ : Nat → Nat → List UInt8
  | 0, u => [UInt8.ofNat u]
  | n + 1, u => if 128 ≤ u then UInt8.ofNat (u % 128 + 128) :: iJ n (u / 128) else [UInt8.ofNat u]
def bh (u : Nat) : List UInt8 := iJ 9 u
def wB : Nat → List UInt8 → Nat → Nat → Nat × Nat × Int
  | 0, _, _, _ => (0, 0, 6)
  | _ + 1, [], _, _ => (0, 0, 4)
  | k + 1, c :: l, n, u =>
    if k = 0 ∧ 1 < c.toNat then (0, 0, 6)
    else if c.toNat < 128 then (u + c.toNat % 128 * 128 ^ n, n + 1, 0)
    else wB k l (n + 1) (u + c.toNat % 128 * 128 ^ n)
def yh (l : List UInt8) : Nat × Nat × Int := wB 10 l 0 0
theorem oe : ∀ n u, 1 ≤ (iJ n u).length ∧ (iJ n u).length ≤ n + 1
  | 0, _ => by simp [iJ]
  | n + 1, u => by
    unfold iJ; split
    · have := oe n (u / 128); simp only [List.length_cons]; omega
    · simp
theorem cY (u : Nat) : 1 ≤ (bh u).length ∧ (bh u).length ≤ 10 := oe 9 u
theorem hY (n : Nat) : 128 ^ (n + 1) = 128 * 128 ^ n := by rw [Nat.pow_succ, Nat.mul_comm]
end Go.Proofs.YtmdkfbmpenohiaaGreatDoor
namespace Go.Proofs.YtmdkfbmpenohiaaGreatDoor
open Go.RowKit
def dG (l : List UInt8) : List Value := l.map fun b => .int .u8 (b.toNat : Int)
theorem eL (l : List UInt8) (b : UInt8) : dG (l ++ [b]) = dG l ++ [.int .u8 (b.toNat : Int)] := by simp [dG]
theorem s9 : (Tryz.prog.info? 5).map (fun i => (i.zero, i.size, i.bytes)) = some (some (.int .u8 0), 1, 1) := by kernel_rfl
theorem oh (W : World) (base : Nat) (v : Value) (l : List UInt8) (h0 : l ≠ []) (h : W.ownsRow base 5 1 v l.length (dG l)) :
    (convert 137 9 v).run Tryz.prog W = .ok (.string ⟨l.toArray⟩) W := by
  obtain ⟨h1, h2 | ⟨g, cap, cur, rfl, hb, hg, hn, hm, hsz, htake⟩⟩ := h
  · exact absurd (List.length_eq_zero_iff.1 h2.2) h0
  · refine run_convert_bytes_back _ _ _ _ _ _ l Tryz.underlying137 Tryz.underlying5 Tryz.underlying9 fun j hj => ?_
    have := World.ownsRow.cells (w := W) (base := base) (e := 5) (size := 1) (v := .slice (some ⟨g, 0, none⟩) l.length cap) (n := l.length) (xs := dG l) ⟨h1, .inr ⟨g, cap, cur, rfl, hb, hg, hn, hm, hsz, htake⟩⟩ (g := g) rfl j (.int .u8 (l[j].toNat : Int)) (by simp [dG, List.getElem?_eq_getElem hj])
    exact this
end Go.Proofs.YtmdkfbmpenohiaaGreatDoor
namespace Go.Proofs.YtmdkfbmpenohiaaGreatDoor
open Go.RowKit
theorem iz {a b : ByteArray} (h : a = b) : Ending.returned (.string a) = .returned (.string b) := by rw [h]
theorem bd {k : IntKind} {a b : Int} (h : a = b) : Ending.returned (.int k a) = .returned (.int k b) := by rw [h]
set_option maxRecDepth 20000 in
theorem yi : ∀ x : Fin 256, x.1 ||| 128 = x.1 % 128 + 128 := by decide
theorem uS (U : Nat) : bits .or .u8 ((U : Int) % 256) 128 = ((U % 128 + 128 : Nat) : Int) := by
  have h := u8_or_nat (U % 256) 128 (by omega) (by omega)
  rw [yi ⟨U % 256, by omega⟩] at h
  rw [show ((128 : Nat) : Int) = 128 from rfl, show ((U % 256 : Nat) : Int) = (U : Int) % 256 by omega] at h
  rw [h]; show ((U % 256 % 128 + 128 : Nat) : Int) = _; omega
set_option maxRecDepth 100000 in
set_option maxHeartbeats 1000000 in
theorem jh (u : Nat) (w : World) (hu : u < 18446744073709551616) :
    Calls Tryz.prog 112 #[.int .u64 u] w fun e w' => e = .returned (.string ⟨(bh u).toArray⟩) ∧ Below w.heap.size w w' := by
  obtain ⟨i0, hi, hz0, hz1, hz2⟩ := info_parts s9
  have HI := Lib.hid hi; clear hi
  have HZ := Lib.hid hz0; clear hz0
  have HZ1 := Lib.hid hz1; clear hz1
  have HZ2 := Lib.hid hz2; clear hz2
  have HU := Lib.hid hu; clear hu
  go_enter Tryz.func112, Tryz.ntmps112
  go_wp2
  go_loopw [0, 3] (fun x v wr => ∃ (U j : Nat) (acc : List UInt8), j ≤ 9 ∧ x = .int .u64 U ∧ U < 2 * 128 ^ (9 - j) ∧ acc.length = j ∧ bh u = acc ++ iJ (9 - j) U ∧ wr.ownsRow w.heap.size 5 1 v j (dG acc) ∧ Below w.heap.size w wr) (fun x _ _ => (intOf x).toNat)
  case atStart => exact ⟨u, 0, [], by omega, rfl, by have := HU.out; simpa using this, rfl, rfl, World.ownsRow_nil _ _ _ _, Below.refl _ _⟩
  case round =>
    obtain ⟨U, j, acc, hj, rfl, hU, hacc, hput, hown, hb⟩ := hrel
    have HO := Lib.hid hown; clear hown
    have HB := Lib.hid hb; have hbs := hb.size; clear hb
    have HP := Lib.hid hput; clear hput
    have HA := Lib.hid hacc; clear hacc
    have hU64 : U < 18446744073709551616 := Nat.lt_of_lt_of_le hU (Nat.le_trans (Nat.mul_le_mul_left 2 (Nat.pow_le_pow_right (by decide) (show 9 - j ≤ 9 by omega))) (by decide))
    by_cases hge : 128 ≤ U
    · have hj2 : j < 9 := by
        by_cases h : j = 9
        · subst h; simp at hU; omega
        · omega
      have HS := Lib.hid (show bh u = (acc ++ [UInt8.ofNat (U % 128 + 128)]) ++ iJ (9 - (j + 1)) (U / 128) by
        rw [HP.out, show 9 - j = (9 - (j + 1)) + 1 by omega, iJ, if_pos hge, List.append_assoc]; rfl)
      have HU2 := Lib.hid (show U / 128 < 2 * 128 ^ (9 - (j + 1)) by
        rw [show 9 - j = (9 - (j + 1)) + 1 by omega, hY] at hU; omega)
      have hor := uS U
      have hgb : decide ((128 : Int) ≤ (U : Int)) = true := decide_eq_true (by omega)
      have hbc : ((U % 128 + 128 : Nat) : Int) = ((UInt8.ofNat (U % 128 + 128)).toNat : Int) := by rw [UInt8.toNat_ofNat']; omega
      rw [hbc] at hor
      clear hbc hU
      go_wp2_with (at_builtin; refine wpList_append_own _ rfl _ _ 137 rfl w.heap.size 5 i0 (.int .u8 0) 1 1 Tryz.underlying137 HI.out HZ.out HZ1.out HZ2.out rfl (by decide) _ j (dG acc) rfl (HO.out.alloc _) ⟨wr.heap.size, 0, none⟩ 1 1 [.int .u8 ((UInt8.ofNat (U % 128 + 128)).toNat : Int)] rfl rfl (cell_one_new _ _ _) (by simp [Value.oneCell']) (by unfold maxLen; omega) (by omega) (by simp; omega) ?_; intro v' w1 hown' hgrow _)
      have hb1 : Below w.heap.size w w1 := (HB.out.alloc hbs _).grown hgrow (by simp; omega) (fun g hg => (HO.out.lt g hg).1)
      have HO' := Lib.hid hown'; clear hown' hgrow
      go_wp2
      go_roundw
      case rel => exact ⟨U / 128, j + 1, acc ++ [UInt8.ofNat (U % 128 + 128)], by omega, by go_num, HU2.out, by rw [List.length_append, HA.out]; rfl, HS.out, by rw [eL]; exact HO'.out, hb1⟩
      case measure => simp [intOf]; omega
    · obtain ⟨c, rfl⟩ : ∃ c : UInt8, U = c.toNat := ⟨UInt8.ofNat U, by rw [UInt8.toNat_ofNat']; omega⟩
      have HS := Lib.hid (show bh u = acc ++ [c] by
        rw [HP.out]; congr 1
        cases hn : 9 - j with
        | zero => simp [iJ]
        | succ n => rw [iJ, if_neg hge]; simp)
      have hgb : decide ((128 : Int) ≤ (c.toNat : Int)) = false := decide_eq_false (by omega)
      clear hU hge hU64
      go_wp2_with (at_builtin; refine wpList_append_own _ rfl _ _ 137 rfl w.heap.size 5 i0 (.int .u8 0) 1 1 Tryz.underlying137 HI.out HZ.out HZ1.out HZ2.out rfl (by decide) _ j (dG acc) rfl (HO.out.alloc _) ⟨wr.heap.size, 0, none⟩ 1 1 [.int .u8 ((c.toNat : Int) % 256)] rfl rfl (cell_one_new _ _ _) (by simp [Value.oneCell']) (by unfold maxLen; omega) (by omega) (by simp; omega) ?_; intro v' w1 hown' hgrow _; have hb1 : Below w.heap.size w w1 := (HB.out.alloc hbs _).grown hgrow (by simp; omega) (fun g hg => (HO.out.lt g hg).1); rw [show (c.toNat : Int) % 256 = (c.toNat : Int) by have := c.toNat_lt; omega, ← eL, ← HA.out, show acc.length + 1 = (acc ++ [c]).length by simp] at hown'; have hcv := oh w1 w.heap.size _ (acc ++ [c]) (by simp) hown'; clear hown' hgrow)
      go_ret
      exact ⟨iz (by rw [HS.out]), hb1⟩
set_option maxRecDepth 100000 in
set_option maxHeartbeats 1000000 in
theorem ft (u : Nat) (w : World) (hu : u < 18446744073709551616) :
    Calls Tryz.prog 101 #[.int .u64 u] w fun e w' => e = .returned (.string ⟨(bh u).toArray⟩) ∧ Below w.heap.size w w' := by
  obtain ⟨i0, hi, hz0, hz1, hz2⟩ := info_parts s9
  have HI := Lib.hid hi; clear hi
  have HZ := Lib.hid hz0; clear hz0
  have HZ1 := Lib.hid hz1; clear hz1
  have HZ2 := Lib.hid hz2; clear hz2
  have HU := Lib.hid hu; clear hu
  go_enter Tryz.func101, Tryz.ntmps101
  go_wp2
  go_loopw [0, 3] (fun x v wr => ∃ (U j : Nat) (acc : List UInt8), j ≤ 9 ∧ x = .int .u64 U ∧ U < 2 * 128 ^ (9 - j) ∧ acc.length = j ∧ bh u = acc ++ iJ (9 - j) U ∧ wr.ownsRow w.heap.size 5 1 v j (dG acc) ∧ Below w.heap.size w wr) (fun x _ _ => (intOf x).toNat)
  case atStart => exact ⟨u, 0, [], by omega, rfl, by have := HU.out; simpa using this, rfl, rfl, World.ownsRow_nil _ _ _ _, Below.refl _ _⟩
  case round =>
    obtain ⟨U, j, acc, hj, rfl, hU, hacc, hput, hown, hb⟩ := hrel
    have HO := Lib.hid hown; clear hown
    have HB := Lib.hid hb; have hbs := hb.size; clear hb
    have HP := Lib.hid hput; clear hput
    have HA := Lib.hid hacc; clear hacc
    have hU64 : U < 18446744073709551616 := Nat.lt_of_lt_of_le hU (Nat.le_trans (Nat.mul_le_mul_left 2 (Nat.pow_le_pow_right (by decide) (show 9 - j ≤ 9 by omega))) (by decide))
    by_cases hge : 128 ≤ U
    · have hj2 : j < 9 := by
        by_cases h : j = 9
        · subst h; simp at hU; omega
        · omega
      have HS := Lib.hid (show bh u = (acc ++ [UInt8.ofNat (U % 128 + 128)]) ++ iJ (9 - (j + 1)) (U / 128) by
        rw [HP.out, show 9 - j = (9 - (j + 1)) + 1 by omega, iJ, if_pos hge, List.append_assoc]; rfl)
      have HU2 := Lib.hid (show U / 128 < 2 * 128 ^ (9 - (j + 1)) by
        rw [show 9 - j = (9 - (j + 1)) + 1 by omega, hY] at hU; omega)
      have hgb : decide ((128 : Int) ≤ (U : Int)) = true := decide_eq_true (by omega)
      obtain ⟨c, hc⟩ : ∃ c : UInt8, c = UInt8.ofNat (U % 128 + 128) := ⟨_, rfl⟩
      have HC := Lib.hid (show (U : Int) % 128 + 128 = (c.toNat : Int) by rw [hc, UInt8.toNat_ofNat']; omega)
      rw [← hc] at HS
      clear hU hc
      go_wp2_with (at_builtin; refine wpList_append_own _ rfl _ _ 137 rfl w.heap.size 5 i0 (.int .u8 0) 1 1 Tryz.underlying137 HI.out HZ.out HZ1.out HZ2.out rfl (by decide) _ j (dG acc) rfl (HO.out.alloc _) ⟨wr.heap.size, 0, none⟩ 1 1 [.int .u8 ((U : Int) % 128 + 128)] rfl rfl (cell_one_new _ _ _) (by simp [Value.oneCell']) (by unfold maxLen; omega) (by omega) (by simp; omega) ?_; intro v' w1 hown' hgrow _)
      have hb1 : Below w.heap.size w w1 := (HB.out.alloc hbs _).grown hgrow (by simp; omega) (fun g hg => (HO.out.lt g hg).1)
      rw [HC.out] at hown'
      have HO' := Lib.hid hown'; clear hown' hgrow
      go_wp2
      go_roundw
      case rel => exact ⟨U / 128, j + 1, acc ++ [c], by omega, by go_num, HU2.out, by rw [List.length_append, HA.out]; rfl, HS.out, by rw [eL]; exact HO'.out, hb1⟩
      case measure => simp [intOf]; omega
    · obtain ⟨c, rfl⟩ : ∃ c : UInt8, U = c.toNat := ⟨UInt8.ofNat U, by rw [UInt8.toNat_ofNat']; omega⟩
      have HS := Lib.hid (show bh u = acc ++ [c] by
        rw [HP.out]; congr 1
        cases hn : 9 - j with
        | zero => simp [iJ]
        | succ n => rw [iJ, if_neg hge]; simp)
      have hgb : decide ((128 : Int) ≤ (c.toNat : Int)) = false := decide_eq_false (by omega)
      clear hU hge hU64
      go_wp2_with (at_builtin; refine wpList_append_own _ rfl _ _ 137 rfl w.heap.size 5 i0 (.int .u8 0) 1 1 Tryz.underlying137 HI.out HZ.out HZ1.out HZ2.out rfl (by decide) _ j (dG acc) rfl (HO.out.alloc _) ⟨wr.heap.size, 0, none⟩ 1 1 [.int .u8 ((c.toNat : Int) % 256)] rfl rfl (cell_one_new _ _ _) (by simp [Value.oneCell']) (by unfold maxLen; omega) (by omega) (by simp; omega) ?_; intro v' w1 hown' hgrow _; have hb1 : Below w.heap.size w w1 := (HB.out.alloc hbs _).grown hgrow (by simp; omega) (fun g hg => (HO.out.lt g hg).1); rw [show (c.toNat : Int) % 256 = (c.toNat : Int) by have := c.toNat_lt; omega, ← eL, ← HA.out, show acc.length + 1 = (acc ++ [c]).length by simp] at hown'; have hcv := oh w1 w.heap.size _ (acc ++ [c]) (by simp) hown'; clear hown' hgrow)
      go_ret
      exact ⟨iz (by rw [HS.out]), hb1⟩
end Go.Proofs.YtmdkfbmpenohiaaGreatDoor
namespace Go.Proofs.YtmdkfbmpenohiaaGreatDoor
open Go.RowKit
def k5 (s : ByteArray) : Nat × Nat × Int := yh s.data.toList
theorem mj (s : ByteArray) {k : Nat} (h : k < s.size) : s.data.toList.drop k = s[k] :: s.data.toList.drop (k + 1) := by
  rw [List.drop_eq_getElem_cons (by simpa using h)]; rfl
end Go.Proofs.YtmdkfbmpenohiaaGreatDoor
