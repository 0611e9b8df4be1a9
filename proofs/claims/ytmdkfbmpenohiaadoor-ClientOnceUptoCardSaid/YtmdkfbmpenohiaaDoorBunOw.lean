/- Texts of this claim merged into one: Own, Var, Take. -/
import Derived.Test.YtmdkfbmpenohiaaDoorChecked
import Derived.WalkKit
import Derived.WalkSpells
import Derived.WalkLawsBesides
import Derived.Lib.Hide
import Derived.Below
import Derived.OwnWalk
import Derived.Laws.AppendOwn
import Derived.Maps.AppendAt
import Derived.Laws.BitsAllLaws
import Derived.Test.YtmdkfbmpenohiaaDoorBunV
/- Bytes that the call itself has collected by append. -/
namespace Go.Proofs.YtmdkfbmpenohiaaDoor
open Go.RowKit

def cellsB (l : List UInt8) : List Value := l.map fun b => .int .u8 (b.toNat : Int)
theorem cellsB_snoc (l : List UInt8) (b : UInt8) : cellsB (l ++ [b]) = cellsB l ++ [.int .u8 (b.toNat : Int)] := by simp [cellsB]
theorem infoU8 : (Tryd.prog.info? 5).map (fun i => (i.zero, i.size, i.bytes)) = some (some (.int .u8 0), 1, 1) := by kernel_rfl
/-- 'string(b)' of bytes that the call itself has collected. -/
theorem conv_own (W : World) (base : Nat) (v : Value) (l : List UInt8) (h0 : l ≠ []) (h : W.ownsRow base 5 1 v l.length (cellsB l)) :
    (convert 126 9 v).run Tryd.prog W = .ok (.string ⟨l.toArray⟩) W := by
  obtain ⟨h1, h2 | ⟨g, cap, cur, rfl, hb, hg, hn, hm, hsz, htake⟩⟩ := h
  · exact absurd (List.length_eq_zero_iff.1 h2.2) h0
  · refine run_convert_bytes_back _ _ _ _ _ _ l Tryd.underlying126 Tryd.underlying5 Tryd.underlying9 fun j hj => ?_
    have := World.ownsRow.cells (w := W) (base := base) (e := 5) (size := 1) (v := .slice (some ⟨g, 0, none⟩) l.length cap) (n := l.length) (xs := cellsB l) ⟨h1, .inr ⟨g, cap, cur, rfl, hb, hg, hn, hm, hsz, htake⟩⟩ (g := g) rfl j (.int .u8 (l[j].toNat : Int)) (by simp [cellsB, List.getElem?_eq_getElem hj])
    exact this
end Go.Proofs.YtmdkfbmpenohiaaDoor

/- Variable-length integers: the walks of Put, Len, Take and of the reference's Put, Take and Short. -/
namespace Go.Proofs.YtmdkfbmpenohiaaDoor
open Go.RowKit

theorem v_ret_str {a b : ByteArray} (h : a = b) : Ending.returned (.string a) = .returned (.string b) := by rw [h]
theorem v_ret_int {k : IntKind} {a b : Int} (h : a = b) : Ending.returned (.int k a) = .returned (.int k b) := by rw [h]
set_option maxRecDepth 20000 in
theorem or128 : ∀ x : Fin 256, x.1 ||| 128 = x.1 % 128 + 128 := by decide
theorem or_byte (U : Nat) : bits .or .u8 ((U : Int) % 256) 128 = ((U % 128 + 128 : Nat) : Int) := by
  have h := u8_or_nat (U % 256) 128 (by omega) (by omega)
  rw [or128 ⟨U % 256, by omega⟩] at h
  rw [show ((128 : Nat) : Int) = 128 from rfl, show ((U % 256 : Nat) : Int) = (U : Int) % 256 by omega] at h
  rw [h]; show ((U % 256 % 128 + 128 : Nat) : Int) = _; omega
set_option maxRecDepth 100000 in
set_option maxHeartbeats 1000000 in
theorem put_any (u : Nat) (w : World) (hu : u < 18446744073709551616) :
    Calls Tryd.prog 71 #[.int .u64 u] w fun e w' => e = .returned (.string ⟨(putL u).toArray⟩) ∧ Below w.heap.size w w' := by
  obtain ⟨i0, hi, hz0, hz1, hz2⟩ := info_parts infoU8
  have HI := Lib.hid hi; clear hi
  have HZ := Lib.hid hz0; clear hz0
  have HZ1 := Lib.hid hz1; clear hz1
  have HZ2 := Lib.hid hz2; clear hz2
  have HU := Lib.hid hu; clear hu
  go_enter Tryd.func71, Tryd.ntmps71
  go_wp2
  go_loopw [0, 3] (fun x v wr => ∃ (U j : Nat) (acc : List UInt8), j ≤ 9 ∧ x = .int .u64 U ∧ U < 2 * 128 ^ (9 - j) ∧ acc.length = j ∧ putL u = acc ++ putF (9 - j) U ∧ wr.ownsRow w.heap.size 5 1 v j (cellsB acc) ∧ Below w.heap.size w wr) (fun x _ _ => (intOf x).toNat)
  case atStart => exact ⟨u, 0, [], by omega, rfl, by have := HU.out; simpa using this, rfl, rfl, World.ownsRow_nil _ _ _ _, Below.refl _ _⟩
  case round =>
    obtain ⟨U, j, acc, hj, rfl, hU, hacc, hput, hown, hb⟩ := hrel
    have HO := Lib.hid hown; clear hown
    have HB := Lib.hid hb; have hbs := hb.size; clear hb
    have HP := Lib.hid hput; clear hput
    have HA := Lib.hid hacc; clear hacc
    have hU64 : U < 18446744073709551616 := Nat.lt_of_lt_of_le hU (Nat.le_trans (Nat.mul_le_mul_left 2 (Nat.pow_le_pow_right (by decide) (show 9 - j ≤ 9 by omega))) (by decide))
    by_cases hge : 128 ≤ U
    · have hj2 : j < 9 := by
        by_cases h : j = 9
        · subst h; simp at hU; omega
        · omega
      have HS := Lib.hid (show putL u = (acc ++ [UInt8.ofNat (U % 128 + 128)]) ++ putF (9 - (j + 1)) (U / 128) by
        rw [HP.out, show 9 - j = (9 - (j + 1)) + 1 by omega, putF, if_pos hge, List.append_assoc]; rfl)
      have HU2 := Lib.hid (show U / 128 < 2 * 128 ^ (9 - (j + 1)) by
        rw [show 9 - j = (9 - (j + 1)) + 1 by omega, pow_step] at hU; omega)
      have hor := or_byte U
      have hgb : decide ((128 : Int) ≤ (U : Int)) = true := decide_eq_true (by omega)
      have hbc : ((U % 128 + 128 : Nat) : Int) = ((UInt8.ofNat (U % 128 + 128)).toNat : Int) := by rw [UInt8.toNat_ofNat']; omega
      rw [hbc] at hor
      clear hbc hU
      go_wp2_with (at_builtin; refine wpList_append_own _ rfl _ _ 126 rfl w.heap.size 5 i0 (.int .u8 0) 1 1 Tryd.underlying126 HI.out HZ.out HZ1.out HZ2.out rfl (by decide) _ j (cellsB acc) rfl (HO.out.alloc _) ⟨wr.heap.size, 0, none⟩ 1 1 [.int .u8 ((UInt8.ofNat (U % 128 + 128)).toNat : Int)] rfl rfl (cell_one_new _ _ _) (by simp [Value.oneCell']) (by unfold maxLen; omega) (by omega) (by simp; omega) ?_; intro v' w1 hown' hgrow _)
      have hb1 : Below w.heap.size w w1 := (HB.out.alloc hbs _).grown hgrow (by simp; omega) (fun g hg => (HO.out.lt g hg).1)
      have HO' := Lib.hid hown'; clear hown' hgrow
      go_wp2
      go_roundw
      case rel => exact ⟨U / 128, j + 1, acc ++ [UInt8.ofNat (U % 128 + 128)], by omega, by go_num, HU2.out, by rw [List.length_append, HA.out]; rfl, HS.out, by rw [cellsB_snoc]; exact HO'.out, hb1⟩
      case measure => simp [intOf]; omega
    · obtain ⟨c, rfl⟩ : ∃ c : UInt8, U = c.toNat := ⟨UInt8.ofNat U, by rw [UInt8.toNat_ofNat']; omega⟩
      have HS := Lib.hid (show putL u = acc ++ [c] by
        rw [HP.out]; congr 1
        cases hn : 9 - j with
        | zero => simp [putF]
        | succ n => rw [putF, if_neg hge]; simp)
      have hgb : decide ((128 : Int) ≤ (c.toNat : Int)) = false := decide_eq_false (by omega)
      clear hU hge hU64
      go_wp2_with (at_builtin; refine wpList_append_own _ rfl _ _ 126 rfl w.heap.size 5 i0 (.int .u8 0) 1 1 Tryd.underlying126 HI.out HZ.out HZ1.out HZ2.out rfl (by decide) _ j (cellsB acc) rfl (HO.out.alloc _) ⟨wr.heap.size, 0, none⟩ 1 1 [.int .u8 ((c.toNat : Int) % 256)] rfl rfl (cell_one_new _ _ _) (by simp [Value.oneCell']) (by unfold maxLen; omega) (by omega) (by simp; omega) ?_; intro v' w1 hown' hgrow _; have hb1 : Below w.heap.size w w1 := (HB.out.alloc hbs _).grown hgrow (by simp; omega) (fun g hg => (HO.out.lt g hg).1); rw [show (c.toNat : Int) % 256 = (c.toNat : Int) by have := c.toNat_lt; omega, ← cellsB_snoc, ← HA.out, show acc.length + 1 = (acc ++ [c]).length by simp] at hown'; have hcv := conv_own w1 w.heap.size _ (acc ++ [c]) (by simp) hown'; clear hown' hgrow)
      go_ret
      exact ⟨v_ret_str (by rw [HS.out]), hb1⟩
end Go.Proofs.YtmdkfbmpenohiaaDoor

/- Variable-length integers: the walks of Take and of the reference's Take and Short. -/
namespace Go.Proofs.YtmdkfbmpenohiaaDoor
open Go.RowKit

def TakeS (s : ByteArray) : Nat × Nat × Int := takeL s.data.toList
end Go.Proofs.YtmdkfbmpenohiaaDoor
