/- eight: the bytes of a number, the least significant first, collected by append. -/
import Derived.Test.YtngdndkgmbcnpaaDoorLow
import Derived.OwnWalk
import Derived.Laws.AppendOwn
import Derived.Maps.AppendAt
namespace Go.Proofs.YtngdndkgmbcnpaaDoor
open Go.RowKit

def bytesK (u k : Nat) : List UInt8 := (List.range k).map fun i => UInt8.ofNat (u / 256 ^ i)
def cellsB (l : List UInt8) : List Value := l.map fun b => .int .u8 (b.toNat : Int)
theorem bytesK_succ (u k : Nat) : bytesK u (k + 1) = bytesK u k ++ [UInt8.ofNat (u / 256 ^ k)] := by simp [bytesK, List.range_succ]
theorem bytesK_len (u k : Nat) : (bytesK u k).length = k := by simp [bytesK]
theorem bytesK_le8 (u : Nat) : bytesK u 8 = le8 u := by simp [bytesK, le8, le4, List.range_succ, Nat.div_div_eq_div_mul]
theorem cellsB_snoc (l : List UInt8) (b : UInt8) : cellsB (l ++ [b]) = cellsB l ++ [.int .u8 (b.toNat : Int)] := by simp [cellsB]
theorem infoU8 : (Tryd.prog.info? 5).map (fun i => (i.zero, i.size, i.bytes)) = some (some (.int .u8 0), 1, 1) := by kernel_rfl
/-- 'string(b)' of bytes that the call itself has collected. -/
theorem conv_own (W : World) (base : Nat) (v : Value) (l : List UInt8) (h0 : l ≠ []) (h : W.ownsRow base 5 1 v l.length (cellsB l)) :
    (convert 29 9 v).run Tryd.prog W = .ok (.string ⟨l.toArray⟩) W := by
  obtain ⟨h1, h2 | ⟨g, cap, cur, rfl, hb, hg, hn, hm, hsz, htake⟩⟩ := h
  · exact absurd (List.length_eq_zero_iff.1 h2.2) h0
  · refine run_convert_bytes_back _ _ _ _ _ _ l Tryd.underlying29 Tryd.underlying5 Tryd.underlying9 fun j hj => ?_
    have := World.ownsRow.cells (w := W) (base := base) (e := 5) (size := 1) (v := .slice (some ⟨g, 0, none⟩) l.length cap) (n := l.length) (xs := cellsB l) ⟨h1, .inr ⟨g, cap, cur, rfl, hb, hg, hn, hm, hsz, htake⟩⟩ (g := g) rfl j (.int .u8 (l[j].toNat : Int)) (by simp [cellsB, List.getElem?_eq_getElem hj])
    exact this
set_option maxHeartbeats 1000000 in
theorem eight_any (u : Nat) (w : World) (hu : u < 18446744073709551616) :
    Calls Tryd.prog 29 #[.int .u64 u] w fun e w' => e = .returned (.string ⟨(le8 u).toArray⟩) ∧ Below w.heap.size w w' := by
  obtain ⟨i0, hi, hz0, hz1, hz2⟩ := info_parts infoU8
  have HI := Lib.hid hi; clear hi
  have HZ := Lib.hid hz0; clear hz0
  have HZ1 := Lib.hid hz1; clear hz1
  have HZ2 := Lib.hid hz2; clear hz2
  go_enter Tryd.func29, Tryd.ntmps29
  go_wp2
  go_loopw [0, 3, 4] (fun U v i wr => ∃ k : Nat, k ≤ 8 ∧ i = .int .i64 k ∧ U = .int .u64 ((u / 256 ^ k : Nat) : Int) ∧ wr.ownsRow w.heap.size 5 1 v k (cellsB (bytesK u k)) ∧ Below w.heap.size w wr) (fun _ _ i _ => 8 - (intOf i).toNat)
  case atStart => exact ⟨0, by omega, rfl, by simp, World.ownsRow_nil _ _ _ _, Below.refl _ _⟩
  case round =>
    obtain ⟨k, hk, rfl, rfl, hown, hb⟩ := hrel
    by_cases hlt : k < 8
    · have hU : u / 256 ^ k < 18446744073709551616 := Nat.lt_of_le_of_lt (Nat.div_le_self _ _) hu
      have HD := Lib.hid (show u / 256 ^ (k + 1) = u / 256 ^ k / 256 by rw [Nat.div_div_eq_div_mul, Nat.pow_succ])
      have HS := Lib.hid (bytesK_succ u k)
      have HO := Lib.hid hown; clear hown
      generalize u / 256 ^ k = U at *
      go_wp2_with (at_builtin; refine wpList_append_own _ rfl _ _ 29 rfl w.heap.size 5 i0 (.int .u8 0) 1 1 Tryd.underlying29 HI.out HZ.out HZ1.out HZ2.out rfl (by decide) _ k (cellsB (bytesK u k)) rfl (HO.out.alloc _) ⟨wr.heap.size, 0, none⟩ 1 1 [.int .u8 ((U : Int) % 256)] rfl rfl (cell_one_new _ _ _) (by simp [Value.oneCell']) (by unfold maxLen; omega) (by omega) (by have := hb.size; simp; omega) ?_; intro v' w1 hown' hgrow _)
      have hb1 : Below w.heap.size w w1 := (hb.alloc hb.size _).grown hgrow (by have := hb.size; simp; omega) (fun g hg => (HO.out.lt g hg).1)
      have HO' := Lib.hid hown'; clear hown' hgrow
      go_wp2
      go_roundw
      case rel => exact ⟨k + 1, by omega, by go_num, by rw [HD.out]; go_num, by rw [HS.out, cellsB_snoc, ← byte_cell U (U : Int) rfl]; exact HO'.out, hb1⟩
      case measure => simp [intOf]; omega
    · obtain rfl : k = 8 := by omega
      rw [bytesK_le8] at hown
      have hcv := conv_own wr w.heap.size _ (le8 u) (by simp [le8, le4]) hown
      clear hown
      go_wp2
      go_ret
      exact ⟨rfl, hb⟩
end Go.Proofs.YtngdndkgmbcnpaaDoor
