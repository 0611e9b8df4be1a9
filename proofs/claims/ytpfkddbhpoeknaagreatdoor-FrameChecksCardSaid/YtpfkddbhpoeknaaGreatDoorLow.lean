/- low: the lowest bytes of a number, the least significant first. -/
import Derived.Test.YtpfkddbhpoeknaaGreatDoorBitLaw
import Derived.Test.YtpfkddbhpoeknaaGreatDoorOwn
import Derived.WalkSmall
import Derived.Below
namespace Go.Proofs.YtpfkddbhpoeknaaGreatDoor
open Go.RowKit

def le4 (u : Nat) : List UInt8 := [UInt8.ofNat u, UInt8.ofNat (u / 256), UInt8.ofNat (u / 65536), UInt8.ofNat (u / 16777216)]
def le8 (u : Nat) : List UInt8 := le4 u ++ le4 (u / 4294967296)
theorem conv_new (W : World) (C : Array Value) (l : List UInt8) (n cap : Nat) (hn : n = l.length) (hC : ∀ j (hj : j < l.length), C[j]? = some (.int .u8 (l[j].toNat : Int))) :
    (convert 49 9 (.slice (some ⟨W.heap.size, 0, none⟩) n cap)).run Tryz.prog (W.alloc (.cells C 5)) = .ok (.string ⟨l.toArray⟩) (W.alloc (.cells C 5)) := by
  subst hn
  refine run_convert_bytes_back _ _ _ _ _ _ l Tryz.underlying49 Tryz.underlying5 Tryz.underlying9 fun j hj => ?_
  have : (⟨W.heap.size, 0, none⟩ : Addr).add j = ⟨W.heap.size, j, none⟩ := by unfold Addr.add; split <;> simp_all
  rw [this, World.cell?_alloc_mark]
  exact hC j hj
theorem low4_any (u : Nat) (w : World) :
    Calls Tryz.prog 61 #[.int .u64 u, .int .i64 4] w fun e w' => e = .returned (.string ⟨(le4 u).toArray⟩) ∧ Below w.heap.size w w' := by
  have hmk : ∀ w, (Instr.makeSlice 49 (.int .i64 4) (.int .i64 4)).run Tryz.prog w = .ok (.slice (some ⟨w.heap.size, 0, none⟩) 4 4) (w.alloc (.cells #[.int .u8 0, .int .u8 0, .int .u8 0, .int .u8 0] 5)) := fun _ => by kernel_rfl
  have hcv := conv_new w #[.int .u8 ((u : Int) % 256), .int .u8 ((u : Int) / 256 % 256), .int .u8 ((u : Int) / 65536 % 256), .int .u8 ((u : Int) / 16777216 % 256)] (le4 u) 4 4 rfl (by
    intro j hj
    have hj4 : j < 4 := hj
    have hc : j = 0 ∨ j = 1 ∨ j = 2 ∨ j = 3 := by omega
    rcases hc with rfl | rfl | rfl | rfl <;> simp [le4] <;> omega)
  go_enter Tryz.func61, Tryz.ntmps61
  go_wp2
  refine wp_loop_rounds 5 ?_
  iterate 5 (rw [rounds_succ]; go_wp2)
  go_ret
  exact ⟨rfl, (Below.refl _ _).alloc (Nat.le_refl _) _⟩
set_option maxRecDepth 100000 in
set_option maxHeartbeats 1000000 in
theorem low8_any (u : Nat) (w : World) :
    Calls Tryz.prog 61 #[.int .u64 u, .int .i64 8] w fun e w' => e = .returned (.string ⟨(le8 u).toArray⟩) ∧ Below w.heap.size w w' := by
  have hmk : ∀ w, (Instr.makeSlice 49 (.int .i64 8) (.int .i64 8)).run Tryz.prog w = .ok (.slice (some ⟨w.heap.size, 0, none⟩) 8 8) (w.alloc (.cells #[.int .u8 0, .int .u8 0, .int .u8 0, .int .u8 0, .int .u8 0, .int .u8 0, .int .u8 0, .int .u8 0] 5)) := fun _ => by kernel_rfl
  have hcv := conv_new w #[.int .u8 ((u : Int) % 256), .int .u8 ((u : Int) / 256 % 256), .int .u8 ((u : Int) / 65536 % 256), .int .u8 ((u : Int) / 16777216 % 256),
      .int .u8 ((u : Int) / 4294967296 % 256), .int .u8 ((u : Int) / 1099511627776 % 256), .int .u8 ((u : Int) / 281474976710656 % 256), .int .u8 ((u : Int) / 72057594037927936 % 256)] (le8 u) 8 8 rfl (by
    intro j hj
    have hj4 : j < 8 := hj
    have hc : j = 0 ∨ j = 1 ∨ j = 2 ∨ j = 3 ∨ j = 4 ∨ j = 5 ∨ j = 6 ∨ j = 7 := by omega
    rcases hc with rfl | rfl | rfl | rfl | rfl | rfl | rfl | rfl <;> simp [le8, le4] <;> omega)
  go_enter Tryz.func61, Tryz.ntmps61
  go_wp2
  refine wp_loop_rounds 9 ?_
  iterate 9 (rw [rounds_succ]; go_wp2)
  go_ret
  exact ⟨rfl, (Below.refl _ _).alloc (Nat.le_refl _) _⟩
end Go.Proofs.YtpfkddbhpoeknaaGreatDoor
