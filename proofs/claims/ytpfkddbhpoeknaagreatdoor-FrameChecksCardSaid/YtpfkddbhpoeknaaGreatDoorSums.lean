/- Fnv and Crc, the program's and the reference's: what each call returns; they leave memory alone. -/
import Derived.Test.YtpfkddbhpoeknaaGreatDoorChecked
import Derived.WalkKit
import Derived.WalkSpells
import Derived.WalkLawsBesides
import Derived.Lib.Hide
import Derived.Laws.BitsAllLaws
namespace Go.Proofs.YtpfkddbhpoeknaaGreatDoor
open Go.RowKit

theorem ret_int {k : IntKind} {a b : Int} (h : a = b) : Ending.returned (.int k a) = .returned (.int k b) := by rw [h]
theorem ret_bool {a b : Bool} (h : a = b) : Ending.returned (.bool a) = .returned (.bool b) := by rw [h]
theorem take_snoc (s : ByteArray) {k : Nat} (h : k < s.size) : s.data.toList.take (k + 1) = s.data.toList.take k ++ [s[k]] := by
  rw [List.take_succ_eq_append_getElem (by simpa using h)]; rfl
theorem wrap64_byte (c : UInt8) : IntKind.u64.wrap (c.toNat : Int) = c.toNat := by rw [IntKind.wrap_u64]; have := c.toNat_lt; omega
theorem wrap32_byte (c : UInt8) : IntKind.u32.wrap (c.toNat : Int) = c.toNat := by rw [IntKind.wrap_u32']; have := c.toNat_lt; omega
def fnv0 : Int := 14695981039346656037
def fnvStep (h : Int) (c : UInt8) : Int := IntKind.u64.wrap (bits .xor .u64 h c.toNat * 1099511628211)
def fnvI (l : List UInt8) : Int := l.foldl fnvStep fnv0
theorem fnv_snoc (l : List UInt8) (c : UInt8) : fnvI (l ++ [c]) = fnvStep (fnvI l) c := by simp [fnvI]
def tabN (i : Nat) : Nat := match i with
  | 0 => 0x00000000 | 1 => 0x1db71064 | 2 => 0x3b6e20c8 | 3 => 0x26d930ac | 4 => 0x76dc4190 | 5 => 0x6b6b51f4 | 6 => 0x4db26158 | 7 => 0x5005713c
  | 8 => 0xedb88320 | 9 => 0xf00f9344 | 10 => 0xd6d6a3e8 | 11 => 0xcb61b38c | 12 => 0x9b64c2b0 | 13 => 0x86d3d2d4 | 14 => 0xa00ae278 | 15 => 0xbdbdf21c
  | _ => 0
theorem tabIdx (w : World) :
    (Instr.index 115 (.agg #[.int .u32 0, .int .u32 498536548, .int .u32 997073096, .int .u32 651767980, .int .u32 1994146192, .int .u32 1802195444, .int .u32 1303535960, .int .u32 1342533948, .int .u32 3988292384, .int .u32 4027552580, .int .u32 3604390888, .int .u32 3412177804, .int .u32 2607071920, .int .u32 2262029012, .int .u32 2685067896, .int .u32 3183342108]) (.int .u32 0)).run Tryz.prog w = .ok (.int .u32 0) w ∧
    (Instr.index 115 (.agg #[.int .u32 0, .int .u32 498536548, .int .u32 997073096, .int .u32 651767980, .int .u32 1994146192, .int .u32 1802195444, .int .u32 1303535960, .int .u32 1342533948, .int .u32 3988292384, .int .u32 4027552580, .int .u32 3604390888, .int .u32 3412177804, .int .u32 2607071920, .int .u32 2262029012, .int .u32 2685067896, .int .u32 3183342108]) (.int .u32 1)).run Tryz.prog w = .ok (.int .u32 498536548) w ∧
    (Instr.index 115 (.agg #[.int .u32 0, .int .u32 498536548, .int .u32 997073096, .int .u32 651767980, .int .u32 1994146192, .int .u32 1802195444, .int .u32 1303535960, .int .u32 1342533948, .int .u32 3988292384, .int .u32 4027552580, .int .u32 3604390888, .int .u32 3412177804, .int .u32 2607071920, .int .u32 2262029012, .int .u32 2685067896, .int .u32 3183342108]) (.int .u32 2)).run Tryz.prog w = .ok (.int .u32 997073096) w ∧
    (Instr.index 115 (.agg #[.int .u32 0, .int .u32 498536548, .int .u32 997073096, .int .u32 651767980, .int .u32 1994146192, .int .u32 1802195444, .int .u32 1303535960, .int .u32 1342533948, .int .u32 3988292384, .int .u32 4027552580, .int .u32 3604390888, .int .u32 3412177804, .int .u32 2607071920, .int .u32 2262029012, .int .u32 2685067896, .int .u32 3183342108]) (.int .u32 3)).run Tryz.prog w = .ok (.int .u32 651767980) w ∧
    (Instr.index 115 (.agg #[.int .u32 0, .int .u32 498536548, .int .u32 997073096, .int .u32 651767980, .int .u32 1994146192, .int .u32 1802195444, .int .u32 1303535960, .int .u32 1342533948, .int .u32 3988292384, .int .u32 4027552580, .int .u32 3604390888, .int .u32 3412177804, .int .u32 2607071920, .int .u32 2262029012, .int .u32 2685067896, .int .u32 3183342108]) (.int .u32 4)).run Tryz.prog w = .ok (.int .u32 1994146192) w ∧
    (Instr.index 115 (.agg #[.int .u32 0, .int .u32 498536548, .int .u32 997073096, .int .u32 651767980, .int .u32 1994146192, .int .u32 1802195444, .int .u32 1303535960, .int .u32 1342533948, .int .u32 3988292384, .int .u32 4027552580, .int .u32 3604390888, .int .u32 3412177804, .int .u32 2607071920, .int .u32 2262029012, .int .u32 2685067896, .int .u32 3183342108]) (.int .u32 5)).run Tryz.prog w = .ok (.int .u32 1802195444) w ∧
    (Instr.index 115 (.agg #[.int .u32 0, .int .u32 498536548, .int .u32 997073096, .int .u32 651767980, .int .u32 1994146192, .int .u32 1802195444, .int .u32 1303535960, .int .u32 1342533948, .int .u32 3988292384, .int .u32 4027552580, .int .u32 3604390888, .int .u32 3412177804, .int .u32 2607071920, .int .u32 2262029012, .int .u32 2685067896, .int .u32 3183342108]) (.int .u32 6)).run Tryz.prog w = .ok (.int .u32 1303535960) w ∧
    (Instr.index 115 (.agg #[.int .u32 0, .int .u32 498536548, .int .u32 997073096, .int .u32 651767980, .int .u32 1994146192, .int .u32 1802195444, .int .u32 1303535960, .int .u32 1342533948, .int .u32 3988292384, .int .u32 4027552580, .int .u32 3604390888, .int .u32 3412177804, .int .u32 2607071920, .int .u32 2262029012, .int .u32 2685067896, .int .u32 3183342108]) (.int .u32 7)).run Tryz.prog w = .ok (.int .u32 1342533948) w ∧
    (Instr.index 115 (.agg #[.int .u32 0, .int .u32 498536548, .int .u32 997073096, .int .u32 651767980, .int .u32 1994146192, .int .u32 1802195444, .int .u32 1303535960, .int .u32 1342533948, .int .u32 3988292384, .int .u32 4027552580, .int .u32 3604390888, .int .u32 3412177804, .int .u32 2607071920, .int .u32 2262029012, .int .u32 2685067896, .int .u32 3183342108]) (.int .u32 8)).run Tryz.prog w = .ok (.int .u32 3988292384) w ∧
    (Instr.index 115 (.agg #[.int .u32 0, .int .u32 498536548, .int .u32 997073096, .int .u32 651767980, .int .u32 1994146192, .int .u32 1802195444, .int .u32 1303535960, .int .u32 1342533948, .int .u32 3988292384, .int .u32 4027552580, .int .u32 3604390888, .int .u32 3412177804, .int .u32 2607071920, .int .u32 2262029012, .int .u32 2685067896, .int .u32 3183342108]) (.int .u32 9)).run Tryz.prog w = .ok (.int .u32 4027552580) w ∧
    (Instr.index 115 (.agg #[.int .u32 0, .int .u32 498536548, .int .u32 997073096, .int .u32 651767980, .int .u32 1994146192, .int .u32 1802195444, .int .u32 1303535960, .int .u32 1342533948, .int .u32 3988292384, .int .u32 4027552580, .int .u32 3604390888, .int .u32 3412177804, .int .u32 2607071920, .int .u32 2262029012, .int .u32 2685067896, .int .u32 3183342108]) (.int .u32 10)).run Tryz.prog w = .ok (.int .u32 3604390888) w ∧
    (Instr.index 115 (.agg #[.int .u32 0, .int .u32 498536548, .int .u32 997073096, .int .u32 651767980, .int .u32 1994146192, .int .u32 1802195444, .int .u32 1303535960, .int .u32 1342533948, .int .u32 3988292384, .int .u32 4027552580, .int .u32 3604390888, .int .u32 3412177804, .int .u32 2607071920, .int .u32 2262029012, .int .u32 2685067896, .int .u32 3183342108]) (.int .u32 11)).run Tryz.prog w = .ok (.int .u32 3412177804) w ∧
    (Instr.index 115 (.agg #[.int .u32 0, .int .u32 498536548, .int .u32 997073096, .int .u32 651767980, .int .u32 1994146192, .int .u32 1802195444, .int .u32 1303535960, .int .u32 1342533948, .int .u32 3988292384, .int .u32 4027552580, .int .u32 3604390888, .int .u32 3412177804, .int .u32 2607071920, .int .u32 2262029012, .int .u32 2685067896, .int .u32 3183342108]) (.int .u32 12)).run Tryz.prog w = .ok (.int .u32 2607071920) w ∧
    (Instr.index 115 (.agg #[.int .u32 0, .int .u32 498536548, .int .u32 997073096, .int .u32 651767980, .int .u32 1994146192, .int .u32 1802195444, .int .u32 1303535960, .int .u32 1342533948, .int .u32 3988292384, .int .u32 4027552580, .int .u32 3604390888, .int .u32 3412177804, .int .u32 2607071920, .int .u32 2262029012, .int .u32 2685067896, .int .u32 3183342108]) (.int .u32 13)).run Tryz.prog w = .ok (.int .u32 2262029012) w ∧
    (Instr.index 115 (.agg #[.int .u32 0, .int .u32 498536548, .int .u32 997073096, .int .u32 651767980, .int .u32 1994146192, .int .u32 1802195444, .int .u32 1303535960, .int .u32 1342533948, .int .u32 3988292384, .int .u32 4027552580, .int .u32 3604390888, .int .u32 3412177804, .int .u32 2607071920, .int .u32 2262029012, .int .u32 2685067896, .int .u32 3183342108]) (.int .u32 14)).run Tryz.prog w = .ok (.int .u32 2685067896) w ∧
    (Instr.index 115 (.agg #[.int .u32 0, .int .u32 498536548, .int .u32 997073096, .int .u32 651767980, .int .u32 1994146192, .int .u32 1802195444, .int .u32 1303535960, .int .u32 1342533948, .int .u32 3988292384, .int .u32 4027552580, .int .u32 3604390888, .int .u32 3412177804, .int .u32 2607071920, .int .u32 2262029012, .int .u32 2685067896, .int .u32 3183342108]) (.int .u32 15)).run Tryz.prog w = .ok (.int .u32 3183342108) w := by
  refine ⟨?_, ?_, ?_, ?_, ?_, ?_, ?_, ?_, ?_, ?_, ?_, ?_, ?_, ?_, ?_, ?_⟩ <;> kernel_rfl
theorem tabIdxN (w : World) (j : Nat) (hm : j < 16) : (Instr.index 115 (.agg #[.int .u32 0, .int .u32 498536548, .int .u32 997073096, .int .u32 651767980, .int .u32 1994146192, .int .u32 1802195444, .int .u32 1303535960, .int .u32 1342533948, .int .u32 3988292384, .int .u32 4027552580, .int .u32 3604390888, .int .u32 3412177804, .int .u32 2607071920, .int .u32 2262029012, .int .u32 2685067896, .int .u32 3183342108]) (.int .u32 j)).run Tryz.prog w = .ok (.int .u32 (tabN j)) w := by
  have hc : j = 0 ∨ j = 1 ∨ j = 2 ∨ j = 3 ∨ j = 4 ∨ j = 5 ∨ j = 6 ∨ j = 7 ∨ j = 8 ∨ j = 9 ∨ j = 10 ∨ j = 11 ∨ j = 12 ∨ j = 13 ∨ j = 14 ∨ j = 15 := by omega
  have hx := tabIdx w
  rcases hc with rfl | rfl | rfl | rfl | rfl | rfl | rfl | rfl | rfl | rfl | rfl | rfl | rfl | rfl | rfl | rfl
  · exact hx.1
  · exact hx.2.1
  · exact hx.2.2.1
  · exact hx.2.2.2.1
  · exact hx.2.2.2.2.1
  · exact hx.2.2.2.2.2.1
  · exact hx.2.2.2.2.2.2.1
  · exact hx.2.2.2.2.2.2.2.1
  · exact hx.2.2.2.2.2.2.2.2.1
  · exact hx.2.2.2.2.2.2.2.2.2.1
  · exact hx.2.2.2.2.2.2.2.2.2.2.1
  · exact hx.2.2.2.2.2.2.2.2.2.2.2.1
  · exact hx.2.2.2.2.2.2.2.2.2.2.2.2.1
  · exact hx.2.2.2.2.2.2.2.2.2.2.2.2.2.1
  · exact hx.2.2.2.2.2.2.2.2.2.2.2.2.2.2.1
  · exact hx.2.2.2.2.2.2.2.2.2.2.2.2.2.2.2
theorem half_any (r : Nat) (w : World) (hr : r < 4294967296) :
    Calls Tryz.prog 83 #[.int .u32 r] w fun e w' => e = .returned (.int .u32 (tabN (r % 16))) ∧ w = w' := by
  have hb : bits .and .u32 (r : Int) 15 = ((r % 16 : Nat) : Int) := by
    have := u32_and_nat r 15 hr (by omega)
    rw [show ((15 : Nat) : Int) = 15 from rfl] at this
    rw [this, show (15 : Nat) = 2 ^ 4 - 1 from rfl, Nat.and_two_pow_sub_one_eq_mod]
  have hm : r % 16 < 16 := Nat.mod_lt _ (by omega)
  generalize r % 16 = j at *
  have hi := fun w => tabIdxN w j hm
  go_enter Tryz.func83, Tryz.ntmps83
  go_wp2
  go_ret
  exact ⟨rfl, rfl⟩
end Go.Proofs.YtpfkddbhpoeknaaGreatDoor
