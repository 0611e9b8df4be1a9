/- Texts of this claim merged into one: KTabY, KMoreY, KNx. -/
import Derived.Test.YtklcfjlmlbnkaaaGreatDoorKSyw
import Derived.Test.YtklcfjlmlbnkaaaGreatDoorChecked
import Derived.LoopN
namespace Go.Proofs.YtklcfjlmlbnkaaaGreatDoor.Y
open Go.RowKit
def tab : eo := [(2, .int .i64 (.int .i64 0)),
  (3, .int .i64 (.int .i64 0)),
  (4, .bool (.bool false)),
  (5, .int .u8 (.int .u8 0)),
  (9, .str (.string ⟨#[]⟩)),
  (12, .int .u64 (.int .u64 0)),
  (21, .int .i32 (.int .i32 0)),
  (46, .int .i64 (.int .i64 0)),
  (116, .int .u64 (.int .u64 0)),
  (143, .int .u64 (.int .u64 0)),
  (196, .int .u32 (.int .u32 0)),
  (26, .row 6 [.int .i64 0, .slice none 0 0, .int .i64 0, .slice none 0 0, .int .i64 0, .bool false] [(0, 3), (1, 24), (2, 3), (3, 24), (4, 3), (5, 4)]),
  (29, .row 3 [.int .i64 0, .int .i64 0, .int .i64 0] [(0, 3), (1, 3), (2, 3)]),
  (34, .row 15 [.int .i64 0, .int .i64 0, .int .i64 0, .int .i64 0, .int .i64 0, .int .i64 0, .int .i64 0, .int .i64 0, .int .i64 0, .int .i64 0, .int .i64 0, .slice none 0 0, .slice none 0 0, .slice none 0 0, .bool false] [(0, 3), (1, 3), (2, 3), (3, 3), (4, 3), (5, 29), (8, 29), (11, 30), (12, 31), (13, 32), (14, 4)]),
  (36, .row 48 [.int .i64 0, .slice none 0 0, .int .i64 0, .slice none 0 0, .int .i64 0, .bool false, .int .i64 0, .slice none 0 0, .int .i64 0, .slice none 0 0, .int .i64 0, .bool false, .slice none 0 0, .string ⟨#[]⟩, .string ⟨#[]⟩, .int .i64 0, .int .i64 0, .int .i64 0, .int .i64 0, .int .i64 0, .int .i64 0, .int .i64 0, .int .i64 0, .int .i64 0, .int .i64 0, .int .i64 0, .slice none 0 0, .slice none 0 0, .slice none 0 0, .bool false, .int .i64 0, .int .i64 0, .int .i64 0, .int .i64 0, .int .i64 0, .int .i64 0, .int .i64 0, .int .i64 0, .int .i64 0, .int .i64 0, .int .i64 0, .slice none 0 0, .slice none 0 0, .slice none 0 0, .bool false, .int .i64 0, .int .i64 0, .slice none 0 0] [(0, 27), (12, 24), (13, 9), (14, 9), (15, 34), (30, 34), (45, 3), (46, 3), (47, 22)]),
  (42, .row 2 [.int .i64 0, .int .i64 0] [(0, 3), (1, 3)]),
  (54, .row 4 [.string ⟨#[]⟩, .string ⟨#[]⟩, .int .i64 0, .slice none 0 0] [(0, 9), (1, 9), (2, 3), (3, 52)]),
  (58, .row 3 [.int .i64 0, .int .i64 0, .string ⟨#[]⟩] [(0, 3), (1, 3), (2, 9)]),
  (74, .row 4 [.int .i64 0, .int .i64 0, .int .i64 0, .string ⟨#[]⟩] [(0, 3), (1, 3), (2, 3), (3, 9)]),
  (77, .row 2 [.int .i64 0, .string ⟨#[]⟩] [(0, 3), (1, 9)]),
  (79, .row 16 [.int .i64 0, .int .i64 0, .int .i64 0, .int .i64 0, .int .i64 0, .bool false, .bool false, .bool false, .int .i64 0, .string ⟨#[]⟩, .int .i64 0, .int .i64 0, .int .i64 0, .int .i64 0, .int .i64 0, .int .i64 0] [(0, 3), (1, 3), (2, 3), (3, 3), (4, 3), (5, 4), (6, 4), (7, 4), (8, 77), (10, 29), (13, 29)]),
  (85, .row 2 [.string ⟨#[]⟩, .string ⟨#[]⟩] [(0, 9), (1, 9)]),
  (87, .row 22 [.int .i64 0, .int .i64 0, .int .i64 0, .int .i64 0, .int .i64 0, .bool false, .bool false, .bool false, .int .i64 0, .string ⟨#[]⟩, .int .i64 0, .int .i64 0, .int .i64 0, .int .i64 0, .int .i64 0, .int .i64 0, .string ⟨#[]⟩, .string ⟨#[]⟩, .int .i64 0, .slice none 0 0, .slice none 0 0, .slice none 0 0] [(0, 79), (16, 54), (20, 22), (21, 31)]),
  (109, .row 2 [.pointer none, .slice none 0 0] [(0, 106), (1, 107)]),
  (148, .row 2 [.string ⟨#[]⟩, .int .i64 0] [(0, 9), (1, 46)]),
  (158, .row 20 [.int .i64 0, .int .i64 0, .int .i64 0, .int .i64 0, .int .i64 0, .bool false, .bool false, .bool false, .int .i64 0, .string ⟨#[]⟩, .int .i64 0, .int .i64 0, .int .i64 0, .int .i64 0, .int .i64 0, .int .i64 0, .int .i64 0, .int .i64 0, .int .i64 0, .int .i64 0] [(0, 79), (16, 3), (17, 3), (18, 3), (19, 3)]),
  (194, .row 3 [.int .i64 0, .int .i64 0, .int .i64 0] [(0, 29)]),
  (15, .ptr 213 (.pointer none)),
  (16, .ptr 216 (.pointer none)),
  (17, .ptr 223 (.pointer none)),
  (22, .slc 9 (.slice none 0 0)),
  (23, .slc 42 (.slice none 0 0)),
  (24, .slc 58 (.slice none 0 0)),
  (30, .slc 87 (.slice none 0 0)),
  (31, .slc 74 (.slice none 0 0)),
  (32, .slc 3 (.slice none 0 0)),
  (52, .slc 85 (.slice none 0 0)),
  (55, .ptr 36 (.pointer none)),
  (106, .ptr 109 (.pointer none)),
  (107, .slc 5 (.slice none 0 0)),
  (124, .ptr 87 (.pointer none)),
  (132, .ptr 34 (.pointer none)),
  (138, .ptr 29 (.pointer none)),
  (144, .ptr 5 (.pointer none)),
  (146, .ptr 148 (.pointer none)),
  (180, .ptr 194 (.pointer none)),
  (27, .arr 12 [.int .i64 0, .slice none 0 0, .int .i64 0, .slice none 0 0, .int .i64 0, .bool false, .int .i64 0, .slice none 0 0, .int .i64 0, .slice none 0 0, .int .i64 0, .bool false] 2 26),
  (164, .arr 3 [.int .u64 0, .int .u64 0, .int .u64 0] 3 116),
  (201, .arr 16 [.int .u32 0, .int .u32 0, .int .u32 0, .int .u32 0, .int .u32 0, .int .u32 0, .int .u32 0, .int .u32 0, .int .u32 0, .int .u32 0, .int .u32 0, .int .u32 0, .int .u32 0, .int .u32 0, .int .u32 0, .int .u32 0] 16 196),
  (206, .arr 256 [.int .u8 0, .int .u8 0, .int .u8 0, .int .u8 0, .int .u8 0, .int .u8 0, .int .u8 0, .int .u8 0, .int .u8 0, .int .u8 0, .int .u8 0, .int .u8 0, .int .u8 0, .int .u8 0, .int .u8 0, .int .u8 0, .int .u8 0, .int .u8 0, .int .u8 0, .int .u8 0, .int .u8 0, .int .u8 0, .int .u8 0, .int .u8 0, .int .u8 0, .int .u8 0, .int .u8 0, .int .u8 0, .int .u8 0, .int .u8 0, .int .u8 0, .int .u8 0, .int .u8 0, .int .u8 0, .int .u8 0, .int .u8 0, .int .u8 0, .int .u8 0, .int .u8 0, .int .u8 0, .int .u8 0, .int .u8 0, .int .u8 0, .int .u8 0, .int .u8 0, .int .u8 0, .int .u8 0, .int .u8 0, .int .u8 0, .int .u8 0, .int .u8 0, .int .u8 0, .int .u8 0, .int .u8 0, .int .u8 0, .int .u8 0, .int .u8 0, .int .u8 0, .int .u8 0, .int .u8 0, .int .u8 0, .int .u8 0, .int .u8 0, .int .u8 0, .int .u8 0, .int .u8 0, .int .u8 0, .int .u8 0, .int .u8 0, .int .u8 0, .int .u8 0, .int .u8 0, .int .u8 0, .int .u8 0, .int .u8 0, .int .u8 0, .int .u8 0, .int .u8 0, .int .u8 0, .int .u8 0, .int .u8 0, .int .u8 0, .int .u8 0, .int .u8 0, .int .u8 0, .int .u8 0, .int .u8 0, .int .u8 0, .int .u8 0, .int .u8 0, .int .u8 0, .int .u8 0, .int .u8 0, .int .u8 0, .int .u8 0, .int .u8 0, .int .u8 0, .int .u8 0, .int .u8 0, .int .u8 0, .int .u8 0, .int .u8 0, .int .u8 0, .int .u8 0, .int .u8 0, .int .u8 0, .int .u8 0, .int .u8 0, .int .u8 0, .int .u8 0, .int .u8 0, .int .u8 0, .int .u8 0, .int .u8 0, .int .u8 0, .int .u8 0, .int .u8 0, .int .u8 0, .int .u8 0, .int .u8 0, .int .u8 0, .int .u8 0, .int .u8 0, .int .u8 0, .int .u8 0, .int .u8 0, .int .u8 0, .int .u8 0, .int .u8 0, .int .u8 0, .int .u8 0, .int .u8 0, .int .u8 0, .int .u8 0, .int .u8 0, .int .u8 0, .int .u8 0, .int .u8 0, .int .u8 0, .int .u8 0, .int .u8 0, .int .u8 0, .int .u8 0, .int .u8 0, .int .u8 0, .int .u8 0, .int .u8 0, .int .u8 0, .int .u8 0, .int .u8 0, .int .u8 0, .int .u8 0, .int .u8 0, .int .u8 0, .int .u8 0, .int .u8 0, .int .u8 0, .int .u8 0, .int .u8 0, .int .u8 0, .int .u8 0, .int .u8 0, .int .u8 0, .int .u8 0, .int .u8 0, .int .u8 0, .int .u8 0, .int .u8 0, .int .u8 0, .int .u8 0, .int .u8 0, .int .u8 0, .int .u8 0, .int .u8 0, .int .u8 0, .int .u8 0, .int .u8 0, .int .u8 0, .int .u8 0, .int .u8 0, .int .u8 0, .int .u8 0, .int .u8 0, .int .u8 0, .int .u8 0, .int .u8 0, .int .u8 0, .int .u8 0, .int .u8 0, .int .u8 0, .int .u8 0, .int .u8 0, .int .u8 0, .int .u8 0, .int .u8 0, .int .u8 0, .int .u8 0, .int .u8 0, .int .u8 0, .int .u8 0, .int .u8 0, .int .u8 0, .int .u8 0, .int .u8 0, .int .u8 0, .int .u8 0, .int .u8 0, .int .u8 0, .int .u8 0, .int .u8 0, .int .u8 0, .int .u8 0, .int .u8 0, .int .u8 0, .int .u8 0, .int .u8 0, .int .u8 0, .int .u8 0, .int .u8 0, .int .u8 0, .int .u8 0, .int .u8 0, .int .u8 0, .int .u8 0, .int .u8 0, .int .u8 0, .int .u8 0, .int .u8 0, .int .u8 0, .int .u8 0, .int .u8 0, .int .u8 0, .int .u8 0, .int .u8 0, .int .u8 0, .int .u8 0, .int .u8 0, .int .u8 0, .int .u8 0, .int .u8 0, .int .u8 0, .int .u8 0, .int .u8 0, .int .u8 0, .int .u8 0, .int .u8 0, .int .u8 0, .int .u8 0, .int .u8 0, .int .u8 0, .int .u8 0, .int .u8 0, .int .u8 0, .int .u8 0, .int .u8 0, .int .u8 0] 256 5),
  (209, .arr 32 [.int .u8 0, .int .u8 0, .int .u8 0, .int .u8 0, .int .u8 0, .int .u8 0, .int .u8 0, .int .u8 0, .int .u8 0, .int .u8 0, .int .u8 0, .int .u8 0, .int .u8 0, .int .u8 0, .int .u8 0, .int .u8 0, .int .u8 0, .int .u8 0, .int .u8 0, .int .u8 0, .int .u8 0, .int .u8 0, .int .u8 0, .int .u8 0, .int .u8 0, .int .u8 0, .int .u8 0, .int .u8 0, .int .u8 0, .int .u8 0, .int .u8 0, .int .u8 0] 16 208),
  (7, .row 4 [.int .i64 0, .int .i64 0, .bool false, .int .u8 0] [(0, 2), (1, 3), (2, 4), (3, 6)]),
  (13, .row 2 [.string ⟨#[]⟩, .int .u64 0] [(0, 9), (1, 12)]),
  (18, .row 1 [.pointer none] [(0, 17)]),
  (25, .row 6 [.int .i64 0, .slice none 0 0, .int .i64 0, .slice none 0 0, .int .i64 0, .bool false] [(0, 3), (1, 24), (2, 3), (3, 24), (4, 3), (5, 4)]),
  (28, .row 3 [.int .i64 0, .int .i64 0, .int .i64 0] [(0, 3), (1, 3), (2, 3)]),
  (33, .row 15 [.int .i64 0, .int .i64 0, .int .i64 0, .int .i64 0, .int .i64 0, .int .i64 0, .int .i64 0, .int .i64 0, .int .i64 0, .int .i64 0, .int .i64 0, .slice none 0 0, .slice none 0 0, .slice none 0 0, .bool false] [(0, 3), (1, 3), (2, 3), (3, 3), (4, 3), (5, 29), (8, 29), (11, 30), (12, 31), (13, 32), (14, 4)]),
  (35, .row 48 [.int .i64 0, .slice none 0 0, .int .i64 0, .slice none 0 0, .int .i64 0, .bool false, .int .i64 0, .slice none 0 0, .int .i64 0, .slice none 0 0, .int .i64 0, .bool false, .slice none 0 0, .string ⟨#[]⟩, .string ⟨#[]⟩, .int .i64 0, .int .i64 0, .int .i64 0, .int .i64 0, .int .i64 0, .int .i64 0, .int .i64 0, .int .i64 0, .int .i64 0, .int .i64 0, .int .i64 0, .slice none 0 0, .slice none 0 0, .slice none 0 0, .bool false, .int .i64 0, .int .i64 0, .int .i64 0, .int .i64 0, .int .i64 0, .int .i64 0, .int .i64 0, .int .i64 0, .int .i64 0, .int .i64 0, .int .i64 0, .slice none 0 0, .slice none 0 0, .slice none 0 0, .bool false, .int .i64 0, .int .i64 0, .slice none 0 0] [(0, 27), (12, 24), (13, 9), (14, 9), (15, 34), (30, 34), (45, 3), (46, 3), (47, 22)]),
  (41, .row 2 [.int .i64 0, .int .i64 0] [(0, 3), (1, 3)]),
  (53, .row 4 [.string ⟨#[]⟩, .string ⟨#[]⟩, .int .i64 0, .slice none 0 0] [(0, 9), (1, 9), (2, 3), (3, 52)]),
  (57, .row 3 [.int .i64 0, .int .i64 0, .string ⟨#[]⟩] [(0, 3), (1, 3), (2, 9)]),
  (73, .row 4 [.int .i64 0, .int .i64 0, .int .i64 0, .string ⟨#[]⟩] [(0, 3), (1, 3), (2, 3), (3, 9)]),
  (76, .row 2 [.int .i64 0, .string ⟨#[]⟩] [(0, 3), (1, 9)]),
  (78, .row 16 [.int .i64 0, .int .i64 0, .int .i64 0, .int .i64 0, .int .i64 0, .bool false, .bool false, .bool false, .int .i64 0, .string ⟨#[]⟩, .int .i64 0, .int .i64 0, .int .i64 0, .int .i64 0, .int .i64 0, .int .i64 0] [(0, 3), (1, 3), (2, 3), (3, 3), (4, 3), (5, 4), (6, 4), (7, 4), (8, 77), (10, 29), (13, 29)]),
  (84, .row 2 [.string ⟨#[]⟩, .string ⟨#[]⟩] [(0, 9), (1, 9)]),
  (86, .row 22 [.int .i64 0, .int .i64 0, .int .i64 0, .int .i64 0, .int .i64 0, .bool false, .bool false, .bool false, .int .i64 0, .string ⟨#[]⟩, .int .i64 0, .int .i64 0, .int .i64 0, .int .i64 0, .int .i64 0, .int .i64 0, .string ⟨#[]⟩, .string ⟨#[]⟩, .int .i64 0, .slice none 0 0, .slice none 0 0, .slice none 0 0] [(0, 79), (16, 54), (20, 22), (21, 31)]),
  (108, .row 2 [.pointer none, .slice none 0 0] [(0, 106), (1, 107)]),
  (147, .row 2 [.string ⟨#[]⟩, .int .i64 0] [(0, 9), (1, 46)]),
  (157, .row 20 [.int .i64 0, .int .i64 0, .int .i64 0, .int .i64 0, .int .i64 0, .bool false, .bool false, .bool false, .int .i64 0, .string ⟨#[]⟩, .int .i64 0, .int .i64 0, .int .i64 0, .int .i64 0, .int .i64 0, .int .i64 0, .int .i64 0, .int .i64 0, .int .i64 0, .int .i64 0] [(0, 79), (16, 3), (17, 3), (18, 3), (19, 3)]),
  (193, .row 3 [.int .i64 0, .int .i64 0, .int .i64 0] [(0, 29)]),
  (207, .row 2 [.int .u8 0, .int .u8 0] [(0, 5), (1, 5)]),
  (212, .row 4 [.pointer none, .pointer none, .pointer none, .string ⟨#[]⟩] [(0, 17), (1, 17), (2, 17), (3, 9)]),
  (222, .row 11 [.int .u64 0, .int .u64 0, .int .u32 0, .int .u8 0, .int .u8 0, .int .u8 0, .int .u8 0, .nilFunc, .pointer none, .int .i32 0, .int .i32 0] [(0, 12), (1, 12), (2, 196), (3, 217), (4, 5), (5, 5), (6, 218), (7, 219), (8, 144), (9, 220), (10, 221)]),
  (20, .one (.nilIface)),
  (69, .one (.map none)),
  (110, .one (.nilIface)),
  (6, .int .u8 (.int .u8 0)),
  (10, .str (.string ⟨#[]⟩)),
  (11, .str (.string ⟨#[]⟩)),
  (217, .int .u8 (.int .u8 0)),
  (218, .int .u8 (.int .u8 0)),
  (220, .int .i32 (.int .i32 0)),
  (221, .int .i32 (.int .i32 0))]
theorem af : TOK Tryz.prog tab := show tab.map (fun e => jR Tryz.prog e.1) = tab.map (fun e => some e.2) by kernel_rfl
def eqE : List TypeId := [29, 42, 58, 74, 77, 79, 85, 148, 158, 194]
theorem iI : eqE.all (AA Tryz.prog) = true := by kernel_rfl
theorem am : Tryz.prog.follows .mixedOrders = true := by kernel_rfl
end Go.Proofs.YtklcfjlmlbnkaaaGreatDoor.Y
namespace Go.Proofs.YtklcfjlmlbnkaaaGreatDoor.Y
open Go.RowKit
section
variable {P : Program} {Q : Exit → Act → World → Prop} {n : Nat} {w0 : World} {S : bq} {M : List Ent}
structure JO (P : Program) (c : Code) (Q : Exit → Act → World → Prop) (k n : Nat) (w0 : World) (S : bq) (M : List Ent) : Prop where
  run : ∀ a w, Sl n a S → Mem w0 w M → Code.rounds P c Q k a w
end
section
variable {P : Program} {T : eo} {w0 : World} {S : bq} {M : List Ent} {L : Cd} {o : Oper}
end
end Go.Proofs.YtklcfjlmlbnkaaaGreatDoor.Y
namespace Go.Proofs.YtklcfjlmlbnkaaaGreatDoor.Y
open Go.RowKit
theorem vv {a : Prop} (h : a := by first | exact aI af J J J J | exact bw af J J J J J J | exact ew J J J J J | exact eF J J J J J | exact ab af 0 J J J J J | exact ab af 1 J J J J J | exact ab af 2 J J J J J | exact ab af 3 J J J J J | exact ab af 4 J J J J J | exact ab af 5 J J J J J | exact ab af 6 J J J J J | exact ab af 7 J J J J J | exact ab af 8 J J J J J | exact ab af 9 J J J J J | exact gQ af iI J J J J J J (by kernel_rfl) | exact iG af iI J J J J J J (by kernel_rfl) | exact fi af J J J J J J J | exact fO J J J J J | exact iF J J J J J | exact lp J J J J J J J | exact aj af J J trivial J J J | exact aj af J J ⟨J, trivial⟩ J J J | exact aj af J J ⟨J, J, trivial⟩ J J J | exact aj af J J ⟨J, J, J, trivial⟩ J J J | exact aj af J J ⟨J, J, J, J, trivial⟩ J J J | exact aj af J J ⟨J, J, J, J, J, trivial⟩ J J J | exact aj af J J ⟨J, J, J, J, J, J, trivial⟩ J J J | exact aj af J J ⟨J, J, J, J, J, J, J, trivial⟩ J J J) : a := h
theorem nx {a b : Prop} (h : b) (r : b → a := by first | exact bc | exact aH | exact co | exact bB | exact cL | exact cJ | exact lZ | exact xr | exact bk | exact mb | exact fu | exact jx | exact oF | exact nH rfl | exact dZ rfl vv J J | exact aC af 0 J J J J J J J J J J J J | exact aC af 1 J J J J J J J J J J J J | exact aC af 2 J J J J J J J J J J J J | exact aC af 3 J J J J J J J J J J J J | exact aC af 4 J J J J J J J J J J J J | exact aC af 5 J J J J J J J J J J J J | exact aC af 6 J J J J J J J J J J J J | exact aC af 7 J J J J J J J J J J J J | exact aC af 8 J J J J J J J J J J J J | exact aC af 9 J J J J J J J J J J J J) : a := r h
theorem cV {a b : Prop} (h : b) (r : b → a := by first | exact aH | exact co | exact bB | exact cL | exact cJ | exact lZ | exact xr | exact bk | exact mb | exact fu | exact jx | exact oF | exact nH rfl | exact dZ rfl vv J J | exact aC af 0 J J J J J J J J J J J J | exact aC af 1 J J J J J J J J J J J J | exact aC af 2 J J J J J J J J J J J J | exact aC af 3 J J J J J J J J J J J J | exact aC af 4 J J J J J J J J J J J J | exact aC af 5 J J J J J J J J J J J J | exact aC af 6 J J J J J J J J J J J J | exact aC af 7 J J J J J J J J J J J J | exact aC af 8 J J J J J J J J J J J J | exact aC af 9 J J J J J J J J J J J J) : a := r h
theorem ny {a b : Prop} (h : b) (r : b → a := by first | exact aL am rfl (by kernel_rfl) | exact bW | exact bC | exact bY af J J J J J J | exact iH J J J J J J | exact di rfl vv J J J) : a := r h
theorem rt {a b : Prop} (h : b) (r : b → a := by first | exact aO af (fun _ => 0) J J trivial rfl | exact aO af (fun _ => 0) J J ⟨J, trivial⟩ rfl | exact aO af (fun _ => 1) J J ⟨J, trivial⟩ rfl | exact aO af (fun _ => 2) J J ⟨J, trivial⟩ rfl | exact aO af (fun _ => 3) J J ⟨J, trivial⟩ rfl | exact aO af (fun _ => 4) J J ⟨J, trivial⟩ rfl | exact aO af (fun _ => 5) J J ⟨J, trivial⟩ rfl | exact aO af (fun _ => 6) J J ⟨J, trivial⟩ rfl | exact aO af (fun _ => 7) J J ⟨J, trivial⟩ rfl | exact aO af (fun _ => 8) J J ⟨J, trivial⟩ rfl | exact aO af (fun _ => 9) J J ⟨J, trivial⟩ rfl | exact aO af (fun _ => 10) J J ⟨J, trivial⟩ rfl | exact aO af (fun _ => 11) J J ⟨J, trivial⟩ rfl | exact bJ af (fun _ => 0) J J trivial rfl | exact bJ af (fun _ => 0) J J ⟨J, trivial⟩ rfl | exact bJ af (fun _ => 1) J J ⟨J, trivial⟩ rfl | exact bJ af (fun _ => 2) J J ⟨J, trivial⟩ rfl | exact bJ af (fun _ => 3) J J ⟨J, trivial⟩ rfl | exact bJ af (fun _ => 4) J J ⟨J, trivial⟩ rfl | exact bJ af (fun _ => 5) J J ⟨J, trivial⟩ rfl | exact bJ af (fun _ => 6) J J ⟨J, trivial⟩ rfl | exact bJ af (fun _ => 7) J J ⟨J, trivial⟩ rfl | exact bJ af (fun _ => 8) J J ⟨J, trivial⟩ rfl | exact bJ af (fun _ => 9) J J ⟨J, trivial⟩ rfl | exact bJ af (fun _ => 10) J J ⟨J, trivial⟩ rfl | exact bJ af (fun _ => 11) J J ⟨J, trivial⟩ rfl) : a := r h
theorem al {a b : Prop} (h : b) (r : b → a := by exact dM af J J J J J J) : a := r h
theorem bx {a b : Prop} (h : b) (r : b → a := by exact eG J J J J J J) : a := r h
section
variable {l0 rest : List Oper} {Q : Exit → Act → World → Prop} {n : Nat} {w0 : World} {S : bq} {M : List Ent} {L L1 L2 L3 : Cd} {o : Oper} {d : Nat} {v : Value}
theorem vx (hg : gd l0 S o.guard = some L) (hv : VO Tryz.prog w0 S M L o v) (h : SL Tryz.prog l0 Q rest n w0 ((d, L, v) :: S) M) (hd : o.dst = some d := by exact rfl) (hn : Nat.blt d n = true := by exact rfl) : SL Tryz.prog l0 Q (o :: rest) n w0 S M := dZ hg hv hd hn h
theorem cl {f : FuncId} {args : List Value} (hc : ∀ w, Mem w0 w M → Calls Tryz.prog f ⟨args⟩ w fun e w' => e = .returned v ∧ Below w.heap.size w w') (h : SL Tryz.prog l0 Q rest n w0 ((d, L, v) :: S) M) (hg : gd l0 S o.guard = some L := by exact rfl) (ho : dd Tryz.prog S L o f args := by first | exact ap J J J J trivial rfl (by kernel_rfl) | exact ap J J J J ⟨J, trivial⟩ rfl (by kernel_rfl) | exact ap J J J J ⟨J, J, trivial⟩ rfl (by kernel_rfl) | exact ap J J J J ⟨J, J, J, trivial⟩ rfl (by kernel_rfl) | exact ap J J J J ⟨J, J, J, J, trivial⟩ rfl (by kernel_rfl) | exact ap J J J J ⟨J, J, J, J, J, trivial⟩ rfl (by kernel_rfl) | exact ap J J J J ⟨J, J, J, J, J, J, trivial⟩ rfl (by kernel_rfl) | exact ap J J J J ⟨J, J, J, J, J, J, J, trivial⟩ rfl (by kernel_rfl)) (hd : o.dst = some d := by exact rfl) (hn : Nat.blt d n = true := by exact rfl) : SL Tryz.prog l0 Q (o :: rest) n w0 S M := bg hg ho hc hd hn h
theorem ia {m : Nat} (j : Nat) {t : TypeId} {x y : Operand} {b off len cap : Nat} {ik : IntKind} {i : Int} {e : TypeId} {z : Value} {td : TD} (hj : j < len) (h1 : o.op = .indexAddr t x y := by exact rfl) (h2 : ev S x = some (L1, .slice (some ⟨b, off, none⟩) len cap) := by exact rfl) (h3 : Suf L1 L := by exact rfl) (h4 : ev S y = some (L2, .int ik i) := by exact rfl) (h5 : Suf L2 L := by exact rfl) (h6 : lk t tab = some (.slc e z) := by exact rfl) (h7 : lk e tab = some td := by exact rfl) (h8 : Nat.beq td.size m = true := by exact rfl) (hi : i = (j : Int) := by exact rfl) : VO Tryz.prog w0 S M L o (.pointer (some ⟨b, off + j * m, none⟩)) := AN af j h1 h2 h3 h4 h5 h6 h7 h8 (fun _ => hi) (fun _ => hj)
theorem Fd {cs : List Value} {t : TypeId} {x : Operand} {b off n' : Nat} {z : List Value} {fs : List (Nat × TypeId)} (hc : w0.rangeAt b off cs) (h1 : o.op = .load t x := by exact rfl) (h2 : ev S x = some (L1, .pointer (some ⟨b, off, none⟩)) := by exact rfl) (h3 : Suf L1 L := by exact rfl) (h4 : lk t tab = some (.row n' z fs) := by exact rfl) (h5 : cs.length = n' := by exact rfl) : VO Tryz.prog w0 S M L o (.agg ⟨cs⟩) := vQ af h1 h2 h3 h4 h5 (fun _ => hc)
end
end Go.Proofs.YtklcfjlmlbnkaaaGreatDoor.Y
