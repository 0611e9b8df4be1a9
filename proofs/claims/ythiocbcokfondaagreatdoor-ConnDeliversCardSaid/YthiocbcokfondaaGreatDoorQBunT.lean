/- Texts of this claim merged into one: QTabY, QMoreY. -/
import Derived.Test.YthiocbcokfondaaGreatDoorQSyw
import Derived.Test.YthiocbcokfondaaGreatDoorChecked
import Derived.LoopN
namespace Go.Proofs.YthiocbcokfondaaGreatDoor.Y
open Go.RowKit
def tab : fJ := [(2, .int .i64 (.int .i64 0)),
  (3, .int .i64 (.int .i64 0)),
  (4, .bool (.bool false)),
  (5, .int .u8 (.int .u8 0)),
  (9, .str (.string ⟨#[]⟩)),
  (12, .int .u64 (.int .u64 0)),
  (21, .int .i32 (.int .i32 0)),
  (46, .int .i64 (.int .i64 0)),
  (134, .int .u64 (.int .u64 0)),
  (172, .int .u64 (.int .u64 0)),
  (213, .int .u32 (.int .u32 0)),
  (23, .row 3 [.int .i64 0, .int .i64 0, .int .i64 0] [(0, 3), (1, 3), (2, 3)]),
  (28, .row 15 [.int .i64 0, .int .i64 0, .int .i64 0, .int .i64 0, .int .i64 0, .int .i64 0, .int .i64 0, .int .i64 0, .int .i64 0, .int .i64 0, .int .i64 0, .slice none 0 0, .slice none 0 0, .slice none 0 0, .bool false] [(0, 3), (1, 3), (2, 3), (3, 3), (4, 3), (5, 23), (8, 23), (11, 24), (12, 25), (13, 26), (14, 4)]),
  (31, .row 2 [.int .i64 0, .string ⟨#[]⟩] [(0, 3), (1, 9)]),
  (33, .row 16 [.int .i64 0, .int .i64 0, .int .i64 0, .int .i64 0, .int .i64 0, .bool false, .bool false, .bool false, .int .i64 0, .string ⟨#[]⟩, .int .i64 0, .int .i64 0, .int .i64 0, .int .i64 0, .int .i64 0, .int .i64 0] [(0, 3), (1, 3), (2, 3), (3, 3), (4, 3), (5, 4), (6, 4), (7, 4), (8, 31), (10, 23), (13, 23)]),
  (36, .row 4 [.string ⟨#[]⟩, .string ⟨#[]⟩, .int .i64 0, .slice none 0 0] [(0, 9), (1, 9), (2, 3), (3, 34)]),
  (39, .row 22 [.int .i64 0, .int .i64 0, .int .i64 0, .int .i64 0, .int .i64 0, .bool false, .bool false, .bool false, .int .i64 0, .string ⟨#[]⟩, .int .i64 0, .int .i64 0, .int .i64 0, .int .i64 0, .int .i64 0, .int .i64 0, .string ⟨#[]⟩, .string ⟨#[]⟩, .int .i64 0, .slice none 0 0, .slice none 0 0, .slice none 0 0] [(0, 33), (16, 36), (20, 37), (21, 25)]),
  (53, .row 36 [.int .i64 0, .int .i64 0, .int .i64 0, .int .i64 0, .int .i64 0, .int .i64 0, .int .i64 0, .int .i64 0, .int .i64 0, .int .i64 0, .int .i64 0, .slice none 0 0, .slice none 0 0, .slice none 0 0, .bool false, .int .i64 0, .int .i64 0, .int .i64 0, .int .i64 0, .int .i64 0, .int .i64 0, .int .i64 0, .int .i64 0, .int .i64 0, .int .i64 0, .int .i64 0, .slice none 0 0, .slice none 0 0, .slice none 0 0, .bool false, .int .i64 0, .slice none 0 0, .slice none 0 0, .slice none 0 0, .slice none 0 0, .bool false] [(0, 28), (15, 28), (30, 3), (31, 37), (32, 37), (33, 37), (34, 37), (35, 4)]),
  (55, .row 2 [.int .i64 0, .string ⟨#[]⟩] [(0, 3), (1, 9)]),
  (61, .row 5 [.int .i64 0, .int .i64 0, .string ⟨#[]⟩, .bool false, .slice none 0 0] [(0, 46), (1, 3), (2, 9), (3, 4), (4, 25)]),
  (65, .row 4 [.int .i64 0, .int .i64 0, .int .i64 0, .string ⟨#[]⟩] [(0, 3), (1, 3), (2, 3), (3, 9)]),
  (67, .row 14 [.int .i64 0, .int .i64 0, .int .i64 0, .string ⟨#[]⟩, .string ⟨#[]⟩, .string ⟨#[]⟩, .int .i64 0, .slice none 0 0, .int .i64 0, .int .i64 0, .int .i64 0, .string ⟨#[]⟩, .int .i64 0, .string ⟨#[]⟩] [(0, 3), (1, 3), (2, 3), (3, 9), (4, 36), (8, 65), (12, 31)]),
  (93, .row 2 [.string ⟨#[]⟩, .string ⟨#[]⟩] [(0, 9), (1, 9)]),
  (127, .row 2 [.pointer none, .slice none 0 0] [(0, 124), (1, 125)]),
  (150, .row 20 [.int .i64 0, .int .i64 0, .int .i64 0, .int .i64 0, .int .i64 0, .bool false, .bool false, .bool false, .int .i64 0, .string ⟨#[]⟩, .int .i64 0, .int .i64 0, .int .i64 0, .int .i64 0, .int .i64 0, .int .i64 0, .int .i64 0, .int .i64 0, .int .i64 0, .int .i64 0] [(0, 33), (16, 3), (17, 3), (18, 3), (19, 3)]),
  (157, .row 2 [.string ⟨#[]⟩, .int .i64 0] [(0, 9), (1, 46)]),
  (196, .row 3 [.int .i64 0, .int .i64 0, .int .i64 0] [(0, 23)]),
  (15, .ptr 217 (.pointer none)),
  (16, .ptr 220 (.pointer none)),
  (17, .ptr 227 (.pointer none)),
  (24, .slc 39 (.slice none 0 0)),
  (25, .slc 65 (.slice none 0 0)),
  (26, .slc 3 (.slice none 0 0)),
  (34, .slc 93 (.slice none 0 0)),
  (37, .slc 9 (.slice none 0 0)),
  (45, .slc 55 (.slice none 0 0)),
  (59, .slc 67 (.slice none 0 0)),
  (101, .ptr 28 (.pointer none)),
  (116, .ptr 39 (.pointer none)),
  (124, .ptr 127 (.pointer none)),
  (125, .slc 5 (.slice none 0 0)),
  (137, .ptr 23 (.pointer none)),
  (155, .ptr 157 (.pointer none)),
  (173, .ptr 5 (.pointer none)),
  (182, .ptr 196 (.pointer none)),
  (209, .arr 256 [.int .u8 0, .int .u8 0, .int .u8 0, .int .u8 0, .int .u8 0, .int .u8 0, .int .u8 0, .int .u8 0, .int .u8 0, .int .u8 0, .int .u8 0, .int .u8 0, .int .u8 0, .int .u8 0, .int .u8 0, .int .u8 0, .int .u8 0, .int .u8 0, .int .u8 0, .int .u8 0, .int .u8 0, .int .u8 0, .int .u8 0, .int .u8 0, .int .u8 0, .int .u8 0, .int .u8 0, .int .u8 0, .int .u8 0, .int .u8 0, .int .u8 0, .int .u8 0, .int .u8 0, .int .u8 0, .int .u8 0, .int .u8 0, .int .u8 0, .int .u8 0, .int .u8 0, .int .u8 0, .int .u8 0, .int .u8 0, .int .u8 0, .int .u8 0, .int .u8 0, .int .u8 0, .int .u8 0, .int .u8 0, .int .u8 0, .int .u8 0, .int .u8 0, .int .u8 0, .int .u8 0, .int .u8 0, .int .u8 0, .int .u8 0, .int .u8 0, .int .u8 0, .int .u8 0, .int .u8 0, .int .u8 0, .int .u8 0, .int .u8 0, .int .u8 0, .int .u8 0, .int .u8 0, .int .u8 0, .int .u8 0, .int .u8 0, .int .u8 0, .int .u8 0, .int .u8 0, .int .u8 0, .int .u8 0, .int .u8 0, .int .u8 0, .int .u8 0, .int .u8 0, .int .u8 0, .int .u8 0, .int .u8 0, .int .u8 0, .int .u8 0, .int .u8 0, .int .u8 0, .int .u8 0, .int .u8 0, .int .u8 0, .int .u8 0, .int .u8 0, .int .u8 0, .int .u8 0, .int .u8 0, .int .u8 0, .int .u8 0, .int .u8 0, .int .u8 0, .int .u8 0, .int .u8 0, .int .u8 0, .int .u8 0, .int .u8 0, .int .u8 0, .int .u8 0, .int .u8 0, .int .u8 0, .int .u8 0, .int .u8 0, .int .u8 0, .int .u8 0, .int .u8 0, .int .u8 0, .int .u8 0, .int .u8 0, .int .u8 0, .int .u8 0, .int .u8 0, .int .u8 0, .int .u8 0, .int .u8 0, .int .u8 0, .int .u8 0, .int .u8 0, .int .u8 0, .int .u8 0, .int .u8 0, .int .u8 0, .int .u8 0, .int .u8 0, .int .u8 0, .int .u8 0, .int .u8 0, .int .u8 0, .int .u8 0, .int .u8 0, .int .u8 0, .int .u8 0, .int .u8 0, .int .u8 0, .int .u8 0, .int .u8 0, .int .u8 0, .int .u8 0, .int .u8 0, .int .u8 0, .int .u8 0, .int .u8 0, .int .u8 0, .int .u8 0, .int .u8 0, .int .u8 0, .int .u8 0, .int .u8 0, .int .u8 0, .int .u8 0, .int .u8 0, .int .u8 0, .int .u8 0, .int .u8 0, .int .u8 0, .int .u8 0, .int .u8 0, .int .u8 0, .int .u8 0, .int .u8 0, .int .u8 0, .int .u8 0, .int .u8 0, .int .u8 0, .int .u8 0, .int .u8 0, .int .u8 0, .int .u8 0, .int .u8 0, .int .u8 0, .int .u8 0, .int .u8 0, .int .u8 0, .int .u8 0, .int .u8 0, .int .u8 0, .int .u8 0, .int .u8 0, .int .u8 0, .int .u8 0, .int .u8 0, .int .u8 0, .int .u8 0, .int .u8 0, .int .u8 0, .int .u8 0, .int .u8 0, .int .u8 0, .int .u8 0, .int .u8 0, .int .u8 0, .int .u8 0, .int .u8 0, .int .u8 0, .int .u8 0, .int .u8 0, .int .u8 0, .int .u8 0, .int .u8 0, .int .u8 0, .int .u8 0, .int .u8 0, .int .u8 0, .int .u8 0, .int .u8 0, .int .u8 0, .int .u8 0, .int .u8 0, .int .u8 0, .int .u8 0, .int .u8 0, .int .u8 0, .int .u8 0, .int .u8 0, .int .u8 0, .int .u8 0, .int .u8 0, .int .u8 0, .int .u8 0, .int .u8 0, .int .u8 0, .int .u8 0, .int .u8 0, .int .u8 0, .int .u8 0, .int .u8 0, .int .u8 0, .int .u8 0, .int .u8 0, .int .u8 0, .int .u8 0, .int .u8 0, .int .u8 0, .int .u8 0, .int .u8 0, .int .u8 0, .int .u8 0, .int .u8 0, .int .u8 0, .int .u8 0, .int .u8 0, .int .u8 0, .int .u8 0, .int .u8 0, .int .u8 0, .int .u8 0, .int .u8 0, .int .u8 0, .int .u8 0, .int .u8 0, .int .u8 0] 256 5),
  (212, .arr 32 [.int .u8 0, .int .u8 0, .int .u8 0, .int .u8 0, .int .u8 0, .int .u8 0, .int .u8 0, .int .u8 0, .int .u8 0, .int .u8 0, .int .u8 0, .int .u8 0, .int .u8 0, .int .u8 0, .int .u8 0, .int .u8 0, .int .u8 0, .int .u8 0, .int .u8 0, .int .u8 0, .int .u8 0, .int .u8 0, .int .u8 0, .int .u8 0, .int .u8 0, .int .u8 0, .int .u8 0, .int .u8 0, .int .u8 0, .int .u8 0, .int .u8 0, .int .u8 0] 16 211),
  (7, .row 4 [.int .i64 0, .int .i64 0, .bool false, .int .u8 0] [(0, 2), (1, 3), (2, 4), (3, 6)]),
  (13, .row 2 [.string ⟨#[]⟩, .int .u64 0] [(0, 9), (1, 12)]),
  (18, .row 1 [.pointer none] [(0, 17)]),
  (22, .row 3 [.int .i64 0, .int .i64 0, .int .i64 0] [(0, 3), (1, 3), (2, 3)]),
  (27, .row 15 [.int .i64 0, .int .i64 0, .int .i64 0, .int .i64 0, .int .i64 0, .int .i64 0, .int .i64 0, .int .i64 0, .int .i64 0, .int .i64 0, .int .i64 0, .slice none 0 0, .slice none 0 0, .slice none 0 0, .bool false] [(0, 3), (1, 3), (2, 3), (3, 3), (4, 3), (5, 23), (8, 23), (11, 24), (12, 25), (13, 26), (14, 4)]),
  (30, .row 2 [.int .i64 0, .string ⟨#[]⟩] [(0, 3), (1, 9)]),
  (32, .row 16 [.int .i64 0, .int .i64 0, .int .i64 0, .int .i64 0, .int .i64 0, .bool false, .bool false, .bool false, .int .i64 0, .string ⟨#[]⟩, .int .i64 0, .int .i64 0, .int .i64 0, .int .i64 0, .int .i64 0, .int .i64 0] [(0, 3), (1, 3), (2, 3), (3, 3), (4, 3), (5, 4), (6, 4), (7, 4), (8, 31), (10, 23), (13, 23)]),
  (35, .row 4 [.string ⟨#[]⟩, .string ⟨#[]⟩, .int .i64 0, .slice none 0 0] [(0, 9), (1, 9), (2, 3), (3, 34)]),
  (38, .row 22 [.int .i64 0, .int .i64 0, .int .i64 0, .int .i64 0, .int .i64 0, .bool false, .bool false, .bool false, .int .i64 0, .string ⟨#[]⟩, .int .i64 0, .int .i64 0, .int .i64 0, .int .i64 0, .int .i64 0, .int .i64 0, .string ⟨#[]⟩, .string ⟨#[]⟩, .int .i64 0, .slice none 0 0, .slice none 0 0, .slice none 0 0] [(0, 33), (16, 36), (20, 37), (21, 25)]),
  (52, .row 36 [.int .i64 0, .int .i64 0, .int .i64 0, .int .i64 0, .int .i64 0, .int .i64 0, .int .i64 0, .int .i64 0, .int .i64 0, .int .i64 0, .int .i64 0, .slice none 0 0, .slice none 0 0, .slice none 0 0, .bool false, .int .i64 0, .int .i64 0, .int .i64 0, .int .i64 0, .int .i64 0, .int .i64 0, .int .i64 0, .int .i64 0, .int .i64 0, .int .i64 0, .int .i64 0, .slice none 0 0, .slice none 0 0, .slice none 0 0, .bool false, .int .i64 0, .slice none 0 0, .slice none 0 0, .slice none 0 0, .slice none 0 0, .bool false] [(0, 28), (15, 28), (30, 3), (31, 37), (32, 37), (33, 37), (34, 37), (35, 4)]),
  (54, .row 2 [.int .i64 0, .string ⟨#[]⟩] [(0, 3), (1, 9)]),
  (60, .row 5 [.int .i64 0, .int .i64 0, .string ⟨#[]⟩, .bool false, .slice none 0 0] [(0, 46), (1, 3), (2, 9), (3, 4), (4, 25)]),
  (64, .row 4 [.int .i64 0, .int .i64 0, .int .i64 0, .string ⟨#[]⟩] [(0, 3), (1, 3), (2, 3), (3, 9)]),
  (66, .row 14 [.int .i64 0, .int .i64 0, .int .i64 0, .string ⟨#[]⟩, .string ⟨#[]⟩, .string ⟨#[]⟩, .int .i64 0, .slice none 0 0, .int .i64 0, .int .i64 0, .int .i64 0, .string ⟨#[]⟩, .int .i64 0, .string ⟨#[]⟩] [(0, 3), (1, 3), (2, 3), (3, 9), (4, 36), (8, 65), (12, 31)]),
  (92, .row 2 [.string ⟨#[]⟩, .string ⟨#[]⟩] [(0, 9), (1, 9)]),
  (126, .row 2 [.pointer none, .slice none 0 0] [(0, 124), (1, 125)]),
  (149, .row 20 [.int .i64 0, .int .i64 0, .int .i64 0, .int .i64 0, .int .i64 0, .bool false, .bool false, .bool false, .int .i64 0, .string ⟨#[]⟩, .int .i64 0, .int .i64 0, .int .i64 0, .int .i64 0, .int .i64 0, .int .i64 0, .int .i64 0, .int .i64 0, .int .i64 0, .int .i64 0] [(0, 33), (16, 3), (17, 3), (18, 3), (19, 3)]),
  (156, .row 2 [.string ⟨#[]⟩, .int .i64 0] [(0, 9), (1, 46)]),
  (195, .row 3 [.int .i64 0, .int .i64 0, .int .i64 0] [(0, 23)]),
  (210, .row 2 [.int .u8 0, .int .u8 0] [(0, 5), (1, 5)]),
  (216, .row 4 [.pointer none, .pointer none, .pointer none, .string ⟨#[]⟩] [(0, 17), (1, 17), (2, 17), (3, 9)]),
  (226, .row 11 [.int .u64 0, .int .u64 0, .int .u32 0, .int .u8 0, .int .u8 0, .int .u8 0, .int .u8 0, .nilFunc, .pointer none, .int .i32 0, .int .i32 0] [(0, 12), (1, 12), (2, 213), (3, 221), (4, 5), (5, 5), (6, 222), (7, 223), (8, 173), (9, 224), (10, 225)]),
  (20, .one (.nilIface)),
  (75, .one (.map none)),
  (128, .one (.nilIface)),
  (6, .int .u8 (.int .u8 0)),
  (10, .str (.string ⟨#[]⟩)),
  (11, .str (.string ⟨#[]⟩)),
  (221, .int .u8 (.int .u8 0)),
  (222, .int .u8 (.int .u8 0)),
  (224, .int .i32 (.int .i32 0)),
  (225, .int .i32 (.int .i32 0))]
theorem af : TOK Tryz.prog tab := show tab.map (fun e => jI Tryz.prog e.1) = tab.map (fun e => some e.2) by kernel_rfl
def eqE : List TypeId := [23, 31, 33, 55, 65, 67, 93, 150, 157, 196]
theorem fE : eqE.all (yh Tryz.prog) = true := by kernel_rfl
theorem aD : Tryz.prog.follows .mixedOrders = true := by kernel_rfl
end Go.Proofs.YthiocbcokfondaaGreatDoor.Y
namespace Go.Proofs.YthiocbcokfondaaGreatDoor.Y
open Go.RowKit
section
variable {P : Program} {Q : Exit → Act → World → Prop} {n : Nat} {w0 : World} {S : bJ} {M : List Ent}
structure F7 (P : Program) (c : Code) (Q : Exit → Act → World → Prop) (k n : Nat) (w0 : World) (S : bJ) (M : List Ent) : Prop where
  run : ∀ a w, Sl n a S → Mem w0 w M → Code.rounds P c Q k a w
end
section
variable {P : Program} {T : fJ} {w0 : World} {S : bJ} {M : List Ent} {L : Cd} {o : Oper}
end
end Go.Proofs.YthiocbcokfondaaGreatDoor.Y
