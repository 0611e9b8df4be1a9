/- The types of this dump, as the walker looks them up. -/
import Derived.Test.YtngieldaebnffaaSyw
import Derived.Test.YtngieldaebnffaaChecked
namespace Go.Proofs.Ytngieldaebnffaa.Y
open Go.RowKit
def tab : Tab := [(2, .int .i64 (.int .i64 0)),
  (3, .int .i64 (.int .i64 0)),
  (4, .bool (.bool false)),
  (5, .int .u8 (.int .u8 0)),
  (9, .str (.string ⟨#[]⟩)),
  (12, .int .u64 (.int .u64 0)),
  (21, .int .i32 (.int .i32 0)),
  (41, .int .u64 (.int .u64 0)),
  (68, .int .u32 (.int .u32 0)),
  (33, .row 5 [.string ⟨#[]⟩, .string ⟨#[]⟩, .string ⟨#[]⟩, .int .i64 0, .slice none 0 0] [(0, 9), (1, 9), (2, 9), (3, 3), (4, 31)]),
  (47, .row 7 [.int .i64 0, .int .u64 0, .string ⟨#[]⟩, .slice none 0 0, .slice none 0 0, .slice none 0 0, .slice none 0 0] [(0, 3), (1, 41), (2, 9), (3, 42), (4, 43), (5, 44), (6, 45)]),
  (52, .row 5 [.int .i64 0, .int .i64 0, .int .i64 0, .bool false, .bool false] [(0, 3), (1, 3), (2, 3), (3, 4), (4, 4)]),
  (57, .row 8 [.string ⟨#[]⟩, .int .i64 0, .int .u64 0, .string ⟨#[]⟩, .slice none 0 0, .slice none 0 0, .slice none 0 0, .slice none 0 0] [(0, 9), (1, 47)]),
  (78, .row 14 [.int .i64 0, .int .u64 0, .string ⟨#[]⟩, .slice none 0 0, .slice none 0 0, .slice none 0 0, .slice none 0 0, .int .i64 0, .int .u64 0, .string ⟨#[]⟩, .slice none 0 0, .slice none 0 0, .slice none 0 0, .slice none 0 0] [(0, 47), (7, 47)]),
  (80, .row 8 [.int .i64 0, .int .i64 0, .int .u64 0, .string ⟨#[]⟩, .slice none 0 0, .slice none 0 0, .slice none 0 0, .slice none 0 0] [(0, 3), (1, 47)]),
  (82, .row 4 [.int .i64 0, .int .i64 0, .int .u64 0, .string ⟨#[]⟩] [(0, 3), (1, 3), (2, 41), (3, 9)]),
  (15, .ptr 63 (.pointer none)),
  (16, .ptr 66 (.pointer none)),
  (17, .ptr 76 (.pointer none)),
  (31, .slc 57 (.slice none 0 0)),
  (42, .slc 47 (.slice none 0 0)),
  (43, .slc 78 (.slice none 0 0)),
  (44, .slc 80 (.slice none 0 0)),
  (45, .slc 82 (.slice none 0 0)),
  (72, .ptr 5 (.pointer none)),
  (7, .row 4 [.int .i64 0, .int .i64 0, .bool false, .int .u8 0] [(0, 2), (1, 3), (2, 4), (3, 6)]),
  (13, .row 2 [.string ⟨#[]⟩, .int .u64 0] [(0, 9), (1, 12)]),
  (18, .row 1 [.pointer none] [(0, 17)]),
  (32, .row 5 [.string ⟨#[]⟩, .string ⟨#[]⟩, .string ⟨#[]⟩, .int .i64 0, .slice none 0 0] [(0, 9), (1, 9), (2, 9), (3, 3), (4, 31)]),
  (46, .row 7 [.int .i64 0, .int .u64 0, .string ⟨#[]⟩, .slice none 0 0, .slice none 0 0, .slice none 0 0, .slice none 0 0] [(0, 3), (1, 41), (2, 9), (3, 42), (4, 43), (5, 44), (6, 45)]),
  (51, .row 5 [.int .i64 0, .int .i64 0, .int .i64 0, .bool false, .bool false] [(0, 3), (1, 3), (2, 3), (3, 4), (4, 4)]),
  (56, .row 8 [.string ⟨#[]⟩, .int .i64 0, .int .u64 0, .string ⟨#[]⟩, .slice none 0 0, .slice none 0 0, .slice none 0 0, .slice none 0 0] [(0, 9), (1, 47)]),
  (62, .row 4 [.pointer none, .pointer none, .pointer none, .string ⟨#[]⟩] [(0, 17), (1, 17), (2, 17), (3, 9)]),
  (75, .row 11 [.int .u64 0, .int .u64 0, .int .u32 0, .int .u8 0, .int .u8 0, .int .u8 0, .int .u8 0, .nilFunc, .pointer none, .int .i32 0, .int .i32 0] [(0, 12), (1, 12), (2, 68), (3, 69), (4, 5), (5, 5), (6, 70), (7, 71), (8, 72), (9, 73), (10, 74)]),
  (77, .row 14 [.int .i64 0, .int .u64 0, .string ⟨#[]⟩, .slice none 0 0, .slice none 0 0, .slice none 0 0, .slice none 0 0, .int .i64 0, .int .u64 0, .string ⟨#[]⟩, .slice none 0 0, .slice none 0 0, .slice none 0 0, .slice none 0 0] [(0, 47), (7, 47)]),
  (79, .row 8 [.int .i64 0, .int .i64 0, .int .u64 0, .string ⟨#[]⟩, .slice none 0 0, .slice none 0 0, .slice none 0 0, .slice none 0 0] [(0, 3), (1, 47)]),
  (81, .row 4 [.int .i64 0, .int .i64 0, .int .u64 0, .string ⟨#[]⟩] [(0, 3), (1, 3), (2, 41), (3, 9)]),
  (20, .one (.nilIface)),
  (6, .int .u8 (.int .u8 0)),
  (10, .str (.string ⟨#[]⟩)),
  (11, .str (.string ⟨#[]⟩)),
  (69, .int .u8 (.int .u8 0)),
  (70, .int .u8 (.int .u8 0)),
  (73, .int .i32 (.int .i32 0)),
  (74, .int .i32 (.int .i32 0))]
theorem tok : TOK Try.prog tab := show tab.map (fun e => tdOf Try.prog e.1) = tab.map (fun e => some e.2) by kernel_rfl
/-- structs that can be compared. -/
def eqE : List TypeId := [52, 57, 78, 80, 82]
theorem eqOK : eqE.all (eqOk Try.prog) = true := by kernel_rfl
theorem follows_any : Try.prog.follows .mixedOrders = true := by kernel_rfl
end Go.Proofs.Ytngieldaebnffaa.Y
