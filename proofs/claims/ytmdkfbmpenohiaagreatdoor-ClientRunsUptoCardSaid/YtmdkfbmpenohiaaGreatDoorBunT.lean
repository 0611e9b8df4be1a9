/- Texts of this claim merged into one: TabY, MoreY, Budget, Bal. -/
import Derived.Test.YtmdkfbmpenohiaaGreatDoorSyw
import Derived.Test.YtmdkfbmpenohiaaGreatDoorChecked
import Derived.LoopN
namespace Go.Proofs.YtmdkfbmpenohiaaGreatDoor.Y
open Go.RowKit
def tab : d5 := [(2, .int .i64 (.int .i64 0)),
  (3, .int .i64 (.int .i64 0)),
  (4, .bool (.bool false)),
  (5, .int .u8 (.int .u8 0)),
  (9, .str (.string ⟨#[]⟩)),
  (12, .int .u64 (.int .u64 0)),
  (21, .int .i32 (.int .i32 0)),
  (33, .int .i64 (.int .i64 0)),
  (134, .int .u64 (.int .u64 0)),
  (146, .int .u64 (.int .u64 0)),
  (168, .int .u32 (.int .u32 0)),
  (24, .row 4 [.int .i64 0, .int .i64 0, .int .i64 0, .int .i64 0] [(0, 3), (1, 3), (2, 3), (3, 3)]),
  (26, .row 3 [.int .i64 0, .int .i64 0, .int .i64 0] [(0, 3), (1, 3), (2, 3)]),
  (28, .row 8 [.slice none 0 0, .int .i64 0, .int .i64 0, .int .i64 0, .int .i64 0, .int .i64 0, .int .i64 0, .int .i64 0] [(0, 22), (1, 24), (5, 26)]),
  (32, .row 10 [.slice none 0 0, .int .i64 0, .int .i64 0, .int .i64 0, .int .i64 0, .int .i64 0, .int .i64 0, .int .i64 0, .slice none 0 0, .int .i64 0] [(0, 22), (1, 24), (5, 26), (8, 30), (9, 3)]),
  (40, .row 4 [.int .i64 0, .int .i64 0, .slice none 0 0, .slice none 0 0] [(0, 33), (1, 3), (2, 30), (3, 38)]),
  (45, .row 4 [.string ⟨#[]⟩, .string ⟨#[]⟩, .int .i64 0, .slice none 0 0] [(0, 9), (1, 9), (2, 3), (3, 43)]),
  (48, .row 2 [.int .i64 0, .string ⟨#[]⟩] [(0, 3), (1, 9)]),
  (50, .row 15 [.int .i64 0, .string ⟨#[]⟩, .string ⟨#[]⟩, .int .i64 0, .slice none 0 0, .int .i64 0, .slice none 0 0, .int .i64 0, .string ⟨#[]⟩, .int .i64 0, .int .i64 0, .slice none 0 0, .bool false, .int .i64 0, .string ⟨#[]⟩] [(0, 3), (1, 45), (5, 3), (6, 46), (7, 3), (8, 9), (9, 3), (10, 3), (11, 46), (12, 4), (13, 48)]),
  (52, .row 23 [.int .i64 0, .int .i64 0, .int .i64 0, .int .i64 0, .int .i64 0, .string ⟨#[]⟩, .string ⟨#[]⟩, .int .i64 0, .slice none 0 0, .int .i64 0, .slice none 0 0, .int .i64 0, .string ⟨#[]⟩, .int .i64 0, .int .i64 0, .slice none 0 0, .bool false, .int .i64 0, .string ⟨#[]⟩, .string ⟨#[]⟩, .int .i64 0, .string ⟨#[]⟩, .bool false] [(0, 3), (1, 3), (2, 3), (3, 3), (4, 50), (19, 9), (20, 48), (22, 4)]),
  (64, .row 6 [.string ⟨#[]⟩, .int .i64 0, .int .i64 0, .int .i64 0, .int .i64 0, .int .i64 0] [(0, 9), (1, 3), (2, 3), (3, 3), (4, 3), (5, 3)]),
  (119, .row 2 [.string ⟨#[]⟩, .string ⟨#[]⟩] [(0, 9), (1, 9)]),
  (139, .row 2 [.pointer none, .slice none 0 0] [(0, 136), (1, 137)]),
  (15, .ptr 172 (.pointer none)),
  (16, .ptr 175 (.pointer none)),
  (17, .ptr 183 (.pointer none)),
  (22, .slc 64 (.slice none 0 0)),
  (29, .slc 52 (.slice none 0 0)),
  (30, .slc 50 (.slice none 0 0)),
  (38, .slc 3 (.slice none 0 0)),
  (43, .slc 119 (.slice none 0 0)),
  (46, .slc 9 (.slice none 0 0)),
  (88, .ptr 50 (.pointer none)),
  (96, .ptr 32 (.pointer none)),
  (126, .ptr 64 (.pointer none)),
  (136, .ptr 139 (.pointer none)),
  (137, .slc 5 (.slice none 0 0)),
  (147, .ptr 5 (.pointer none)),
  (164, .arr 256 [.int .u8 0, .int .u8 0, .int .u8 0, .int .u8 0, .int .u8 0, .int .u8 0, .int .u8 0, .int .u8 0, .int .u8 0, .int .u8 0, .int .u8 0, .int .u8 0, .int .u8 0, .int .u8 0, .int .u8 0, .int .u8 0, .int .u8 0, .int .u8 0, .int .u8 0, .int .u8 0, .int .u8 0, .int .u8 0, .int .u8 0, .int .u8 0, .int .u8 0, .int .u8 0, .int .u8 0, .int .u8 0, .int .u8 0, .int .u8 0, .int .u8 0, .int .u8 0, .int .u8 0, .int .u8 0, .int .u8 0, .int .u8 0, .int .u8 0, .int .u8 0, .int .u8 0, .int .u8 0, .int .u8 0, .int .u8 0, .int .u8 0, .int .u8 0, .int .u8 0, .int .u8 0, .int .u8 0, .int .u8 0, .int .u8 0, .int .u8 0, .int .u8 0, .int .u8 0, .int .u8 0, .int .u8 0, .int .u8 0, .int .u8 0, .int .u8 0, .int .u8 0, .int .u8 0, .int .u8 0, .int .u8 0, .int .u8 0, .int .u8 0, .int .u8 0, .int .u8 0, .int .u8 0, .int .u8 0, .int .u8 0, .int .u8 0, .int .u8 0, .int .u8 0, .int .u8 0, .int .u8 0, .int .u8 0, .int .u8 0, .int .u8 0, .int .u8 0, .int .u8 0, .int .u8 0, .int .u8 0, .int .u8 0, .int .u8 0, .int .u8 0, .int .u8 0, .int .u8 0, .int .u8 0, .int .u8 0, .int .u8 0, .int .u8 0, .int .u8 0, .int .u8 0, .int .u8 0, .int .u8 0, .int .u8 0, .int .u8 0, .int .u8 0, .int .u8 0, .int .u8 0, .int .u8 0, .int .u8 0, .int .u8 0, .int .u8 0, .int .u8 0, .int .u8 0, .int .u8 0, .int .u8 0, .int .u8 0, .int .u8 0, .int .u8 0, .int .u8 0, .int .u8 0, .int .u8 0, .int .u8 0, .int .u8 0, .int .u8 0, .int .u8 0, .int .u8 0, .int .u8 0, .int .u8 0, .int .u8 0, .int .u8 0, .int .u8 0, .int .u8 0, .int .u8 0, .int .u8 0, .int .u8 0, .int .u8 0, .int .u8 0, .int .u8 0, .int .u8 0, .int .u8 0, .int .u8 0, .int .u8 0, .int .u8 0, .int .u8 0, .int .u8 0, .int .u8 0, .int .u8 0, .int .u8 0, .int .u8 0, .int .u8 0, .int .u8 0, .int .u8 0, .int .u8 0, .int .u8 0, .int .u8 0, .int .u8 0, .int .u8 0, .int .u8 0, .int .u8 0, .int .u8 0, .int .u8 0, .int .u8 0, .int .u8 0, .int .u8 0, .int .u8 0, .int .u8 0, .int .u8 0, .int .u8 0, .int .u8 0, .int .u8 0, .int .u8 0, .int .u8 0, .int .u8 0, .int .u8 0, .int .u8 0, .int .u8 0, .int .u8 0, .int .u8 0, .int .u8 0, .int .u8 0, .int .u8 0, .int .u8 0, .int .u8 0, .int .u8 0, .int .u8 0, .int .u8 0, .int .u8 0, .int .u8 0, .int .u8 0, .int .u8 0, .int .u8 0, .int .u8 0, .int .u8 0, .int .u8 0, .int .u8 0, .int .u8 0, .int .u8 0, .int .u8 0, .int .u8 0, .int .u8 0, .int .u8 0, .int .u8 0, .int .u8 0, .int .u8 0, .int .u8 0, .int .u8 0, .int .u8 0, .int .u8 0, .int .u8 0, .int .u8 0, .int .u8 0, .int .u8 0, .int .u8 0, .int .u8 0, .int .u8 0, .int .u8 0, .int .u8 0, .int .u8 0, .int .u8 0, .int .u8 0, .int .u8 0, .int .u8 0, .int .u8 0, .int .u8 0, .int .u8 0, .int .u8 0, .int .u8 0, .int .u8 0, .int .u8 0, .int .u8 0, .int .u8 0, .int .u8 0, .int .u8 0, .int .u8 0, .int .u8 0, .int .u8 0, .int .u8 0, .int .u8 0, .int .u8 0, .int .u8 0, .int .u8 0, .int .u8 0, .int .u8 0, .int .u8 0, .int .u8 0, .int .u8 0, .int .u8 0, .int .u8 0, .int .u8 0, .int .u8 0, .int .u8 0, .int .u8 0, .int .u8 0, .int .u8 0, .int .u8 0, .int .u8 0, .int .u8 0, .int .u8 0, .int .u8 0, .int .u8 0, .int .u8 0, .int .u8 0, .int .u8 0, .int .u8 0, .int .u8 0] 256 5),
  (167, .arr 32 [.int .u8 0, .int .u8 0, .int .u8 0, .int .u8 0, .int .u8 0, .int .u8 0, .int .u8 0, .int .u8 0, .int .u8 0, .int .u8 0, .int .u8 0, .int .u8 0, .int .u8 0, .int .u8 0, .int .u8 0, .int .u8 0, .int .u8 0, .int .u8 0, .int .u8 0, .int .u8 0, .int .u8 0, .int .u8 0, .int .u8 0, .int .u8 0, .int .u8 0, .int .u8 0, .int .u8 0, .int .u8 0, .int .u8 0, .int .u8 0, .int .u8 0, .int .u8 0] 16 166),
  (7, .row 4 [.int .i64 0, .int .i64 0, .bool false, .int .u8 0] [(0, 2), (1, 3), (2, 4), (3, 6)]),
  (13, .row 2 [.string ⟨#[]⟩, .int .u64 0] [(0, 9), (1, 12)]),
  (18, .row 1 [.pointer none] [(0, 17)]),
  (23, .row 4 [.int .i64 0, .int .i64 0, .int .i64 0, .int .i64 0] [(0, 3), (1, 3), (2, 3), (3, 3)]),
  (25, .row 3 [.int .i64 0, .int .i64 0, .int .i64 0] [(0, 3), (1, 3), (2, 3)]),
  (27, .row 8 [.slice none 0 0, .int .i64 0, .int .i64 0, .int .i64 0, .int .i64 0, .int .i64 0, .int .i64 0, .int .i64 0] [(0, 22), (1, 24), (5, 26)]),
  (31, .row 10 [.slice none 0 0, .int .i64 0, .int .i64 0, .int .i64 0, .int .i64 0, .int .i64 0, .int .i64 0, .int .i64 0, .slice none 0 0, .int .i64 0] [(0, 22), (1, 24), (5, 26), (8, 30), (9, 3)]),
  (39, .row 4 [.int .i64 0, .int .i64 0, .slice none 0 0, .slice none 0 0] [(0, 33), (1, 3), (2, 30), (3, 38)]),
  (44, .row 4 [.string ⟨#[]⟩, .string ⟨#[]⟩, .int .i64 0, .slice none 0 0] [(0, 9), (1, 9), (2, 3), (3, 43)]),
  (47, .row 2 [.int .i64 0, .string ⟨#[]⟩] [(0, 3), (1, 9)]),
  (49, .row 15 [.int .i64 0, .string ⟨#[]⟩, .string ⟨#[]⟩, .int .i64 0, .slice none 0 0, .int .i64 0, .slice none 0 0, .int .i64 0, .string ⟨#[]⟩, .int .i64 0, .int .i64 0, .slice none 0 0, .bool false, .int .i64 0, .string ⟨#[]⟩] [(0, 3), (1, 45), (5, 3), (6, 46), (7, 3), (8, 9), (9, 3), (10, 3), (11, 46), (12, 4), (13, 48)]),
  (51, .row 23 [.int .i64 0, .int .i64 0, .int .i64 0, .int .i64 0, .int .i64 0, .string ⟨#[]⟩, .string ⟨#[]⟩, .int .i64 0, .slice none 0 0, .int .i64 0, .slice none 0 0, .int .i64 0, .string ⟨#[]⟩, .int .i64 0, .int .i64 0, .slice none 0 0, .bool false, .int .i64 0, .string ⟨#[]⟩, .string ⟨#[]⟩, .int .i64 0, .string ⟨#[]⟩, .bool false] [(0, 3), (1, 3), (2, 3), (3, 3), (4, 50), (19, 9), (20, 48), (22, 4)]),
  (63, .row 6 [.string ⟨#[]⟩, .int .i64 0, .int .i64 0, .int .i64 0, .int .i64 0, .int .i64 0] [(0, 9), (1, 3), (2, 3), (3, 3), (4, 3), (5, 3)]),
  (118, .row 2 [.string ⟨#[]⟩, .string ⟨#[]⟩] [(0, 9), (1, 9)]),
  (138, .row 2 [.pointer none, .slice none 0 0] [(0, 136), (1, 137)]),
  (165, .row 2 [.int .u8 0, .int .u8 0] [(0, 5), (1, 5)]),
  (171, .row 4 [.pointer none, .pointer none, .pointer none, .string ⟨#[]⟩] [(0, 17), (1, 17), (2, 17), (3, 9)]),
  (182, .row 11 [.int .u64 0, .int .u64 0, .int .u32 0, .int .u8 0, .int .u8 0, .int .u8 0, .int .u8 0, .nilFunc, .pointer none, .int .i32 0, .int .i32 0] [(0, 12), (1, 12), (2, 168), (3, 177), (4, 5), (5, 5), (6, 178), (7, 179), (8, 147), (9, 180), (10, 181)]),
  (20, .one (.nilIface)),
  (100, .one (.map none)),
  (140, .one (.nilIface)),
  (6, .int .u8 (.int .u8 0)),
  (10, .str (.string ⟨#[]⟩)),
  (11, .str (.string ⟨#[]⟩)),
  (177, .int .u8 (.int .u8 0)),
  (178, .int .u8 (.int .u8 0)),
  (180, .int .i32 (.int .i32 0)),
  (181, .int .i32 (.int .i32 0))]
theorem af : TOK Tryz.prog tab := show tab.map (fun e => gP Tryz.prog e.1) = tab.map (fun e => some e.2) by kernel_rfl
def eqE : List TypeId := [24, 26, 48, 52, 64, 119]
theorem fm : eqE.all (sL Tryz.prog) = true := by kernel_rfl
theorem aK : Tryz.prog.follows .mixedOrders = true := by kernel_rfl
end Go.Proofs.YtmdkfbmpenohiaaGreatDoor.Y
namespace Go.Proofs.YtmdkfbmpenohiaaGreatDoor.Y
open Go.RowKit
section
variable {P : Program} {Q : Exit → Act → World → Prop} {n : Nat} {w0 : World} {S : bM} {M : List Ent}
structure Al (P : Program) (c : Code) (Q : Exit → Act → World → Prop) (k n : Nat) (w0 : World) (S : bM) (M : List Ent) : Prop where
  run : ∀ a w, Sl n a S → Mem w0 w M → Code.rounds P c Q k a w
end
section
variable {P : Program} {T : d5} {w0 : World} {S : bM} {M : List Ent} {L : Cd} {o : Oper}
end
end Go.Proofs.YtmdkfbmpenohiaaGreatDoor.Y
namespace Go.Proofs.YtmdkfbmpenohiaaGreatDoor.Y
open Go.RowKit
def da (t m gn : Int) : Int := if m > 1000000 ∨ t < 0 ∨ t > m ∨ gn < 0 ∨ gn > 1000 then 1 else 0
def dt (t m gn : Int) : Int := if da t m gn = 0 then min (t + gn) m else t
def nk (t m gn : Int) : Int := if da t m gn = 0 ∧ 1000 ≤ t then t - 1000 else t
def iI (t m gn : Int) : Int := if da t m gn = 0 then (if 1000 ≤ t then 0 else 22) else 1
theorem gj {t m gn : Int} (h : da t m gn = 0) : m ≤ 1000000 ∧ 0 ≤ t ∧ t ≤ m ∧ 0 ≤ gn ∧ gn ≤ 1000 := by
  unfold da at h
  split at h
  · omega
  · omega
theorem cx {a b : Int} (h : a = b) : Ending.returned (.int .i64 a) = Ending.returned (.int .i64 b) := by rw [h]
theorem kA {a b m gn : Int} (h : a = b) : Ending.returned (.agg #[.int .i64 a, .int .i64 m, .int .i64 gn]) = Ending.returned (.agg #[.int .i64 b, .int .i64 m, .int .i64 gn]) := by rw [h]
set_option maxRecDepth 100000 in
set_option maxHeartbeats 4000000 in
theorem sY (t m gn : Int) (w : World) : Calls Tryz.prog 18 #[.agg #[.int .i64 t, .int .i64 m, .int .i64 gn]] w fun e w' => e = .returned (.int .i64 (da t m gn)) ∧ Below w.heap.size w w' := by
  refine aD Tryz.func18 rfl Tryz.ntmps18 J J ?_
  repeat' (first | refine ag ?_ | refine aa ?_ | refine ab ?_ | refine aA ?_ | refine au ?_ | refine aE ?_ | refine a8 ?_ | refine ar ?_ | refine aH ?_ | refine ax ?_ | refine aQ ?_ | refine aN ?_ | refine cu rfl ?_ | refine aY aK rfl (by kernel_rfl) ?_ | refine ae ?_ | refine bz ?_ | (refine ea ?_; intro g) | ((first | refine' ak rfl ?_ J J ?_ | refine' dm rfl ?_ J J J ?_); rotate_left; first | exact ai af J J J J | exact aq af J J J J J J | exact bp J J J J J | exact bx J J J J J | exact ah af 0 J J J J J | exact ah af 1 J J J J J | exact ah af 2 J J J J J | exact fX af fm J J J J J J (by kernel_rfl) | exact ew af fm J J J J J J (by kernel_rfl) | exact aO af J J J J J J J | exact d9 J J J J J | exact cV J J J J J | exact jd J J J J J J J | exact aC af J J trivial J J J | exact aC af J J ⟨J, trivial⟩ J J J | exact aC af J J ⟨J, J, trivial⟩ J J J | exact aC af J J ⟨J, J, J, trivial⟩ J J J | exact aC af J J ⟨J, J, J, J, trivial⟩ J J J | exact aC af J J ⟨J, J, J, J, J, trivial⟩ J J J | exact aC af J J ⟨J, J, J, J, J, J, trivial⟩ J J J | exact aC af J J ⟨J, J, J, J, J, J, J, trivial⟩ J J J | exact aC af J J ⟨J, J, J, J, J, J, J, J, trivial⟩ J J J) | (refine aT J J J J J J ?_; intro g) | (refine aF af J J J J J J ?_; intro g) | refine dJ af J J J J J J ?_ | refine gA J J J J J J ?_ | refine aj af 0 J J J J J J J J J J J J ?_ | refine aj af 1 J J J J J J J J J J J J ?_ | refine aj af 2 J J J J J J J J J J J J ?_ | (refine gz rfl (fun h => ?_) (fun h => ?_) <;> (try simp at h)))
  all_goals
    refine aB af (fun _ => 0) J J trivial rfl fun w hm => ⟨?_, hm.below⟩
    refine cx ?_
    clear hm
    unfold da
    grind
set_option maxRecDepth 100000 in
set_option maxHeartbeats 4000000 in
theorem rD (t m gn : Int) (w : World) : Calls Tryz.prog 22 #[.agg #[.int .i64 t, .int .i64 m, .int .i64 gn]] w fun e w' => e = .returned (.int .i64 (da t m gn)) ∧ Below w.heap.size w w' := by
  refine aD Tryz.func22 rfl Tryz.ntmps22 J J ?_
  repeat' (first | refine ag ?_ | refine aa ?_ | refine ab ?_ | refine aA ?_ | refine au ?_ | refine aE ?_ | refine a8 ?_ | refine ar ?_ | refine aH ?_ | refine ax ?_ | refine aQ ?_ | refine aN ?_ | refine cu rfl ?_ | refine aY aK rfl (by kernel_rfl) ?_ | refine ae ?_ | refine bz ?_ | (refine ea ?_; intro g) | ((first | refine' ak rfl ?_ J J ?_ | refine' dm rfl ?_ J J J ?_); rotate_left; first | exact ai af J J J J | exact aq af J J J J J J | exact bp J J J J J | exact bx J J J J J | exact ah af 0 J J J J J | exact ah af 1 J J J J J | exact ah af 2 J J J J J | exact fX af fm J J J J J J (by kernel_rfl) | exact ew af fm J J J J J J (by kernel_rfl) | exact aO af J J J J J J J | exact d9 J J J J J | exact cV J J J J J | exact jd J J J J J J J | exact aC af J J trivial J J J | exact aC af J J ⟨J, trivial⟩ J J J | exact aC af J J ⟨J, J, trivial⟩ J J J | exact aC af J J ⟨J, J, J, trivial⟩ J J J | exact aC af J J ⟨J, J, J, J, trivial⟩ J J J | exact aC af J J ⟨J, J, J, J, J, trivial⟩ J J J | exact aC af J J ⟨J, J, J, J, J, J, trivial⟩ J J J | exact aC af J J ⟨J, J, J, J, J, J, J, trivial⟩ J J J | exact aC af J J ⟨J, J, J, J, J, J, J, J, trivial⟩ J J J) | (refine aT J J J J J J ?_; intro g) | (refine aF af J J J J J J ?_; intro g) | refine dJ af J J J J J J ?_ | refine gA J J J J J J ?_ | refine aj af 0 J J J J J J J J J J J J ?_ | refine aj af 1 J J J J J J J J J J J J ?_ | refine aj af 2 J J J J J J J J J J J J ?_ | (refine gz rfl (fun h => ?_) (fun h => ?_) <;> (try simp at h)))
  all_goals
    refine aB af (fun _ => 0) J J trivial rfl fun w hm => ⟨?_, hm.below⟩
    refine cx ?_
    clear hm
    unfold da
    grind
theorem gk (t m gn e : Int) (he : da t m gn = e) (w : World) : Calls Tryz.prog 18 #[.agg #[.int .i64 t, .int .i64 m, .int .i64 gn]] w fun r w' => r = .returned (.int .i64 e) ∧ Below w.heap.size w w' := by
  subst he; exact sY t m gn w
theorem fp (t m gn e : Int) (he : da t m gn = e) (w : World) : Calls Tryz.prog 22 #[.agg #[.int .i64 t, .int .i64 m, .int .i64 gn]] w fun r w' => r = .returned (.int .i64 e) ∧ Below w.heap.size w w' := by
  subst he; exact rD t m gn w
set_option maxRecDepth 100000 in
set_option maxHeartbeats 4000000 in
theorem sZ (t m gn : Int) (w : World) : Calls Tryz.prog 53 #[.agg #[.int .i64 t, .int .i64 m, .int .i64 gn]] w fun e w' => e = .returned (.agg #[.int .i64 (dt t m gn), .int .i64 m, .int .i64 gn]) ∧ Below w.heap.size w w' := by
  obtain ⟨e, he⟩ : ∃ e, da t m gn = e := ⟨_, rfl⟩
  refine aD Tryz.func53 rfl Tryz.ntmps53 J J ?_
  repeat' (first | refine ag ?_ | refine aa ?_ | refine ab ?_ | refine ae ?_ | ((refine' ak rfl ?_ J J ?_); rotate_left; first | exact aq af J J J J J J | exact ah af 1 J J J J J) | refine aG rfl (ay J J J J ⟨J, trivial⟩ rfl (by kernel_rfl)) (fun w hm => gk t m gn e he w) J J ?_ | (refine aT J J J J J J ?_; intro g) | (refine aF af J J J J J J ?_; intro g))
  by_cases hb0 : e = 0
  · have hb : da t m gn = 0 := by rw [he]; exact hb0
    have hr := gj hb
    subst hb0
    refine am J J ?_
    repeat' (first | refine ag ?_ | refine aa ?_ | refine ab ?_ | refine aA ?_ | refine au ?_ | refine ae ?_ | ((refine' ak rfl ?_ J J ?_); rotate_left; first | exact a6 J J J J J (by omega) | exact ai af J J J J | exact ah af 1 J J J J J | exact cV J J J J J) | refine aj af 0 J J J J J J J J J J J J ?_ | refine aj af 1 J J J J J J J J J J J J ?_)
    (refine aB af (fun _ => 0) J J ⟨J, trivial⟩ rfl fun w hm => ⟨?_, hm.below⟩)
    refine kA ?_
    unfold dt; rw [if_pos hb]
    clear hm
    split <;> omega
  · have hb : ¬ da t m gn = 0 := by rw [he]; exact hb0
    refine aw rfl (by simpa using hb0) ?_
    repeat' (first | refine ag ?_ | refine aa ?_ | refine ab ?_ | refine aA ?_ | refine ar ?_ | refine ae ?_ | ((refine' ak rfl ?_ J J ?_); rotate_left; exact ah af 1 J J J J J) | refine aj af 0 J J J J J J J J J J J J ?_)
    (refine aB af (fun _ => 0) J J ⟨J, trivial⟩ rfl fun w hm => ⟨?_, hm.below⟩)
    refine kA ?_
    unfold dt; rw [if_neg hb]
set_option maxRecDepth 100000 in
set_option maxHeartbeats 4000000 in
theorem uO (t m gn : Int) (w : World) : Calls Tryz.prog 95 #[.agg #[.int .i64 t, .int .i64 m, .int .i64 gn]] w fun e w' => e = .returned (.tuple #[.agg #[.int .i64 (nk t m gn), .int .i64 m, .int .i64 gn], .int .i64 (iI t m gn)]) ∧ Below w.heap.size w w' := by
  obtain ⟨e, he⟩ : ∃ e, da t m gn = e := ⟨_, rfl⟩
  refine aD Tryz.func95 rfl Tryz.ntmps95 J J ?_
  repeat' (first | refine ag ?_ | refine aa ?_ | refine ab ?_ | refine ae ?_ | ((refine' ak rfl ?_ J J ?_); rotate_left; first | exact ai af J J J J | exact aq af J J J J J J | exact ah af 1 J J J J J) | refine aG rfl (ay J J J J ⟨J, trivial⟩ rfl (by kernel_rfl)) (fun w hm => gk t m gn e he w) J J ?_ | (refine aT J J J J J J ?_; intro g) | (refine aF af J J J J J J ?_; intro g))
  by_cases hb0 : e = 0
  · have hb : da t m gn = 0 := by rw [he]; exact hb0
    have hr := gj hb
    subst hb0
    refine am J J ?_
    by_cases ht : 1000 ≤ t
    · rw [show nk t m gn = t - 1000 from if_pos ⟨hb, ht⟩, show iI t m gn = 0 from by unfold iI; rw [if_pos hb, if_pos ht]]
      repeat' (first | refine ag ?_ | refine aa ?_ | refine ab ?_ | refine au ?_ | refine ae ?_ | ((refine' ak rfl ?_ J J ?_); rotate_left; first | exact ai af J J J J | exact aq af J J J J J J | exact ah af 1 J J J J J))
      refine am rfl (by simp; omega) ?_
      repeat' (first | refine ag ?_ | refine aa ?_ | refine ab ?_ | refine aA ?_ | refine au ?_ | refine ae ?_ | ((refine' ak rfl ?_ J J ?_); rotate_left; first | exact gX J J J J J (by omega) | exact ai af J J J J | exact ah af 1 J J J J J) | refine aj af 0 J J J J J J J J J J J J ?_ | refine aj af 1 J J J J J J J J J J J J ?_)
      (refine aB af (fun _ => 0) J J ⟨J, trivial⟩ rfl fun w hm => ⟨?_, hm.below⟩)
      rfl
    · rw [show nk t m gn = t from if_neg (fun h => ht h.2), show iI t m gn = 22 from by unfold iI; rw [if_pos hb, if_neg ht]]
      repeat' (first | refine ag ?_ | refine aa ?_ | refine ab ?_ | refine au ?_ | refine ae ?_ | ((refine' ak rfl ?_ J J ?_); rotate_left; first | exact ai af J J J J | exact aq af J J J J J J | exact ah af 1 J J J J J))
      refine aw rfl (by simp; omega) ?_
      repeat' (first | refine ag ?_ | refine aa ?_ | refine ab ?_ | refine aA ?_ | refine ar ?_ | refine ae ?_ | ((refine' ak rfl ?_ J J ?_); rotate_left; first | exact ai af J J J J | exact ah af 1 J J J J J) | refine aj af 0 J J J J J J J J J J J J ?_)
      (refine aB af (fun _ => 0) J J ⟨J, trivial⟩ rfl fun w hm => ⟨?_, hm.below⟩)
      rfl
  · have hb : ¬ da t m gn = 0 := by rw [he]; exact hb0
    rw [show nk t m gn = t from if_neg (fun h => hb h.1), show iI t m gn = 1 from if_neg hb]
    refine aw rfl (by simpa using hb0) ?_
    repeat' (first | refine ag ?_ | refine aa ?_ | refine ab ?_ | refine aA ?_ | refine ar ?_ | refine ae ?_ | ((refine' ak rfl ?_ J J ?_); rotate_left; first | exact ai af J J J J | exact ah af 1 J J J J J) | refine aj af 0 J J J J J J J J J J J J ?_)
    (refine aB af (fun _ => 0) J J ⟨J, trivial⟩ rfl fun w hm => ⟨?_, hm.below⟩)
    rfl
set_option maxRecDepth 100000 in
set_option maxHeartbeats 4000000 in
theorem s3 (t m gn : Int) (w : World) : Calls Tryz.prog 78 #[.agg #[.int .i64 t, .int .i64 m, .int .i64 gn]] w fun e w' => e = .returned (.tuple #[.agg #[.int .i64 (nk t m gn), .int .i64 m, .int .i64 gn], .int .i64 (iI t m gn)]) ∧ Below w.heap.size w w' := by
  obtain ⟨e, he⟩ : ∃ e, da t m gn = e := ⟨_, rfl⟩
  refine aD Tryz.func78 rfl Tryz.ntmps78 J J ?_
  repeat' (first | refine ag ?_ | refine aa ?_ | refine ab ?_ | refine ae ?_ | ((refine' ak rfl ?_ J J ?_); rotate_left; first | exact ai af J J J J | exact aq af J J J J J J | exact ah af 1 J J J J J) | refine aG rfl (ay J J J J ⟨J, trivial⟩ rfl (by kernel_rfl)) (fun w hm => fp t m gn e he w) J J ?_ | (refine aT J J J J J J ?_; intro g) | (refine aF af J J J J J J ?_; intro g))
  by_cases hb0 : e = 0
  · have hb : da t m gn = 0 := by rw [he]; exact hb0
    have hr := gj hb
    subst hb0
    refine am J J ?_
    by_cases ht : 1000 ≤ t
    · rw [show nk t m gn = t - 1000 from if_pos ⟨hb, ht⟩, show iI t m gn = 0 from by unfold iI; rw [if_pos hb, if_pos ht]]
      repeat' (first | refine ag ?_ | refine aa ?_ | refine ab ?_ | refine au ?_ | refine ae ?_ | ((refine' ak rfl ?_ J J ?_); rotate_left; first | exact ai af J J J J | exact aq af J J J J J J | exact ah af 1 J J J J J))
      refine am rfl (by simp; omega) ?_
      repeat' (first | refine ag ?_ | refine aa ?_ | refine ab ?_ | refine aA ?_ | refine au ?_ | refine ae ?_ | ((refine' ak rfl ?_ J J ?_); rotate_left; first | exact gX J J J J J (by omega) | exact ai af J J J J | exact ah af 1 J J J J J) | refine aj af 0 J J J J J J J J J J J J ?_ | refine aj af 1 J J J J J J J J J J J J ?_)
      (refine aB af (fun _ => 0) J J ⟨J, trivial⟩ rfl fun w hm => ⟨?_, hm.below⟩)
      rfl
    · rw [show nk t m gn = t from if_neg (fun h => ht h.2), show iI t m gn = 22 from by unfold iI; rw [if_pos hb, if_neg ht]]
      repeat' (first | refine ag ?_ | refine aa ?_ | refine ab ?_ | refine au ?_ | refine ae ?_ | ((refine' ak rfl ?_ J J ?_); rotate_left; first | exact ai af J J J J | exact aq af J J J J J J | exact ah af 1 J J J J J))
      refine aw rfl (by simp; omega) ?_
      repeat' (first | refine ag ?_ | refine aa ?_ | refine ab ?_ | refine aA ?_ | refine ar ?_ | refine ae ?_ | ((refine' ak rfl ?_ J J ?_); rotate_left; first | exact ai af J J J J | exact ah af 1 J J J J J) | refine aj af 0 J J J J J J J J J J J J ?_)
      (refine aB af (fun _ => 0) J J ⟨J, trivial⟩ rfl fun w hm => ⟨?_, hm.below⟩)
      rfl
  · have hb : ¬ da t m gn = 0 := by rw [he]; exact hb0
    rw [show nk t m gn = t from if_neg (fun h => hb h.1), show iI t m gn = 1 from if_neg hb]
    refine aw rfl (by simpa using hb0) ?_
    repeat' (first | refine ag ?_ | refine aa ?_ | refine ab ?_ | refine aA ?_ | refine ar ?_ | refine ae ?_ | ((refine' ak rfl ?_ J J ?_); rotate_left; first | exact ai af J J J J | exact ah af 1 J J J J J) | refine aj af 0 J J J J J J J J J J J J ?_)
    (refine aB af (fun _ => 0) J J ⟨J, trivial⟩ rfl fun w hm => ⟨?_, hm.below⟩)
    rfl
end Go.Proofs.YtmdkfbmpenohiaaGreatDoor.Y
namespace Go.Proofs.YtmdkfbmpenohiaaGreatDoor.Y
open Go.RowKit
def cp (n k : Int) : Int := min (max n 0) k
def gR (n : Int) : Bool := decide (0 ≤ n ∧ n ≤ 1000000)
theorem pM {a b : Bool} (h : a = b) : Ending.returned (.bool a) = Ending.returned (.bool b) := by rw [h]
set_option maxRecDepth 100000 in
set_option maxHeartbeats 4000000 in
theorem jN (n k : Int) (w : World) : Calls Tryz.prog 85 #[.int .i64 n, .int .i64 k] w fun e w' => e = .returned (.int .i64 (cp n k)) ∧ Below w.heap.size w w' := by
  refine aD Tryz.func85 rfl Tryz.ntmps85 J J ?_
  repeat' (first | refine ag ?_ | refine aa ?_ | refine ab ?_ | refine aA ?_ | refine ae ?_ | ((refine' ak rfl ?_ J J ?_); rotate_left; first | exact ai af J J J J | exact d9 J J J J J | exact cV J J J J J))
  all_goals
    refine aB af (fun _ => 0) J J trivial rfl fun w hm => ⟨?_, hm.below⟩
    refine cx ?_
    clear hm
    unfold cp
    (repeat' split) <;> omega
set_option maxRecDepth 100000 in
set_option maxHeartbeats 4000000 in
theorem gl (n : Int) (w : World) : Calls Tryz.prog 47 #[.int .i64 n] w fun e w' => e = .returned (.int .i64 (cp n 1099511627776)) ∧ Below w.heap.size w w' := by
  refine aD Tryz.func47 rfl Tryz.ntmps47 J J ?_
  repeat' (first | refine ag ?_ | refine aa ?_ | refine ab ?_ | refine aA ?_ | refine ae ?_ | ((refine' ak rfl ?_ J J ?_); rotate_left; first | exact ai af J J J J | exact d9 J J J J J | exact cV J J J J J))
  all_goals
    refine aB af (fun _ => 0) J J trivial rfl fun w hm => ⟨?_, hm.below⟩
    refine cx ?_
    clear hm
    unfold cp
    (repeat' split) <;> omega
set_option maxRecDepth 100000 in
set_option maxHeartbeats 4000000 in
theorem oc (n : Int) (w : World) : Calls Tryz.prog 42 #[.int .i64 n] w fun e w' => e = .returned (.bool (gR n)) ∧ Below w.heap.size w w' := by
  refine aD Tryz.func42 rfl Tryz.ntmps42 J J ?_
  repeat' (first | refine ag ?_ | refine aa ?_ | refine ab ?_ | refine aA ?_ | refine ae ?_ | ((refine' ak rfl ?_ J J ?_); rotate_left; first | exact ai af J J J J | exact aq af J J J J J J | exact bx J J J J J))
  all_goals
    refine aB af (fun _ => 0) J J trivial rfl fun w hm => ⟨?_, hm.below⟩
    refine pM ?_
    clear hm
    unfold gR
    rw [Bool.eq_iff_iff]
    simp
end Go.Proofs.YtmdkfbmpenohiaaGreatDoor.Y
