import Derived.Test.YthiocbcokfondaaGreatDoorJSyw
import Derived.Test.YthiocbcokfondaaGreatDoorChecked
import Derived.LoopN
namespace Go.Proofs.YthiocbcokfondaaGreatDoor.Y
section
open Go.RowKit
def tab:eV:=[(2,.int .i64 (.int .i64 0)),
 (3,.int .i64 (.int .i64 0)),
 (4,.bool (.bool false)),
 (5,.int .u8 (.int .u8 0)),
 (9,.str (.string ⟨#[]⟩)),
 (12,.int .u64 (.int .u64 0)),
 (21,.int .i32 (.int .i32 0)),
 (46,.int .i64 (.int .i64 0)),
 (134,.int .u64 (.int .u64 0)),
 (172,.int .u64 (.int .u64 0)),
 (213,.int .u32 (.int .u32 0)),
 (23,.row 3 [.int .i64 0,.int .i64 0,.int .i64 0] [(0,3),(1,3),(2,3)]),
 (28,.row 15 [.int .i64 0,.int .i64 0,.int .i64 0,.int .i64 0,.int .i64 0,.int .i64 0,.int .i64 0,.int .i64 0,.int .i64 0,.int .i64 0,.int .i64 0,.slice none 0 0,.slice none 0 0,.slice none 0 0,.bool false] [(0,3),(1,3),(2,3),(3,3),(4,3),(5,23),(8,23),(11,24),(12,25),(13,26),(14,4)]),
 (31,.row 2 [.int .i64 0,.string ⟨#[]⟩] [(0,3),(1,9)]),
 (33,.row 16 [.int .i64 0,.int .i64 0,.int .i64 0,.int .i64 0,.int .i64 0,.bool false,.bool false,.bool false,.int .i64 0,.string ⟨#[]⟩,.int .i64 0,.int .i64 0,.int .i64 0,.int .i64 0,.int .i64 0,.int .i64 0] [(0,3),(1,3),(2,3),(3,3),(4,3),(5,4),(6,4),(7,4),(8,31),(10,23),(13,23)]),
 (36,.row 4 [.string ⟨#[]⟩,.string ⟨#[]⟩,.int .i64 0,.slice none 0 0] [(0,9),(1,9),(2,3),(3,34)]),
 (39,.row 22 [.int .i64 0,.int .i64 0,.int .i64 0,.int .i64 0,.int .i64 0,.bool false,.bool false,.bool false,.int .i64 0,.string ⟨#[]⟩,.int .i64 0,.int .i64 0,.int .i64 0,.int .i64 0,.int .i64 0,.int .i64 0,.string ⟨#[]⟩,.string ⟨#[]⟩,.int .i64 0,.slice none 0 0,.slice none 0 0,.slice none 0 0] [(0,33),(16,36),(20,37),(21,25)]),
 (53,.row 36 [.int .i64 0,.int .i64 0,.int .i64 0,.int .i64 0,.int .i64 0,.int .i64 0,.int .i64 0,.int .i64 0,.int .i64 0,.int .i64 0,.int .i64 0,.slice none 0 0,.slice none 0 0,.slice none 0 0,.bool false,.int .i64 0,.int .i64 0,.int .i64 0,.int .i64 0,.int .i64 0,.int .i64 0,.int .i64 0,.int .i64 0,.int .i64 0,.int .i64 0,.int .i64 0,.slice none 0 0,.slice none 0 0,.slice none 0 0,.bool false,.int .i64 0,.slice none 0 0,.slice none 0 0,.slice none 0 0,.slice none 0 0,.bool false] [(0,28),(15,28),(30,3),(31,37),(32,37),(33,37),(34,37),(35,4)]),
 (55,.row 2 [.int .i64 0,.string ⟨#[]⟩] [(0,3),(1,9)]),
 (61,.row 5 [.int .i64 0,.int .i64 0,.string ⟨#[]⟩,.bool false,.slice none 0 0] [(0,46),(1,3),(2,9),(3,4),(4,25)]),
 (65,.row 4 [.int .i64 0,.int .i64 0,.int .i64 0,.string ⟨#[]⟩] [(0,3),(1,3),(2,3),(3,9)]),
 (67,.row 14 [.int .i64 0,.int .i64 0,.int .i64 0,.string ⟨#[]⟩,.string ⟨#[]⟩,.string ⟨#[]⟩,.int .i64 0,.slice none 0 0,.int .i64 0,.int .i64 0,.int .i64 0,.string ⟨#[]⟩,.int .i64 0,.string ⟨#[]⟩] [(0,3),(1,3),(2,3),(3,9),(4,36),(8,65),(12,31)]),
 (93,.row 2 [.string ⟨#[]⟩,.string ⟨#[]⟩] [(0,9),(1,9)]),
 (127,.row 2 [.pointer none,.slice none 0 0] [(0,124),(1,125)]),
 (150,.row 20 [.int .i64 0,.int .i64 0,.int .i64 0,.int .i64 0,.int .i64 0,.bool false,.bool false,.bool false,.int .i64 0,.string ⟨#[]⟩,.int .i64 0,.int .i64 0,.int .i64 0,.int .i64 0,.int .i64 0,.int .i64 0,.int .i64 0,.int .i64 0,.int .i64 0,.int .i64 0] [(0,33),(16,3),(17,3),(18,3),(19,3)]),
 (157,.row 2 [.string ⟨#[]⟩,.int .i64 0] [(0,9),(1,46)]),
 (196,.row 3 [.int .i64 0,.int .i64 0,.int .i64 0] [(0,23)]),
 (15,.ptr 217 (.pointer none)),
 (16,.ptr 220 (.pointer none)),
 (17,.ptr 227 (.pointer none)),
 (24,.slc 39 (.slice none 0 0)),
 (25,.slc 65 (.slice none 0 0)),
 (26,.slc 3 (.slice none 0 0)),
 (34,.slc 93 (.slice none 0 0)),
 (37,.slc 9 (.slice none 0 0)),
 (45,.slc 55 (.slice none 0 0)),
 (59,.slc 67 (.slice none 0 0)),
 (101,.ptr 28 (.pointer none)),
 (116,.ptr 39 (.pointer none)),
 (124,.ptr 127 (.pointer none)),
 (125,.slc 5 (.slice none 0 0)),
 (137,.ptr 23 (.pointer none)),
 (155,.ptr 157 (.pointer none)),
 (173,.ptr 5 (.pointer none)),
 (182,.ptr 196 (.pointer none)),
 (209,.arr 256 [.int .u8 0,.int .u8 0,.int .u8 0,.int .u8 0,.int .u8 0,.int .u8 0,.int .u8 0,.int .u8 0,.int .u8 0,.int .u8 0,.int .u8 0,.int .u8 0,.int .u8 0,.int .u8 0,.int .u8 0,.int .u8 0,.int .u8 0,.int .u8 0,.int .u8 0,.int .u8 0,.int .u8 0,.int .u8 0,.int .u8 0,.int .u8 0,.int .u8 0,.int .u8 0,.int .u8 0,.int .u8 0,.int .u8 0,.int .u8 0,.int .u8 0,.int .u8 0,.int .u8 0,.int .u8 0,.int .u8 0,.int .u8 0,.int .u8 0,.int .u8 0,.int .u8 0,.int .u8 0,.int .u8 0,.int .u8 0,.int .u8 0,.int .u8 0,.int .u8 0,.int .u8 0,.int .u8 0,.int .u8 0,.int .u8 0,.int .u8 0,.int .u8 0,.int .u8 0,.int .u8 0,.int .u8 0,.int .u8 0,.int .u8 0,.int .u8 0,.int .u8 0,.int .u8 0,.int .u8 0,.int .u8 0,.int .u8 0,.int .u8 0,.int .u8 0,.int .u8 0,.int .u8 0,.int .u8 0,.int .u8 0,.int .u8 0,.int .u8 0,.int .u8 0,.int .u8 0,.int .u8 0,.int .u8 0,.int .u8 0,.int .u8 0,.int .u8 0,.int .u8 0,.int .u8 0,.int .u8 0,.int .u8 0,.int .u8 0,.int .u8 0,.int .u8 0,.int .u8 0,.int .u8 0,.int .u8 0,.int .u8 0,.int .u8 0,.int .u8 0,.int .u8 0,.int .u8 0,.int .u8 0,.int .u8 0,.int .u8 0,.int .u8 0,.int .u8 0,.int .u8 0,.int .u8 0,.int .u8 0,.int .u8 0,.int .u8 0,.int .u8 0,.int .u8 0,.int .u8 0,.int .u8 0,.int .u8 0,.int .u8 0,.int .u8 0,.int .u8 0,.int .u8 0,.int .u8 0,.int .u8 0,.int .u8 0,.int .u8 0,.int .u8 0,.int .u8 0,.int .u8 0,.int .u8 0,.int .u8 0,.int .u8 0,.int .u8 0,.int .u8 0,.int .u8 0,.int .u8 0,.int .u8 0,.int .u8 0,.int .u8 0,.int .u8 0,.int .u8 0,.int .u8 0,.int .u8 0,.int .u8 0,.int .u8 0,.int .u8 0,.int .u8 0,.int .u8 0,.int .u8 0,.int .u8 0,.int .u8 0,.int .u8 0,.int .u8 0,.int .u8 0,.int .u8 0,.int .u8 0,.int .u8 0,.int .u8 0,.int .u8 0,.int .u8 0,.int .u8 0,.int .u8 0,.int .u8 0,.int .u8 0,.int .u8 0,.int .u8 0,.int .u8 0,.int .u8 0,.int .u8 0,.int .u8 0,.int .u8 0,.int .u8 0,.int .u8 0,.int .u8 0,.int .u8 0,.int .u8 0,.int .u8 0,.int .u8 0,.int .u8 0,.int .u8 0,.int .u8 0,.int .u8 0,.int .u8 0,.int .u8 0,.int .u8 0,.int .u8 0,.int .u8 0,.int .u8 0,.int .u8 0,.int .u8 0,.int .u8 0,.int .u8 0,.int .u8 0,.int .u8 0,.int .u8 0,.int .u8 0,.int .u8 0,.int .u8 0,.int .u8 0,.int .u8 0,.int .u8 0,.int .u8 0,.int .u8 0,.int .u8 0,.int .u8 0,.int .u8 0,.int .u8 0,.int .u8 0,.int .u8 0,.int .u8 0,.int .u8 0,.int .u8 0,.int .u8 0,.int .u8 0,.int .u8 0,.int .u8 0,.int .u8 0,.int .u8 0,.int .u8 0,.int .u8 0,.int .u8 0,.int .u8 0,.int .u8 0,.int .u8 0,.int .u8 0,.int .u8 0,.int .u8 0,.int .u8 0,.int .u8 0,.int .u8 0,.int .u8 0,.int .u8 0,.int .u8 0,.int .u8 0,.int .u8 0,.int .u8 0,.int .u8 0,.int .u8 0,.int .u8 0,.int .u8 0,.int .u8 0,.int .u8 0,.int .u8 0,.int .u8 0,.int .u8 0,.int .u8 0,.int .u8 0,.int .u8 0,.int .u8 0,.int .u8 0,.int .u8 0,.int .u8 0,.int .u8 0,.int .u8 0,.int .u8 0,.int .u8 0,.int .u8 0,.int .u8 0,.int .u8 0,.int .u8 0,.int .u8 0,.int .u8 0,.int .u8 0,.int .u8 0,.int .u8 0,.int .u8 0,.int .u8 0] 256 5),
 (212,.arr 32 [.int .u8 0,.int .u8 0,.int .u8 0,.int .u8 0,.int .u8 0,.int .u8 0,.int .u8 0,.int .u8 0,.int .u8 0,.int .u8 0,.int .u8 0,.int .u8 0,.int .u8 0,.int .u8 0,.int .u8 0,.int .u8 0,.int .u8 0,.int .u8 0,.int .u8 0,.int .u8 0,.int .u8 0,.int .u8 0,.int .u8 0,.int .u8 0,.int .u8 0,.int .u8 0,.int .u8 0,.int .u8 0,.int .u8 0,.int .u8 0,.int .u8 0,.int .u8 0] 16 211),
 (7,.row 4 [.int .i64 0,.int .i64 0,.bool false,.int .u8 0] [(0,2),(1,3),(2,4),(3,6)]),
 (13,.row 2 [.string ⟨#[]⟩,.int .u64 0] [(0,9),(1,12)]),
 (18,.row 1 [.pointer none] [(0,17)]),
 (22,.row 3 [.int .i64 0,.int .i64 0,.int .i64 0] [(0,3),(1,3),(2,3)]),
 (27,.row 15 [.int .i64 0,.int .i64 0,.int .i64 0,.int .i64 0,.int .i64 0,.int .i64 0,.int .i64 0,.int .i64 0,.int .i64 0,.int .i64 0,.int .i64 0,.slice none 0 0,.slice none 0 0,.slice none 0 0,.bool false] [(0,3),(1,3),(2,3),(3,3),(4,3),(5,23),(8,23),(11,24),(12,25),(13,26),(14,4)]),
 (30,.row 2 [.int .i64 0,.string ⟨#[]⟩] [(0,3),(1,9)]),
 (32,.row 16 [.int .i64 0,.int .i64 0,.int .i64 0,.int .i64 0,.int .i64 0,.bool false,.bool false,.bool false,.int .i64 0,.string ⟨#[]⟩,.int .i64 0,.int .i64 0,.int .i64 0,.int .i64 0,.int .i64 0,.int .i64 0] [(0,3),(1,3),(2,3),(3,3),(4,3),(5,4),(6,4),(7,4),(8,31),(10,23),(13,23)]),
 (35,.row 4 [.string ⟨#[]⟩,.string ⟨#[]⟩,.int .i64 0,.slice none 0 0] [(0,9),(1,9),(2,3),(3,34)]),
 (38,.row 22 [.int .i64 0,.int .i64 0,.int .i64 0,.int .i64 0,.int .i64 0,.bool false,.bool false,.bool false,.int .i64 0,.string ⟨#[]⟩,.int .i64 0,.int .i64 0,.int .i64 0,.int .i64 0,.int .i64 0,.int .i64 0,.string ⟨#[]⟩,.string ⟨#[]⟩,.int .i64 0,.slice none 0 0,.slice none 0 0,.slice none 0 0] [(0,33),(16,36),(20,37),(21,25)]),
 (52,.row 36 [.int .i64 0,.int .i64 0,.int .i64 0,.int .i64 0,.int .i64 0,.int .i64 0,.int .i64 0,.int .i64 0,.int .i64 0,.int .i64 0,.int .i64 0,.slice none 0 0,.slice none 0 0,.slice none 0 0,.bool false,.int .i64 0,.int .i64 0,.int .i64 0,.int .i64 0,.int .i64 0,.int .i64 0,.int .i64 0,.int .i64 0,.int .i64 0,.int .i64 0,.int .i64 0,.slice none 0 0,.slice none 0 0,.slice none 0 0,.bool false,.int .i64 0,.slice none 0 0,.slice none 0 0,.slice none 0 0,.slice none 0 0,.bool false] [(0,28),(15,28),(30,3),(31,37),(32,37),(33,37),(34,37),(35,4)]),
 (54,.row 2 [.int .i64 0,.string ⟨#[]⟩] [(0,3),(1,9)]),
 (60,.row 5 [.int .i64 0,.int .i64 0,.string ⟨#[]⟩,.bool false,.slice none 0 0] [(0,46),(1,3),(2,9),(3,4),(4,25)]),
 (64,.row 4 [.int .i64 0,.int .i64 0,.int .i64 0,.string ⟨#[]⟩] [(0,3),(1,3),(2,3),(3,9)]),
 (66,.row 14 [.int .i64 0,.int .i64 0,.int .i64 0,.string ⟨#[]⟩,.string ⟨#[]⟩,.string ⟨#[]⟩,.int .i64 0,.slice none 0 0,.int .i64 0,.int .i64 0,.int .i64 0,.string ⟨#[]⟩,.int .i64 0,.string ⟨#[]⟩] [(0,3),(1,3),(2,3),(3,9),(4,36),(8,65),(12,31)]),
 (92,.row 2 [.string ⟨#[]⟩,.string ⟨#[]⟩] [(0,9),(1,9)]),
 (126,.row 2 [.pointer none,.slice none 0 0] [(0,124),(1,125)]),
 (149,.row 20 [.int .i64 0,.int .i64 0,.int .i64 0,.int .i64 0,.int .i64 0,.bool false,.bool false,.bool false,.int .i64 0,.string ⟨#[]⟩,.int .i64 0,.int .i64 0,.int .i64 0,.int .i64 0,.int .i64 0,.int .i64 0,.int .i64 0,.int .i64 0,.int .i64 0,.int .i64 0] [(0,33),(16,3),(17,3),(18,3),(19,3)]),
 (156,.row 2 [.string ⟨#[]⟩,.int .i64 0] [(0,9),(1,46)]),
 (195,.row 3 [.int .i64 0,.int .i64 0,.int .i64 0] [(0,23)]),
 (210,.row 2 [.int .u8 0,.int .u8 0] [(0,5),(1,5)]),
 (216,.row 4 [.pointer none,.pointer none,.pointer none,.string ⟨#[]⟩] [(0,17),(1,17),(2,17),(3,9)]),
 (226,.row 11 [.int .u64 0,.int .u64 0,.int .u32 0,.int .u8 0,.int .u8 0,.int .u8 0,.int .u8 0,.nilFunc,.pointer none,.int .i32 0,.int .i32 0] [(0,12),(1,12),(2,213),(3,221),(4,5),(5,5),(6,222),(7,223),(8,173),(9,224),(10,225)]),
 (20,.one (.nilIface)),
 (75,.one (.map none)),
 (128,.one (.nilIface)),
 (6,.int .u8 (.int .u8 0)),
 (10,.str (.string ⟨#[]⟩)),
 (11,.str (.string ⟨#[]⟩)),
 (221,.int .u8 (.int .u8 0)),
 (222,.int .u8 (.int .u8 0)),
 (224,.int .i32 (.int .i32 0)),
 (225,.int .i32 (.int .i32 0))]
theorem ae:TOK Tryz.prog tab:=show tab.map (fun e=>kF Tryz.prog e.1)=tab.map (fun e=>some e.2)by kernel_rfl
def eqE:List TypeId:=[23,31,33,55,65,67,93,150,157,196]
theorem ie:eqE.all (Ba Tryz.prog)=true:=by kernel_rfl
theorem ak:Tryz.prog.follows .mixedOrders=true:=by kernel_rfl
end
section
open Go.RowKit
section
variable {P:Program}{Q:Exit→Act→World→Prop}{n:Nat}{w0:World}{S:co}{M:List Ent}
structure IV(P:Program)(c:Code)(Q:Exit→Act→World→Prop)(k n:Nat)(w0:World)(S:co)(M:List Ent):Prop where
 run:∀a w,Sl n a S→Mem w0 w M→Code.rounds P c Q k a w
end
section
variable {P:Program}{T:eV}{w0:World}{S:co}{M:List Ent}{L:Cd}{o:Oper}
end
end
section
open Go.RowKit
theorem vv{a:Prop}(h:a:=by first|exact ax ae J J J J|exact aM ae J J J J J J|exact cE J J J J J|exact dj J J J J J|exact ab ae 0 J J J J J|exact ab ae 1 J J J J J|exact ab ae 2 J J J J J|exact ab ae 3 J J J J J|exact ab ae 4 J J J J J|exact ab ae 5 J J J J J|exact ab ae 6 J J J J J|exact ab ae 7 J J J J J|exact ab ae 8 J J J J J|exact ab ae 9 J J J J J|exact gR ae ie J J J J J J (by kernel_rfl)|exact gS ae ie J J J J J J (by kernel_rfl)|exact dv ae J J J J J J J|exact gu J J J J J|exact jq J J J J J|exact lM J J J J J J J|exact aj ae J J trivial J J J|exact aj ae J J ⟨J,trivial⟩ J J J|exact aj ae J J ⟨J,J,trivial⟩ J J J|exact aj ae J J ⟨J,J,J,trivial⟩ J J J|exact aj ae J J ⟨J,J,J,J,trivial⟩ J J J|exact aj ae J J ⟨J,J,J,J,J,trivial⟩ J J J|exact aj ae J J ⟨J,J,J,J,J,J,trivial⟩ J J J|exact aj ae J J ⟨J,J,J,J,J,J,J,trivial⟩ J J J):a:=h
theorem nx{a b:Prop}(h:b)(r:b→a:=by first|exact aD|exact ap|exact aK|exact ay|exact bq|exact bo|exact en|exact kh|exact aC|exact ei|exact cC|exact dK|exact fw|exact oP rfl|exact bJ rfl vv J J|exact av ae 0 J J J J J J J J J J J J|exact av ae 1 J J J J J J J J J J J J|exact av ae 2 J J J J J J J J J J J J|exact av ae 3 J J J J J J J J J J J J|exact av ae 4 J J J J J J J J J J J J|exact av ae 5 J J J J J J J J J J J J|exact av ae 6 J J J J J J J J J J J J|exact av ae 7 J J J J J J J J J J J J|exact av ae 8 J J J J J J J J J J J J|exact av ae 9 J J J J J J J J J J J J):a:=r h
theorem dx{a b:Prop}(h:b)(r:b→a:=by first|exact ap|exact aK|exact ay|exact bq|exact bo|exact en|exact kh|exact aC|exact ei|exact cC|exact dK|exact fw|exact oP rfl|exact bJ rfl vv J J|exact av ae 0 J J J J J J J J J J J J|exact av ae 1 J J J J J J J J J J J J|exact av ae 2 J J J J J J J J J J J J|exact av ae 3 J J J J J J J J J J J J|exact av ae 4 J J J J J J J J J J J J|exact av ae 5 J J J J J J J J J J J J|exact av ae 6 J J J J J J J J J J J J|exact av ae 7 J J J J J J J J J J J J|exact av ae 8 J J J J J J J J J J J J|exact av ae 9 J J J J J J J J J J J J):a:=r h
theorem ny{a b:Prop}(h:b)(r:b→a:=by first|exact aF ak rfl (by kernel_rfl)|exact bD|exact bO|exact cg ae J J J J J J|exact jr J J J J J J|exact cB rfl vv J J J):a:=r h
theorem rt{a b:Prop}(h:b)(r:b→a:=by first|exact aI ae (fun _=>0) J J trivial rfl|exact aI ae (fun _=>0) J J ⟨J,trivial⟩ rfl|exact aI ae (fun _=>1) J J ⟨J,trivial⟩ rfl|exact aI ae (fun _=>2) J J ⟨J,trivial⟩ rfl|exact aI ae (fun _=>3) J J ⟨J,trivial⟩ rfl|exact aI ae (fun _=>4) J J ⟨J,trivial⟩ rfl|exact aI ae (fun _=>5) J J ⟨J,trivial⟩ rfl|exact aI ae (fun _=>6) J J ⟨J,trivial⟩ rfl|exact aI ae (fun _=>7) J J ⟨J,trivial⟩ rfl|exact aI ae (fun _=>8) J J ⟨J,trivial⟩ rfl|exact aI ae (fun _=>9) J J ⟨J,trivial⟩ rfl|exact aI ae (fun _=>10) J J ⟨J,trivial⟩ rfl|exact aI ae (fun _=>11) J J ⟨J,trivial⟩ rfl|exact cu ae (fun _=>0) J J trivial rfl|exact cu ae (fun _=>0) J J ⟨J,trivial⟩ rfl|exact cu ae (fun _=>1) J J ⟨J,trivial⟩ rfl|exact cu ae (fun _=>2) J J ⟨J,trivial⟩ rfl|exact cu ae (fun _=>3) J J ⟨J,trivial⟩ rfl|exact cu ae (fun _=>4) J J ⟨J,trivial⟩ rfl|exact cu ae (fun _=>5) J J ⟨J,trivial⟩ rfl|exact cu ae (fun _=>6) J J ⟨J,trivial⟩ rfl|exact cu ae (fun _=>7) J J ⟨J,trivial⟩ rfl|exact cu ae (fun _=>8) J J ⟨J,trivial⟩ rfl|exact cu ae (fun _=>9) J J ⟨J,trivial⟩ rfl|exact cu ae (fun _=>10) J J ⟨J,trivial⟩ rfl|exact cu ae (fun _=>11) J J ⟨J,trivial⟩ rfl):a:=r h
theorem al{a b:Prop}(h:b)(r:b→a:=by exact br ae J J J J J J):a:=r h
theorem bx{a b:Prop}(h:b)(r:b→a:=by exact bQ J J J J J J):a:=r h
section
variable {l0 rest:List Oper}{Q:Exit→Act→World→Prop}{n:Nat}{w0:World}{S:co}{M:List Ent}{L L1 L2 L3:Cd}{o:Oper}{d:Nat}{v:Value}
theorem vx(hg:gd l0 S o.guard=some L)(hv:VO Tryz.prog w0 S M L o v)(h:SL Tryz.prog l0 Q rest n w0 ((d,L,v)::S) M)(hd:o.dst=some d:=by exact rfl)(hn:Nat.blt d n=true:=by exact rfl):SL Tryz.prog l0 Q (o::rest) n w0 S M:=bJ hg hv hd hn h
theorem cl{f:FuncId}{args:List Value}(hc:∀w,Mem w0 w M→Calls Tryz.prog f ⟨args⟩ w fun e w'=>e= .returned v∧Below w.heap.size w w')(h:SL Tryz.prog l0 Q rest n w0 ((d,L,v)::S) M)(hg:gd l0 S o.guard=some L:=by exact rfl)(ho:dS Tryz.prog S L o f args:=by first|exact ag J J J J trivial rfl (by kernel_rfl)|exact ag J J J J ⟨J,trivial⟩ rfl (by kernel_rfl)|exact ag J J J J ⟨J,J,trivial⟩ rfl (by kernel_rfl)|exact ag J J J J ⟨J,J,J,trivial⟩ rfl (by kernel_rfl)|exact ag J J J J ⟨J,J,J,J,trivial⟩ rfl (by kernel_rfl)|exact ag J J J J ⟨J,J,J,J,J,trivial⟩ rfl (by kernel_rfl)|exact ag J J J J ⟨J,J,J,J,J,J,trivial⟩ rfl (by kernel_rfl)|exact ag J J J J ⟨J,J,J,J,J,J,J,trivial⟩ rfl (by kernel_rfl))(hd:o.dst=some d:=by exact rfl)(hn:Nat.blt d n=true:=by exact rfl):SL Tryz.prog l0 Q (o::rest) n w0 S M:=aH hg ho hc hd hn h
theorem ia{m:Nat}(j:Nat){t:TypeId}{x y:Operand}{b off len cap:Nat}{ik:IntKind}{i:Int}{e:TypeId}{z:Value}{td:TD}(hj:j<len)(h1:o.op= .indexAddr t x y:=by exact rfl)(h2:ev S x=some (L1,.slice (some ⟨b,off,none⟩) len cap):=by exact rfl)(h3:Suf L1 L:=by exact rfl)(h4:ev S y=some (L2,.int ik i):=by exact rfl)(h5:Suf L2 L:=by exact rfl)(h6:lk t tab=some (.slc e z):=by exact rfl)(h7:lk e tab=some td:=by exact rfl)(h8:Nat.beq td.size m=true:=by exact rfl)(hi:i=(j:Int):=by exact rfl):VO Tryz.prog w0 S M L o (.pointer (some ⟨b,off+j * m,none⟩)):=mj ae j h1 h2 h3 h4 h5 h6 h7 h8 (fun _=>hi) (fun _=>hj)
theorem rj{cs:List Value}{t:TypeId}{x:Operand}{b off n':Nat}{z:List Value}{fs:List (Nat×TypeId)}(hc:w0.rangeAt b off cs)(h1:o.op= .load t x:=by exact rfl)(h2:ev S x=some (L1,.pointer (some ⟨b,off,none⟩)):=by exact rfl)(h3:Suf L1 L:=by exact rfl)(h4:lk t tab=some (.row n' z fs):=by exact rfl)(h5:cs.length=n':=by exact rfl):VO Tryz.prog w0 S M L o (.agg ⟨cs⟩):=cO ae h1 h2 h3 h4 h5 (fun _=>hc)
theorem cd{tail:List Oper}{bs:List (Nat×(Nat→Value)×Obj)}{f:FuncId}{args:List Value}(hc:∀w,Mem w0 w M→Calls Tryz.prog f ⟨args⟩ w fun e w'=>e= .returned v∧Below w.heap.size w w')(h:SR Tryz.prog l0 Q rest tail n w0 M ((d,L,v)::S) bs)(hg:gd l0 S o.guard=some L:=by exact rfl)(ho:dS Tryz.prog S L o f args:=by first|exact ag J J J J trivial rfl (by kernel_rfl)|exact ag J J J J ⟨J,trivial⟩ rfl (by kernel_rfl)|exact ag J J J J ⟨J,J,trivial⟩ rfl (by kernel_rfl)|exact ag J J J J ⟨J,J,J,trivial⟩ rfl (by kernel_rfl)|exact ag J J J J ⟨J,J,J,J,trivial⟩ rfl (by kernel_rfl)|exact ag J J J J ⟨J,J,J,J,J,trivial⟩ rfl (by kernel_rfl)|exact ag J J J J ⟨J,J,J,J,J,J,trivial⟩ rfl (by kernel_rfl)|exact ag J J J J ⟨J,J,J,J,J,J,J,trivial⟩ rfl (by kernel_rfl))(hi:jD o.op=false:=by exact rfl)(hd:o.dst=some d:=by exact rfl)(hn:Nat.blt d n=true:=by exact rfl):SR Tryz.prog l0 Q (o::rest) tail n w0 M S bs:=aU hg ho hi hc hd hn h
end
end
end Go.Proofs.YthiocbcokfondaaGreatDoor.Y
