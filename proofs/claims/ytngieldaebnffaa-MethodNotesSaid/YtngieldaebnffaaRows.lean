/-
  NARROWER THAN 'FOR EVERY INPUT', by the rows' own cells (each row's printed sentence says how): MethodNotes: loops.
  DERIVED. THE GIVEN ROWS OF THIS SEAT. 5 by the template 'for every input the law returns true; each argument reads behind the call as it read before'; 0 by the template 'total and deterministic' (their statements: YtngieldaebnffaaTotals.lean).
  GIVEN WITH THE SEED: the statements are not yours to turn. If you find one false, say at which input.
  Laid BY PROGRAM, IN A SANDBOX (cutbox-rows.mjs): the forced cells as the released guide's own fill.sh prints them over the translation 1612eb9dea40fee5… (all of the seat's roots in one cut). By AI agents, Wed Nov 11 2026. No macro, syntax, notation, axiom, sorry.
-/
import Derived.Test.YtngieldaebnffaaChecked
import GoSem.Claim
import GoSem.ClaimJoined
import GoSem.ClaimMapViews
import Derived.JoinedTies
import Derived.KernelRfl
namespace Go.Proofs.Ytngieldaebnffaa
/- THE CELL 'sum', in the pinned program and in every row, IS THE sha256 OF THE DUMP (.gsa) THAT YtngieldaebnffaaProg.lean LOADS. Nothing in Lean hashes anything: it is a label: what it is worth is what the hold of that sum in a sandbox is worth. -/
noncomputable def Try.pinned : Pinned := { name := "ytngieldaebnffaa", sum := "1612eb9dea40fee523281723f04def7de5eeb9b731ff09581cbf1d54e919b3f0", checked := Try.checked }
namespace Rows
def none {H : Type} : Left H := { results := [], args := [] }

/-- 'wireschemalaw43.MethodShapes': WHATEVER THE INPUT: true; the input reads as it did. -/
def methodShapesSpec : ChangeSpec := { name := "methodShapes", fn := fun _ => fun
  | [d] => { results := [.lit (.bool true)], args := [d] }
  | _ => none }
def methodShapesRow : OpenClaim := { program := "ytngieldaebnffaa", sum := "1612eb9dea40fee523281723f04def7de5eeb9b731ff09581cbf1d54e919b3f0", func := "wireschema/wireschemalaw43.MethodShapes", spec := "methodShapes", unfollowed := true, recurses := true, apart := false }
def MethodShapesSaid : Prop := methodShapesRow.holds Try.pinned (OpenSpec.ofChange methodShapesSpec)

/-- ITS FALSE NEIGHBOUR: 'it returns false'. Refute it at one input. -/
def methodShapesWrong : ChangeSpec := { name := "methodShapes", fn := fun _ => fun
  | [d] => { results := [.lit (.bool false)], args := [d] }
  | _ => none }
def MethodShapesWrongFalsely : Prop := methodShapesRow.holds Try.pinned (OpenSpec.ofChange methodShapesWrong)

/-- 'wireschemalaw43.MethodEvents': WHATEVER THE INPUT: true; the input reads as it did. -/
def methodEventsSpec : ChangeSpec := { name := "methodEvents", fn := fun _ => fun
  | [d1, d2] => { results := [.lit (.bool true)], args := [d1, d2] }
  | _ => none }
def methodEventsRow : OpenClaim := { program := "ytngieldaebnffaa", sum := "1612eb9dea40fee523281723f04def7de5eeb9b731ff09581cbf1d54e919b3f0", func := "wireschema/wireschemalaw43.MethodEvents", spec := "methodEvents", unfollowed := true, recurses := true, apart := false }
def MethodEventsSaid : Prop := methodEventsRow.holds Try.pinned (OpenSpec.ofChange methodEventsSpec)

/-- ITS FALSE NEIGHBOUR: 'it returns false'. Refute it at one input. -/
def methodEventsWrong : ChangeSpec := { name := "methodEvents", fn := fun _ => fun
  | [d1, d2] => { results := [.lit (.bool false)], args := [d1, d2] }
  | _ => none }
def MethodEventsWrongFalsely : Prop := methodEventsRow.holds Try.pinned (OpenSpec.ofChange methodEventsWrong)

/-- 'wireschemalaw43.MethodLegal': WHATEVER THE INPUT: true; the input reads as it did. -/
def methodLegalSpec : ChangeSpec := { name := "methodLegal", fn := fun _ => fun
  | [d1, d2] => { results := [.lit (.bool true)], args := [d1, d2] }
  | _ => none }
def methodLegalRow : OpenClaim := { program := "ytngieldaebnffaa", sum := "1612eb9dea40fee523281723f04def7de5eeb9b731ff09581cbf1d54e919b3f0", func := "wireschema/wireschemalaw43.MethodLegal", spec := "methodLegal", unfollowed := true, recurses := true, apart := false }
def MethodLegalSaid : Prop := methodLegalRow.holds Try.pinned (OpenSpec.ofChange methodLegalSpec)

/-- ITS FALSE NEIGHBOUR: 'it returns false'. Refute it at one input. -/
def methodLegalWrong : ChangeSpec := { name := "methodLegal", fn := fun _ => fun
  | [d1, d2] => { results := [.lit (.bool false)], args := [d1, d2] }
  | _ => none }
def MethodLegalWrongFalsely : Prop := methodLegalRow.holds Try.pinned (OpenSpec.ofChange methodLegalWrong)

/-- 'wireschemalaw43.MethodCounts': WHATEVER THE INPUT: true; the input reads as it did. -/
def methodCountsSpec : ChangeSpec := { name := "methodCounts", fn := fun _ => fun
  | [d1, d2] => { results := [.lit (.bool true)], args := [d1, d2] }
  | _ => none }
def methodCountsRow : OpenClaim := { program := "ytngieldaebnffaa", sum := "1612eb9dea40fee523281723f04def7de5eeb9b731ff09581cbf1d54e919b3f0", func := "wireschema/wireschemalaw43.MethodCounts", spec := "methodCounts", unfollowed := true, recurses := true, apart := false }
def MethodCountsSaid : Prop := methodCountsRow.holds Try.pinned (OpenSpec.ofChange methodCountsSpec)

/-- ITS FALSE NEIGHBOUR: 'it returns false'. Refute it at one input. -/
def methodCountsWrong : ChangeSpec := { name := "methodCounts", fn := fun _ => fun
  | [d1, d2] => { results := [.lit (.bool false)], args := [d1, d2] }
  | _ => none }
def MethodCountsWrongFalsely : Prop := methodCountsRow.holds Try.pinned (OpenSpec.ofChange methodCountsWrong)

/-- 'wireschemalaw43.MethodNotes': WHATEVER THE INPUT: true; the input reads as it did. -/
def methodNotesSpec : ChangeSpec := { name := "methodNotes", fn := fun _ => fun
  | [d] => { results := [.lit (.bool true)], args := [d] }
  | _ => none }
def methodNotesRow : OpenClaim := { program := "ytngieldaebnffaa", sum := "1612eb9dea40fee523281723f04def7de5eeb9b731ff09581cbf1d54e919b3f0", func := "wireschema/wireschemalaw43.MethodNotes", spec := "methodNotes", unfollowed := true, recurses := true, loops := true, apart := false }
def MethodNotesSaid : Prop := methodNotesRow.holds Try.pinned (OpenSpec.ofChange methodNotesSpec)

/-- ITS FALSE NEIGHBOUR: 'it returns false'. Refute it at one input. -/
def methodNotesWrong : ChangeSpec := { name := "methodNotes", fn := fun _ => fun
  | [d] => { results := [.lit (.bool false)], args := [d] }
  | _ => none }
def MethodNotesWrongFalsely : Prop := methodNotesRow.holds Try.pinned (OpenSpec.ofChange methodNotesWrong)

/- THE SECOND FORM. 'bulk': how many values and letters a reading holds, each counted each time it is reached (what is shared counts as often as it is met; a slice's spare places count too). A statement '..UptoSaid' is the law's where the arguments, and the package variables that the reading takes, are together of bulk at most 1048576: NARROWER than '..Said'. Prove '..Said' where nothing that the law and all that it calls make is longer than what came in: it says more and counts as full. Else prove '..UptoSaid'. A law counts once. -/
mutual
def uptoBulk {H : Type} : DataW H → Nat
  | .lit (.string bytes) => bytes.length + 1
  | .lit _ => 1
  | .nil => 1
  | .ptr d => uptoBulk d + 1
  | .slice elems spare => uptoBulkAll elems + uptoBulkAll spare + 1
  | .agg parts => uptoBulkAll parts + 1
  | .iface _ d => uptoBulk d + 1
  | .map entries => uptoBulkEntries entries + 1
  | .held _ => 1
def uptoBulkAll {H : Type} : List (DataW H) → Nat
  | [] => 0
  | d :: r => uptoBulk d + uptoBulkAll r
def uptoBulkEntries {H : Type} : List (Lit × DataW H) → Nat
  | [] => 0
  | x :: r => uptoBulkEntry x + uptoBulkEntries r
def uptoBulkEntry {H : Type} : Lit × DataW H → Nat
  | (.string bytes, d) => bytes.length + uptoBulk d + 1
  | (_, d) => uptoBulk d + 1
 end
def uptoSmall : (H : Type) → List (DataW H) → Bool := fun _ ds => decide (uptoBulkAll ds ≤ 1048576)
def OpenSpec.upto (s : _root_.Go.ChangeSpec) : _root_.Go.OpenSpec := { _root_.Go.OpenSpec.ofChange s with cond := some uptoSmall }

/-- 'wireschemalaw43.MethodShapes', WHERE WHAT IT READS IS OF BULK AT MOST 1048576: true; the input reads as it did. -/
def methodShapesUptoRow : OpenClaim := { program := "ytngieldaebnffaa", sum := "1612eb9dea40fee523281723f04def7de5eeb9b731ff09581cbf1d54e919b3f0", func := "wireschema/wireschemalaw43.MethodShapes", spec := "methodShapes", unfollowed := true, recurses := true, apart := false, narrowed := true }
def MethodShapesUptoSaid : Prop := methodShapesUptoRow.holds Try.pinned (OpenSpec.upto methodShapesSpec)

/-- 'wireschemalaw43.MethodEvents', WHERE WHAT IT READS IS OF BULK AT MOST 1048576: true; the input reads as it did. -/
def methodEventsUptoRow : OpenClaim := { program := "ytngieldaebnffaa", sum := "1612eb9dea40fee523281723f04def7de5eeb9b731ff09581cbf1d54e919b3f0", func := "wireschema/wireschemalaw43.MethodEvents", spec := "methodEvents", unfollowed := true, recurses := true, apart := false, narrowed := true }
def MethodEventsUptoSaid : Prop := methodEventsUptoRow.holds Try.pinned (OpenSpec.upto methodEventsSpec)

/-- 'wireschemalaw43.MethodLegal', WHERE WHAT IT READS IS OF BULK AT MOST 1048576: true; the input reads as it did. -/
def methodLegalUptoRow : OpenClaim := { program := "ytngieldaebnffaa", sum := "1612eb9dea40fee523281723f04def7de5eeb9b731ff09581cbf1d54e919b3f0", func := "wireschema/wireschemalaw43.MethodLegal", spec := "methodLegal", unfollowed := true, recurses := true, apart := false, narrowed := true }
def MethodLegalUptoSaid : Prop := methodLegalUptoRow.holds Try.pinned (OpenSpec.upto methodLegalSpec)

/-- 'wireschemalaw43.MethodCounts', WHERE WHAT IT READS IS OF BULK AT MOST 1048576: true; the input reads as it did. -/
def methodCountsUptoRow : OpenClaim := { program := "ytngieldaebnffaa", sum := "1612eb9dea40fee523281723f04def7de5eeb9b731ff09581cbf1d54e919b3f0", func := "wireschema/wireschemalaw43.MethodCounts", spec := "methodCounts", unfollowed := true, recurses := true, apart := false, narrowed := true }
def MethodCountsUptoSaid : Prop := methodCountsUptoRow.holds Try.pinned (OpenSpec.upto methodCountsSpec)

/-- 'wireschemalaw43.MethodNotes', WHERE WHAT IT READS IS OF BULK AT MOST 1048576: true; the input reads as it did. -/
def methodNotesUptoRow : OpenClaim := { program := "ytngieldaebnffaa", sum := "1612eb9dea40fee523281723f04def7de5eeb9b731ff09581cbf1d54e919b3f0", func := "wireschema/wireschemalaw43.MethodNotes", spec := "methodNotes", unfollowed := true, recurses := true, loops := true, apart := false, narrowed := true }
def MethodNotesUptoSaid : Prop := methodNotesUptoRow.holds Try.pinned (OpenSpec.upto methodNotesSpec)

end Rows
end Go.Proofs.Ytngieldaebnffaa
