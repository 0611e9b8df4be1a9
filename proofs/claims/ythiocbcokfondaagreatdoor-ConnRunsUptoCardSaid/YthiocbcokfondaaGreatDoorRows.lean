/-
  NARROWER THAN 'FOR EVERY INPUT', by the rows' own cells (each row's printed sentence says how): ConnValid: laid · ConnDelivers: laid · ConnRuns: laid · ConnOnce: laid · ConnBounded: laid.
  DERIVED. THE GIVEN ROWS OF THIS SEAT. 5 by the template 'for every input the law returns true; each argument reads behind the call as it read before'; 0 by the template 'total and deterministic' (their statements: YthiocbcokfondaaGreatDoorTotals.lean).
  GIVEN WITH THE SEED: the statements are not yours to turn. If you find one false, say at which input.
  Laid BY PROGRAM, IN A SANDBOX (cutbox-rows.mjs): the forced cells as the released guide's own fill.sh prints them over the translation 5182390a2cbfa548… (all of the seat's roots in one cut). By AI agents, Wed Nov 11 2026. No macro, syntax, notation, axiom, sorry.
-/
import Derived.Test.YthiocbcokfondaaGreatDoorChecked
import GoSem.PinnedTables
import GoSem.Claim
import GoSem.ClaimJoined
import GoSem.ClaimMapViews
import Derived.JoinedTies
import Derived.KernelRfl
namespace Go.Proofs.YthiocbcokfondaaGreatDoor
/- THE CELL 'sum', in the pinned program and in every row, IS THE sha256 OF THE DUMP (.gsa) THAT YthiocbcokfondaaGreatDoorProg.lean LOADS. Nothing in Lean hashes anything: it is a label: what it is worth is what the hold of that sum in a sandbox is worth. -/
noncomputable def Tryz.pinned : Pinned := { name := "ythiocbcokfondaagreatdoor", sum := "5182390a2cbfa548e0ca7e63b72e3dbd3dfe803425fee7234c7faf80180c79d2", checked := Tryz.checked }
namespace Rows
def none {H : Type} : Left H := { results := [], args := [] }

/- WHAT THE LISTED PACKAGE-LEVEL VARIABLES READ AS WHEN THE CALL BEGINS. Each datum BY PROGRAM (the guide's laid-datum.mjs) off the statement by which the dump's own 'gosem.cut.vars' lays the variable. In a bare row this is a premise. The card (YthiocbcokfondaaGreatDoorCards.lean) ties it to the program's text. -/
def laid_unicode_utf8_acceptRanges {H : Type} : DataW H := .agg [.agg [.lit (.int .u8 128), .lit (.int .u8 191)], .agg [.lit (.int .u8 160), .lit (.int .u8 191)], .agg [.lit (.int .u8 128), .lit (.int .u8 159)], .agg [.lit (.int .u8 144), .lit (.int .u8 191)], .agg [.lit (.int .u8 128), .lit (.int .u8 143)], .agg [.lit (.int .u8 0), .lit (.int .u8 0)], .agg [.lit (.int .u8 0), .lit (.int .u8 0)], .agg [.lit (.int .u8 0), .lit (.int .u8 0)], .agg [.lit (.int .u8 0), .lit (.int .u8 0)], .agg [.lit (.int .u8 0), .lit (.int .u8 0)], .agg [.lit (.int .u8 0), .lit (.int .u8 0)], .agg [.lit (.int .u8 0), .lit (.int .u8 0)], .agg [.lit (.int .u8 0), .lit (.int .u8 0)], .agg [.lit (.int .u8 0), .lit (.int .u8 0)], .agg [.lit (.int .u8 0), .lit (.int .u8 0)], .agg [.lit (.int .u8 0), .lit (.int .u8 0)]]
/-- One of Go's own tables, pinned by name: the form's constant. -/
def laid_unicode_utf8_first : DataW Unit := Go.Pinned.utf8First

/-- 'wireschemalaw47.ConnValid': WHATEVER THE INPUT: true; the input reads as it did. -/
def connValidSpec : ChangeSpec := { name := "connValid", fn := fun _ => fun
  | [d1, d2] => { results := [.lit (.bool true)], args := [d1, d2] }
  | _ => none }
def connValidRow : OpenClaim := { program := "ythiocbcokfondaagreatdoor", sum := "5182390a2cbfa548e0ca7e63b72e3dbd3dfe803425fee7234c7faf80180c79d2", func := "wireschema/wireschemalaw47.ConnValid", spec := "connValid", inPlace := ["internal/bytealg.CountString", "internal/bytealg.IndexByteString", "internal/bytealg.IndexString", "internal/abi.NoEscape"], unfollowed := true, recurses := true, named := ["unicode/utf8.first", "unicode/utf8.acceptRanges", "internal/bytealg.MaxLen"], apart := false, laid := [("unicode/utf8.acceptRanges", laid_unicode_utf8_acceptRanges), ("unicode/utf8.first", laid_unicode_utf8_first)] }
def ConnValidSaid : Prop := connValidRow.holds Tryz.pinned (OpenSpec.ofChange connValidSpec)

/-- ITS FALSE NEIGHBOUR: 'it returns false'. Refute it at one input. -/
def connValidWrong : ChangeSpec := { name := "connValid", fn := fun _ => fun
  | [d1, d2] => { results := [.lit (.bool false)], args := [d1, d2] }
  | _ => none }
def ConnValidWrongFalsely : Prop := connValidRow.holds Tryz.pinned (OpenSpec.ofChange connValidWrong)

/-- 'wireschemalaw47.ConnDelivers': WHATEVER THE INPUT: true; the input reads as it did. -/
def connDeliversSpec : ChangeSpec := { name := "connDelivers", fn := fun _ => fun
  | [d1, d2] => { results := [.lit (.bool true)], args := [d1, d2] }
  | _ => none }
def connDeliversRow : OpenClaim := { program := "ythiocbcokfondaagreatdoor", sum := "5182390a2cbfa548e0ca7e63b72e3dbd3dfe803425fee7234c7faf80180c79d2", func := "wireschema/wireschemalaw47.ConnDelivers", spec := "connDelivers", inPlace := ["internal/bytealg.CountString", "internal/bytealg.IndexByteString", "internal/bytealg.IndexString", "internal/abi.NoEscape"], unfollowed := true, recurses := true, named := ["unicode/utf8.first", "unicode/utf8.acceptRanges", "internal/bytealg.MaxLen"], apart := false, laid := [("unicode/utf8.acceptRanges", laid_unicode_utf8_acceptRanges), ("unicode/utf8.first", laid_unicode_utf8_first)] }
def ConnDeliversSaid : Prop := connDeliversRow.holds Tryz.pinned (OpenSpec.ofChange connDeliversSpec)

/-- ITS FALSE NEIGHBOUR: 'it returns false'. Refute it at one input. -/
def connDeliversWrong : ChangeSpec := { name := "connDelivers", fn := fun _ => fun
  | [d1, d2] => { results := [.lit (.bool false)], args := [d1, d2] }
  | _ => none }
def ConnDeliversWrongFalsely : Prop := connDeliversRow.holds Tryz.pinned (OpenSpec.ofChange connDeliversWrong)

/-- 'wireschemalaw47.ConnRuns': WHATEVER THE INPUT: true; the input reads as it did. -/
def connRunsSpec : ChangeSpec := { name := "connRuns", fn := fun _ => fun
  | [d1, d2, d3] => { results := [.lit (.bool true)], args := [d1, d2, d3] }
  | _ => none }
def connRunsRow : OpenClaim := { program := "ythiocbcokfondaagreatdoor", sum := "5182390a2cbfa548e0ca7e63b72e3dbd3dfe803425fee7234c7faf80180c79d2", func := "wireschema/wireschemalaw47.ConnRuns", spec := "connRuns", inPlace := ["internal/bytealg.CountString", "internal/bytealg.IndexByteString", "internal/bytealg.IndexString", "internal/abi.NoEscape"], unfollowed := true, recurses := true, named := ["unicode/utf8.first", "unicode/utf8.acceptRanges", "internal/bytealg.MaxLen"], apart := false, laid := [("unicode/utf8.acceptRanges", laid_unicode_utf8_acceptRanges), ("unicode/utf8.first", laid_unicode_utf8_first)] }
def ConnRunsSaid : Prop := connRunsRow.holds Tryz.pinned (OpenSpec.ofChange connRunsSpec)

/-- ITS FALSE NEIGHBOUR: 'it returns false'. Refute it at one input. -/
def connRunsWrong : ChangeSpec := { name := "connRuns", fn := fun _ => fun
  | [d1, d2, d3] => { results := [.lit (.bool false)], args := [d1, d2, d3] }
  | _ => none }
def ConnRunsWrongFalsely : Prop := connRunsRow.holds Tryz.pinned (OpenSpec.ofChange connRunsWrong)

/-- 'wireschemalaw47.ConnOnce': WHATEVER THE INPUT: true; the input reads as it did. -/
def connOnceSpec : ChangeSpec := { name := "connOnce", fn := fun _ => fun
  | [d1, d2, d3] => { results := [.lit (.bool true)], args := [d1, d2, d3] }
  | _ => none }
def connOnceRow : OpenClaim := { program := "ythiocbcokfondaagreatdoor", sum := "5182390a2cbfa548e0ca7e63b72e3dbd3dfe803425fee7234c7faf80180c79d2", func := "wireschema/wireschemalaw47.ConnOnce", spec := "connOnce", inPlace := ["internal/bytealg.CountString", "internal/bytealg.IndexByteString", "internal/bytealg.IndexString", "internal/abi.NoEscape"], unfollowed := true, recurses := true, named := ["unicode/utf8.first", "unicode/utf8.acceptRanges", "internal/bytealg.MaxLen"], apart := false, laid := [("unicode/utf8.acceptRanges", laid_unicode_utf8_acceptRanges), ("unicode/utf8.first", laid_unicode_utf8_first)] }
def ConnOnceSaid : Prop := connOnceRow.holds Tryz.pinned (OpenSpec.ofChange connOnceSpec)

/-- ITS FALSE NEIGHBOUR: 'it returns false'. Refute it at one input. -/
def connOnceWrong : ChangeSpec := { name := "connOnce", fn := fun _ => fun
  | [d1, d2, d3] => { results := [.lit (.bool false)], args := [d1, d2, d3] }
  | _ => none }
def ConnOnceWrongFalsely : Prop := connOnceRow.holds Tryz.pinned (OpenSpec.ofChange connOnceWrong)

/-- 'wireschemalaw47.ConnBounded': WHATEVER THE INPUT: true; the input reads as it did. -/
def connBoundedSpec : ChangeSpec := { name := "connBounded", fn := fun _ => fun
  | [d1, d2, d3] => { results := [.lit (.bool true)], args := [d1, d2, d3] }
  | _ => none }
def connBoundedRow : OpenClaim := { program := "ythiocbcokfondaagreatdoor", sum := "5182390a2cbfa548e0ca7e63b72e3dbd3dfe803425fee7234c7faf80180c79d2", func := "wireschema/wireschemalaw47.ConnBounded", spec := "connBounded", inPlace := ["internal/bytealg.CountString", "internal/bytealg.IndexByteString", "internal/bytealg.IndexString", "internal/abi.NoEscape"], unfollowed := true, recurses := true, named := ["unicode/utf8.first", "unicode/utf8.acceptRanges", "internal/bytealg.MaxLen"], apart := false, laid := [("unicode/utf8.acceptRanges", laid_unicode_utf8_acceptRanges), ("unicode/utf8.first", laid_unicode_utf8_first)] }
def ConnBoundedSaid : Prop := connBoundedRow.holds Tryz.pinned (OpenSpec.ofChange connBoundedSpec)

/-- ITS FALSE NEIGHBOUR: 'it returns false'. Refute it at one input. -/
def connBoundedWrong : ChangeSpec := { name := "connBounded", fn := fun _ => fun
  | [d1, d2, d3] => { results := [.lit (.bool false)], args := [d1, d2, d3] }
  | _ => none }
def ConnBoundedWrongFalsely : Prop := connBoundedRow.holds Tryz.pinned (OpenSpec.ofChange connBoundedWrong)

/- THE SECOND FORM. 'bulk': how many values and letters a reading holds, each counted each time it is reached (what is shared counts as often as it is met; a slice's spare places count too). A statement '..UptoSaid' is the law's where the arguments, and the package variables that the reading takes, are together of bulk at most 1048576: NARROWER than '..Said'. Prove '..Said' where nothing that the law and all that it calls make is longer than what came in: it says more and counts as full. Else prove '..UptoSaid'. A law counts once. -/
mutual
def uptoBulk {H : Type} : DataW H → Nat
  | .lit (.string bytes) => bytes.length + 1
  | .lit _ => 1
  | .nil => 1
  | .ptr d => uptoBulk d + 1
  | .slice elems spare => uptoBulkAll elems + uptoBulkAll spare + 1
  | .agg parts => uptoBulkAll parts + 1
  | .iface _ d => uptoBulk d + 1
  | .map entries => uptoBulkEntries entries + 1
  | .held _ => 1
def uptoBulkAll {H : Type} : List (DataW H) → Nat
  | [] => 0
  | d :: r => uptoBulk d + uptoBulkAll r
def uptoBulkEntries {H : Type} : List (Lit × DataW H) → Nat
  | [] => 0
  | x :: r => uptoBulkEntry x + uptoBulkEntries r
def uptoBulkEntry {H : Type} : Lit × DataW H → Nat
  | (.string bytes, d) => bytes.length + uptoBulk d + 1
  | (_, d) => uptoBulk d + 1
 end
def uptoSmall : (H : Type) → List (DataW H) → Bool := fun _ ds => decide (uptoBulkAll ds ≤ 1048576)
def OpenSpec.upto (s : _root_.Go.ChangeSpec) : _root_.Go.OpenSpec := { _root_.Go.OpenSpec.ofChange s with cond := some uptoSmall }

/-- 'wireschemalaw47.ConnValid', WHERE WHAT IT READS IS OF BULK AT MOST 1048576: true; the input reads as it did. -/
def connValidUptoRow : OpenClaim := { program := "ythiocbcokfondaagreatdoor", sum := "5182390a2cbfa548e0ca7e63b72e3dbd3dfe803425fee7234c7faf80180c79d2", func := "wireschema/wireschemalaw47.ConnValid", spec := "connValid", inPlace := ["internal/bytealg.CountString", "internal/bytealg.IndexByteString", "internal/bytealg.IndexString", "internal/abi.NoEscape"], unfollowed := true, recurses := true, named := ["unicode/utf8.first", "unicode/utf8.acceptRanges", "internal/bytealg.MaxLen"], apart := false, laid := [("unicode/utf8.acceptRanges", laid_unicode_utf8_acceptRanges), ("unicode/utf8.first", laid_unicode_utf8_first)], narrowed := true }
def ConnValidUptoSaid : Prop := connValidUptoRow.holds Tryz.pinned (OpenSpec.upto connValidSpec)

/-- 'wireschemalaw47.ConnDelivers', WHERE WHAT IT READS IS OF BULK AT MOST 1048576: true; the input reads as it did. -/
def connDeliversUptoRow : OpenClaim := { program := "ythiocbcokfondaagreatdoor", sum := "5182390a2cbfa548e0ca7e63b72e3dbd3dfe803425fee7234c7faf80180c79d2", func := "wireschema/wireschemalaw47.ConnDelivers", spec := "connDelivers", inPlace := ["internal/bytealg.CountString", "internal/bytealg.IndexByteString", "internal/bytealg.IndexString", "internal/abi.NoEscape"], unfollowed := true, recurses := true, named := ["unicode/utf8.first", "unicode/utf8.acceptRanges", "internal/bytealg.MaxLen"], apart := false, laid := [("unicode/utf8.acceptRanges", laid_unicode_utf8_acceptRanges), ("unicode/utf8.first", laid_unicode_utf8_first)], narrowed := true }
def ConnDeliversUptoSaid : Prop := connDeliversUptoRow.holds Tryz.pinned (OpenSpec.upto connDeliversSpec)

/-- 'wireschemalaw47.ConnRuns', WHERE WHAT IT READS IS OF BULK AT MOST 1048576: true; the input reads as it did. -/
def connRunsUptoRow : OpenClaim := { program := "ythiocbcokfondaagreatdoor", sum := "5182390a2cbfa548e0ca7e63b72e3dbd3dfe803425fee7234c7faf80180c79d2", func := "wireschema/wireschemalaw47.ConnRuns", spec := "connRuns", inPlace := ["internal/bytealg.CountString", "internal/bytealg.IndexByteString", "internal/bytealg.IndexString", "internal/abi.NoEscape"], unfollowed := true, recurses := true, named := ["unicode/utf8.first", "unicode/utf8.acceptRanges", "internal/bytealg.MaxLen"], apart := false, laid := [("unicode/utf8.acceptRanges", laid_unicode_utf8_acceptRanges), ("unicode/utf8.first", laid_unicode_utf8_first)], narrowed := true }
def ConnRunsUptoSaid : Prop := connRunsUptoRow.holds Tryz.pinned (OpenSpec.upto connRunsSpec)

/-- 'wireschemalaw47.ConnOnce', WHERE WHAT IT READS IS OF BULK AT MOST 1048576: true; the input reads as it did. -/
def connOnceUptoRow : OpenClaim := { program := "ythiocbcokfondaagreatdoor", sum := "5182390a2cbfa548e0ca7e63b72e3dbd3dfe803425fee7234c7faf80180c79d2", func := "wireschema/wireschemalaw47.ConnOnce", spec := "connOnce", inPlace := ["internal/bytealg.CountString", "internal/bytealg.IndexByteString", "internal/bytealg.IndexString", "internal/abi.NoEscape"], unfollowed := true, recurses := true, named := ["unicode/utf8.first", "unicode/utf8.acceptRanges", "internal/bytealg.MaxLen"], apart := false, laid := [("unicode/utf8.acceptRanges", laid_unicode_utf8_acceptRanges), ("unicode/utf8.first", laid_unicode_utf8_first)], narrowed := true }
def ConnOnceUptoSaid : Prop := connOnceUptoRow.holds Tryz.pinned (OpenSpec.upto connOnceSpec)

/-- 'wireschemalaw47.ConnBounded', WHERE WHAT IT READS IS OF BULK AT MOST 1048576: true; the input reads as it did. -/
def connBoundedUptoRow : OpenClaim := { program := "ythiocbcokfondaagreatdoor", sum := "5182390a2cbfa548e0ca7e63b72e3dbd3dfe803425fee7234c7faf80180c79d2", func := "wireschema/wireschemalaw47.ConnBounded", spec := "connBounded", inPlace := ["internal/bytealg.CountString", "internal/bytealg.IndexByteString", "internal/bytealg.IndexString", "internal/abi.NoEscape"], unfollowed := true, recurses := true, named := ["unicode/utf8.first", "unicode/utf8.acceptRanges", "internal/bytealg.MaxLen"], apart := false, laid := [("unicode/utf8.acceptRanges", laid_unicode_utf8_acceptRanges), ("unicode/utf8.first", laid_unicode_utf8_first)], narrowed := true }
def ConnBoundedUptoSaid : Prop := connBoundedUptoRow.holds Tryz.pinned (OpenSpec.upto connBoundedSpec)

end Rows
end Go.Proofs.YthiocbcokfondaaGreatDoor
