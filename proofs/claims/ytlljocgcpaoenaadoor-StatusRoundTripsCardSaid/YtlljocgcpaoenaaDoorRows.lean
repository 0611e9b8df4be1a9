/-
  NARROWER THAN 'FOR EVERY INPUT', by the rows' own cells (each row's printed sentence says how): StatusNames: laid · StatusPacks: laid · StatusUnpacks: laid · StatusOfs: laid · StatusSpans: laid · StatusTimes: laid · StatusRoundTrips: laid · StatusWhole: laid · StatusDeadlines: laid.
  DERIVED. THE GIVEN ROWS OF THIS SEAT. 9 by the template 'for every input the law returns true; each argument reads behind the call as it read before'; 0 by the template 'total and deterministic' (their statements: YtlljocgcpaoenaaDoorTotals.lean).
  GIVEN WITH THE SEED: the statements are not yours to turn. If you find one false, say at which input.
  Laid BY PROGRAM, IN A SANDBOX (cutbox-rows.mjs): the forced cells as the released guide's own fill.sh prints them over the translation b5c7f7622b6d8ec6… (all of the seat's roots in one cut). By AI agents, Wed Nov 11 2026. No macro, syntax, notation, axiom, sorry.
-/
import Derived.Test.YtlljocgcpaoenaaDoorChecked
import GoSem.Claim
import GoSem.ClaimJoined
import GoSem.ClaimMapViews
import Derived.JoinedTies
import Derived.KernelRfl
namespace Go.Proofs.YtlljocgcpaoenaaDoor
/- THE CELL 'sum', in the pinned program and in every row, IS THE sha256 OF THE DUMP (.gsa) THAT YtlljocgcpaoenaaDoorProg.lean LOADS. Nothing in Lean hashes anything: it is a label: what it is worth is what the hold of that sum in a sandbox is worth. -/
noncomputable def Tryd.pinned : Pinned := { name := "ytlljocgcpaoenaadoor", sum := "b5c7f7622b6d8ec61a72bf1fd0758c22c770e6c5f47521e80aa4dd8ebfc31fad", checked := Tryd.checked }
namespace Rows
def none {H : Type} : Left H := { results := [], args := [] }

/- WHAT THE LISTED PACKAGE-LEVEL VARIABLES READ AS WHEN THE CALL BEGINS. Each datum BY PROGRAM (the guide's laid-datum.mjs) off the statement by which the dump's own 'gosem.cut.vars' lays the variable. In a bare row this is a premise. The card (YtlljocgcpaoenaaDoorCards.lean) ties it to the program's text. -/
def laid_math_bits_deBruijn32tab {H : Type} : DataW H := .agg [.lit (.int .u8 0), .lit (.int .u8 1), .lit (.int .u8 28), .lit (.int .u8 2), .lit (.int .u8 29), .lit (.int .u8 14), .lit (.int .u8 24), .lit (.int .u8 3), .lit (.int .u8 30), .lit (.int .u8 22), .lit (.int .u8 20), .lit (.int .u8 15), .lit (.int .u8 25), .lit (.int .u8 17), .lit (.int .u8 4), .lit (.int .u8 8), .lit (.int .u8 31), .lit (.int .u8 27), .lit (.int .u8 13), .lit (.int .u8 23), .lit (.int .u8 21), .lit (.int .u8 19), .lit (.int .u8 16), .lit (.int .u8 7), .lit (.int .u8 26), .lit (.int .u8 12), .lit (.int .u8 18), .lit (.int .u8 6), .lit (.int .u8 11), .lit (.int .u8 5), .lit (.int .u8 10), .lit (.int .u8 9)]
def laid_math_bits_deBruijn64tab {H : Type} : DataW H := .agg [.lit (.int .u8 0), .lit (.int .u8 1), .lit (.int .u8 56), .lit (.int .u8 2), .lit (.int .u8 57), .lit (.int .u8 49), .lit (.int .u8 28), .lit (.int .u8 3), .lit (.int .u8 61), .lit (.int .u8 58), .lit (.int .u8 42), .lit (.int .u8 50), .lit (.int .u8 38), .lit (.int .u8 29), .lit (.int .u8 17), .lit (.int .u8 4), .lit (.int .u8 62), .lit (.int .u8 47), .lit (.int .u8 59), .lit (.int .u8 36), .lit (.int .u8 45), .lit (.int .u8 43), .lit (.int .u8 51), .lit (.int .u8 22), .lit (.int .u8 53), .lit (.int .u8 39), .lit (.int .u8 33), .lit (.int .u8 30), .lit (.int .u8 24), .lit (.int .u8 18), .lit (.int .u8 12), .lit (.int .u8 5), .lit (.int .u8 63), .lit (.int .u8 55), .lit (.int .u8 48), .lit (.int .u8 27), .lit (.int .u8 60), .lit (.int .u8 41), .lit (.int .u8 37), .lit (.int .u8 16), .lit (.int .u8 46), .lit (.int .u8 35), .lit (.int .u8 44), .lit (.int .u8 21), .lit (.int .u8 52), .lit (.int .u8 32), .lit (.int .u8 23), .lit (.int .u8 11), .lit (.int .u8 54), .lit (.int .u8 26), .lit (.int .u8 40), .lit (.int .u8 15), .lit (.int .u8 34), .lit (.int .u8 20), .lit (.int .u8 31), .lit (.int .u8 10), .lit (.int .u8 25), .lit (.int .u8 14), .lit (.int .u8 19), .lit (.int .u8 9), .lit (.int .u8 13), .lit (.int .u8 8), .lit (.int .u8 7), .lit (.int .u8 6)]
def laid_internal_strconv_uint64pow10 {H : Type} : DataW H := .agg [.lit (.int .u64 1), .lit (.int .u64 10), .lit (.int .u64 100), .lit (.int .u64 1000), .lit (.int .u64 10000), .lit (.int .u64 100000), .lit (.int .u64 1000000), .lit (.int .u64 10000000), .lit (.int .u64 100000000), .lit (.int .u64 1000000000), .lit (.int .u64 10000000000), .lit (.int .u64 100000000000), .lit (.int .u64 1000000000000), .lit (.int .u64 10000000000000), .lit (.int .u64 100000000000000), .lit (.int .u64 1000000000000000), .lit (.int .u64 10000000000000000), .lit (.int .u64 100000000000000000), .lit (.int .u64 1000000000000000000), .lit (.int .u64 10000000000000000000)]
def laid_strconv_ErrRange {H : Type} : DataW H := .iface "*errors.errorString" (.ptr (.agg [.lit (.string [118, 97, 108, 117, 101, 32, 111, 117, 116, 32, 111, 102, 32, 114, 97, 110, 103, 101])]))
def laid_strconv_ErrSyntax {H : Type} : DataW H := .iface "*errors.errorString" (.ptr (.agg [.lit (.string [105, 110, 118, 97, 108, 105, 100, 32, 115, 121, 110, 116, 97, 120])]))
def laid_wireschema_status_names {H : Type} : DataW H := .agg [.lit (.string [111, 107]), .lit (.string [99, 97, 110, 99, 101, 108, 108, 101, 100]), .lit (.string [105, 110, 118, 97, 108, 105, 100]), .lit (.string [100, 101, 97, 100, 108, 105, 110, 101]), .lit (.string [110, 111, 116, 95, 102, 111, 117, 110, 100]), .lit (.string [101, 120, 105, 115, 116, 115]), .lit (.string [100, 101, 110, 105, 101, 100]), .lit (.string [101, 120, 104, 97, 117, 115, 116, 101, 100]), .lit (.string [102, 97, 105, 108, 101, 100]), .lit (.string [97, 98, 111, 114, 116, 101, 100]), .lit (.string [117, 110, 105, 109, 112, 108, 101, 109, 101, 110, 116, 101, 100]), .lit (.string [105, 110, 116, 101, 114, 110, 97, 108]), .lit (.string [117, 110, 97, 118, 97, 105, 108, 97, 98, 108, 101]), .lit (.string [100, 97, 116, 97, 95, 108, 111, 115, 115])]
def laid_wireschema_status_units {H : Type} : DataW H := .agg [.lit (.int .i64 3600000), .lit (.int .i64 60000), .lit (.int .i64 1000), .lit (.int .i64 1)]
def laid_wireschema_status_codes {H : Type} : DataW H := .agg [.agg [.lit (.int .i64 0), .lit (.int .i64 0)], .agg [.lit (.int .i64 23), .lit (.int .i64 3)], .agg [.lit (.int .i64 21), .lit (.int .i64 6)], .agg [.lit (.int .i64 22), .lit (.int .i64 7)], .agg [.lit (.int .i64 3), .lit (.int .i64 7)], .agg [.lit (.int .i64 17), .lit (.int .i64 7)], .agg [.lit (.int .i64 10), .lit (.int .i64 4)], .agg [.lit (.int .i64 9), .lit (.int .i64 5)], .agg [.lit (.int .i64 20), .lit (.int .i64 8)], .agg [.lit (.int .i64 24), .lit (.int .i64 9)], .agg [.lit (.int .i64 25), .lit (.int .i64 13)], .agg [.lit (.int .i64 11), .lit (.int .i64 11)], .agg [.lit (.int .i64 19), .lit (.int .i64 11)]]

/-- 'wireschemalaw42.StatusNames': WHATEVER THE INPUT: true; the input reads as it did. -/
def statusNamesSpec : ChangeSpec := { name := "statusNames", fn := fun _ => fun
  | [d1, d2] => { results := [.lit (.bool true)], args := [d1, d2] }
  | _ => none }
def statusNamesRow : OpenClaim := { program := "ytlljocgcpaoenaadoor", sum := "b5c7f7622b6d8ec61a72bf1fd0758c22c770e6c5f47521e80aa4dd8ebfc31fad", func := "wireschema/wireschemalaw42.StatusNames", spec := "statusNames", inPlace := ["internal/bytealg.IndexByteString"], named := ["wireschema/status.names", "wireschema/status.codes", "wireschema/status.units", "strconv.ErrSyntax", "strconv.ErrRange", "internal/strconv.uint64pow10", "math/bits.deBruijn32tab", "math/bits.deBruijn64tab"], apart := false, laid := [("math/bits.deBruijn32tab", laid_math_bits_deBruijn32tab), ("math/bits.deBruijn64tab", laid_math_bits_deBruijn64tab), ("internal/strconv.uint64pow10", laid_internal_strconv_uint64pow10), ("strconv.ErrRange", laid_strconv_ErrRange), ("strconv.ErrSyntax", laid_strconv_ErrSyntax), ("wireschema/status.names", laid_wireschema_status_names), ("wireschema/status.units", laid_wireschema_status_units), ("wireschema/status.codes", laid_wireschema_status_codes)] }
def StatusNamesSaid : Prop := statusNamesRow.holds Tryd.pinned (OpenSpec.ofChange statusNamesSpec)

/-- ITS FALSE NEIGHBOUR: 'it returns false'. Refute it at one input. -/
def statusNamesWrong : ChangeSpec := { name := "statusNames", fn := fun _ => fun
  | [d1, d2] => { results := [.lit (.bool false)], args := [d1, d2] }
  | _ => none }
def StatusNamesWrongFalsely : Prop := statusNamesRow.holds Tryd.pinned (OpenSpec.ofChange statusNamesWrong)

/-- 'wireschemalaw42.StatusPacks': WHATEVER THE INPUT: true; the input reads as it did. -/
def statusPacksSpec : ChangeSpec := { name := "statusPacks", fn := fun _ => fun
  | [d] => { results := [.lit (.bool true)], args := [d] }
  | _ => none }
def statusPacksRow : OpenClaim := { program := "ytlljocgcpaoenaadoor", sum := "b5c7f7622b6d8ec61a72bf1fd0758c22c770e6c5f47521e80aa4dd8ebfc31fad", func := "wireschema/wireschemalaw42.StatusPacks", spec := "statusPacks", inPlace := ["internal/bytealg.IndexByteString"], named := ["wireschema/status.names", "wireschema/status.codes", "wireschema/status.units", "strconv.ErrSyntax", "strconv.ErrRange", "internal/strconv.uint64pow10", "math/bits.deBruijn32tab", "math/bits.deBruijn64tab"], apart := false, laid := [("math/bits.deBruijn32tab", laid_math_bits_deBruijn32tab), ("math/bits.deBruijn64tab", laid_math_bits_deBruijn64tab), ("internal/strconv.uint64pow10", laid_internal_strconv_uint64pow10), ("strconv.ErrRange", laid_strconv_ErrRange), ("strconv.ErrSyntax", laid_strconv_ErrSyntax), ("wireschema/status.names", laid_wireschema_status_names), ("wireschema/status.units", laid_wireschema_status_units), ("wireschema/status.codes", laid_wireschema_status_codes)] }
def StatusPacksSaid : Prop := statusPacksRow.holds Tryd.pinned (OpenSpec.ofChange statusPacksSpec)

/-- ITS FALSE NEIGHBOUR: 'it returns false'. Refute it at one input. -/
def statusPacksWrong : ChangeSpec := { name := "statusPacks", fn := fun _ => fun
  | [d] => { results := [.lit (.bool false)], args := [d] }
  | _ => none }
def StatusPacksWrongFalsely : Prop := statusPacksRow.holds Tryd.pinned (OpenSpec.ofChange statusPacksWrong)

/-- 'wireschemalaw42.StatusUnpacks': WHATEVER THE INPUT: true; the input reads as it did. -/
def statusUnpacksSpec : ChangeSpec := { name := "statusUnpacks", fn := fun _ => fun
  | [d] => { results := [.lit (.bool true)], args := [d] }
  | _ => none }
def statusUnpacksRow : OpenClaim := { program := "ytlljocgcpaoenaadoor", sum := "b5c7f7622b6d8ec61a72bf1fd0758c22c770e6c5f47521e80aa4dd8ebfc31fad", func := "wireschema/wireschemalaw42.StatusUnpacks", spec := "statusUnpacks", inPlace := ["internal/bytealg.IndexByteString"], named := ["wireschema/status.names", "wireschema/status.codes", "wireschema/status.units", "strconv.ErrSyntax", "strconv.ErrRange", "internal/strconv.uint64pow10", "math/bits.deBruijn32tab", "math/bits.deBruijn64tab"], apart := false, laid := [("math/bits.deBruijn32tab", laid_math_bits_deBruijn32tab), ("math/bits.deBruijn64tab", laid_math_bits_deBruijn64tab), ("internal/strconv.uint64pow10", laid_internal_strconv_uint64pow10), ("strconv.ErrRange", laid_strconv_ErrRange), ("strconv.ErrSyntax", laid_strconv_ErrSyntax), ("wireschema/status.names", laid_wireschema_status_names), ("wireschema/status.units", laid_wireschema_status_units), ("wireschema/status.codes", laid_wireschema_status_codes)] }
def StatusUnpacksSaid : Prop := statusUnpacksRow.holds Tryd.pinned (OpenSpec.ofChange statusUnpacksSpec)

/-- ITS FALSE NEIGHBOUR: 'it returns false'. Refute it at one input. -/
def statusUnpacksWrong : ChangeSpec := { name := "statusUnpacks", fn := fun _ => fun
  | [d] => { results := [.lit (.bool false)], args := [d] }
  | _ => none }
def StatusUnpacksWrongFalsely : Prop := statusUnpacksRow.holds Tryd.pinned (OpenSpec.ofChange statusUnpacksWrong)

/-- 'wireschemalaw42.StatusOfs': WHATEVER THE INPUT: true; the input reads as it did. -/
def statusOfsSpec : ChangeSpec := { name := "statusOfs", fn := fun _ => fun
  | [d] => { results := [.lit (.bool true)], args := [d] }
  | _ => none }
def statusOfsRow : OpenClaim := { program := "ytlljocgcpaoenaadoor", sum := "b5c7f7622b6d8ec61a72bf1fd0758c22c770e6c5f47521e80aa4dd8ebfc31fad", func := "wireschema/wireschemalaw42.StatusOfs", spec := "statusOfs", inPlace := ["internal/bytealg.IndexByteString"], named := ["wireschema/status.codes", "wireschema/status.names", "wireschema/status.units", "strconv.ErrSyntax", "strconv.ErrRange", "internal/strconv.uint64pow10", "math/bits.deBruijn32tab", "math/bits.deBruijn64tab"], apart := false, laid := [("math/bits.deBruijn32tab", laid_math_bits_deBruijn32tab), ("math/bits.deBruijn64tab", laid_math_bits_deBruijn64tab), ("internal/strconv.uint64pow10", laid_internal_strconv_uint64pow10), ("strconv.ErrRange", laid_strconv_ErrRange), ("strconv.ErrSyntax", laid_strconv_ErrSyntax), ("wireschema/status.names", laid_wireschema_status_names), ("wireschema/status.units", laid_wireschema_status_units), ("wireschema/status.codes", laid_wireschema_status_codes)] }
def StatusOfsSaid : Prop := statusOfsRow.holds Tryd.pinned (OpenSpec.ofChange statusOfsSpec)

/-- ITS FALSE NEIGHBOUR: 'it returns false'. Refute it at one input. -/
def statusOfsWrong : ChangeSpec := { name := "statusOfs", fn := fun _ => fun
  | [d] => { results := [.lit (.bool false)], args := [d] }
  | _ => none }
def StatusOfsWrongFalsely : Prop := statusOfsRow.holds Tryd.pinned (OpenSpec.ofChange statusOfsWrong)

/-- 'wireschemalaw42.StatusSpans': WHATEVER THE INPUT: true; the input reads as it did. -/
def statusSpansSpec : ChangeSpec := { name := "statusSpans", fn := fun _ => fun
  | [d1, d2] => { results := [.lit (.bool true)], args := [d1, d2] }
  | _ => none }
def statusSpansRow : OpenClaim := { program := "ytlljocgcpaoenaadoor", sum := "b5c7f7622b6d8ec61a72bf1fd0758c22c770e6c5f47521e80aa4dd8ebfc31fad", func := "wireschema/wireschemalaw42.StatusSpans", spec := "statusSpans", inPlace := ["internal/bytealg.IndexByteString"], named := ["wireschema/status.names", "wireschema/status.codes", "wireschema/status.units", "strconv.ErrSyntax", "strconv.ErrRange", "internal/strconv.uint64pow10", "math/bits.deBruijn32tab", "math/bits.deBruijn64tab"], apart := false, laid := [("math/bits.deBruijn32tab", laid_math_bits_deBruijn32tab), ("math/bits.deBruijn64tab", laid_math_bits_deBruijn64tab), ("internal/strconv.uint64pow10", laid_internal_strconv_uint64pow10), ("strconv.ErrRange", laid_strconv_ErrRange), ("strconv.ErrSyntax", laid_strconv_ErrSyntax), ("wireschema/status.names", laid_wireschema_status_names), ("wireschema/status.units", laid_wireschema_status_units), ("wireschema/status.codes", laid_wireschema_status_codes)] }
def StatusSpansSaid : Prop := statusSpansRow.holds Tryd.pinned (OpenSpec.ofChange statusSpansSpec)

/-- ITS FALSE NEIGHBOUR: 'it returns false'. Refute it at one input. -/
def statusSpansWrong : ChangeSpec := { name := "statusSpans", fn := fun _ => fun
  | [d1, d2] => { results := [.lit (.bool false)], args := [d1, d2] }
  | _ => none }
def StatusSpansWrongFalsely : Prop := statusSpansRow.holds Tryd.pinned (OpenSpec.ofChange statusSpansWrong)

/-- 'wireschemalaw42.StatusTimes': WHATEVER THE INPUT: true; the input reads as it did. -/
def statusTimesSpec : ChangeSpec := { name := "statusTimes", fn := fun _ => fun
  | [d1, d2] => { results := [.lit (.bool true)], args := [d1, d2] }
  | _ => none }
def statusTimesRow : OpenClaim := { program := "ytlljocgcpaoenaadoor", sum := "b5c7f7622b6d8ec61a72bf1fd0758c22c770e6c5f47521e80aa4dd8ebfc31fad", func := "wireschema/wireschemalaw42.StatusTimes", spec := "statusTimes", inPlace := ["internal/bytealg.IndexByteString"], named := ["wireschema/status.names", "wireschema/status.codes", "wireschema/status.units", "strconv.ErrSyntax", "strconv.ErrRange", "internal/strconv.uint64pow10", "math/bits.deBruijn32tab", "math/bits.deBruijn64tab"], apart := false, laid := [("math/bits.deBruijn32tab", laid_math_bits_deBruijn32tab), ("math/bits.deBruijn64tab", laid_math_bits_deBruijn64tab), ("internal/strconv.uint64pow10", laid_internal_strconv_uint64pow10), ("strconv.ErrRange", laid_strconv_ErrRange), ("strconv.ErrSyntax", laid_strconv_ErrSyntax), ("wireschema/status.names", laid_wireschema_status_names), ("wireschema/status.units", laid_wireschema_status_units), ("wireschema/status.codes", laid_wireschema_status_codes)] }
def StatusTimesSaid : Prop := statusTimesRow.holds Tryd.pinned (OpenSpec.ofChange statusTimesSpec)

/-- ITS FALSE NEIGHBOUR: 'it returns false'. Refute it at one input. -/
def statusTimesWrong : ChangeSpec := { name := "statusTimes", fn := fun _ => fun
  | [d1, d2] => { results := [.lit (.bool false)], args := [d1, d2] }
  | _ => none }
def StatusTimesWrongFalsely : Prop := statusTimesRow.holds Tryd.pinned (OpenSpec.ofChange statusTimesWrong)

/-- 'wireschemalaw42.StatusRoundTrips': WHATEVER THE INPUT: true; the input reads as it did. -/
def statusRoundTripsSpec : ChangeSpec := { name := "statusRoundTrips", fn := fun _ => fun
  | [d1, d2, d3, d4] => { results := [.lit (.bool true)], args := [d1, d2, d3, d4] }
  | _ => none }
def statusRoundTripsRow : OpenClaim := { program := "ytlljocgcpaoenaadoor", sum := "b5c7f7622b6d8ec61a72bf1fd0758c22c770e6c5f47521e80aa4dd8ebfc31fad", func := "wireschema/wireschemalaw42.StatusRoundTrips", spec := "statusRoundTrips", inPlace := ["internal/bytealg.IndexByteString"], named := ["wireschema/status.names", "wireschema/status.codes", "wireschema/status.units", "strconv.ErrSyntax", "strconv.ErrRange", "internal/strconv.uint64pow10", "math/bits.deBruijn32tab", "math/bits.deBruijn64tab"], apart := false, laid := [("math/bits.deBruijn32tab", laid_math_bits_deBruijn32tab), ("math/bits.deBruijn64tab", laid_math_bits_deBruijn64tab), ("internal/strconv.uint64pow10", laid_internal_strconv_uint64pow10), ("strconv.ErrRange", laid_strconv_ErrRange), ("strconv.ErrSyntax", laid_strconv_ErrSyntax), ("wireschema/status.names", laid_wireschema_status_names), ("wireschema/status.units", laid_wireschema_status_units), ("wireschema/status.codes", laid_wireschema_status_codes)] }
def StatusRoundTripsSaid : Prop := statusRoundTripsRow.holds Tryd.pinned (OpenSpec.ofChange statusRoundTripsSpec)

/-- ITS FALSE NEIGHBOUR: 'it returns false'. Refute it at one input. -/
def statusRoundTripsWrong : ChangeSpec := { name := "statusRoundTrips", fn := fun _ => fun
  | [d1, d2, d3, d4] => { results := [.lit (.bool false)], args := [d1, d2, d3, d4] }
  | _ => none }
def StatusRoundTripsWrongFalsely : Prop := statusRoundTripsRow.holds Tryd.pinned (OpenSpec.ofChange statusRoundTripsWrong)

/-- 'wireschemalaw42.StatusWhole': WHATEVER THE INPUT: true; the input reads as it did. -/
def statusWholeSpec : ChangeSpec := { name := "statusWhole", fn := fun _ => fun
  | [d] => { results := [.lit (.bool true)], args := [d] }
  | _ => none }
def statusWholeRow : OpenClaim := { program := "ytlljocgcpaoenaadoor", sum := "b5c7f7622b6d8ec61a72bf1fd0758c22c770e6c5f47521e80aa4dd8ebfc31fad", func := "wireschema/wireschemalaw42.StatusWhole", spec := "statusWhole", inPlace := ["internal/bytealg.IndexByteString"], named := ["wireschema/status.codes", "wireschema/status.names", "wireschema/status.units", "strconv.ErrSyntax", "strconv.ErrRange", "internal/strconv.uint64pow10", "math/bits.deBruijn32tab", "math/bits.deBruijn64tab"], apart := false, laid := [("math/bits.deBruijn32tab", laid_math_bits_deBruijn32tab), ("math/bits.deBruijn64tab", laid_math_bits_deBruijn64tab), ("internal/strconv.uint64pow10", laid_internal_strconv_uint64pow10), ("strconv.ErrRange", laid_strconv_ErrRange), ("strconv.ErrSyntax", laid_strconv_ErrSyntax), ("wireschema/status.names", laid_wireschema_status_names), ("wireschema/status.units", laid_wireschema_status_units), ("wireschema/status.codes", laid_wireschema_status_codes)] }
def StatusWholeSaid : Prop := statusWholeRow.holds Tryd.pinned (OpenSpec.ofChange statusWholeSpec)

/-- ITS FALSE NEIGHBOUR: 'it returns false'. Refute it at one input. -/
def statusWholeWrong : ChangeSpec := { name := "statusWhole", fn := fun _ => fun
  | [d] => { results := [.lit (.bool false)], args := [d] }
  | _ => none }
def StatusWholeWrongFalsely : Prop := statusWholeRow.holds Tryd.pinned (OpenSpec.ofChange statusWholeWrong)

/-- 'wireschemalaw42.StatusDeadlines': WHATEVER THE INPUT: true; the input reads as it did. -/
def statusDeadlinesSpec : ChangeSpec := { name := "statusDeadlines", fn := fun _ => fun
  | [d1, d2, d3] => { results := [.lit (.bool true)], args := [d1, d2, d3] }
  | _ => none }
def statusDeadlinesRow : OpenClaim := { program := "ytlljocgcpaoenaadoor", sum := "b5c7f7622b6d8ec61a72bf1fd0758c22c770e6c5f47521e80aa4dd8ebfc31fad", func := "wireschema/wireschemalaw42.StatusDeadlines", spec := "statusDeadlines", inPlace := ["internal/bytealg.IndexByteString"], named := ["wireschema/status.names", "wireschema/status.codes", "wireschema/status.units", "strconv.ErrSyntax", "strconv.ErrRange", "internal/strconv.uint64pow10", "math/bits.deBruijn32tab", "math/bits.deBruijn64tab"], apart := false, laid := [("math/bits.deBruijn32tab", laid_math_bits_deBruijn32tab), ("math/bits.deBruijn64tab", laid_math_bits_deBruijn64tab), ("internal/strconv.uint64pow10", laid_internal_strconv_uint64pow10), ("strconv.ErrRange", laid_strconv_ErrRange), ("strconv.ErrSyntax", laid_strconv_ErrSyntax), ("wireschema/status.names", laid_wireschema_status_names), ("wireschema/status.units", laid_wireschema_status_units), ("wireschema/status.codes", laid_wireschema_status_codes)] }
def StatusDeadlinesSaid : Prop := statusDeadlinesRow.holds Tryd.pinned (OpenSpec.ofChange statusDeadlinesSpec)

/-- ITS FALSE NEIGHBOUR: 'it returns false'. Refute it at one input. -/
def statusDeadlinesWrong : ChangeSpec := { name := "statusDeadlines", fn := fun _ => fun
  | [d1, d2, d3] => { results := [.lit (.bool false)], args := [d1, d2, d3] }
  | _ => none }
def StatusDeadlinesWrongFalsely : Prop := statusDeadlinesRow.holds Tryd.pinned (OpenSpec.ofChange statusDeadlinesWrong)

/- THE SECOND FORM. 'bulk': how many values and letters a reading holds, each counted each time it is reached (what is shared counts as often as it is met; a slice's spare places count too). A statement '..UptoSaid' is the law's where the arguments, and the package variables that the reading takes, are together of bulk at most 1048576: NARROWER than '..Said'. Prove '..Said' where nothing that the law and all that it calls make is longer than what came in: it says more and counts as full. Else prove '..UptoSaid'. A law counts once. -/
mutual
def uptoBulk {H : Type} : DataW H → Nat
  | .lit (.string bytes) => bytes.length + 1
  | .lit _ => 1
  | .nil => 1
  | .ptr d => uptoBulk d + 1
  | .slice elems spare => uptoBulkAll elems + uptoBulkAll spare + 1
  | .agg parts => uptoBulkAll parts + 1
  | .iface _ d => uptoBulk d + 1
  | .map entries => uptoBulkEntries entries + 1
  | .held _ => 1
def uptoBulkAll {H : Type} : List (DataW H) → Nat
  | [] => 0
  | d :: r => uptoBulk d + uptoBulkAll r
def uptoBulkEntries {H : Type} : List (Lit × DataW H) → Nat
  | [] => 0
  | x :: r => uptoBulkEntry x + uptoBulkEntries r
def uptoBulkEntry {H : Type} : Lit × DataW H → Nat
  | (.string bytes, d) => bytes.length + uptoBulk d + 1
  | (_, d) => uptoBulk d + 1
 end
def uptoSmall : (H : Type) → List (DataW H) → Bool := fun _ ds => decide (uptoBulkAll ds ≤ 1048576)
def OpenSpec.upto (s : _root_.Go.ChangeSpec) : _root_.Go.OpenSpec := { _root_.Go.OpenSpec.ofChange s with cond := some uptoSmall }

/-- 'wireschemalaw42.StatusNames', WHERE WHAT IT READS IS OF BULK AT MOST 1048576: true; the input reads as it did. -/
def statusNamesUptoRow : OpenClaim := { program := "ytlljocgcpaoenaadoor", sum := "b5c7f7622b6d8ec61a72bf1fd0758c22c770e6c5f47521e80aa4dd8ebfc31fad", func := "wireschema/wireschemalaw42.StatusNames", spec := "statusNames", inPlace := ["internal/bytealg.IndexByteString"], named := ["wireschema/status.names", "wireschema/status.codes", "wireschema/status.units", "strconv.ErrSyntax", "strconv.ErrRange", "internal/strconv.uint64pow10", "math/bits.deBruijn32tab", "math/bits.deBruijn64tab"], apart := false, laid := [("math/bits.deBruijn32tab", laid_math_bits_deBruijn32tab), ("math/bits.deBruijn64tab", laid_math_bits_deBruijn64tab), ("internal/strconv.uint64pow10", laid_internal_strconv_uint64pow10), ("strconv.ErrRange", laid_strconv_ErrRange), ("strconv.ErrSyntax", laid_strconv_ErrSyntax), ("wireschema/status.names", laid_wireschema_status_names), ("wireschema/status.units", laid_wireschema_status_units), ("wireschema/status.codes", laid_wireschema_status_codes)], narrowed := true }
def StatusNamesUptoSaid : Prop := statusNamesUptoRow.holds Tryd.pinned (OpenSpec.upto statusNamesSpec)

/-- 'wireschemalaw42.StatusPacks', WHERE WHAT IT READS IS OF BULK AT MOST 1048576: true; the input reads as it did. -/
def statusPacksUptoRow : OpenClaim := { program := "ytlljocgcpaoenaadoor", sum := "b5c7f7622b6d8ec61a72bf1fd0758c22c770e6c5f47521e80aa4dd8ebfc31fad", func := "wireschema/wireschemalaw42.StatusPacks", spec := "statusPacks", inPlace := ["internal/bytealg.IndexByteString"], named := ["wireschema/status.names", "wireschema/status.codes", "wireschema/status.units", "strconv.ErrSyntax", "strconv.ErrRange", "internal/strconv.uint64pow10", "math/bits.deBruijn32tab", "math/bits.deBruijn64tab"], apart := false, laid := [("math/bits.deBruijn32tab", laid_math_bits_deBruijn32tab), ("math/bits.deBruijn64tab", laid_math_bits_deBruijn64tab), ("internal/strconv.uint64pow10", laid_internal_strconv_uint64pow10), ("strconv.ErrRange", laid_strconv_ErrRange), ("strconv.ErrSyntax", laid_strconv_ErrSyntax), ("wireschema/status.names", laid_wireschema_status_names), ("wireschema/status.units", laid_wireschema_status_units), ("wireschema/status.codes", laid_wireschema_status_codes)], narrowed := true }
def StatusPacksUptoSaid : Prop := statusPacksUptoRow.holds Tryd.pinned (OpenSpec.upto statusPacksSpec)

/-- 'wireschemalaw42.StatusUnpacks', WHERE WHAT IT READS IS OF BULK AT MOST 1048576: true; the input reads as it did. -/
def statusUnpacksUptoRow : OpenClaim := { program := "ytlljocgcpaoenaadoor", sum := "b5c7f7622b6d8ec61a72bf1fd0758c22c770e6c5f47521e80aa4dd8ebfc31fad", func := "wireschema/wireschemalaw42.StatusUnpacks", spec := "statusUnpacks", inPlace := ["internal/bytealg.IndexByteString"], named := ["wireschema/status.names", "wireschema/status.codes", "wireschema/status.units", "strconv.ErrSyntax", "strconv.ErrRange", "internal/strconv.uint64pow10", "math/bits.deBruijn32tab", "math/bits.deBruijn64tab"], apart := false, laid := [("math/bits.deBruijn32tab", laid_math_bits_deBruijn32tab), ("math/bits.deBruijn64tab", laid_math_bits_deBruijn64tab), ("internal/strconv.uint64pow10", laid_internal_strconv_uint64pow10), ("strconv.ErrRange", laid_strconv_ErrRange), ("strconv.ErrSyntax", laid_strconv_ErrSyntax), ("wireschema/status.names", laid_wireschema_status_names), ("wireschema/status.units", laid_wireschema_status_units), ("wireschema/status.codes", laid_wireschema_status_codes)], narrowed := true }
def StatusUnpacksUptoSaid : Prop := statusUnpacksUptoRow.holds Tryd.pinned (OpenSpec.upto statusUnpacksSpec)

/-- 'wireschemalaw42.StatusOfs', WHERE WHAT IT READS IS OF BULK AT MOST 1048576: true; the input reads as it did. -/
def statusOfsUptoRow : OpenClaim := { program := "ytlljocgcpaoenaadoor", sum := "b5c7f7622b6d8ec61a72bf1fd0758c22c770e6c5f47521e80aa4dd8ebfc31fad", func := "wireschema/wireschemalaw42.StatusOfs", spec := "statusOfs", inPlace := ["internal/bytealg.IndexByteString"], named := ["wireschema/status.codes", "wireschema/status.names", "wireschema/status.units", "strconv.ErrSyntax", "strconv.ErrRange", "internal/strconv.uint64pow10", "math/bits.deBruijn32tab", "math/bits.deBruijn64tab"], apart := false, laid := [("math/bits.deBruijn32tab", laid_math_bits_deBruijn32tab), ("math/bits.deBruijn64tab", laid_math_bits_deBruijn64tab), ("internal/strconv.uint64pow10", laid_internal_strconv_uint64pow10), ("strconv.ErrRange", laid_strconv_ErrRange), ("strconv.ErrSyntax", laid_strconv_ErrSyntax), ("wireschema/status.names", laid_wireschema_status_names), ("wireschema/status.units", laid_wireschema_status_units), ("wireschema/status.codes", laid_wireschema_status_codes)], narrowed := true }
def StatusOfsUptoSaid : Prop := statusOfsUptoRow.holds Tryd.pinned (OpenSpec.upto statusOfsSpec)

/-- 'wireschemalaw42.StatusSpans', WHERE WHAT IT READS IS OF BULK AT MOST 1048576: true; the input reads as it did. -/
def statusSpansUptoRow : OpenClaim := { program := "ytlljocgcpaoenaadoor", sum := "b5c7f7622b6d8ec61a72bf1fd0758c22c770e6c5f47521e80aa4dd8ebfc31fad", func := "wireschema/wireschemalaw42.StatusSpans", spec := "statusSpans", inPlace := ["internal/bytealg.IndexByteString"], named := ["wireschema/status.names", "wireschema/status.codes", "wireschema/status.units", "strconv.ErrSyntax", "strconv.ErrRange", "internal/strconv.uint64pow10", "math/bits.deBruijn32tab", "math/bits.deBruijn64tab"], apart := false, laid := [("math/bits.deBruijn32tab", laid_math_bits_deBruijn32tab), ("math/bits.deBruijn64tab", laid_math_bits_deBruijn64tab), ("internal/strconv.uint64pow10", laid_internal_strconv_uint64pow10), ("strconv.ErrRange", laid_strconv_ErrRange), ("strconv.ErrSyntax", laid_strconv_ErrSyntax), ("wireschema/status.names", laid_wireschema_status_names), ("wireschema/status.units", laid_wireschema_status_units), ("wireschema/status.codes", laid_wireschema_status_codes)], narrowed := true }
def StatusSpansUptoSaid : Prop := statusSpansUptoRow.holds Tryd.pinned (OpenSpec.upto statusSpansSpec)

/-- 'wireschemalaw42.StatusTimes', WHERE WHAT IT READS IS OF BULK AT MOST 1048576: true; the input reads as it did. -/
def statusTimesUptoRow : OpenClaim := { program := "ytlljocgcpaoenaadoor", sum := "b5c7f7622b6d8ec61a72bf1fd0758c22c770e6c5f47521e80aa4dd8ebfc31fad", func := "wireschema/wireschemalaw42.StatusTimes", spec := "statusTimes", inPlace := ["internal/bytealg.IndexByteString"], named := ["wireschema/status.names", "wireschema/status.codes", "wireschema/status.units", "strconv.ErrSyntax", "strconv.ErrRange", "internal/strconv.uint64pow10", "math/bits.deBruijn32tab", "math/bits.deBruijn64tab"], apart := false, laid := [("math/bits.deBruijn32tab", laid_math_bits_deBruijn32tab), ("math/bits.deBruijn64tab", laid_math_bits_deBruijn64tab), ("internal/strconv.uint64pow10", laid_internal_strconv_uint64pow10), ("strconv.ErrRange", laid_strconv_ErrRange), ("strconv.ErrSyntax", laid_strconv_ErrSyntax), ("wireschema/status.names", laid_wireschema_status_names), ("wireschema/status.units", laid_wireschema_status_units), ("wireschema/status.codes", laid_wireschema_status_codes)], narrowed := true }
def StatusTimesUptoSaid : Prop := statusTimesUptoRow.holds Tryd.pinned (OpenSpec.upto statusTimesSpec)

/-- 'wireschemalaw42.StatusRoundTrips', WHERE WHAT IT READS IS OF BULK AT MOST 1048576: true; the input reads as it did. -/
def statusRoundTripsUptoRow : OpenClaim := { program := "ytlljocgcpaoenaadoor", sum := "b5c7f7622b6d8ec61a72bf1fd0758c22c770e6c5f47521e80aa4dd8ebfc31fad", func := "wireschema/wireschemalaw42.StatusRoundTrips", spec := "statusRoundTrips", inPlace := ["internal/bytealg.IndexByteString"], named := ["wireschema/status.names", "wireschema/status.codes", "wireschema/status.units", "strconv.ErrSyntax", "strconv.ErrRange", "internal/strconv.uint64pow10", "math/bits.deBruijn32tab", "math/bits.deBruijn64tab"], apart := false, laid := [("math/bits.deBruijn32tab", laid_math_bits_deBruijn32tab), ("math/bits.deBruijn64tab", laid_math_bits_deBruijn64tab), ("internal/strconv.uint64pow10", laid_internal_strconv_uint64pow10), ("strconv.ErrRange", laid_strconv_ErrRange), ("strconv.ErrSyntax", laid_strconv_ErrSyntax), ("wireschema/status.names", laid_wireschema_status_names), ("wireschema/status.units", laid_wireschema_status_units), ("wireschema/status.codes", laid_wireschema_status_codes)], narrowed := true }
def StatusRoundTripsUptoSaid : Prop := statusRoundTripsUptoRow.holds Tryd.pinned (OpenSpec.upto statusRoundTripsSpec)

/-- 'wireschemalaw42.StatusWhole', WHERE WHAT IT READS IS OF BULK AT MOST 1048576: true; the input reads as it did. -/
def statusWholeUptoRow : OpenClaim := { program := "ytlljocgcpaoenaadoor", sum := "b5c7f7622b6d8ec61a72bf1fd0758c22c770e6c5f47521e80aa4dd8ebfc31fad", func := "wireschema/wireschemalaw42.StatusWhole", spec := "statusWhole", inPlace := ["internal/bytealg.IndexByteString"], named := ["wireschema/status.codes", "wireschema/status.names", "wireschema/status.units", "strconv.ErrSyntax", "strconv.ErrRange", "internal/strconv.uint64pow10", "math/bits.deBruijn32tab", "math/bits.deBruijn64tab"], apart := false, laid := [("math/bits.deBruijn32tab", laid_math_bits_deBruijn32tab), ("math/bits.deBruijn64tab", laid_math_bits_deBruijn64tab), ("internal/strconv.uint64pow10", laid_internal_strconv_uint64pow10), ("strconv.ErrRange", laid_strconv_ErrRange), ("strconv.ErrSyntax", laid_strconv_ErrSyntax), ("wireschema/status.names", laid_wireschema_status_names), ("wireschema/status.units", laid_wireschema_status_units), ("wireschema/status.codes", laid_wireschema_status_codes)], narrowed := true }
def StatusWholeUptoSaid : Prop := statusWholeUptoRow.holds Tryd.pinned (OpenSpec.upto statusWholeSpec)

/-- 'wireschemalaw42.StatusDeadlines', WHERE WHAT IT READS IS OF BULK AT MOST 1048576: true; the input reads as it did. -/
def statusDeadlinesUptoRow : OpenClaim := { program := "ytlljocgcpaoenaadoor", sum := "b5c7f7622b6d8ec61a72bf1fd0758c22c770e6c5f47521e80aa4dd8ebfc31fad", func := "wireschema/wireschemalaw42.StatusDeadlines", spec := "statusDeadlines", inPlace := ["internal/bytealg.IndexByteString"], named := ["wireschema/status.names", "wireschema/status.codes", "wireschema/status.units", "strconv.ErrSyntax", "strconv.ErrRange", "internal/strconv.uint64pow10", "math/bits.deBruijn32tab", "math/bits.deBruijn64tab"], apart := false, laid := [("math/bits.deBruijn32tab", laid_math_bits_deBruijn32tab), ("math/bits.deBruijn64tab", laid_math_bits_deBruijn64tab), ("internal/strconv.uint64pow10", laid_internal_strconv_uint64pow10), ("strconv.ErrRange", laid_strconv_ErrRange), ("strconv.ErrSyntax", laid_strconv_ErrSyntax), ("wireschema/status.names", laid_wireschema_status_names), ("wireschema/status.units", laid_wireschema_status_units), ("wireschema/status.codes", laid_wireschema_status_codes)], narrowed := true }
def StatusDeadlinesUptoSaid : Prop := statusDeadlinesUptoRow.holds Tryd.pinned (OpenSpec.upto statusDeadlinesSpec)

end Rows
end Go.Proofs.YtlljocgcpaoenaaDoor
