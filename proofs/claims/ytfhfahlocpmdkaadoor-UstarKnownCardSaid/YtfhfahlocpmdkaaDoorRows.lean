/-
  NARROWER THAN 'FOR EVERY INPUT', by the rows' own cells (each row's printed sentence says how): UstarEncode: laid · UstarDecode: laid · UstarForged: laid · UstarBack: laid · UstarUnlike: laid · UstarOne: laid · UstarPosix: laid · UstarOf: laid · UstarKnown: laid · UstarTrees: laid.
  DERIVED. THE GIVEN ROWS OF THIS SEAT. 10 by the template 'for every input the law returns true; each argument reads behind the call as it read before'; 0 by the template 'total and deterministic' (their statements: YtfhfahlocpmdkaaDoorTotals.lean).
  GIVEN WITH THE SEED: the statements are not yours to turn. If you find one false, say at which input.
  Laid BY PROGRAM, IN A SANDBOX (cutbox-rows.mjs): the forced cells as the released guide's own fill.sh prints them over the translation d8f304f383c273d2… (all of the seat's roots in one cut). By AI agents, Wed Nov 11 2026. No macro, syntax, notation, axiom, sorry.
-/
import Derived.Test.YtfhfahlocpmdkaaDoorChecked
import GoSem.PinnedTables
import GoSem.Claim
import GoSem.ClaimJoined
import GoSem.ClaimMapViews
import Derived.JoinedTies
import Derived.KernelRfl
namespace Go.Proofs.YtfhfahlocpmdkaaDoor
/- THE CELL 'sum', in the pinned program and in every row, IS THE sha256 OF THE DUMP (.gsa) THAT YtfhfahlocpmdkaaDoorProg.lean LOADS. Nothing in Lean hashes anything: it is a label: what it is worth is what the hold of that sum in a sandbox is worth. -/
noncomputable def Tryd.pinned : Pinned := { name := "ytfhfahlocpmdkaadoor", sum := "d8f304f383c273d2349dd4355ae369fcbdc1f1873d73d1c1d326eff3f96d6a2f", checked := Tryd.checked }
namespace Rows
def none {H : Type} : Left H := { results := [], args := [] }

/- WHAT THE LISTED PACKAGE-LEVEL VARIABLES READ AS WHEN THE CALL BEGINS. Each datum BY PROGRAM (the guide's laid-datum.mjs) off the statement by which the dump's own 'gosem.cut.vars' lays the variable. In a bare row this is a premise. The card (YtfhfahlocpmdkaaDoorCards.lean) ties it to the program's text. -/
def laid_unicode_utf8_acceptRanges {H : Type} : DataW H := .agg [.agg [.lit (.int .u8 128), .lit (.int .u8 191)], .agg [.lit (.int .u8 160), .lit (.int .u8 191)], .agg [.lit (.int .u8 128), .lit (.int .u8 159)], .agg [.lit (.int .u8 144), .lit (.int .u8 191)], .agg [.lit (.int .u8 128), .lit (.int .u8 143)], .agg [.lit (.int .u8 0), .lit (.int .u8 0)], .agg [.lit (.int .u8 0), .lit (.int .u8 0)], .agg [.lit (.int .u8 0), .lit (.int .u8 0)], .agg [.lit (.int .u8 0), .lit (.int .u8 0)], .agg [.lit (.int .u8 0), .lit (.int .u8 0)], .agg [.lit (.int .u8 0), .lit (.int .u8 0)], .agg [.lit (.int .u8 0), .lit (.int .u8 0)], .agg [.lit (.int .u8 0), .lit (.int .u8 0)], .agg [.lit (.int .u8 0), .lit (.int .u8 0)], .agg [.lit (.int .u8 0), .lit (.int .u8 0)], .agg [.lit (.int .u8 0), .lit (.int .u8 0)]]
def laid_errors_errorType {H : Type} : DataW H := .iface "internal/reflectlite.rtype" (.agg [.ptr (.lit (.string [101, 114, 114, 111, 114]))])
/-- One of Go's own tables, pinned by name: the form's constant. -/
def laid_unicode_utf8_first : DataW Unit := Go.Pinned.utf8First

/-- 'stratalaw05.UstarEncode': WHATEVER THE INPUT: true; the input reads as it did. -/
def ustarEncodeSpec : ChangeSpec := { name := "ustarEncode", fn := fun _ => fun
  | [d] => { results := [.lit (.bool true)], args := [d] }
  | _ => none }
def ustarEncodeRow : OpenClaim := { program := "ytfhfahlocpmdkaadoor", sum := "d8f304f383c273d2349dd4355ae369fcbdc1f1873d73d1c1d326eff3f96d6a2f", func := "strata/stratalaw05.UstarEncode", spec := "ustarEncode", inPlace := ["internal/bytealg.IndexByteString", "internal/reflectlite.TypeOf", "internal/reflectlite.ValueOf", "(internal/reflectlite.Value).Type", "(internal/reflectlite.Value).IsNil", "(internal/reflectlite.Value).Elem", "(internal/reflectlite.Value).Set", "internal/bytealg.IndexString"], unfollowed := true, recurses := true, named := ["errors.errorType", "unicode/utf8.first", "unicode/utf8.acceptRanges", "internal/bytealg.MaxLen"], apart := false, laid := [("unicode/utf8.acceptRanges", laid_unicode_utf8_acceptRanges), ("errors.errorType", laid_errors_errorType), ("unicode/utf8.first", laid_unicode_utf8_first)] }
def UstarEncodeSaid : Prop := ustarEncodeRow.holds Tryd.pinned (OpenSpec.ofChange ustarEncodeSpec)

/-- ITS FALSE NEIGHBOUR: 'it returns false'. Refute it at one input. -/
def ustarEncodeWrong : ChangeSpec := { name := "ustarEncode", fn := fun _ => fun
  | [d] => { results := [.lit (.bool false)], args := [d] }
  | _ => none }
def UstarEncodeWrongFalsely : Prop := ustarEncodeRow.holds Tryd.pinned (OpenSpec.ofChange ustarEncodeWrong)

/-- 'stratalaw05.UstarDecode': WHATEVER THE INPUT: true; the input reads as it did. -/
def ustarDecodeSpec : ChangeSpec := { name := "ustarDecode", fn := fun _ => fun
  | [d] => { results := [.lit (.bool true)], args := [d] }
  | _ => none }
def ustarDecodeRow : OpenClaim := { program := "ytfhfahlocpmdkaadoor", sum := "d8f304f383c273d2349dd4355ae369fcbdc1f1873d73d1c1d326eff3f96d6a2f", func := "strata/stratalaw05.UstarDecode", spec := "ustarDecode", inPlace := ["internal/bytealg.IndexByteString", "internal/bytealg.IndexString", "internal/reflectlite.TypeOf", "internal/reflectlite.ValueOf", "(internal/reflectlite.Value).Type", "(internal/reflectlite.Value).IsNil", "(internal/reflectlite.Value).Elem", "(internal/reflectlite.Value).Set"], unfollowed := true, recurses := true, named := ["unicode/utf8.first", "unicode/utf8.acceptRanges", "errors.errorType", "internal/bytealg.MaxLen"], apart := false, laid := [("unicode/utf8.acceptRanges", laid_unicode_utf8_acceptRanges), ("errors.errorType", laid_errors_errorType), ("unicode/utf8.first", laid_unicode_utf8_first)] }
def UstarDecodeSaid : Prop := ustarDecodeRow.holds Tryd.pinned (OpenSpec.ofChange ustarDecodeSpec)

/-- ITS FALSE NEIGHBOUR: 'it returns false'. Refute it at one input. -/
def ustarDecodeWrong : ChangeSpec := { name := "ustarDecode", fn := fun _ => fun
  | [d] => { results := [.lit (.bool false)], args := [d] }
  | _ => none }
def UstarDecodeWrongFalsely : Prop := ustarDecodeRow.holds Tryd.pinned (OpenSpec.ofChange ustarDecodeWrong)

/-- 'stratalaw05.UstarForged': WHATEVER THE INPUT: true; the input reads as it did. -/
def ustarForgedSpec : ChangeSpec := { name := "ustarForged", fn := fun _ => fun
  | [d1, d2, d3] => { results := [.lit (.bool true)], args := [d1, d2, d3] }
  | _ => none }
def ustarForgedRow : OpenClaim := { program := "ytfhfahlocpmdkaadoor", sum := "d8f304f383c273d2349dd4355ae369fcbdc1f1873d73d1c1d326eff3f96d6a2f", func := "strata/stratalaw05.UstarForged", spec := "ustarForged", inPlace := ["internal/bytealg.IndexByteString", "internal/bytealg.IndexString", "internal/reflectlite.TypeOf", "internal/reflectlite.ValueOf", "(internal/reflectlite.Value).Type", "(internal/reflectlite.Value).IsNil", "(internal/reflectlite.Value).Elem", "(internal/reflectlite.Value).Set"], unfollowed := true, recurses := true, named := ["unicode/utf8.first", "unicode/utf8.acceptRanges", "errors.errorType", "internal/bytealg.MaxLen"], apart := false, laid := [("unicode/utf8.acceptRanges", laid_unicode_utf8_acceptRanges), ("errors.errorType", laid_errors_errorType), ("unicode/utf8.first", laid_unicode_utf8_first)] }
def UstarForgedSaid : Prop := ustarForgedRow.holds Tryd.pinned (OpenSpec.ofChange ustarForgedSpec)

/-- ITS FALSE NEIGHBOUR: 'it returns false'. Refute it at one input. -/
def ustarForgedWrong : ChangeSpec := { name := "ustarForged", fn := fun _ => fun
  | [d1, d2, d3] => { results := [.lit (.bool false)], args := [d1, d2, d3] }
  | _ => none }
def UstarForgedWrongFalsely : Prop := ustarForgedRow.holds Tryd.pinned (OpenSpec.ofChange ustarForgedWrong)

/-- 'stratalaw05.UstarBack': WHATEVER THE INPUT: true; the input reads as it did. -/
def ustarBackSpec : ChangeSpec := { name := "ustarBack", fn := fun _ => fun
  | [d] => { results := [.lit (.bool true)], args := [d] }
  | _ => none }
def ustarBackRow : OpenClaim := { program := "ytfhfahlocpmdkaadoor", sum := "d8f304f383c273d2349dd4355ae369fcbdc1f1873d73d1c1d326eff3f96d6a2f", func := "strata/stratalaw05.UstarBack", spec := "ustarBack", inPlace := ["internal/bytealg.IndexByteString", "internal/bytealg.IndexString", "internal/reflectlite.TypeOf", "internal/reflectlite.ValueOf", "(internal/reflectlite.Value).Type", "(internal/reflectlite.Value).IsNil", "(internal/reflectlite.Value).Elem", "(internal/reflectlite.Value).Set"], unfollowed := true, recurses := true, named := ["unicode/utf8.first", "unicode/utf8.acceptRanges", "errors.errorType", "internal/bytealg.MaxLen"], apart := false, laid := [("unicode/utf8.acceptRanges", laid_unicode_utf8_acceptRanges), ("errors.errorType", laid_errors_errorType), ("unicode/utf8.first", laid_unicode_utf8_first)] }
def UstarBackSaid : Prop := ustarBackRow.holds Tryd.pinned (OpenSpec.ofChange ustarBackSpec)

/-- ITS FALSE NEIGHBOUR: 'it returns false'. Refute it at one input. -/
def ustarBackWrong : ChangeSpec := { name := "ustarBack", fn := fun _ => fun
  | [d] => { results := [.lit (.bool false)], args := [d] }
  | _ => none }
def UstarBackWrongFalsely : Prop := ustarBackRow.holds Tryd.pinned (OpenSpec.ofChange ustarBackWrong)

/-- 'stratalaw05.UstarUnlike': WHATEVER THE INPUT: true; the input reads as it did. -/
def ustarUnlikeSpec : ChangeSpec := { name := "ustarUnlike", fn := fun _ => fun
  | [d1, d2] => { results := [.lit (.bool true)], args := [d1, d2] }
  | _ => none }
def ustarUnlikeRow : OpenClaim := { program := "ytfhfahlocpmdkaadoor", sum := "d8f304f383c273d2349dd4355ae369fcbdc1f1873d73d1c1d326eff3f96d6a2f", func := "strata/stratalaw05.UstarUnlike", spec := "ustarUnlike", inPlace := ["internal/bytealg.IndexByteString", "internal/bytealg.IndexString", "internal/reflectlite.TypeOf", "internal/reflectlite.ValueOf", "(internal/reflectlite.Value).Type", "(internal/reflectlite.Value).IsNil", "(internal/reflectlite.Value).Elem", "(internal/reflectlite.Value).Set"], unfollowed := true, recurses := true, named := ["unicode/utf8.first", "unicode/utf8.acceptRanges", "errors.errorType", "internal/bytealg.MaxLen"], apart := false, laid := [("unicode/utf8.acceptRanges", laid_unicode_utf8_acceptRanges), ("errors.errorType", laid_errors_errorType), ("unicode/utf8.first", laid_unicode_utf8_first)] }
def UstarUnlikeSaid : Prop := ustarUnlikeRow.holds Tryd.pinned (OpenSpec.ofChange ustarUnlikeSpec)

/-- ITS FALSE NEIGHBOUR: 'it returns false'. Refute it at one input. -/
def ustarUnlikeWrong : ChangeSpec := { name := "ustarUnlike", fn := fun _ => fun
  | [d1, d2] => { results := [.lit (.bool false)], args := [d1, d2] }
  | _ => none }
def UstarUnlikeWrongFalsely : Prop := ustarUnlikeRow.holds Tryd.pinned (OpenSpec.ofChange ustarUnlikeWrong)

/-- 'stratalaw05.UstarOne': WHATEVER THE INPUT: true; the input reads as it did. -/
def ustarOneSpec : ChangeSpec := { name := "ustarOne", fn := fun _ => fun
  | [d1, d2, d3] => { results := [.lit (.bool true)], args := [d1, d2, d3] }
  | _ => none }
def ustarOneRow : OpenClaim := { program := "ytfhfahlocpmdkaadoor", sum := "d8f304f383c273d2349dd4355ae369fcbdc1f1873d73d1c1d326eff3f96d6a2f", func := "strata/stratalaw05.UstarOne", spec := "ustarOne", inPlace := ["internal/bytealg.IndexByteString", "internal/bytealg.IndexString", "internal/reflectlite.TypeOf", "internal/reflectlite.ValueOf", "(internal/reflectlite.Value).Type", "(internal/reflectlite.Value).IsNil", "(internal/reflectlite.Value).Elem", "(internal/reflectlite.Value).Set"], unfollowed := true, recurses := true, named := ["unicode/utf8.first", "unicode/utf8.acceptRanges", "errors.errorType", "internal/bytealg.MaxLen"], apart := false, laid := [("unicode/utf8.acceptRanges", laid_unicode_utf8_acceptRanges), ("errors.errorType", laid_errors_errorType), ("unicode/utf8.first", laid_unicode_utf8_first)] }
def UstarOneSaid : Prop := ustarOneRow.holds Tryd.pinned (OpenSpec.ofChange ustarOneSpec)

/-- ITS FALSE NEIGHBOUR: 'it returns false'. Refute it at one input. -/
def ustarOneWrong : ChangeSpec := { name := "ustarOne", fn := fun _ => fun
  | [d1, d2, d3] => { results := [.lit (.bool false)], args := [d1, d2, d3] }
  | _ => none }
def UstarOneWrongFalsely : Prop := ustarOneRow.holds Tryd.pinned (OpenSpec.ofChange ustarOneWrong)

/-- 'stratalaw05.UstarPosix': WHATEVER THE INPUT: true; the input reads as it did. -/
def ustarPosixSpec : ChangeSpec := { name := "ustarPosix", fn := fun _ => fun
  | [d] => { results := [.lit (.bool true)], args := [d] }
  | _ => none }
def ustarPosixRow : OpenClaim := { program := "ytfhfahlocpmdkaadoor", sum := "d8f304f383c273d2349dd4355ae369fcbdc1f1873d73d1c1d326eff3f96d6a2f", func := "strata/stratalaw05.UstarPosix", spec := "ustarPosix", inPlace := ["internal/bytealg.IndexByteString", "internal/bytealg.IndexString", "internal/reflectlite.TypeOf", "internal/reflectlite.ValueOf", "(internal/reflectlite.Value).Type", "(internal/reflectlite.Value).IsNil", "(internal/reflectlite.Value).Elem", "(internal/reflectlite.Value).Set"], unfollowed := true, recurses := true, named := ["unicode/utf8.first", "unicode/utf8.acceptRanges", "errors.errorType", "internal/bytealg.MaxLen"], apart := false, laid := [("unicode/utf8.acceptRanges", laid_unicode_utf8_acceptRanges), ("errors.errorType", laid_errors_errorType), ("unicode/utf8.first", laid_unicode_utf8_first)] }
def UstarPosixSaid : Prop := ustarPosixRow.holds Tryd.pinned (OpenSpec.ofChange ustarPosixSpec)

/-- ITS FALSE NEIGHBOUR: 'it returns false'. Refute it at one input. -/
def ustarPosixWrong : ChangeSpec := { name := "ustarPosix", fn := fun _ => fun
  | [d] => { results := [.lit (.bool false)], args := [d] }
  | _ => none }
def UstarPosixWrongFalsely : Prop := ustarPosixRow.holds Tryd.pinned (OpenSpec.ofChange ustarPosixWrong)

/-- 'stratalaw05.UstarOf': WHATEVER THE INPUT: true; the input reads as it did. -/
def ustarOfSpec : ChangeSpec := { name := "ustarOf", fn := fun _ => fun
  | [d] => { results := [.lit (.bool true)], args := [d] }
  | _ => none }
def ustarOfRow : OpenClaim := { program := "ytfhfahlocpmdkaadoor", sum := "d8f304f383c273d2349dd4355ae369fcbdc1f1873d73d1c1d326eff3f96d6a2f", func := "strata/stratalaw05.UstarOf", spec := "ustarOf", inPlace := ["internal/bytealg.IndexByteString", "internal/bytealg.IndexString", "internal/reflectlite.TypeOf", "internal/reflectlite.ValueOf", "(internal/reflectlite.Value).Type", "(internal/reflectlite.Value).IsNil", "(internal/reflectlite.Value).Elem", "(internal/reflectlite.Value).Set"], unfollowed := true, recurses := true, named := ["unicode/utf8.first", "unicode/utf8.acceptRanges", "errors.errorType", "internal/bytealg.MaxLen"], apart := false, laid := [("unicode/utf8.acceptRanges", laid_unicode_utf8_acceptRanges), ("errors.errorType", laid_errors_errorType), ("unicode/utf8.first", laid_unicode_utf8_first)] }
def UstarOfSaid : Prop := ustarOfRow.holds Tryd.pinned (OpenSpec.ofChange ustarOfSpec)

/-- ITS FALSE NEIGHBOUR: 'it returns false'. Refute it at one input. -/
def ustarOfWrong : ChangeSpec := { name := "ustarOf", fn := fun _ => fun
  | [d] => { results := [.lit (.bool false)], args := [d] }
  | _ => none }
def UstarOfWrongFalsely : Prop := ustarOfRow.holds Tryd.pinned (OpenSpec.ofChange ustarOfWrong)

/-- 'stratalaw05.UstarKnown': WHATEVER THE INPUT: true; the input reads as it did. -/
def ustarKnownSpec : ChangeSpec := { name := "ustarKnown", fn := fun _ => fun
  | [] => { results := [.lit (.bool true)], args := [] }
  | _ => none }
def ustarKnownRow : OpenClaim := { program := "ytfhfahlocpmdkaadoor", sum := "d8f304f383c273d2349dd4355ae369fcbdc1f1873d73d1c1d326eff3f96d6a2f", func := "strata/stratalaw05.UstarKnown", spec := "ustarKnown", inPlace := ["internal/bytealg.IndexByteString", "internal/reflectlite.TypeOf", "internal/reflectlite.ValueOf", "(internal/reflectlite.Value).Type", "(internal/reflectlite.Value).IsNil", "(internal/reflectlite.Value).Elem", "(internal/reflectlite.Value).Set", "internal/bytealg.IndexString"], unfollowed := true, recurses := true, named := ["errors.errorType", "unicode/utf8.first", "unicode/utf8.acceptRanges", "internal/bytealg.MaxLen"], apart := false, laid := [("unicode/utf8.acceptRanges", laid_unicode_utf8_acceptRanges), ("errors.errorType", laid_errors_errorType), ("unicode/utf8.first", laid_unicode_utf8_first)] }
def UstarKnownSaid : Prop := ustarKnownRow.holds Tryd.pinned (OpenSpec.ofChange ustarKnownSpec)

/-- ITS FALSE NEIGHBOUR: 'it returns false'. Refute it at one input. -/
def ustarKnownWrong : ChangeSpec := { name := "ustarKnown", fn := fun _ => fun
  | [] => { results := [.lit (.bool false)], args := [] }
  | _ => none }
def UstarKnownWrongFalsely : Prop := ustarKnownRow.holds Tryd.pinned (OpenSpec.ofChange ustarKnownWrong)

/-- 'stratalaw05.UstarTrees': WHATEVER THE INPUT: true; the input reads as it did. -/
def ustarTreesSpec : ChangeSpec := { name := "ustarTrees", fn := fun _ => fun
  | [d] => { results := [.lit (.bool true)], args := [d] }
  | _ => none }
def ustarTreesRow : OpenClaim := { program := "ytfhfahlocpmdkaadoor", sum := "d8f304f383c273d2349dd4355ae369fcbdc1f1873d73d1c1d326eff3f96d6a2f", func := "strata/stratalaw05.UstarTrees", spec := "ustarTrees", inPlace := ["internal/bytealg.IndexByteString", "internal/bytealg.IndexString", "internal/reflectlite.TypeOf", "internal/reflectlite.ValueOf", "(internal/reflectlite.Value).Type", "(internal/reflectlite.Value).IsNil", "(internal/reflectlite.Value).Elem", "(internal/reflectlite.Value).Set"], unfollowed := true, recurses := true, named := ["unicode/utf8.first", "unicode/utf8.acceptRanges", "errors.errorType", "internal/bytealg.MaxLen"], apart := false, laid := [("unicode/utf8.acceptRanges", laid_unicode_utf8_acceptRanges), ("errors.errorType", laid_errors_errorType), ("unicode/utf8.first", laid_unicode_utf8_first)] }
def UstarTreesSaid : Prop := ustarTreesRow.holds Tryd.pinned (OpenSpec.ofChange ustarTreesSpec)

/-- ITS FALSE NEIGHBOUR: 'it returns false'. Refute it at one input. -/
def ustarTreesWrong : ChangeSpec := { name := "ustarTrees", fn := fun _ => fun
  | [d] => { results := [.lit (.bool false)], args := [d] }
  | _ => none }
def UstarTreesWrongFalsely : Prop := ustarTreesRow.holds Tryd.pinned (OpenSpec.ofChange ustarTreesWrong)

/- THE SECOND FORM. 'bulk': how many values and letters a reading holds, each counted each time it is reached (what is shared counts as often as it is met; a slice's spare places count too). A statement '..UptoSaid' is the law's where the arguments, and the package variables that the reading takes, are together of bulk at most 1048576: NARROWER than '..Said'. Prove '..Said' where nothing that the law and all that it calls make is longer than what came in: it says more and counts as full. Else prove '..UptoSaid'. A law counts once. -/
mutual
def uptoBulk {H : Type} : DataW H → Nat
  | .lit (.string bytes) => bytes.length + 1
  | .lit _ => 1
  | .nil => 1
  | .ptr d => uptoBulk d + 1
  | .slice elems spare => uptoBulkAll elems + uptoBulkAll spare + 1
  | .agg parts => uptoBulkAll parts + 1
  | .iface _ d => uptoBulk d + 1
  | .map entries => uptoBulkEntries entries + 1
  | .held _ => 1
def uptoBulkAll {H : Type} : List (DataW H) → Nat
  | [] => 0
  | d :: r => uptoBulk d + uptoBulkAll r
def uptoBulkEntries {H : Type} : List (Lit × DataW H) → Nat
  | [] => 0
  | x :: r => uptoBulkEntry x + uptoBulkEntries r
def uptoBulkEntry {H : Type} : Lit × DataW H → Nat
  | (.string bytes, d) => bytes.length + uptoBulk d + 1
  | (_, d) => uptoBulk d + 1
 end
def uptoSmall : (H : Type) → List (DataW H) → Bool := fun _ ds => decide (uptoBulkAll ds ≤ 1048576)
def OpenSpec.upto (s : _root_.Go.ChangeSpec) : _root_.Go.OpenSpec := { _root_.Go.OpenSpec.ofChange s with cond := some uptoSmall }

/-- 'stratalaw05.UstarEncode', WHERE WHAT IT READS IS OF BULK AT MOST 1048576: true; the input reads as it did. -/
def ustarEncodeUptoRow : OpenClaim := { program := "ytfhfahlocpmdkaadoor", sum := "d8f304f383c273d2349dd4355ae369fcbdc1f1873d73d1c1d326eff3f96d6a2f", func := "strata/stratalaw05.UstarEncode", spec := "ustarEncode", inPlace := ["internal/bytealg.IndexByteString", "internal/reflectlite.TypeOf", "internal/reflectlite.ValueOf", "(internal/reflectlite.Value).Type", "(internal/reflectlite.Value).IsNil", "(internal/reflectlite.Value).Elem", "(internal/reflectlite.Value).Set", "internal/bytealg.IndexString"], unfollowed := true, recurses := true, named := ["errors.errorType", "unicode/utf8.first", "unicode/utf8.acceptRanges", "internal/bytealg.MaxLen"], apart := false, laid := [("unicode/utf8.acceptRanges", laid_unicode_utf8_acceptRanges), ("errors.errorType", laid_errors_errorType), ("unicode/utf8.first", laid_unicode_utf8_first)], narrowed := true }
def UstarEncodeUptoSaid : Prop := ustarEncodeUptoRow.holds Tryd.pinned (OpenSpec.upto ustarEncodeSpec)

/-- 'stratalaw05.UstarDecode', WHERE WHAT IT READS IS OF BULK AT MOST 1048576: true; the input reads as it did. -/
def ustarDecodeUptoRow : OpenClaim := { program := "ytfhfahlocpmdkaadoor", sum := "d8f304f383c273d2349dd4355ae369fcbdc1f1873d73d1c1d326eff3f96d6a2f", func := "strata/stratalaw05.UstarDecode", spec := "ustarDecode", inPlace := ["internal/bytealg.IndexByteString", "internal/bytealg.IndexString", "internal/reflectlite.TypeOf", "internal/reflectlite.ValueOf", "(internal/reflectlite.Value).Type", "(internal/reflectlite.Value).IsNil", "(internal/reflectlite.Value).Elem", "(internal/reflectlite.Value).Set"], unfollowed := true, recurses := true, named := ["unicode/utf8.first", "unicode/utf8.acceptRanges", "errors.errorType", "internal/bytealg.MaxLen"], apart := false, laid := [("unicode/utf8.acceptRanges", laid_unicode_utf8_acceptRanges), ("errors.errorType", laid_errors_errorType), ("unicode/utf8.first", laid_unicode_utf8_first)], narrowed := true }
def UstarDecodeUptoSaid : Prop := ustarDecodeUptoRow.holds Tryd.pinned (OpenSpec.upto ustarDecodeSpec)

/-- 'stratalaw05.UstarForged', WHERE WHAT IT READS IS OF BULK AT MOST 1048576: true; the input reads as it did. -/
def ustarForgedUptoRow : OpenClaim := { program := "ytfhfahlocpmdkaadoor", sum := "d8f304f383c273d2349dd4355ae369fcbdc1f1873d73d1c1d326eff3f96d6a2f", func := "strata/stratalaw05.UstarForged", spec := "ustarForged", inPlace := ["internal/bytealg.IndexByteString", "internal/bytealg.IndexString", "internal/reflectlite.TypeOf", "internal/reflectlite.ValueOf", "(internal/reflectlite.Value).Type", "(internal/reflectlite.Value).IsNil", "(internal/reflectlite.Value).Elem", "(internal/reflectlite.Value).Set"], unfollowed := true, recurses := true, named := ["unicode/utf8.first", "unicode/utf8.acceptRanges", "errors.errorType", "internal/bytealg.MaxLen"], apart := false, laid := [("unicode/utf8.acceptRanges", laid_unicode_utf8_acceptRanges), ("errors.errorType", laid_errors_errorType), ("unicode/utf8.first", laid_unicode_utf8_first)], narrowed := true }
def UstarForgedUptoSaid : Prop := ustarForgedUptoRow.holds Tryd.pinned (OpenSpec.upto ustarForgedSpec)

/-- 'stratalaw05.UstarBack', WHERE WHAT IT READS IS OF BULK AT MOST 1048576: true; the input reads as it did. -/
def ustarBackUptoRow : OpenClaim := { program := "ytfhfahlocpmdkaadoor", sum := "d8f304f383c273d2349dd4355ae369fcbdc1f1873d73d1c1d326eff3f96d6a2f", func := "strata/stratalaw05.UstarBack", spec := "ustarBack", inPlace := ["internal/bytealg.IndexByteString", "internal/bytealg.IndexString", "internal/reflectlite.TypeOf", "internal/reflectlite.ValueOf", "(internal/reflectlite.Value).Type", "(internal/reflectlite.Value).IsNil", "(internal/reflectlite.Value).Elem", "(internal/reflectlite.Value).Set"], unfollowed := true, recurses := true, named := ["unicode/utf8.first", "unicode/utf8.acceptRanges", "errors.errorType", "internal/bytealg.MaxLen"], apart := false, laid := [("unicode/utf8.acceptRanges", laid_unicode_utf8_acceptRanges), ("errors.errorType", laid_errors_errorType), ("unicode/utf8.first", laid_unicode_utf8_first)], narrowed := true }
def UstarBackUptoSaid : Prop := ustarBackUptoRow.holds Tryd.pinned (OpenSpec.upto ustarBackSpec)

/-- 'stratalaw05.UstarUnlike', WHERE WHAT IT READS IS OF BULK AT MOST 1048576: true; the input reads as it did. -/
def ustarUnlikeUptoRow : OpenClaim := { program := "ytfhfahlocpmdkaadoor", sum := "d8f304f383c273d2349dd4355ae369fcbdc1f1873d73d1c1d326eff3f96d6a2f", func := "strata/stratalaw05.UstarUnlike", spec := "ustarUnlike", inPlace := ["internal/bytealg.IndexByteString", "internal/bytealg.IndexString", "internal/reflectlite.TypeOf", "internal/reflectlite.ValueOf", "(internal/reflectlite.Value).Type", "(internal/reflectlite.Value).IsNil", "(internal/reflectlite.Value).Elem", "(internal/reflectlite.Value).Set"], unfollowed := true, recurses := true, named := ["unicode/utf8.first", "unicode/utf8.acceptRanges", "errors.errorType", "internal/bytealg.MaxLen"], apart := false, laid := [("unicode/utf8.acceptRanges", laid_unicode_utf8_acceptRanges), ("errors.errorType", laid_errors_errorType), ("unicode/utf8.first", laid_unicode_utf8_first)], narrowed := true }
def UstarUnlikeUptoSaid : Prop := ustarUnlikeUptoRow.holds Tryd.pinned (OpenSpec.upto ustarUnlikeSpec)

/-- 'stratalaw05.UstarOne', WHERE WHAT IT READS IS OF BULK AT MOST 1048576: true; the input reads as it did. -/
def ustarOneUptoRow : OpenClaim := { program := "ytfhfahlocpmdkaadoor", sum := "d8f304f383c273d2349dd4355ae369fcbdc1f1873d73d1c1d326eff3f96d6a2f", func := "strata/stratalaw05.UstarOne", spec := "ustarOne", inPlace := ["internal/bytealg.IndexByteString", "internal/bytealg.IndexString", "internal/reflectlite.TypeOf", "internal/reflectlite.ValueOf", "(internal/reflectlite.Value).Type", "(internal/reflectlite.Value).IsNil", "(internal/reflectlite.Value).Elem", "(internal/reflectlite.Value).Set"], unfollowed := true, recurses := true, named := ["unicode/utf8.first", "unicode/utf8.acceptRanges", "errors.errorType", "internal/bytealg.MaxLen"], apart := false, laid := [("unicode/utf8.acceptRanges", laid_unicode_utf8_acceptRanges), ("errors.errorType", laid_errors_errorType), ("unicode/utf8.first", laid_unicode_utf8_first)], narrowed := true }
def UstarOneUptoSaid : Prop := ustarOneUptoRow.holds Tryd.pinned (OpenSpec.upto ustarOneSpec)

/-- 'stratalaw05.UstarPosix', WHERE WHAT IT READS IS OF BULK AT MOST 1048576: true; the input reads as it did. -/
def ustarPosixUptoRow : OpenClaim := { program := "ytfhfahlocpmdkaadoor", sum := "d8f304f383c273d2349dd4355ae369fcbdc1f1873d73d1c1d326eff3f96d6a2f", func := "strata/stratalaw05.UstarPosix", spec := "ustarPosix", inPlace := ["internal/bytealg.IndexByteString", "internal/bytealg.IndexString", "internal/reflectlite.TypeOf", "internal/reflectlite.ValueOf", "(internal/reflectlite.Value).Type", "(internal/reflectlite.Value).IsNil", "(internal/reflectlite.Value).Elem", "(internal/reflectlite.Value).Set"], unfollowed := true, recurses := true, named := ["unicode/utf8.first", "unicode/utf8.acceptRanges", "errors.errorType", "internal/bytealg.MaxLen"], apart := false, laid := [("unicode/utf8.acceptRanges", laid_unicode_utf8_acceptRanges), ("errors.errorType", laid_errors_errorType), ("unicode/utf8.first", laid_unicode_utf8_first)], narrowed := true }
def UstarPosixUptoSaid : Prop := ustarPosixUptoRow.holds Tryd.pinned (OpenSpec.upto ustarPosixSpec)

/-- 'stratalaw05.UstarOf', WHERE WHAT IT READS IS OF BULK AT MOST 1048576: true; the input reads as it did. -/
def ustarOfUptoRow : OpenClaim := { program := "ytfhfahlocpmdkaadoor", sum := "d8f304f383c273d2349dd4355ae369fcbdc1f1873d73d1c1d326eff3f96d6a2f", func := "strata/stratalaw05.UstarOf", spec := "ustarOf", inPlace := ["internal/bytealg.IndexByteString", "internal/bytealg.IndexString", "internal/reflectlite.TypeOf", "internal/reflectlite.ValueOf", "(internal/reflectlite.Value).Type", "(internal/reflectlite.Value).IsNil", "(internal/reflectlite.Value).Elem", "(internal/reflectlite.Value).Set"], unfollowed := true, recurses := true, named := ["unicode/utf8.first", "unicode/utf8.acceptRanges", "errors.errorType", "internal/bytealg.MaxLen"], apart := false, laid := [("unicode/utf8.acceptRanges", laid_unicode_utf8_acceptRanges), ("errors.errorType", laid_errors_errorType), ("unicode/utf8.first", laid_unicode_utf8_first)], narrowed := true }
def UstarOfUptoSaid : Prop := ustarOfUptoRow.holds Tryd.pinned (OpenSpec.upto ustarOfSpec)

/-- 'stratalaw05.UstarKnown', WHERE WHAT IT READS IS OF BULK AT MOST 1048576: true; the input reads as it did. -/
def ustarKnownUptoRow : OpenClaim := { program := "ytfhfahlocpmdkaadoor", sum := "d8f304f383c273d2349dd4355ae369fcbdc1f1873d73d1c1d326eff3f96d6a2f", func := "strata/stratalaw05.UstarKnown", spec := "ustarKnown", inPlace := ["internal/bytealg.IndexByteString", "internal/reflectlite.TypeOf", "internal/reflectlite.ValueOf", "(internal/reflectlite.Value).Type", "(internal/reflectlite.Value).IsNil", "(internal/reflectlite.Value).Elem", "(internal/reflectlite.Value).Set", "internal/bytealg.IndexString"], unfollowed := true, recurses := true, named := ["errors.errorType", "unicode/utf8.first", "unicode/utf8.acceptRanges", "internal/bytealg.MaxLen"], apart := false, laid := [("unicode/utf8.acceptRanges", laid_unicode_utf8_acceptRanges), ("errors.errorType", laid_errors_errorType), ("unicode/utf8.first", laid_unicode_utf8_first)], narrowed := true }
def UstarKnownUptoSaid : Prop := ustarKnownUptoRow.holds Tryd.pinned (OpenSpec.upto ustarKnownSpec)

/-- 'stratalaw05.UstarTrees', WHERE WHAT IT READS IS OF BULK AT MOST 1048576: true; the input reads as it did. -/
def ustarTreesUptoRow : OpenClaim := { program := "ytfhfahlocpmdkaadoor", sum := "d8f304f383c273d2349dd4355ae369fcbdc1f1873d73d1c1d326eff3f96d6a2f", func := "strata/stratalaw05.UstarTrees", spec := "ustarTrees", inPlace := ["internal/bytealg.IndexByteString", "internal/bytealg.IndexString", "internal/reflectlite.TypeOf", "internal/reflectlite.ValueOf", "(internal/reflectlite.Value).Type", "(internal/reflectlite.Value).IsNil", "(internal/reflectlite.Value).Elem", "(internal/reflectlite.Value).Set"], unfollowed := true, recurses := true, named := ["unicode/utf8.first", "unicode/utf8.acceptRanges", "errors.errorType", "internal/bytealg.MaxLen"], apart := false, laid := [("unicode/utf8.acceptRanges", laid_unicode_utf8_acceptRanges), ("errors.errorType", laid_errors_errorType), ("unicode/utf8.first", laid_unicode_utf8_first)], narrowed := true }
def UstarTreesUptoSaid : Prop := ustarTreesUptoRow.holds Tryd.pinned (OpenSpec.upto ustarTreesSpec)

end Rows
end Go.Proofs.YtfhfahlocpmdkaaDoor
