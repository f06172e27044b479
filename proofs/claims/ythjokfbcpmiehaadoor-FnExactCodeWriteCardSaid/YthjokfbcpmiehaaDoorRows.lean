/-
  NARROWER THAN 'FOR EVERY INPUT', by the rows' own cells (each row's printed sentence says how): FnExactCodeOk: laid · FnExactCodeWrite: laid · FnExactCodeMost: laid · FnExactCodeLive: laid · FnExactCodeRun: laid · FnExactCodePeep: laid · FnExactCodeCalls: laid · FnCodeFar: laid · FnCodeText: laid.
  DERIVED. THE GIVEN ROWS OF THIS SEAT. 9 by the template 'for every input the law returns true; each argument reads behind the call as it read before'; 0 by the template 'total and deterministic' (their statements: YthjokfbcpmiehaaDoorTotals.lean).
  GIVEN WITH THE SEED: the statements are not yours to turn. If you find one false, say at which input.
  Laid BY PROGRAM, IN A SANDBOX (cutbox-rows.mjs): the forced cells as the released guide's own fill.sh prints them over the translation 55c19cc6c5742d1e… (all of the seat's roots in one cut). By AI agents, Wed Nov 11 2026. No macro, syntax, notation, axiom, sorry.
-/
import Derived.Test.YthjokfbcpmiehaaDoorChecked
import GoSem.Claim
import GoSem.ClaimJoined
import GoSem.ClaimMapViews
import Derived.JoinedTies
import Derived.KernelRfl
namespace Go.Proofs.YthjokfbcpmiehaaDoor
/- THE CELL 'sum', in the pinned program and in every row, IS THE sha256 OF THE DUMP (.gsa) THAT YthjokfbcpmiehaaDoorProg.lean LOADS. Nothing in Lean hashes anything: it is a label: what it is worth is what the hold of that sum in a sandbox is worth. -/
noncomputable def Tryd.pinned : Pinned := { name := "ythjokfbcpmiehaadoor", sum := "55c19cc6c5742d1ea82d05ffbba4f09565cf5d9b619a45bc760ef4414515489c", checked := Tryd.checked }
namespace Rows
def none {H : Type} : Left H := { results := [], args := [] }

/- WHAT THE LISTED PACKAGE-LEVEL VARIABLES READ AS WHEN THE CALL BEGINS. Each datum BY PROGRAM (the guide's laid-datum.mjs) off the statement by which the dump's own 'gosem.cut.vars' lays the variable. In a bare row this is a premise. The card (YthjokfbcpmiehaaDoorCards.lean) ties it to the program's text. -/
def laid_math_bits_deBruijn32tab {H : Type} : DataW H := .agg [.lit (.int .u8 0), .lit (.int .u8 1), .lit (.int .u8 28), .lit (.int .u8 2), .lit (.int .u8 29), .lit (.int .u8 14), .lit (.int .u8 24), .lit (.int .u8 3), .lit (.int .u8 30), .lit (.int .u8 22), .lit (.int .u8 20), .lit (.int .u8 15), .lit (.int .u8 25), .lit (.int .u8 17), .lit (.int .u8 4), .lit (.int .u8 8), .lit (.int .u8 31), .lit (.int .u8 27), .lit (.int .u8 13), .lit (.int .u8 23), .lit (.int .u8 21), .lit (.int .u8 19), .lit (.int .u8 16), .lit (.int .u8 7), .lit (.int .u8 26), .lit (.int .u8 12), .lit (.int .u8 18), .lit (.int .u8 6), .lit (.int .u8 11), .lit (.int .u8 5), .lit (.int .u8 10), .lit (.int .u8 9)]
def laid_math_bits_deBruijn64tab {H : Type} : DataW H := .agg [.lit (.int .u8 0), .lit (.int .u8 1), .lit (.int .u8 56), .lit (.int .u8 2), .lit (.int .u8 57), .lit (.int .u8 49), .lit (.int .u8 28), .lit (.int .u8 3), .lit (.int .u8 61), .lit (.int .u8 58), .lit (.int .u8 42), .lit (.int .u8 50), .lit (.int .u8 38), .lit (.int .u8 29), .lit (.int .u8 17), .lit (.int .u8 4), .lit (.int .u8 62), .lit (.int .u8 47), .lit (.int .u8 59), .lit (.int .u8 36), .lit (.int .u8 45), .lit (.int .u8 43), .lit (.int .u8 51), .lit (.int .u8 22), .lit (.int .u8 53), .lit (.int .u8 39), .lit (.int .u8 33), .lit (.int .u8 30), .lit (.int .u8 24), .lit (.int .u8 18), .lit (.int .u8 12), .lit (.int .u8 5), .lit (.int .u8 63), .lit (.int .u8 55), .lit (.int .u8 48), .lit (.int .u8 27), .lit (.int .u8 60), .lit (.int .u8 41), .lit (.int .u8 37), .lit (.int .u8 16), .lit (.int .u8 46), .lit (.int .u8 35), .lit (.int .u8 44), .lit (.int .u8 21), .lit (.int .u8 52), .lit (.int .u8 32), .lit (.int .u8 23), .lit (.int .u8 11), .lit (.int .u8 54), .lit (.int .u8 26), .lit (.int .u8 40), .lit (.int .u8 15), .lit (.int .u8 34), .lit (.int .u8 20), .lit (.int .u8 31), .lit (.int .u8 10), .lit (.int .u8 25), .lit (.int .u8 14), .lit (.int .u8 19), .lit (.int .u8 9), .lit (.int .u8 13), .lit (.int .u8 8), .lit (.int .u8 7), .lit (.int .u8 6)]
def laid_internal_strconv_uint64pow10 {H : Type} : DataW H := .agg [.lit (.int .u64 1), .lit (.int .u64 10), .lit (.int .u64 100), .lit (.int .u64 1000), .lit (.int .u64 10000), .lit (.int .u64 100000), .lit (.int .u64 1000000), .lit (.int .u64 10000000), .lit (.int .u64 100000000), .lit (.int .u64 1000000000), .lit (.int .u64 10000000000), .lit (.int .u64 100000000000), .lit (.int .u64 1000000000000), .lit (.int .u64 10000000000000), .lit (.int .u64 100000000000000), .lit (.int .u64 1000000000000000), .lit (.int .u64 10000000000000000), .lit (.int .u64 100000000000000000), .lit (.int .u64 1000000000000000000), .lit (.int .u64 10000000000000000000)]

/-- 'laws.FnExactCodeOk': WHATEVER THE INPUT: true; the input reads as it did. -/
def fnExactCodeOkSpec : ChangeSpec := { name := "fnExactCodeOk", fn := fun _ => fun
  | [d] => { results := [.lit (.bool true)], args := [d] }
  | _ => none }
def fnExactCodeOkRow : OpenClaim := { program := "ythjokfbcpmiehaadoor", sum := "55c19cc6c5742d1ea82d05ffbba4f09565cf5d9b619a45bc760ef4414515489c", func := "loop.example/gatelodge/laws.FnExactCodeOk", spec := "fnExactCodeOk", inPlace := ["internal/abi.NoEscape"], unfollowed := true, recurses := true, named := ["internal/strconv.uint64pow10", "math/bits.deBruijn32tab", "math/bits.deBruijn64tab"], apart := false, laid := [("math/bits.deBruijn32tab", laid_math_bits_deBruijn32tab), ("math/bits.deBruijn64tab", laid_math_bits_deBruijn64tab), ("internal/strconv.uint64pow10", laid_internal_strconv_uint64pow10)] }
def FnExactCodeOkSaid : Prop := fnExactCodeOkRow.holds Tryd.pinned (OpenSpec.ofChange fnExactCodeOkSpec)

/-- ITS FALSE NEIGHBOUR: 'it returns false'. Refute it at one input. -/
def fnExactCodeOkWrong : ChangeSpec := { name := "fnExactCodeOk", fn := fun _ => fun
  | [d] => { results := [.lit (.bool false)], args := [d] }
  | _ => none }
def FnExactCodeOkWrongFalsely : Prop := fnExactCodeOkRow.holds Tryd.pinned (OpenSpec.ofChange fnExactCodeOkWrong)

/-- 'laws.FnExactCodeWrite': WHATEVER THE INPUT: true; the input reads as it did. -/
def fnExactCodeWriteSpec : ChangeSpec := { name := "fnExactCodeWrite", fn := fun _ => fun
  | [d] => { results := [.lit (.bool true)], args := [d] }
  | _ => none }
def fnExactCodeWriteRow : OpenClaim := { program := "ythjokfbcpmiehaadoor", sum := "55c19cc6c5742d1ea82d05ffbba4f09565cf5d9b619a45bc760ef4414515489c", func := "loop.example/gatelodge/laws.FnExactCodeWrite", spec := "fnExactCodeWrite", inPlace := ["internal/abi.NoEscape"], unfollowed := true, recurses := true, named := ["internal/strconv.uint64pow10", "math/bits.deBruijn32tab", "math/bits.deBruijn64tab"], apart := false, laid := [("math/bits.deBruijn32tab", laid_math_bits_deBruijn32tab), ("math/bits.deBruijn64tab", laid_math_bits_deBruijn64tab), ("internal/strconv.uint64pow10", laid_internal_strconv_uint64pow10)] }
def FnExactCodeWriteSaid : Prop := fnExactCodeWriteRow.holds Tryd.pinned (OpenSpec.ofChange fnExactCodeWriteSpec)

/-- ITS FALSE NEIGHBOUR: 'it returns false'. Refute it at one input. -/
def fnExactCodeWriteWrong : ChangeSpec := { name := "fnExactCodeWrite", fn := fun _ => fun
  | [d] => { results := [.lit (.bool false)], args := [d] }
  | _ => none }
def FnExactCodeWriteWrongFalsely : Prop := fnExactCodeWriteRow.holds Tryd.pinned (OpenSpec.ofChange fnExactCodeWriteWrong)

/-- 'laws.FnExactCodeMost': WHATEVER THE INPUT: true; the input reads as it did. -/
def fnExactCodeMostSpec : ChangeSpec := { name := "fnExactCodeMost", fn := fun _ => fun
  | [d] => { results := [.lit (.bool true)], args := [d] }
  | _ => none }
def fnExactCodeMostRow : OpenClaim := { program := "ythjokfbcpmiehaadoor", sum := "55c19cc6c5742d1ea82d05ffbba4f09565cf5d9b619a45bc760ef4414515489c", func := "loop.example/gatelodge/laws.FnExactCodeMost", spec := "fnExactCodeMost", inPlace := ["internal/abi.NoEscape"], unfollowed := true, recurses := true, named := ["internal/strconv.uint64pow10", "math/bits.deBruijn32tab", "math/bits.deBruijn64tab"], apart := false, laid := [("math/bits.deBruijn32tab", laid_math_bits_deBruijn32tab), ("math/bits.deBruijn64tab", laid_math_bits_deBruijn64tab), ("internal/strconv.uint64pow10", laid_internal_strconv_uint64pow10)] }
def FnExactCodeMostSaid : Prop := fnExactCodeMostRow.holds Tryd.pinned (OpenSpec.ofChange fnExactCodeMostSpec)

/-- ITS FALSE NEIGHBOUR: 'it returns false'. Refute it at one input. -/
def fnExactCodeMostWrong : ChangeSpec := { name := "fnExactCodeMost", fn := fun _ => fun
  | [d] => { results := [.lit (.bool false)], args := [d] }
  | _ => none }
def FnExactCodeMostWrongFalsely : Prop := fnExactCodeMostRow.holds Tryd.pinned (OpenSpec.ofChange fnExactCodeMostWrong)

/-- 'laws.FnExactCodeLive': WHATEVER THE INPUT: true; the input reads as it did. -/
def fnExactCodeLiveSpec : ChangeSpec := { name := "fnExactCodeLive", fn := fun _ => fun
  | [d] => { results := [.lit (.bool true)], args := [d] }
  | _ => none }
def fnExactCodeLiveRow : OpenClaim := { program := "ythjokfbcpmiehaadoor", sum := "55c19cc6c5742d1ea82d05ffbba4f09565cf5d9b619a45bc760ef4414515489c", func := "loop.example/gatelodge/laws.FnExactCodeLive", spec := "fnExactCodeLive", inPlace := ["internal/abi.NoEscape"], unfollowed := true, recurses := true, named := ["internal/strconv.uint64pow10", "math/bits.deBruijn32tab", "math/bits.deBruijn64tab"], apart := false, laid := [("math/bits.deBruijn32tab", laid_math_bits_deBruijn32tab), ("math/bits.deBruijn64tab", laid_math_bits_deBruijn64tab), ("internal/strconv.uint64pow10", laid_internal_strconv_uint64pow10)] }
def FnExactCodeLiveSaid : Prop := fnExactCodeLiveRow.holds Tryd.pinned (OpenSpec.ofChange fnExactCodeLiveSpec)

/-- ITS FALSE NEIGHBOUR: 'it returns false'. Refute it at one input. -/
def fnExactCodeLiveWrong : ChangeSpec := { name := "fnExactCodeLive", fn := fun _ => fun
  | [d] => { results := [.lit (.bool false)], args := [d] }
  | _ => none }
def FnExactCodeLiveWrongFalsely : Prop := fnExactCodeLiveRow.holds Tryd.pinned (OpenSpec.ofChange fnExactCodeLiveWrong)

/-- 'laws.FnExactCodeRun': WHATEVER THE INPUT: true; the input reads as it did. -/
def fnExactCodeRunSpec : ChangeSpec := { name := "fnExactCodeRun", fn := fun _ => fun
  | [d1, d2] => { results := [.lit (.bool true)], args := [d1, d2] }
  | _ => none }
def fnExactCodeRunRow : OpenClaim := { program := "ythjokfbcpmiehaadoor", sum := "55c19cc6c5742d1ea82d05ffbba4f09565cf5d9b619a45bc760ef4414515489c", func := "loop.example/gatelodge/laws.FnExactCodeRun", spec := "fnExactCodeRun", inPlace := ["internal/abi.NoEscape"], unfollowed := true, recurses := true, named := ["internal/strconv.uint64pow10", "math/bits.deBruijn32tab", "math/bits.deBruijn64tab"], apart := false, laid := [("math/bits.deBruijn32tab", laid_math_bits_deBruijn32tab), ("math/bits.deBruijn64tab", laid_math_bits_deBruijn64tab), ("internal/strconv.uint64pow10", laid_internal_strconv_uint64pow10)] }
def FnExactCodeRunSaid : Prop := fnExactCodeRunRow.holds Tryd.pinned (OpenSpec.ofChange fnExactCodeRunSpec)

/-- ITS FALSE NEIGHBOUR: 'it returns false'. Refute it at one input. -/
def fnExactCodeRunWrong : ChangeSpec := { name := "fnExactCodeRun", fn := fun _ => fun
  | [d1, d2] => { results := [.lit (.bool false)], args := [d1, d2] }
  | _ => none }
def FnExactCodeRunWrongFalsely : Prop := fnExactCodeRunRow.holds Tryd.pinned (OpenSpec.ofChange fnExactCodeRunWrong)

/-- 'laws.FnExactCodePeep': WHATEVER THE INPUT: true; the input reads as it did. -/
def fnExactCodePeepSpec : ChangeSpec := { name := "fnExactCodePeep", fn := fun _ => fun
  | [d] => { results := [.lit (.bool true)], args := [d] }
  | _ => none }
def fnExactCodePeepRow : OpenClaim := { program := "ythjokfbcpmiehaadoor", sum := "55c19cc6c5742d1ea82d05ffbba4f09565cf5d9b619a45bc760ef4414515489c", func := "loop.example/gatelodge/laws.FnExactCodePeep", spec := "fnExactCodePeep", inPlace := ["internal/abi.NoEscape"], unfollowed := true, recurses := true, named := ["internal/strconv.uint64pow10", "math/bits.deBruijn32tab", "math/bits.deBruijn64tab"], apart := false, laid := [("math/bits.deBruijn32tab", laid_math_bits_deBruijn32tab), ("math/bits.deBruijn64tab", laid_math_bits_deBruijn64tab), ("internal/strconv.uint64pow10", laid_internal_strconv_uint64pow10)] }
def FnExactCodePeepSaid : Prop := fnExactCodePeepRow.holds Tryd.pinned (OpenSpec.ofChange fnExactCodePeepSpec)

/-- ITS FALSE NEIGHBOUR: 'it returns false'. Refute it at one input. -/
def fnExactCodePeepWrong : ChangeSpec := { name := "fnExactCodePeep", fn := fun _ => fun
  | [d] => { results := [.lit (.bool false)], args := [d] }
  | _ => none }
def FnExactCodePeepWrongFalsely : Prop := fnExactCodePeepRow.holds Tryd.pinned (OpenSpec.ofChange fnExactCodePeepWrong)

/-- 'laws.FnExactCodeCalls': WHATEVER THE INPUT: true; the input reads as it did. -/
def fnExactCodeCallsSpec : ChangeSpec := { name := "fnExactCodeCalls", fn := fun _ => fun
  | [d] => { results := [.lit (.bool true)], args := [d] }
  | _ => none }
def fnExactCodeCallsRow : OpenClaim := { program := "ythjokfbcpmiehaadoor", sum := "55c19cc6c5742d1ea82d05ffbba4f09565cf5d9b619a45bc760ef4414515489c", func := "loop.example/gatelodge/laws.FnExactCodeCalls", spec := "fnExactCodeCalls", inPlace := ["internal/abi.NoEscape"], unfollowed := true, recurses := true, named := ["internal/strconv.uint64pow10", "math/bits.deBruijn32tab", "math/bits.deBruijn64tab"], apart := false, laid := [("math/bits.deBruijn32tab", laid_math_bits_deBruijn32tab), ("math/bits.deBruijn64tab", laid_math_bits_deBruijn64tab), ("internal/strconv.uint64pow10", laid_internal_strconv_uint64pow10)] }
def FnExactCodeCallsSaid : Prop := fnExactCodeCallsRow.holds Tryd.pinned (OpenSpec.ofChange fnExactCodeCallsSpec)

/-- ITS FALSE NEIGHBOUR: 'it returns false'. Refute it at one input. -/
def fnExactCodeCallsWrong : ChangeSpec := { name := "fnExactCodeCalls", fn := fun _ => fun
  | [d] => { results := [.lit (.bool false)], args := [d] }
  | _ => none }
def FnExactCodeCallsWrongFalsely : Prop := fnExactCodeCallsRow.holds Tryd.pinned (OpenSpec.ofChange fnExactCodeCallsWrong)

/-- 'laws.FnCodeFar': WHATEVER THE INPUT: true; the input reads as it did. -/
def fnCodeFarSpec : ChangeSpec := { name := "fnCodeFar", fn := fun _ => fun
  | [d] => { results := [.lit (.bool true)], args := [d] }
  | _ => none }
def fnCodeFarRow : OpenClaim := { program := "ythjokfbcpmiehaadoor", sum := "55c19cc6c5742d1ea82d05ffbba4f09565cf5d9b619a45bc760ef4414515489c", func := "loop.example/gatelodge/laws.FnCodeFar", spec := "fnCodeFar", inPlace := ["internal/abi.NoEscape"], unfollowed := true, recurses := true, named := ["internal/strconv.uint64pow10", "math/bits.deBruijn32tab", "math/bits.deBruijn64tab"], apart := false, laid := [("math/bits.deBruijn32tab", laid_math_bits_deBruijn32tab), ("math/bits.deBruijn64tab", laid_math_bits_deBruijn64tab), ("internal/strconv.uint64pow10", laid_internal_strconv_uint64pow10)] }
def FnCodeFarSaid : Prop := fnCodeFarRow.holds Tryd.pinned (OpenSpec.ofChange fnCodeFarSpec)

/-- ITS FALSE NEIGHBOUR: 'it returns false'. Refute it at one input. -/
def fnCodeFarWrong : ChangeSpec := { name := "fnCodeFar", fn := fun _ => fun
  | [d] => { results := [.lit (.bool false)], args := [d] }
  | _ => none }
def FnCodeFarWrongFalsely : Prop := fnCodeFarRow.holds Tryd.pinned (OpenSpec.ofChange fnCodeFarWrong)

/-- 'laws.FnCodeText': WHATEVER THE INPUT: true; the input reads as it did. -/
def fnCodeTextSpec : ChangeSpec := { name := "fnCodeText", fn := fun _ => fun
  | [d1, d2] => { results := [.lit (.bool true)], args := [d1, d2] }
  | _ => none }
def fnCodeTextRow : OpenClaim := { program := "ythjokfbcpmiehaadoor", sum := "55c19cc6c5742d1ea82d05ffbba4f09565cf5d9b619a45bc760ef4414515489c", func := "loop.example/gatelodge/laws.FnCodeText", spec := "fnCodeText", inPlace := ["internal/abi.NoEscape"], unfollowed := true, recurses := true, named := ["internal/strconv.uint64pow10", "math/bits.deBruijn32tab", "math/bits.deBruijn64tab"], apart := false, laid := [("math/bits.deBruijn32tab", laid_math_bits_deBruijn32tab), ("math/bits.deBruijn64tab", laid_math_bits_deBruijn64tab), ("internal/strconv.uint64pow10", laid_internal_strconv_uint64pow10)] }
def FnCodeTextSaid : Prop := fnCodeTextRow.holds Tryd.pinned (OpenSpec.ofChange fnCodeTextSpec)

/-- ITS FALSE NEIGHBOUR: 'it returns false'. Refute it at one input. -/
def fnCodeTextWrong : ChangeSpec := { name := "fnCodeText", fn := fun _ => fun
  | [d1, d2] => { results := [.lit (.bool false)], args := [d1, d2] }
  | _ => none }
def FnCodeTextWrongFalsely : Prop := fnCodeTextRow.holds Tryd.pinned (OpenSpec.ofChange fnCodeTextWrong)

/- THE SECOND FORM. 'bulk': how many values and letters a reading holds, each counted each time it is reached (what is shared counts as often as it is met; a slice's spare places count too). A statement '..UptoSaid' is the law's where the arguments, and the package variables that the reading takes, are together of bulk at most 1048576: NARROWER than '..Said'. Prove '..Said' where nothing that the law and all that it calls make is longer than what came in: it says more and counts as full. Else prove '..UptoSaid'. A law counts once. -/
mutual
def uptoBulk {H : Type} : DataW H → Nat
  | .lit (.string bytes) => bytes.length + 1
  | .lit _ => 1
  | .nil => 1
  | .ptr d => uptoBulk d + 1
  | .slice elems spare => uptoBulkAll elems + uptoBulkAll spare + 1
  | .agg parts => uptoBulkAll parts + 1
  | .iface _ d => uptoBulk d + 1
  | .map entries => uptoBulkEntries entries + 1
  | .held _ => 1
def uptoBulkAll {H : Type} : List (DataW H) → Nat
  | [] => 0
  | d :: r => uptoBulk d + uptoBulkAll r
def uptoBulkEntries {H : Type} : List (Lit × DataW H) → Nat
  | [] => 0
  | x :: r => uptoBulkEntry x + uptoBulkEntries r
def uptoBulkEntry {H : Type} : Lit × DataW H → Nat
  | (.string bytes, d) => bytes.length + uptoBulk d + 1
  | (_, d) => uptoBulk d + 1
 end
def uptoSmall : (H : Type) → List (DataW H) → Bool := fun _ ds => decide (uptoBulkAll ds ≤ 1048576)
def OpenSpec.upto (s : _root_.Go.ChangeSpec) : _root_.Go.OpenSpec := { _root_.Go.OpenSpec.ofChange s with cond := some uptoSmall }

/-- 'laws.FnExactCodeOk', WHERE WHAT IT READS IS OF BULK AT MOST 1048576: true; the input reads as it did. -/
def fnExactCodeOkUptoRow : OpenClaim := { program := "ythjokfbcpmiehaadoor", sum := "55c19cc6c5742d1ea82d05ffbba4f09565cf5d9b619a45bc760ef4414515489c", func := "loop.example/gatelodge/laws.FnExactCodeOk", spec := "fnExactCodeOk", inPlace := ["internal/abi.NoEscape"], unfollowed := true, recurses := true, named := ["internal/strconv.uint64pow10", "math/bits.deBruijn32tab", "math/bits.deBruijn64tab"], apart := false, laid := [("math/bits.deBruijn32tab", laid_math_bits_deBruijn32tab), ("math/bits.deBruijn64tab", laid_math_bits_deBruijn64tab), ("internal/strconv.uint64pow10", laid_internal_strconv_uint64pow10)], narrowed := true }
def FnExactCodeOkUptoSaid : Prop := fnExactCodeOkUptoRow.holds Tryd.pinned (OpenSpec.upto fnExactCodeOkSpec)

/-- 'laws.FnExactCodeWrite', WHERE WHAT IT READS IS OF BULK AT MOST 1048576: true; the input reads as it did. -/
def fnExactCodeWriteUptoRow : OpenClaim := { program := "ythjokfbcpmiehaadoor", sum := "55c19cc6c5742d1ea82d05ffbba4f09565cf5d9b619a45bc760ef4414515489c", func := "loop.example/gatelodge/laws.FnExactCodeWrite", spec := "fnExactCodeWrite", inPlace := ["internal/abi.NoEscape"], unfollowed := true, recurses := true, named := ["internal/strconv.uint64pow10", "math/bits.deBruijn32tab", "math/bits.deBruijn64tab"], apart := false, laid := [("math/bits.deBruijn32tab", laid_math_bits_deBruijn32tab), ("math/bits.deBruijn64tab", laid_math_bits_deBruijn64tab), ("internal/strconv.uint64pow10", laid_internal_strconv_uint64pow10)], narrowed := true }
def FnExactCodeWriteUptoSaid : Prop := fnExactCodeWriteUptoRow.holds Tryd.pinned (OpenSpec.upto fnExactCodeWriteSpec)

/-- 'laws.FnExactCodeMost', WHERE WHAT IT READS IS OF BULK AT MOST 1048576: true; the input reads as it did. -/
def fnExactCodeMostUptoRow : OpenClaim := { program := "ythjokfbcpmiehaadoor", sum := "55c19cc6c5742d1ea82d05ffbba4f09565cf5d9b619a45bc760ef4414515489c", func := "loop.example/gatelodge/laws.FnExactCodeMost", spec := "fnExactCodeMost", inPlace := ["internal/abi.NoEscape"], unfollowed := true, recurses := true, named := ["internal/strconv.uint64pow10", "math/bits.deBruijn32tab", "math/bits.deBruijn64tab"], apart := false, laid := [("math/bits.deBruijn32tab", laid_math_bits_deBruijn32tab), ("math/bits.deBruijn64tab", laid_math_bits_deBruijn64tab), ("internal/strconv.uint64pow10", laid_internal_strconv_uint64pow10)], narrowed := true }
def FnExactCodeMostUptoSaid : Prop := fnExactCodeMostUptoRow.holds Tryd.pinned (OpenSpec.upto fnExactCodeMostSpec)

/-- 'laws.FnExactCodeLive', WHERE WHAT IT READS IS OF BULK AT MOST 1048576: true; the input reads as it did. -/
def fnExactCodeLiveUptoRow : OpenClaim := { program := "ythjokfbcpmiehaadoor", sum := "55c19cc6c5742d1ea82d05ffbba4f09565cf5d9b619a45bc760ef4414515489c", func := "loop.example/gatelodge/laws.FnExactCodeLive", spec := "fnExactCodeLive", inPlace := ["internal/abi.NoEscape"], unfollowed := true, recurses := true, named := ["internal/strconv.uint64pow10", "math/bits.deBruijn32tab", "math/bits.deBruijn64tab"], apart := false, laid := [("math/bits.deBruijn32tab", laid_math_bits_deBruijn32tab), ("math/bits.deBruijn64tab", laid_math_bits_deBruijn64tab), ("internal/strconv.uint64pow10", laid_internal_strconv_uint64pow10)], narrowed := true }
def FnExactCodeLiveUptoSaid : Prop := fnExactCodeLiveUptoRow.holds Tryd.pinned (OpenSpec.upto fnExactCodeLiveSpec)

/-- 'laws.FnExactCodeRun', WHERE WHAT IT READS IS OF BULK AT MOST 1048576: true; the input reads as it did. -/
def fnExactCodeRunUptoRow : OpenClaim := { program := "ythjokfbcpmiehaadoor", sum := "55c19cc6c5742d1ea82d05ffbba4f09565cf5d9b619a45bc760ef4414515489c", func := "loop.example/gatelodge/laws.FnExactCodeRun", spec := "fnExactCodeRun", inPlace := ["internal/abi.NoEscape"], unfollowed := true, recurses := true, named := ["internal/strconv.uint64pow10", "math/bits.deBruijn32tab", "math/bits.deBruijn64tab"], apart := false, laid := [("math/bits.deBruijn32tab", laid_math_bits_deBruijn32tab), ("math/bits.deBruijn64tab", laid_math_bits_deBruijn64tab), ("internal/strconv.uint64pow10", laid_internal_strconv_uint64pow10)], narrowed := true }
def FnExactCodeRunUptoSaid : Prop := fnExactCodeRunUptoRow.holds Tryd.pinned (OpenSpec.upto fnExactCodeRunSpec)

/-- 'laws.FnExactCodePeep', WHERE WHAT IT READS IS OF BULK AT MOST 1048576: true; the input reads as it did. -/
def fnExactCodePeepUptoRow : OpenClaim := { program := "ythjokfbcpmiehaadoor", sum := "55c19cc6c5742d1ea82d05ffbba4f09565cf5d9b619a45bc760ef4414515489c", func := "loop.example/gatelodge/laws.FnExactCodePeep", spec := "fnExactCodePeep", inPlace := ["internal/abi.NoEscape"], unfollowed := true, recurses := true, named := ["internal/strconv.uint64pow10", "math/bits.deBruijn32tab", "math/bits.deBruijn64tab"], apart := false, laid := [("math/bits.deBruijn32tab", laid_math_bits_deBruijn32tab), ("math/bits.deBruijn64tab", laid_math_bits_deBruijn64tab), ("internal/strconv.uint64pow10", laid_internal_strconv_uint64pow10)], narrowed := true }
def FnExactCodePeepUptoSaid : Prop := fnExactCodePeepUptoRow.holds Tryd.pinned (OpenSpec.upto fnExactCodePeepSpec)

/-- 'laws.FnExactCodeCalls', WHERE WHAT IT READS IS OF BULK AT MOST 1048576: true; the input reads as it did. -/
def fnExactCodeCallsUptoRow : OpenClaim := { program := "ythjokfbcpmiehaadoor", sum := "55c19cc6c5742d1ea82d05ffbba4f09565cf5d9b619a45bc760ef4414515489c", func := "loop.example/gatelodge/laws.FnExactCodeCalls", spec := "fnExactCodeCalls", inPlace := ["internal/abi.NoEscape"], unfollowed := true, recurses := true, named := ["internal/strconv.uint64pow10", "math/bits.deBruijn32tab", "math/bits.deBruijn64tab"], apart := false, laid := [("math/bits.deBruijn32tab", laid_math_bits_deBruijn32tab), ("math/bits.deBruijn64tab", laid_math_bits_deBruijn64tab), ("internal/strconv.uint64pow10", laid_internal_strconv_uint64pow10)], narrowed := true }
def FnExactCodeCallsUptoSaid : Prop := fnExactCodeCallsUptoRow.holds Tryd.pinned (OpenSpec.upto fnExactCodeCallsSpec)

/-- 'laws.FnCodeFar', WHERE WHAT IT READS IS OF BULK AT MOST 1048576: true; the input reads as it did. -/
def fnCodeFarUptoRow : OpenClaim := { program := "ythjokfbcpmiehaadoor", sum := "55c19cc6c5742d1ea82d05ffbba4f09565cf5d9b619a45bc760ef4414515489c", func := "loop.example/gatelodge/laws.FnCodeFar", spec := "fnCodeFar", inPlace := ["internal/abi.NoEscape"], unfollowed := true, recurses := true, named := ["internal/strconv.uint64pow10", "math/bits.deBruijn32tab", "math/bits.deBruijn64tab"], apart := false, laid := [("math/bits.deBruijn32tab", laid_math_bits_deBruijn32tab), ("math/bits.deBruijn64tab", laid_math_bits_deBruijn64tab), ("internal/strconv.uint64pow10", laid_internal_strconv_uint64pow10)], narrowed := true }
def FnCodeFarUptoSaid : Prop := fnCodeFarUptoRow.holds Tryd.pinned (OpenSpec.upto fnCodeFarSpec)

/-- 'laws.FnCodeText', WHERE WHAT IT READS IS OF BULK AT MOST 1048576: true; the input reads as it did. -/
def fnCodeTextUptoRow : OpenClaim := { program := "ythjokfbcpmiehaadoor", sum := "55c19cc6c5742d1ea82d05ffbba4f09565cf5d9b619a45bc760ef4414515489c", func := "loop.example/gatelodge/laws.FnCodeText", spec := "fnCodeText", inPlace := ["internal/abi.NoEscape"], unfollowed := true, recurses := true, named := ["internal/strconv.uint64pow10", "math/bits.deBruijn32tab", "math/bits.deBruijn64tab"], apart := false, laid := [("math/bits.deBruijn32tab", laid_math_bits_deBruijn32tab), ("math/bits.deBruijn64tab", laid_math_bits_deBruijn64tab), ("internal/strconv.uint64pow10", laid_internal_strconv_uint64pow10)], narrowed := true }
def FnCodeTextUptoSaid : Prop := fnCodeTextUptoRow.holds Tryd.pinned (OpenSpec.upto fnCodeTextSpec)

end Rows
end Go.Proofs.YthjokfbcpmiehaaDoor
