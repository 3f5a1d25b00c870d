/-
  NARROWER THAN 'FOR EVERY INPUT', by the rows' own cells (each row's printed sentence says how): FnExactTestText: laid · FnExactReadPrefix: laid · FnPrefixText: laid · FnReadPrefix: laid · FnExactReadTest: laid · FnTestText: laid · FnExactRuleText: laid · FnReadTest: laid · FnRuleText: laid · FnExactReadRule: laid · FnReadRule: laid · FnLinesCount: laid.
  DERIVED. THE GIVEN ROWS OF THIS SEAT. 12 by the template 'for every input the law returns true; each argument reads behind the call as it read before'; 0 by the template 'total and deterministic' (their statements: YtnogaeckmiekdaaDoorTotals.lean).
  GIVEN WITH THE SEED: the statements are not yours to turn. If you find one false, say at which input.
  Laid BY PROGRAM, IN A SANDBOX (cutbox-rows.mjs): the forced cells as the released guide's own fill.sh prints them over the translation 81b694f828398ec2… (all of the seat's roots in one cut). By AI agents, Wed Nov 11 2026. No macro, syntax, notation, axiom, sorry.
-/
import Derived.Test.YtnogaeckmiekdaaDoorChecked
import GoSem.Claim
import GoSem.ClaimJoined
import GoSem.ClaimMapViews
import Derived.JoinedTies
import Derived.KernelRfl
namespace Go.Proofs.YtnogaeckmiekdaaDoor
/- THE CELL 'sum', in the pinned program and in every row, IS THE sha256 OF THE DUMP (.gsa) THAT YtnogaeckmiekdaaDoorProg.lean LOADS. Nothing in Lean hashes anything: it is a label: what it is worth is what the hold of that sum in a sandbox is worth. -/
noncomputable def Tryd.pinned : Pinned := { name := "ytnogaeckmiekdaadoor", sum := "81b694f828398ec28ae0a5b0d65effb12fda2315e5a76bc9bea00f55967b9a65", checked := Tryd.checked }
namespace Rows
def none {H : Type} : Left H := { results := [], args := [] }

/- WHAT THE LISTED PACKAGE-LEVEL VARIABLES READ AS WHEN THE CALL BEGINS. Each datum BY PROGRAM (the guide's laid-datum.mjs) off the statement by which the dump's own 'gosem.cut.vars' lays the variable. In a bare row this is a premise. The card (YtnogaeckmiekdaaDoorCards.lean) ties it to the program's text. -/
def laid_math_bits_deBruijn32tab {H : Type} : DataW H := .agg [.lit (.int .u8 0), .lit (.int .u8 1), .lit (.int .u8 28), .lit (.int .u8 2), .lit (.int .u8 29), .lit (.int .u8 14), .lit (.int .u8 24), .lit (.int .u8 3), .lit (.int .u8 30), .lit (.int .u8 22), .lit (.int .u8 20), .lit (.int .u8 15), .lit (.int .u8 25), .lit (.int .u8 17), .lit (.int .u8 4), .lit (.int .u8 8), .lit (.int .u8 31), .lit (.int .u8 27), .lit (.int .u8 13), .lit (.int .u8 23), .lit (.int .u8 21), .lit (.int .u8 19), .lit (.int .u8 16), .lit (.int .u8 7), .lit (.int .u8 26), .lit (.int .u8 12), .lit (.int .u8 18), .lit (.int .u8 6), .lit (.int .u8 11), .lit (.int .u8 5), .lit (.int .u8 10), .lit (.int .u8 9)]
def laid_math_bits_deBruijn64tab {H : Type} : DataW H := .agg [.lit (.int .u8 0), .lit (.int .u8 1), .lit (.int .u8 56), .lit (.int .u8 2), .lit (.int .u8 57), .lit (.int .u8 49), .lit (.int .u8 28), .lit (.int .u8 3), .lit (.int .u8 61), .lit (.int .u8 58), .lit (.int .u8 42), .lit (.int .u8 50), .lit (.int .u8 38), .lit (.int .u8 29), .lit (.int .u8 17), .lit (.int .u8 4), .lit (.int .u8 62), .lit (.int .u8 47), .lit (.int .u8 59), .lit (.int .u8 36), .lit (.int .u8 45), .lit (.int .u8 43), .lit (.int .u8 51), .lit (.int .u8 22), .lit (.int .u8 53), .lit (.int .u8 39), .lit (.int .u8 33), .lit (.int .u8 30), .lit (.int .u8 24), .lit (.int .u8 18), .lit (.int .u8 12), .lit (.int .u8 5), .lit (.int .u8 63), .lit (.int .u8 55), .lit (.int .u8 48), .lit (.int .u8 27), .lit (.int .u8 60), .lit (.int .u8 41), .lit (.int .u8 37), .lit (.int .u8 16), .lit (.int .u8 46), .lit (.int .u8 35), .lit (.int .u8 44), .lit (.int .u8 21), .lit (.int .u8 52), .lit (.int .u8 32), .lit (.int .u8 23), .lit (.int .u8 11), .lit (.int .u8 54), .lit (.int .u8 26), .lit (.int .u8 40), .lit (.int .u8 15), .lit (.int .u8 34), .lit (.int .u8 20), .lit (.int .u8 31), .lit (.int .u8 10), .lit (.int .u8 25), .lit (.int .u8 14), .lit (.int .u8 19), .lit (.int .u8 9), .lit (.int .u8 13), .lit (.int .u8 8), .lit (.int .u8 7), .lit (.int .u8 6)]
def laid_internal_strconv_uint64pow10 {H : Type} : DataW H := .agg [.lit (.int .u64 1), .lit (.int .u64 10), .lit (.int .u64 100), .lit (.int .u64 1000), .lit (.int .u64 10000), .lit (.int .u64 100000), .lit (.int .u64 1000000), .lit (.int .u64 10000000), .lit (.int .u64 100000000), .lit (.int .u64 1000000000), .lit (.int .u64 10000000000), .lit (.int .u64 100000000000), .lit (.int .u64 1000000000000), .lit (.int .u64 10000000000000), .lit (.int .u64 100000000000000), .lit (.int .u64 1000000000000000), .lit (.int .u64 10000000000000000), .lit (.int .u64 100000000000000000), .lit (.int .u64 1000000000000000000), .lit (.int .u64 10000000000000000000)]
def laid_loop_example_packetfilter_impl_fieldShapes {H : Type} : DataW H := .agg [.agg [.lit (.string [102, 114, 111, 109]), .lit (.int .i64 65535)], .agg [.lit (.string [116, 111]), .lit (.int .i64 65535)], .agg [.lit (.string [112, 111, 114, 116]), .lit (.int .i64 255)], .agg [.lit (.string [112, 114, 111, 116, 111]), .lit (.int .i64 7)]]

/-- 'laws.FnExactTestText': WHATEVER THE INPUT: true; the input reads as it did. -/
def fnExactTestTextSpec : ChangeSpec := { name := "fnExactTestText", vars := ["loop.example/packetfilter/impl.fieldShapes"], fn := fun _ => fun
  | [d, g1] => { results := [.lit (.bool true)], args := [d], vars := [g1] }
  | _ => none }
def fnExactTestTextRow : OpenClaim := { program := "ytnogaeckmiekdaadoor", sum := "81b694f828398ec28ae0a5b0d65effb12fda2315e5a76bc9bea00f55967b9a65", func := "loop.example/packetfilter/laws.FnExactTestText", spec := "fnExactTestText", named := ["loop.example/packetfilter/impl.fieldShapes", "internal/strconv.uint64pow10", "math/bits.deBruijn32tab", "math/bits.deBruijn64tab"], apart := false, laid := [("math/bits.deBruijn32tab", laid_math_bits_deBruijn32tab), ("math/bits.deBruijn64tab", laid_math_bits_deBruijn64tab), ("internal/strconv.uint64pow10", laid_internal_strconv_uint64pow10), ("loop.example/packetfilter/impl.fieldShapes", laid_loop_example_packetfilter_impl_fieldShapes)] }
def FnExactTestTextSaid : Prop := fnExactTestTextRow.holds Tryd.pinned (OpenSpec.ofChange fnExactTestTextSpec)

/-- ITS FALSE NEIGHBOUR: 'it returns false'. Refute it at one input. -/
def fnExactTestTextWrong : ChangeSpec := { name := "fnExactTestText", vars := ["loop.example/packetfilter/impl.fieldShapes"], fn := fun _ => fun
  | [d, g1] => { results := [.lit (.bool false)], args := [d], vars := [g1] }
  | _ => none }
def FnExactTestTextWrongFalsely : Prop := fnExactTestTextRow.holds Tryd.pinned (OpenSpec.ofChange fnExactTestTextWrong)

/-- 'laws.FnExactReadPrefix': WHATEVER THE INPUT: true; the input reads as it did. -/
def fnExactReadPrefixSpec : ChangeSpec := { name := "fnExactReadPrefix", fn := fun _ => fun
  | [d] => { results := [.lit (.bool true)], args := [d] }
  | _ => none }
def fnExactReadPrefixRow : OpenClaim := { program := "ytnogaeckmiekdaadoor", sum := "81b694f828398ec28ae0a5b0d65effb12fda2315e5a76bc9bea00f55967b9a65", func := "loop.example/packetfilter/laws.FnExactReadPrefix", spec := "fnExactReadPrefix", named := ["internal/strconv.uint64pow10", "math/bits.deBruijn32tab", "math/bits.deBruijn64tab"], apart := false, laid := [("math/bits.deBruijn32tab", laid_math_bits_deBruijn32tab), ("math/bits.deBruijn64tab", laid_math_bits_deBruijn64tab), ("internal/strconv.uint64pow10", laid_internal_strconv_uint64pow10)] }
def FnExactReadPrefixSaid : Prop := fnExactReadPrefixRow.holds Tryd.pinned (OpenSpec.ofChange fnExactReadPrefixSpec)

/-- ITS FALSE NEIGHBOUR: 'it returns false'. Refute it at one input. -/
def fnExactReadPrefixWrong : ChangeSpec := { name := "fnExactReadPrefix", fn := fun _ => fun
  | [d] => { results := [.lit (.bool false)], args := [d] }
  | _ => none }
def FnExactReadPrefixWrongFalsely : Prop := fnExactReadPrefixRow.holds Tryd.pinned (OpenSpec.ofChange fnExactReadPrefixWrong)

/-- 'laws.FnPrefixText': WHATEVER THE INPUT: true; the input reads as it did. -/
def fnPrefixTextSpec : ChangeSpec := { name := "fnPrefixText", fn := fun _ => fun
  | [d] => { results := [.lit (.bool true)], args := [d] }
  | _ => none }
def fnPrefixTextRow : OpenClaim := { program := "ytnogaeckmiekdaadoor", sum := "81b694f828398ec28ae0a5b0d65effb12fda2315e5a76bc9bea00f55967b9a65", func := "loop.example/packetfilter/laws.FnPrefixText", spec := "fnPrefixText", named := ["internal/strconv.uint64pow10", "math/bits.deBruijn32tab", "math/bits.deBruijn64tab"], apart := false, laid := [("math/bits.deBruijn32tab", laid_math_bits_deBruijn32tab), ("math/bits.deBruijn64tab", laid_math_bits_deBruijn64tab), ("internal/strconv.uint64pow10", laid_internal_strconv_uint64pow10)] }
def FnPrefixTextSaid : Prop := fnPrefixTextRow.holds Tryd.pinned (OpenSpec.ofChange fnPrefixTextSpec)

/-- ITS FALSE NEIGHBOUR: 'it returns false'. Refute it at one input. -/
def fnPrefixTextWrong : ChangeSpec := { name := "fnPrefixText", fn := fun _ => fun
  | [d] => { results := [.lit (.bool false)], args := [d] }
  | _ => none }
def FnPrefixTextWrongFalsely : Prop := fnPrefixTextRow.holds Tryd.pinned (OpenSpec.ofChange fnPrefixTextWrong)

/-- 'laws.FnReadPrefix': WHATEVER THE INPUT: true; the input reads as it did. -/
def fnReadPrefixSpec : ChangeSpec := { name := "fnReadPrefix", fn := fun _ => fun
  | [d] => { results := [.lit (.bool true)], args := [d] }
  | _ => none }
def fnReadPrefixRow : OpenClaim := { program := "ytnogaeckmiekdaadoor", sum := "81b694f828398ec28ae0a5b0d65effb12fda2315e5a76bc9bea00f55967b9a65", func := "loop.example/packetfilter/laws.FnReadPrefix", spec := "fnReadPrefix", named := ["internal/strconv.uint64pow10", "math/bits.deBruijn32tab", "math/bits.deBruijn64tab"], apart := false, laid := [("math/bits.deBruijn32tab", laid_math_bits_deBruijn32tab), ("math/bits.deBruijn64tab", laid_math_bits_deBruijn64tab), ("internal/strconv.uint64pow10", laid_internal_strconv_uint64pow10)] }
def FnReadPrefixSaid : Prop := fnReadPrefixRow.holds Tryd.pinned (OpenSpec.ofChange fnReadPrefixSpec)

/-- ITS FALSE NEIGHBOUR: 'it returns false'. Refute it at one input. -/
def fnReadPrefixWrong : ChangeSpec := { name := "fnReadPrefix", fn := fun _ => fun
  | [d] => { results := [.lit (.bool false)], args := [d] }
  | _ => none }
def FnReadPrefixWrongFalsely : Prop := fnReadPrefixRow.holds Tryd.pinned (OpenSpec.ofChange fnReadPrefixWrong)

/-- 'laws.FnExactReadTest': WHATEVER THE INPUT: true; the input reads as it did. -/
def fnExactReadTestSpec : ChangeSpec := { name := "fnExactReadTest", vars := ["loop.example/packetfilter/impl.fieldShapes"], fn := fun _ => fun
  | [d, g1] => { results := [.lit (.bool true)], args := [d], vars := [g1] }
  | _ => none }
def fnExactReadTestRow : OpenClaim := { program := "ytnogaeckmiekdaadoor", sum := "81b694f828398ec28ae0a5b0d65effb12fda2315e5a76bc9bea00f55967b9a65", func := "loop.example/packetfilter/laws.FnExactReadTest", spec := "fnExactReadTest", named := ["loop.example/packetfilter/impl.fieldShapes", "internal/strconv.uint64pow10", "math/bits.deBruijn32tab", "math/bits.deBruijn64tab"], apart := false, laid := [("math/bits.deBruijn32tab", laid_math_bits_deBruijn32tab), ("math/bits.deBruijn64tab", laid_math_bits_deBruijn64tab), ("internal/strconv.uint64pow10", laid_internal_strconv_uint64pow10), ("loop.example/packetfilter/impl.fieldShapes", laid_loop_example_packetfilter_impl_fieldShapes)] }
def FnExactReadTestSaid : Prop := fnExactReadTestRow.holds Tryd.pinned (OpenSpec.ofChange fnExactReadTestSpec)

/-- ITS FALSE NEIGHBOUR: 'it returns false'. Refute it at one input. -/
def fnExactReadTestWrong : ChangeSpec := { name := "fnExactReadTest", vars := ["loop.example/packetfilter/impl.fieldShapes"], fn := fun _ => fun
  | [d, g1] => { results := [.lit (.bool false)], args := [d], vars := [g1] }
  | _ => none }
def FnExactReadTestWrongFalsely : Prop := fnExactReadTestRow.holds Tryd.pinned (OpenSpec.ofChange fnExactReadTestWrong)

/-- 'laws.FnTestText': WHATEVER THE INPUT: true; the input reads as it did. -/
def fnTestTextSpec : ChangeSpec := { name := "fnTestText", vars := ["loop.example/packetfilter/impl.fieldShapes"], fn := fun _ => fun
  | [d, g1] => { results := [.lit (.bool true)], args := [d], vars := [g1] }
  | _ => none }
def fnTestTextRow : OpenClaim := { program := "ytnogaeckmiekdaadoor", sum := "81b694f828398ec28ae0a5b0d65effb12fda2315e5a76bc9bea00f55967b9a65", func := "loop.example/packetfilter/laws.FnTestText", spec := "fnTestText", named := ["loop.example/packetfilter/impl.fieldShapes", "internal/strconv.uint64pow10", "math/bits.deBruijn32tab", "math/bits.deBruijn64tab"], apart := false, laid := [("math/bits.deBruijn32tab", laid_math_bits_deBruijn32tab), ("math/bits.deBruijn64tab", laid_math_bits_deBruijn64tab), ("internal/strconv.uint64pow10", laid_internal_strconv_uint64pow10), ("loop.example/packetfilter/impl.fieldShapes", laid_loop_example_packetfilter_impl_fieldShapes)] }
def FnTestTextSaid : Prop := fnTestTextRow.holds Tryd.pinned (OpenSpec.ofChange fnTestTextSpec)

/-- ITS FALSE NEIGHBOUR: 'it returns false'. Refute it at one input. -/
def fnTestTextWrong : ChangeSpec := { name := "fnTestText", vars := ["loop.example/packetfilter/impl.fieldShapes"], fn := fun _ => fun
  | [d, g1] => { results := [.lit (.bool false)], args := [d], vars := [g1] }
  | _ => none }
def FnTestTextWrongFalsely : Prop := fnTestTextRow.holds Tryd.pinned (OpenSpec.ofChange fnTestTextWrong)

/-- 'laws.FnExactRuleText': WHATEVER THE INPUT: true; the input reads as it did. -/
def fnExactRuleTextSpec : ChangeSpec := { name := "fnExactRuleText", vars := ["loop.example/packetfilter/impl.fieldShapes"], fn := fun _ => fun
  | [d, g1] => { results := [.lit (.bool true)], args := [d], vars := [g1] }
  | _ => none }
def fnExactRuleTextRow : OpenClaim := { program := "ytnogaeckmiekdaadoor", sum := "81b694f828398ec28ae0a5b0d65effb12fda2315e5a76bc9bea00f55967b9a65", func := "loop.example/packetfilter/laws.FnExactRuleText", spec := "fnExactRuleText", unfollowed := true, recurses := true, named := ["loop.example/packetfilter/impl.fieldShapes", "internal/strconv.uint64pow10", "math/bits.deBruijn32tab", "math/bits.deBruijn64tab"], apart := false, laid := [("math/bits.deBruijn32tab", laid_math_bits_deBruijn32tab), ("math/bits.deBruijn64tab", laid_math_bits_deBruijn64tab), ("internal/strconv.uint64pow10", laid_internal_strconv_uint64pow10), ("loop.example/packetfilter/impl.fieldShapes", laid_loop_example_packetfilter_impl_fieldShapes)] }
def FnExactRuleTextSaid : Prop := fnExactRuleTextRow.holds Tryd.pinned (OpenSpec.ofChange fnExactRuleTextSpec)

/-- ITS FALSE NEIGHBOUR: 'it returns false'. Refute it at one input. -/
def fnExactRuleTextWrong : ChangeSpec := { name := "fnExactRuleText", vars := ["loop.example/packetfilter/impl.fieldShapes"], fn := fun _ => fun
  | [d, g1] => { results := [.lit (.bool false)], args := [d], vars := [g1] }
  | _ => none }
def FnExactRuleTextWrongFalsely : Prop := fnExactRuleTextRow.holds Tryd.pinned (OpenSpec.ofChange fnExactRuleTextWrong)

/-- 'laws.FnReadTest': WHATEVER THE INPUT: true; the input reads as it did. -/
def fnReadTestSpec : ChangeSpec := { name := "fnReadTest", vars := ["loop.example/packetfilter/impl.fieldShapes"], fn := fun _ => fun
  | [d, g1] => { results := [.lit (.bool true)], args := [d], vars := [g1] }
  | _ => none }
def fnReadTestRow : OpenClaim := { program := "ytnogaeckmiekdaadoor", sum := "81b694f828398ec28ae0a5b0d65effb12fda2315e5a76bc9bea00f55967b9a65", func := "loop.example/packetfilter/laws.FnReadTest", spec := "fnReadTest", named := ["loop.example/packetfilter/impl.fieldShapes", "internal/strconv.uint64pow10", "math/bits.deBruijn32tab", "math/bits.deBruijn64tab"], apart := false, laid := [("math/bits.deBruijn32tab", laid_math_bits_deBruijn32tab), ("math/bits.deBruijn64tab", laid_math_bits_deBruijn64tab), ("internal/strconv.uint64pow10", laid_internal_strconv_uint64pow10), ("loop.example/packetfilter/impl.fieldShapes", laid_loop_example_packetfilter_impl_fieldShapes)] }
def FnReadTestSaid : Prop := fnReadTestRow.holds Tryd.pinned (OpenSpec.ofChange fnReadTestSpec)

/-- ITS FALSE NEIGHBOUR: 'it returns false'. Refute it at one input. -/
def fnReadTestWrong : ChangeSpec := { name := "fnReadTest", vars := ["loop.example/packetfilter/impl.fieldShapes"], fn := fun _ => fun
  | [d, g1] => { results := [.lit (.bool false)], args := [d], vars := [g1] }
  | _ => none }
def FnReadTestWrongFalsely : Prop := fnReadTestRow.holds Tryd.pinned (OpenSpec.ofChange fnReadTestWrong)

/-- 'laws.FnRuleText': WHATEVER THE INPUT: true; the input reads as it did. -/
def fnRuleTextSpec : ChangeSpec := { name := "fnRuleText", vars := ["loop.example/packetfilter/impl.fieldShapes"], fn := fun _ => fun
  | [d, g1] => { results := [.lit (.bool true)], args := [d], vars := [g1] }
  | _ => none }
def fnRuleTextRow : OpenClaim := { program := "ytnogaeckmiekdaadoor", sum := "81b694f828398ec28ae0a5b0d65effb12fda2315e5a76bc9bea00f55967b9a65", func := "loop.example/packetfilter/laws.FnRuleText", spec := "fnRuleText", unfollowed := true, recurses := true, named := ["loop.example/packetfilter/impl.fieldShapes", "internal/strconv.uint64pow10", "math/bits.deBruijn32tab", "math/bits.deBruijn64tab"], apart := false, laid := [("math/bits.deBruijn32tab", laid_math_bits_deBruijn32tab), ("math/bits.deBruijn64tab", laid_math_bits_deBruijn64tab), ("internal/strconv.uint64pow10", laid_internal_strconv_uint64pow10), ("loop.example/packetfilter/impl.fieldShapes", laid_loop_example_packetfilter_impl_fieldShapes)] }
def FnRuleTextSaid : Prop := fnRuleTextRow.holds Tryd.pinned (OpenSpec.ofChange fnRuleTextSpec)

/-- ITS FALSE NEIGHBOUR: 'it returns false'. Refute it at one input. -/
def fnRuleTextWrong : ChangeSpec := { name := "fnRuleText", vars := ["loop.example/packetfilter/impl.fieldShapes"], fn := fun _ => fun
  | [d, g1] => { results := [.lit (.bool false)], args := [d], vars := [g1] }
  | _ => none }
def FnRuleTextWrongFalsely : Prop := fnRuleTextRow.holds Tryd.pinned (OpenSpec.ofChange fnRuleTextWrong)

/-- 'laws.FnExactReadRule': WHATEVER THE INPUT: true; the input reads as it did. -/
def fnExactReadRuleSpec : ChangeSpec := { name := "fnExactReadRule", vars := ["loop.example/packetfilter/impl.fieldShapes"], fn := fun _ => fun
  | [d, g1] => { results := [.lit (.bool true)], args := [d], vars := [g1] }
  | _ => none }
def fnExactReadRuleRow : OpenClaim := { program := "ytnogaeckmiekdaadoor", sum := "81b694f828398ec28ae0a5b0d65effb12fda2315e5a76bc9bea00f55967b9a65", func := "loop.example/packetfilter/laws.FnExactReadRule", spec := "fnExactReadRule", unfollowed := true, recurses := true, named := ["loop.example/packetfilter/impl.fieldShapes", "internal/strconv.uint64pow10", "math/bits.deBruijn32tab", "math/bits.deBruijn64tab"], apart := false, laid := [("math/bits.deBruijn32tab", laid_math_bits_deBruijn32tab), ("math/bits.deBruijn64tab", laid_math_bits_deBruijn64tab), ("internal/strconv.uint64pow10", laid_internal_strconv_uint64pow10), ("loop.example/packetfilter/impl.fieldShapes", laid_loop_example_packetfilter_impl_fieldShapes)] }
def FnExactReadRuleSaid : Prop := fnExactReadRuleRow.holds Tryd.pinned (OpenSpec.ofChange fnExactReadRuleSpec)

/-- ITS FALSE NEIGHBOUR: 'it returns false'. Refute it at one input. -/
def fnExactReadRuleWrong : ChangeSpec := { name := "fnExactReadRule", vars := ["loop.example/packetfilter/impl.fieldShapes"], fn := fun _ => fun
  | [d, g1] => { results := [.lit (.bool false)], args := [d], vars := [g1] }
  | _ => none }
def FnExactReadRuleWrongFalsely : Prop := fnExactReadRuleRow.holds Tryd.pinned (OpenSpec.ofChange fnExactReadRuleWrong)

/-- 'laws.FnReadRule': WHATEVER THE INPUT: true; the input reads as it did. -/
def fnReadRuleSpec : ChangeSpec := { name := "fnReadRule", vars := ["loop.example/packetfilter/impl.fieldShapes"], fn := fun _ => fun
  | [d, g1] => { results := [.lit (.bool true)], args := [d], vars := [g1] }
  | _ => none }
def fnReadRuleRow : OpenClaim := { program := "ytnogaeckmiekdaadoor", sum := "81b694f828398ec28ae0a5b0d65effb12fda2315e5a76bc9bea00f55967b9a65", func := "loop.example/packetfilter/laws.FnReadRule", spec := "fnReadRule", unfollowed := true, recurses := true, named := ["loop.example/packetfilter/impl.fieldShapes", "internal/strconv.uint64pow10", "math/bits.deBruijn32tab", "math/bits.deBruijn64tab"], apart := false, laid := [("math/bits.deBruijn32tab", laid_math_bits_deBruijn32tab), ("math/bits.deBruijn64tab", laid_math_bits_deBruijn64tab), ("internal/strconv.uint64pow10", laid_internal_strconv_uint64pow10), ("loop.example/packetfilter/impl.fieldShapes", laid_loop_example_packetfilter_impl_fieldShapes)] }
def FnReadRuleSaid : Prop := fnReadRuleRow.holds Tryd.pinned (OpenSpec.ofChange fnReadRuleSpec)

/-- ITS FALSE NEIGHBOUR: 'it returns false'. Refute it at one input. -/
def fnReadRuleWrong : ChangeSpec := { name := "fnReadRule", vars := ["loop.example/packetfilter/impl.fieldShapes"], fn := fun _ => fun
  | [d, g1] => { results := [.lit (.bool false)], args := [d], vars := [g1] }
  | _ => none }
def FnReadRuleWrongFalsely : Prop := fnReadRuleRow.holds Tryd.pinned (OpenSpec.ofChange fnReadRuleWrong)

/-- 'laws.FnLinesCount': WHATEVER THE INPUT: true; the input reads as it did. -/
def fnLinesCountSpec : ChangeSpec := { name := "fnLinesCount", vars := ["loop.example/packetfilter/impl.fieldShapes"], fn := fun _ => fun
  | [d, g1] => { results := [.lit (.bool true)], args := [d], vars := [g1] }
  | _ => none }
def fnLinesCountRow : OpenClaim := { program := "ytnogaeckmiekdaadoor", sum := "81b694f828398ec28ae0a5b0d65effb12fda2315e5a76bc9bea00f55967b9a65", func := "loop.example/packetfilter/laws.FnLinesCount", spec := "fnLinesCount", unfollowed := true, recurses := true, named := ["loop.example/packetfilter/impl.fieldShapes", "internal/strconv.uint64pow10", "math/bits.deBruijn32tab", "math/bits.deBruijn64tab"], apart := false, laid := [("math/bits.deBruijn32tab", laid_math_bits_deBruijn32tab), ("math/bits.deBruijn64tab", laid_math_bits_deBruijn64tab), ("internal/strconv.uint64pow10", laid_internal_strconv_uint64pow10), ("loop.example/packetfilter/impl.fieldShapes", laid_loop_example_packetfilter_impl_fieldShapes)] }
def FnLinesCountSaid : Prop := fnLinesCountRow.holds Tryd.pinned (OpenSpec.ofChange fnLinesCountSpec)

/-- ITS FALSE NEIGHBOUR: 'it returns false'. Refute it at one input. -/
def fnLinesCountWrong : ChangeSpec := { name := "fnLinesCount", vars := ["loop.example/packetfilter/impl.fieldShapes"], fn := fun _ => fun
  | [d, g1] => { results := [.lit (.bool false)], args := [d], vars := [g1] }
  | _ => none }
def FnLinesCountWrongFalsely : Prop := fnLinesCountRow.holds Tryd.pinned (OpenSpec.ofChange fnLinesCountWrong)

/- THE SECOND FORM. 'bulk': how many values and letters a reading holds, each counted each time it is reached (what is shared counts as often as it is met; a slice's spare places count too). A statement '..UptoSaid' is the law's where the arguments, and the package variables that the reading takes, are together of bulk at most 1048576: NARROWER than '..Said'. Prove '..Said' where nothing that the law and all that it calls make is longer than what came in: it says more and counts as full. Else prove '..UptoSaid'. A law counts once. -/
mutual
def uptoBulk {H : Type} : DataW H → Nat
  | .lit (.string bytes) => bytes.length + 1
  | .lit _ => 1
  | .nil => 1
  | .ptr d => uptoBulk d + 1
  | .slice elems spare => uptoBulkAll elems + uptoBulkAll spare + 1
  | .agg parts => uptoBulkAll parts + 1
  | .iface _ d => uptoBulk d + 1
  | .map entries => uptoBulkEntries entries + 1
  | .held _ => 1
def uptoBulkAll {H : Type} : List (DataW H) → Nat
  | [] => 0
  | d :: r => uptoBulk d + uptoBulkAll r
def uptoBulkEntries {H : Type} : List (Lit × DataW H) → Nat
  | [] => 0
  | x :: r => uptoBulkEntry x + uptoBulkEntries r
def uptoBulkEntry {H : Type} : Lit × DataW H → Nat
  | (.string bytes, d) => bytes.length + uptoBulk d + 1
  | (_, d) => uptoBulk d + 1
 end
def uptoSmall : (H : Type) → List (DataW H) → Bool := fun _ ds => decide (uptoBulkAll ds ≤ 1048576)
def OpenSpec.upto (s : _root_.Go.ChangeSpec) : _root_.Go.OpenSpec := { _root_.Go.OpenSpec.ofChange s with cond := some uptoSmall }

/-- 'laws.FnExactTestText', WHERE WHAT IT READS IS OF BULK AT MOST 1048576: true; the input reads as it did. -/
def fnExactTestTextUptoRow : OpenClaim := { program := "ytnogaeckmiekdaadoor", sum := "81b694f828398ec28ae0a5b0d65effb12fda2315e5a76bc9bea00f55967b9a65", func := "loop.example/packetfilter/laws.FnExactTestText", spec := "fnExactTestText", named := ["loop.example/packetfilter/impl.fieldShapes", "internal/strconv.uint64pow10", "math/bits.deBruijn32tab", "math/bits.deBruijn64tab"], apart := false, laid := [("math/bits.deBruijn32tab", laid_math_bits_deBruijn32tab), ("math/bits.deBruijn64tab", laid_math_bits_deBruijn64tab), ("internal/strconv.uint64pow10", laid_internal_strconv_uint64pow10), ("loop.example/packetfilter/impl.fieldShapes", laid_loop_example_packetfilter_impl_fieldShapes)], narrowed := true }
def FnExactTestTextUptoSaid : Prop := fnExactTestTextUptoRow.holds Tryd.pinned (OpenSpec.upto fnExactTestTextSpec)

/-- 'laws.FnExactReadPrefix', WHERE WHAT IT READS IS OF BULK AT MOST 1048576: true; the input reads as it did. -/
def fnExactReadPrefixUptoRow : OpenClaim := { program := "ytnogaeckmiekdaadoor", sum := "81b694f828398ec28ae0a5b0d65effb12fda2315e5a76bc9bea00f55967b9a65", func := "loop.example/packetfilter/laws.FnExactReadPrefix", spec := "fnExactReadPrefix", named := ["internal/strconv.uint64pow10", "math/bits.deBruijn32tab", "math/bits.deBruijn64tab"], apart := false, laid := [("math/bits.deBruijn32tab", laid_math_bits_deBruijn32tab), ("math/bits.deBruijn64tab", laid_math_bits_deBruijn64tab), ("internal/strconv.uint64pow10", laid_internal_strconv_uint64pow10)], narrowed := true }
def FnExactReadPrefixUptoSaid : Prop := fnExactReadPrefixUptoRow.holds Tryd.pinned (OpenSpec.upto fnExactReadPrefixSpec)

/-- 'laws.FnPrefixText', WHERE WHAT IT READS IS OF BULK AT MOST 1048576: true; the input reads as it did. -/
def fnPrefixTextUptoRow : OpenClaim := { program := "ytnogaeckmiekdaadoor", sum := "81b694f828398ec28ae0a5b0d65effb12fda2315e5a76bc9bea00f55967b9a65", func := "loop.example/packetfilter/laws.FnPrefixText", spec := "fnPrefixText", named := ["internal/strconv.uint64pow10", "math/bits.deBruijn32tab", "math/bits.deBruijn64tab"], apart := false, laid := [("math/bits.deBruijn32tab", laid_math_bits_deBruijn32tab), ("math/bits.deBruijn64tab", laid_math_bits_deBruijn64tab), ("internal/strconv.uint64pow10", laid_internal_strconv_uint64pow10)], narrowed := true }
def FnPrefixTextUptoSaid : Prop := fnPrefixTextUptoRow.holds Tryd.pinned (OpenSpec.upto fnPrefixTextSpec)

/-- 'laws.FnReadPrefix', WHERE WHAT IT READS IS OF BULK AT MOST 1048576: true; the input reads as it did. -/
def fnReadPrefixUptoRow : OpenClaim := { program := "ytnogaeckmiekdaadoor", sum := "81b694f828398ec28ae0a5b0d65effb12fda2315e5a76bc9bea00f55967b9a65", func := "loop.example/packetfilter/laws.FnReadPrefix", spec := "fnReadPrefix", named := ["internal/strconv.uint64pow10", "math/bits.deBruijn32tab", "math/bits.deBruijn64tab"], apart := false, laid := [("math/bits.deBruijn32tab", laid_math_bits_deBruijn32tab), ("math/bits.deBruijn64tab", laid_math_bits_deBruijn64tab), ("internal/strconv.uint64pow10", laid_internal_strconv_uint64pow10)], narrowed := true }
def FnReadPrefixUptoSaid : Prop := fnReadPrefixUptoRow.holds Tryd.pinned (OpenSpec.upto fnReadPrefixSpec)

/-- 'laws.FnExactReadTest', WHERE WHAT IT READS IS OF BULK AT MOST 1048576: true; the input reads as it did. -/
def fnExactReadTestUptoRow : OpenClaim := { program := "ytnogaeckmiekdaadoor", sum := "81b694f828398ec28ae0a5b0d65effb12fda2315e5a76bc9bea00f55967b9a65", func := "loop.example/packetfilter/laws.FnExactReadTest", spec := "fnExactReadTest", named := ["loop.example/packetfilter/impl.fieldShapes", "internal/strconv.uint64pow10", "math/bits.deBruijn32tab", "math/bits.deBruijn64tab"], apart := false, laid := [("math/bits.deBruijn32tab", laid_math_bits_deBruijn32tab), ("math/bits.deBruijn64tab", laid_math_bits_deBruijn64tab), ("internal/strconv.uint64pow10", laid_internal_strconv_uint64pow10), ("loop.example/packetfilter/impl.fieldShapes", laid_loop_example_packetfilter_impl_fieldShapes)], narrowed := true }
def FnExactReadTestUptoSaid : Prop := fnExactReadTestUptoRow.holds Tryd.pinned (OpenSpec.upto fnExactReadTestSpec)

/-- 'laws.FnTestText', WHERE WHAT IT READS IS OF BULK AT MOST 1048576: true; the input reads as it did. -/
def fnTestTextUptoRow : OpenClaim := { program := "ytnogaeckmiekdaadoor", sum := "81b694f828398ec28ae0a5b0d65effb12fda2315e5a76bc9bea00f55967b9a65", func := "loop.example/packetfilter/laws.FnTestText", spec := "fnTestText", named := ["loop.example/packetfilter/impl.fieldShapes", "internal/strconv.uint64pow10", "math/bits.deBruijn32tab", "math/bits.deBruijn64tab"], apart := false, laid := [("math/bits.deBruijn32tab", laid_math_bits_deBruijn32tab), ("math/bits.deBruijn64tab", laid_math_bits_deBruijn64tab), ("internal/strconv.uint64pow10", laid_internal_strconv_uint64pow10), ("loop.example/packetfilter/impl.fieldShapes", laid_loop_example_packetfilter_impl_fieldShapes)], narrowed := true }
def FnTestTextUptoSaid : Prop := fnTestTextUptoRow.holds Tryd.pinned (OpenSpec.upto fnTestTextSpec)

/-- 'laws.FnExactRuleText', WHERE WHAT IT READS IS OF BULK AT MOST 1048576: true; the input reads as it did. -/
def fnExactRuleTextUptoRow : OpenClaim := { program := "ytnogaeckmiekdaadoor", sum := "81b694f828398ec28ae0a5b0d65effb12fda2315e5a76bc9bea00f55967b9a65", func := "loop.example/packetfilter/laws.FnExactRuleText", spec := "fnExactRuleText", unfollowed := true, recurses := true, named := ["loop.example/packetfilter/impl.fieldShapes", "internal/strconv.uint64pow10", "math/bits.deBruijn32tab", "math/bits.deBruijn64tab"], apart := false, laid := [("math/bits.deBruijn32tab", laid_math_bits_deBruijn32tab), ("math/bits.deBruijn64tab", laid_math_bits_deBruijn64tab), ("internal/strconv.uint64pow10", laid_internal_strconv_uint64pow10), ("loop.example/packetfilter/impl.fieldShapes", laid_loop_example_packetfilter_impl_fieldShapes)], narrowed := true }
def FnExactRuleTextUptoSaid : Prop := fnExactRuleTextUptoRow.holds Tryd.pinned (OpenSpec.upto fnExactRuleTextSpec)

/-- 'laws.FnReadTest', WHERE WHAT IT READS IS OF BULK AT MOST 1048576: true; the input reads as it did. -/
def fnReadTestUptoRow : OpenClaim := { program := "ytnogaeckmiekdaadoor", sum := "81b694f828398ec28ae0a5b0d65effb12fda2315e5a76bc9bea00f55967b9a65", func := "loop.example/packetfilter/laws.FnReadTest", spec := "fnReadTest", named := ["loop.example/packetfilter/impl.fieldShapes", "internal/strconv.uint64pow10", "math/bits.deBruijn32tab", "math/bits.deBruijn64tab"], apart := false, laid := [("math/bits.deBruijn32tab", laid_math_bits_deBruijn32tab), ("math/bits.deBruijn64tab", laid_math_bits_deBruijn64tab), ("internal/strconv.uint64pow10", laid_internal_strconv_uint64pow10), ("loop.example/packetfilter/impl.fieldShapes", laid_loop_example_packetfilter_impl_fieldShapes)], narrowed := true }
def FnReadTestUptoSaid : Prop := fnReadTestUptoRow.holds Tryd.pinned (OpenSpec.upto fnReadTestSpec)

/-- 'laws.FnRuleText', WHERE WHAT IT READS IS OF BULK AT MOST 1048576: true; the input reads as it did. -/
def fnRuleTextUptoRow : OpenClaim := { program := "ytnogaeckmiekdaadoor", sum := "81b694f828398ec28ae0a5b0d65effb12fda2315e5a76bc9bea00f55967b9a65", func := "loop.example/packetfilter/laws.FnRuleText", spec := "fnRuleText", unfollowed := true, recurses := true, named := ["loop.example/packetfilter/impl.fieldShapes", "internal/strconv.uint64pow10", "math/bits.deBruijn32tab", "math/bits.deBruijn64tab"], apart := false, laid := [("math/bits.deBruijn32tab", laid_math_bits_deBruijn32tab), ("math/bits.deBruijn64tab", laid_math_bits_deBruijn64tab), ("internal/strconv.uint64pow10", laid_internal_strconv_uint64pow10), ("loop.example/packetfilter/impl.fieldShapes", laid_loop_example_packetfilter_impl_fieldShapes)], narrowed := true }
def FnRuleTextUptoSaid : Prop := fnRuleTextUptoRow.holds Tryd.pinned (OpenSpec.upto fnRuleTextSpec)

/-- 'laws.FnExactReadRule', WHERE WHAT IT READS IS OF BULK AT MOST 1048576: true; the input reads as it did. -/
def fnExactReadRuleUptoRow : OpenClaim := { program := "ytnogaeckmiekdaadoor", sum := "81b694f828398ec28ae0a5b0d65effb12fda2315e5a76bc9bea00f55967b9a65", func := "loop.example/packetfilter/laws.FnExactReadRule", spec := "fnExactReadRule", unfollowed := true, recurses := true, named := ["loop.example/packetfilter/impl.fieldShapes", "internal/strconv.uint64pow10", "math/bits.deBruijn32tab", "math/bits.deBruijn64tab"], apart := false, laid := [("math/bits.deBruijn32tab", laid_math_bits_deBruijn32tab), ("math/bits.deBruijn64tab", laid_math_bits_deBruijn64tab), ("internal/strconv.uint64pow10", laid_internal_strconv_uint64pow10), ("loop.example/packetfilter/impl.fieldShapes", laid_loop_example_packetfilter_impl_fieldShapes)], narrowed := true }
def FnExactReadRuleUptoSaid : Prop := fnExactReadRuleUptoRow.holds Tryd.pinned (OpenSpec.upto fnExactReadRuleSpec)

/-- 'laws.FnReadRule', WHERE WHAT IT READS IS OF BULK AT MOST 1048576: true; the input reads as it did. -/
def fnReadRuleUptoRow : OpenClaim := { program := "ytnogaeckmiekdaadoor", sum := "81b694f828398ec28ae0a5b0d65effb12fda2315e5a76bc9bea00f55967b9a65", func := "loop.example/packetfilter/laws.FnReadRule", spec := "fnReadRule", unfollowed := true, recurses := true, named := ["loop.example/packetfilter/impl.fieldShapes", "internal/strconv.uint64pow10", "math/bits.deBruijn32tab", "math/bits.deBruijn64tab"], apart := false, laid := [("math/bits.deBruijn32tab", laid_math_bits_deBruijn32tab), ("math/bits.deBruijn64tab", laid_math_bits_deBruijn64tab), ("internal/strconv.uint64pow10", laid_internal_strconv_uint64pow10), ("loop.example/packetfilter/impl.fieldShapes", laid_loop_example_packetfilter_impl_fieldShapes)], narrowed := true }
def FnReadRuleUptoSaid : Prop := fnReadRuleUptoRow.holds Tryd.pinned (OpenSpec.upto fnReadRuleSpec)

/-- 'laws.FnLinesCount', WHERE WHAT IT READS IS OF BULK AT MOST 1048576: true; the input reads as it did. -/
def fnLinesCountUptoRow : OpenClaim := { program := "ytnogaeckmiekdaadoor", sum := "81b694f828398ec28ae0a5b0d65effb12fda2315e5a76bc9bea00f55967b9a65", func := "loop.example/packetfilter/laws.FnLinesCount", spec := "fnLinesCount", unfollowed := true, recurses := true, named := ["loop.example/packetfilter/impl.fieldShapes", "internal/strconv.uint64pow10", "math/bits.deBruijn32tab", "math/bits.deBruijn64tab"], apart := false, laid := [("math/bits.deBruijn32tab", laid_math_bits_deBruijn32tab), ("math/bits.deBruijn64tab", laid_math_bits_deBruijn64tab), ("internal/strconv.uint64pow10", laid_internal_strconv_uint64pow10), ("loop.example/packetfilter/impl.fieldShapes", laid_loop_example_packetfilter_impl_fieldShapes)], narrowed := true }
def FnLinesCountUptoSaid : Prop := fnLinesCountUptoRow.holds Tryd.pinned (OpenSpec.upto fnLinesCountSpec)

end Rows
end Go.Proofs.YtnogaeckmiekdaaDoor
