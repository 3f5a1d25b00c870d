/-
  NARROWER THAN 'FOR EVERY INPUT', by the rows' own cells (each row's printed sentence says how): FnCheckChange: laid · FnUnfoldFlat: laid · FnChangeDefault: laid · FnExactCheckChange: laid · FnExactCompile: laid · FnChangeCompiled: laid · FnCompile: laid · FnExactCompileText: laid · FnCompileText: laid.
  DERIVED. THE GIVEN ROWS OF THIS SEAT. 9 by the template 'for every input the law returns true; each argument reads behind the call as it read before'; 0 by the template 'total and deterministic' (their statements: YtgpdnnhmndlljaaGreatDoorTotals.lean).
  GIVEN WITH THE SEED: the statements are not yours to turn. If you find one false, say at which input.
  Laid BY PROGRAM, IN A SANDBOX (cutbox-rows.mjs): the forced cells as the released guide's own fill.sh prints them over the translation 422ba355ad52693c… (all of the seat's roots in one cut). By AI agents, Wed Nov 11 2026. No macro, syntax, notation, axiom, sorry.
-/
import Derived.Test.YtgpdnnhmndlljaaGreatDoorChecked
import GoSem.Claim
import GoSem.ClaimJoined
import GoSem.ClaimMapViews
import Derived.JoinedTies
import Derived.KernelRfl
namespace Go.Proofs.YtgpdnnhmndlljaaGreatDoor
/- THE CELL 'sum', in the pinned program and in every row, IS THE sha256 OF THE DUMP (.gsa) THAT YtgpdnnhmndlljaaGreatDoorProg.lean LOADS. Nothing in Lean hashes anything: it is a label: what it is worth is what the hold of that sum in a sandbox is worth. -/
noncomputable def Tryz.pinned : Pinned := { name := "ytgpdnnhmndlljaagreatdoor", sum := "422ba355ad52693c6178f4830ac317a7a54692c0a3f4e61b72e939ecc4a84527", checked := Tryz.checked }
namespace Rows
def none {H : Type} : Left H := { results := [], args := [] }

/- WHAT THE LISTED PACKAGE-LEVEL VARIABLES READ AS WHEN THE CALL BEGINS. Each datum BY PROGRAM (the guide's laid-datum.mjs) off the statement by which the dump's own 'gosem.cut.vars' lays the variable. In a bare row this is a premise. The card (YtgpdnnhmndlljaaGreatDoorCards.lean) ties it to the program's text. -/
def laid_loop_example_packetfilter_impl_fieldShapes {H : Type} : DataW H := .agg [.agg [.lit (.string [102, 114, 111, 109]), .lit (.int .i64 65535)], .agg [.lit (.string [116, 111]), .lit (.int .i64 65535)], .agg [.lit (.string [112, 111, 114, 116]), .lit (.int .i64 255)], .agg [.lit (.string [112, 114, 111, 116, 111]), .lit (.int .i64 7)]]
def laid_math_bits_deBruijn32tab {H : Type} : DataW H := .agg [.lit (.int .u8 0), .lit (.int .u8 1), .lit (.int .u8 28), .lit (.int .u8 2), .lit (.int .u8 29), .lit (.int .u8 14), .lit (.int .u8 24), .lit (.int .u8 3), .lit (.int .u8 30), .lit (.int .u8 22), .lit (.int .u8 20), .lit (.int .u8 15), .lit (.int .u8 25), .lit (.int .u8 17), .lit (.int .u8 4), .lit (.int .u8 8), .lit (.int .u8 31), .lit (.int .u8 27), .lit (.int .u8 13), .lit (.int .u8 23), .lit (.int .u8 21), .lit (.int .u8 19), .lit (.int .u8 16), .lit (.int .u8 7), .lit (.int .u8 26), .lit (.int .u8 12), .lit (.int .u8 18), .lit (.int .u8 6), .lit (.int .u8 11), .lit (.int .u8 5), .lit (.int .u8 10), .lit (.int .u8 9)]
def laid_math_bits_deBruijn64tab {H : Type} : DataW H := .agg [.lit (.int .u8 0), .lit (.int .u8 1), .lit (.int .u8 56), .lit (.int .u8 2), .lit (.int .u8 57), .lit (.int .u8 49), .lit (.int .u8 28), .lit (.int .u8 3), .lit (.int .u8 61), .lit (.int .u8 58), .lit (.int .u8 42), .lit (.int .u8 50), .lit (.int .u8 38), .lit (.int .u8 29), .lit (.int .u8 17), .lit (.int .u8 4), .lit (.int .u8 62), .lit (.int .u8 47), .lit (.int .u8 59), .lit (.int .u8 36), .lit (.int .u8 45), .lit (.int .u8 43), .lit (.int .u8 51), .lit (.int .u8 22), .lit (.int .u8 53), .lit (.int .u8 39), .lit (.int .u8 33), .lit (.int .u8 30), .lit (.int .u8 24), .lit (.int .u8 18), .lit (.int .u8 12), .lit (.int .u8 5), .lit (.int .u8 63), .lit (.int .u8 55), .lit (.int .u8 48), .lit (.int .u8 27), .lit (.int .u8 60), .lit (.int .u8 41), .lit (.int .u8 37), .lit (.int .u8 16), .lit (.int .u8 46), .lit (.int .u8 35), .lit (.int .u8 44), .lit (.int .u8 21), .lit (.int .u8 52), .lit (.int .u8 32), .lit (.int .u8 23), .lit (.int .u8 11), .lit (.int .u8 54), .lit (.int .u8 26), .lit (.int .u8 40), .lit (.int .u8 15), .lit (.int .u8 34), .lit (.int .u8 20), .lit (.int .u8 31), .lit (.int .u8 10), .lit (.int .u8 25), .lit (.int .u8 14), .lit (.int .u8 19), .lit (.int .u8 9), .lit (.int .u8 13), .lit (.int .u8 8), .lit (.int .u8 7), .lit (.int .u8 6)]
def laid_internal_strconv_uint64pow10 {H : Type} : DataW H := .agg [.lit (.int .u64 1), .lit (.int .u64 10), .lit (.int .u64 100), .lit (.int .u64 1000), .lit (.int .u64 10000), .lit (.int .u64 100000), .lit (.int .u64 1000000), .lit (.int .u64 10000000), .lit (.int .u64 100000000), .lit (.int .u64 1000000000), .lit (.int .u64 10000000000), .lit (.int .u64 100000000000), .lit (.int .u64 1000000000000), .lit (.int .u64 10000000000000), .lit (.int .u64 100000000000000), .lit (.int .u64 1000000000000000), .lit (.int .u64 10000000000000000), .lit (.int .u64 100000000000000000), .lit (.int .u64 1000000000000000000), .lit (.int .u64 10000000000000000000)]

/-- 'laws.FnCheckChange': WHATEVER THE INPUT: true; the input reads as it did. -/
def fnCheckChangeSpec : ChangeSpec := { name := "fnCheckChange", vars := ["loop.example/packetfilter/impl.fieldShapes"], fn := fun _ => fun
  | [d1, d2, g1] => { results := [.lit (.bool true)], args := [d1, d2], vars := [g1] }
  | _ => none }
def fnCheckChangeRow : OpenClaim := { program := "ytgpdnnhmndlljaagreatdoor", sum := "422ba355ad52693c6178f4830ac317a7a54692c0a3f4e61b72e939ecc4a84527", func := "loop.example/packetfilter/laws.FnCheckChange", spec := "fnCheckChange", unfollowed := true, recurses := true, named := ["loop.example/packetfilter/impl.fieldShapes"], apart := false, laid := [("loop.example/packetfilter/impl.fieldShapes", laid_loop_example_packetfilter_impl_fieldShapes)] }
def FnCheckChangeSaid : Prop := fnCheckChangeRow.holds Tryz.pinned (OpenSpec.ofChange fnCheckChangeSpec)

/-- ITS FALSE NEIGHBOUR: 'it returns false'. Refute it at one input. -/
def fnCheckChangeWrong : ChangeSpec := { name := "fnCheckChange", vars := ["loop.example/packetfilter/impl.fieldShapes"], fn := fun _ => fun
  | [d1, d2, g1] => { results := [.lit (.bool false)], args := [d1, d2], vars := [g1] }
  | _ => none }
def FnCheckChangeWrongFalsely : Prop := fnCheckChangeRow.holds Tryz.pinned (OpenSpec.ofChange fnCheckChangeWrong)

/-- 'laws.FnUnfoldFlat': WHATEVER THE INPUT: true; the input reads as it did. -/
def fnUnfoldFlatSpec : ChangeSpec := { name := "fnUnfoldFlat", vars := ["loop.example/packetfilter/impl.fieldShapes"], fn := fun _ => fun
  | [d, g1] => { results := [.lit (.bool true)], args := [d], vars := [g1] }
  | _ => none }
def fnUnfoldFlatRow : OpenClaim := { program := "ytgpdnnhmndlljaagreatdoor", sum := "422ba355ad52693c6178f4830ac317a7a54692c0a3f4e61b72e939ecc4a84527", func := "loop.example/packetfilter/laws.FnUnfoldFlat", spec := "fnUnfoldFlat", unfollowed := true, recurses := true, named := ["loop.example/packetfilter/impl.fieldShapes"], apart := false, laid := [("loop.example/packetfilter/impl.fieldShapes", laid_loop_example_packetfilter_impl_fieldShapes)] }
def FnUnfoldFlatSaid : Prop := fnUnfoldFlatRow.holds Tryz.pinned (OpenSpec.ofChange fnUnfoldFlatSpec)

/-- ITS FALSE NEIGHBOUR: 'it returns false'. Refute it at one input. -/
def fnUnfoldFlatWrong : ChangeSpec := { name := "fnUnfoldFlat", vars := ["loop.example/packetfilter/impl.fieldShapes"], fn := fun _ => fun
  | [d, g1] => { results := [.lit (.bool false)], args := [d], vars := [g1] }
  | _ => none }
def FnUnfoldFlatWrongFalsely : Prop := fnUnfoldFlatRow.holds Tryz.pinned (OpenSpec.ofChange fnUnfoldFlatWrong)

/-- 'laws.FnChangeDefault': WHATEVER THE INPUT: true; the input reads as it did. -/
def fnChangeDefaultSpec : ChangeSpec := { name := "fnChangeDefault", vars := ["loop.example/packetfilter/impl.fieldShapes"], fn := fun _ => fun
  | [d, g1] => { results := [.lit (.bool true)], args := [d], vars := [g1] }
  | _ => none }
def fnChangeDefaultRow : OpenClaim := { program := "ytgpdnnhmndlljaagreatdoor", sum := "422ba355ad52693c6178f4830ac317a7a54692c0a3f4e61b72e939ecc4a84527", func := "loop.example/packetfilter/laws.FnChangeDefault", spec := "fnChangeDefault", unfollowed := true, recurses := true, named := ["loop.example/packetfilter/impl.fieldShapes"], apart := false, laid := [("loop.example/packetfilter/impl.fieldShapes", laid_loop_example_packetfilter_impl_fieldShapes)] }
def FnChangeDefaultSaid : Prop := fnChangeDefaultRow.holds Tryz.pinned (OpenSpec.ofChange fnChangeDefaultSpec)

/-- ITS FALSE NEIGHBOUR: 'it returns false'. Refute it at one input. -/
def fnChangeDefaultWrong : ChangeSpec := { name := "fnChangeDefault", vars := ["loop.example/packetfilter/impl.fieldShapes"], fn := fun _ => fun
  | [d, g1] => { results := [.lit (.bool false)], args := [d], vars := [g1] }
  | _ => none }
def FnChangeDefaultWrongFalsely : Prop := fnChangeDefaultRow.holds Tryz.pinned (OpenSpec.ofChange fnChangeDefaultWrong)

/-- 'laws.FnExactCheckChange': WHATEVER THE INPUT: true; the input reads as it did. -/
def fnExactCheckChangeSpec : ChangeSpec := { name := "fnExactCheckChange", vars := ["loop.example/packetfilter/impl.fieldShapes"], fn := fun _ => fun
  | [d1, d2, g1] => { results := [.lit (.bool true)], args := [d1, d2], vars := [g1] }
  | _ => none }
def fnExactCheckChangeRow : OpenClaim := { program := "ytgpdnnhmndlljaagreatdoor", sum := "422ba355ad52693c6178f4830ac317a7a54692c0a3f4e61b72e939ecc4a84527", func := "loop.example/packetfilter/laws.FnExactCheckChange", spec := "fnExactCheckChange", unfollowed := true, recurses := true, named := ["loop.example/packetfilter/impl.fieldShapes"], apart := false, laid := [("loop.example/packetfilter/impl.fieldShapes", laid_loop_example_packetfilter_impl_fieldShapes)] }
def FnExactCheckChangeSaid : Prop := fnExactCheckChangeRow.holds Tryz.pinned (OpenSpec.ofChange fnExactCheckChangeSpec)

/-- ITS FALSE NEIGHBOUR: 'it returns false'. Refute it at one input. -/
def fnExactCheckChangeWrong : ChangeSpec := { name := "fnExactCheckChange", vars := ["loop.example/packetfilter/impl.fieldShapes"], fn := fun _ => fun
  | [d1, d2, g1] => { results := [.lit (.bool false)], args := [d1, d2], vars := [g1] }
  | _ => none }
def FnExactCheckChangeWrongFalsely : Prop := fnExactCheckChangeRow.holds Tryz.pinned (OpenSpec.ofChange fnExactCheckChangeWrong)

/-- 'laws.FnExactCompile': WHATEVER THE INPUT: true; the input reads as it did. -/
def fnExactCompileSpec : ChangeSpec := { name := "fnExactCompile", vars := ["loop.example/packetfilter/impl.fieldShapes"], fn := fun _ => fun
  | [d, g1] => { results := [.lit (.bool true)], args := [d], vars := [g1] }
  | _ => none }
def fnExactCompileRow : OpenClaim := { program := "ytgpdnnhmndlljaagreatdoor", sum := "422ba355ad52693c6178f4830ac317a7a54692c0a3f4e61b72e939ecc4a84527", func := "loop.example/packetfilter/laws.FnExactCompile", spec := "fnExactCompile", unfollowed := true, recurses := true, named := ["loop.example/packetfilter/impl.fieldShapes"], apart := false, laid := [("loop.example/packetfilter/impl.fieldShapes", laid_loop_example_packetfilter_impl_fieldShapes)] }
def FnExactCompileSaid : Prop := fnExactCompileRow.holds Tryz.pinned (OpenSpec.ofChange fnExactCompileSpec)

/-- ITS FALSE NEIGHBOUR: 'it returns false'. Refute it at one input. -/
def fnExactCompileWrong : ChangeSpec := { name := "fnExactCompile", vars := ["loop.example/packetfilter/impl.fieldShapes"], fn := fun _ => fun
  | [d, g1] => { results := [.lit (.bool false)], args := [d], vars := [g1] }
  | _ => none }
def FnExactCompileWrongFalsely : Prop := fnExactCompileRow.holds Tryz.pinned (OpenSpec.ofChange fnExactCompileWrong)

/-- 'laws.FnChangeCompiled': WHATEVER THE INPUT: true; the input reads as it did. -/
def fnChangeCompiledSpec : ChangeSpec := { name := "fnChangeCompiled", vars := ["loop.example/packetfilter/impl.fieldShapes"], fn := fun _ => fun
  | [d, g1] => { results := [.lit (.bool true)], args := [d], vars := [g1] }
  | _ => none }
def fnChangeCompiledRow : OpenClaim := { program := "ytgpdnnhmndlljaagreatdoor", sum := "422ba355ad52693c6178f4830ac317a7a54692c0a3f4e61b72e939ecc4a84527", func := "loop.example/packetfilter/laws.FnChangeCompiled", spec := "fnChangeCompiled", unfollowed := true, recurses := true, named := ["loop.example/packetfilter/impl.fieldShapes"], apart := false, laid := [("loop.example/packetfilter/impl.fieldShapes", laid_loop_example_packetfilter_impl_fieldShapes)] }
def FnChangeCompiledSaid : Prop := fnChangeCompiledRow.holds Tryz.pinned (OpenSpec.ofChange fnChangeCompiledSpec)

/-- ITS FALSE NEIGHBOUR: 'it returns false'. Refute it at one input. -/
def fnChangeCompiledWrong : ChangeSpec := { name := "fnChangeCompiled", vars := ["loop.example/packetfilter/impl.fieldShapes"], fn := fun _ => fun
  | [d, g1] => { results := [.lit (.bool false)], args := [d], vars := [g1] }
  | _ => none }
def FnChangeCompiledWrongFalsely : Prop := fnChangeCompiledRow.holds Tryz.pinned (OpenSpec.ofChange fnChangeCompiledWrong)

/-- 'laws.FnCompile': WHATEVER THE INPUT: true; the input reads as it did. -/
def fnCompileSpec : ChangeSpec := { name := "fnCompile", vars := ["loop.example/packetfilter/impl.fieldShapes"], fn := fun _ => fun
  | [d1, d2, g1] => { results := [.lit (.bool true)], args := [d1, d2], vars := [g1] }
  | _ => none }
def fnCompileRow : OpenClaim := { program := "ytgpdnnhmndlljaagreatdoor", sum := "422ba355ad52693c6178f4830ac317a7a54692c0a3f4e61b72e939ecc4a84527", func := "loop.example/packetfilter/laws.FnCompile", spec := "fnCompile", unfollowed := true, recurses := true, named := ["loop.example/packetfilter/impl.fieldShapes"], apart := false, laid := [("loop.example/packetfilter/impl.fieldShapes", laid_loop_example_packetfilter_impl_fieldShapes)] }
def FnCompileSaid : Prop := fnCompileRow.holds Tryz.pinned (OpenSpec.ofChange fnCompileSpec)

/-- ITS FALSE NEIGHBOUR: 'it returns false'. Refute it at one input. -/
def fnCompileWrong : ChangeSpec := { name := "fnCompile", vars := ["loop.example/packetfilter/impl.fieldShapes"], fn := fun _ => fun
  | [d1, d2, g1] => { results := [.lit (.bool false)], args := [d1, d2], vars := [g1] }
  | _ => none }
def FnCompileWrongFalsely : Prop := fnCompileRow.holds Tryz.pinned (OpenSpec.ofChange fnCompileWrong)

/-- 'laws.FnExactCompileText': WHATEVER THE INPUT: true; the input reads as it did. -/
def fnExactCompileTextSpec : ChangeSpec := { name := "fnExactCompileText", vars := ["loop.example/packetfilter/impl.fieldShapes"], fn := fun _ => fun
  | [d, g1] => { results := [.lit (.bool true)], args := [d], vars := [g1] }
  | _ => none }
def fnExactCompileTextRow : OpenClaim := { program := "ytgpdnnhmndlljaagreatdoor", sum := "422ba355ad52693c6178f4830ac317a7a54692c0a3f4e61b72e939ecc4a84527", func := "loop.example/packetfilter/laws.FnExactCompileText", spec := "fnExactCompileText", unfollowed := true, recurses := true, named := ["internal/strconv.uint64pow10", "math/bits.deBruijn32tab", "math/bits.deBruijn64tab", "loop.example/packetfilter/impl.fieldShapes"], apart := false, laid := [("math/bits.deBruijn32tab", laid_math_bits_deBruijn32tab), ("math/bits.deBruijn64tab", laid_math_bits_deBruijn64tab), ("internal/strconv.uint64pow10", laid_internal_strconv_uint64pow10), ("loop.example/packetfilter/impl.fieldShapes", laid_loop_example_packetfilter_impl_fieldShapes)] }
def FnExactCompileTextSaid : Prop := fnExactCompileTextRow.holds Tryz.pinned (OpenSpec.ofChange fnExactCompileTextSpec)

/-- ITS FALSE NEIGHBOUR: 'it returns false'. Refute it at one input. -/
def fnExactCompileTextWrong : ChangeSpec := { name := "fnExactCompileText", vars := ["loop.example/packetfilter/impl.fieldShapes"], fn := fun _ => fun
  | [d, g1] => { results := [.lit (.bool false)], args := [d], vars := [g1] }
  | _ => none }
def FnExactCompileTextWrongFalsely : Prop := fnExactCompileTextRow.holds Tryz.pinned (OpenSpec.ofChange fnExactCompileTextWrong)

/-- 'laws.FnCompileText': WHATEVER THE INPUT: true; the input reads as it did. -/
def fnCompileTextSpec : ChangeSpec := { name := "fnCompileText", vars := ["loop.example/packetfilter/impl.fieldShapes"], fn := fun _ => fun
  | [d1, d2, g1] => { results := [.lit (.bool true)], args := [d1, d2], vars := [g1] }
  | _ => none }
def fnCompileTextRow : OpenClaim := { program := "ytgpdnnhmndlljaagreatdoor", sum := "422ba355ad52693c6178f4830ac317a7a54692c0a3f4e61b72e939ecc4a84527", func := "loop.example/packetfilter/laws.FnCompileText", spec := "fnCompileText", unfollowed := true, recurses := true, named := ["internal/strconv.uint64pow10", "math/bits.deBruijn32tab", "math/bits.deBruijn64tab", "loop.example/packetfilter/impl.fieldShapes"], apart := false, laid := [("math/bits.deBruijn32tab", laid_math_bits_deBruijn32tab), ("math/bits.deBruijn64tab", laid_math_bits_deBruijn64tab), ("internal/strconv.uint64pow10", laid_internal_strconv_uint64pow10), ("loop.example/packetfilter/impl.fieldShapes", laid_loop_example_packetfilter_impl_fieldShapes)] }
def FnCompileTextSaid : Prop := fnCompileTextRow.holds Tryz.pinned (OpenSpec.ofChange fnCompileTextSpec)

/-- ITS FALSE NEIGHBOUR: 'it returns false'. Refute it at one input. -/
def fnCompileTextWrong : ChangeSpec := { name := "fnCompileText", vars := ["loop.example/packetfilter/impl.fieldShapes"], fn := fun _ => fun
  | [d1, d2, g1] => { results := [.lit (.bool false)], args := [d1, d2], vars := [g1] }
  | _ => none }
def FnCompileTextWrongFalsely : Prop := fnCompileTextRow.holds Tryz.pinned (OpenSpec.ofChange fnCompileTextWrong)

/- THE SECOND FORM. 'bulk': how many values and letters a reading holds, each counted each time it is reached (what is shared counts as often as it is met; a slice's spare places count too). A statement '..UptoSaid' is the law's where the arguments, and the package variables that the reading takes, are together of bulk at most 1048576: NARROWER than '..Said'. Prove '..Said' where nothing that the law and all that it calls make is longer than what came in: it says more and counts as full. Else prove '..UptoSaid'. A law counts once. -/
mutual
def uptoBulk {H : Type} : DataW H → Nat
  | .lit (.string bytes) => bytes.length + 1
  | .lit _ => 1
  | .nil => 1
  | .ptr d => uptoBulk d + 1
  | .slice elems spare => uptoBulkAll elems + uptoBulkAll spare + 1
  | .agg parts => uptoBulkAll parts + 1
  | .iface _ d => uptoBulk d + 1
  | .map entries => uptoBulkEntries entries + 1
  | .held _ => 1
def uptoBulkAll {H : Type} : List (DataW H) → Nat
  | [] => 0
  | d :: r => uptoBulk d + uptoBulkAll r
def uptoBulkEntries {H : Type} : List (Lit × DataW H) → Nat
  | [] => 0
  | x :: r => uptoBulkEntry x + uptoBulkEntries r
def uptoBulkEntry {H : Type} : Lit × DataW H → Nat
  | (.string bytes, d) => bytes.length + uptoBulk d + 1
  | (_, d) => uptoBulk d + 1
 end
def uptoSmall : (H : Type) → List (DataW H) → Bool := fun _ ds => decide (uptoBulkAll ds ≤ 1048576)
def OpenSpec.upto (s : _root_.Go.ChangeSpec) : _root_.Go.OpenSpec := { _root_.Go.OpenSpec.ofChange s with cond := some uptoSmall }

/-- 'laws.FnCheckChange', WHERE WHAT IT READS IS OF BULK AT MOST 1048576: true; the input reads as it did. -/
def fnCheckChangeUptoRow : OpenClaim := { program := "ytgpdnnhmndlljaagreatdoor", sum := "422ba355ad52693c6178f4830ac317a7a54692c0a3f4e61b72e939ecc4a84527", func := "loop.example/packetfilter/laws.FnCheckChange", spec := "fnCheckChange", unfollowed := true, recurses := true, named := ["loop.example/packetfilter/impl.fieldShapes"], apart := false, laid := [("loop.example/packetfilter/impl.fieldShapes", laid_loop_example_packetfilter_impl_fieldShapes)], narrowed := true }
def FnCheckChangeUptoSaid : Prop := fnCheckChangeUptoRow.holds Tryz.pinned (OpenSpec.upto fnCheckChangeSpec)

/-- 'laws.FnUnfoldFlat', WHERE WHAT IT READS IS OF BULK AT MOST 1048576: true; the input reads as it did. -/
def fnUnfoldFlatUptoRow : OpenClaim := { program := "ytgpdnnhmndlljaagreatdoor", sum := "422ba355ad52693c6178f4830ac317a7a54692c0a3f4e61b72e939ecc4a84527", func := "loop.example/packetfilter/laws.FnUnfoldFlat", spec := "fnUnfoldFlat", unfollowed := true, recurses := true, named := ["loop.example/packetfilter/impl.fieldShapes"], apart := false, laid := [("loop.example/packetfilter/impl.fieldShapes", laid_loop_example_packetfilter_impl_fieldShapes)], narrowed := true }
def FnUnfoldFlatUptoSaid : Prop := fnUnfoldFlatUptoRow.holds Tryz.pinned (OpenSpec.upto fnUnfoldFlatSpec)

/-- 'laws.FnChangeDefault', WHERE WHAT IT READS IS OF BULK AT MOST 1048576: true; the input reads as it did. -/
def fnChangeDefaultUptoRow : OpenClaim := { program := "ytgpdnnhmndlljaagreatdoor", sum := "422ba355ad52693c6178f4830ac317a7a54692c0a3f4e61b72e939ecc4a84527", func := "loop.example/packetfilter/laws.FnChangeDefault", spec := "fnChangeDefault", unfollowed := true, recurses := true, named := ["loop.example/packetfilter/impl.fieldShapes"], apart := false, laid := [("loop.example/packetfilter/impl.fieldShapes", laid_loop_example_packetfilter_impl_fieldShapes)], narrowed := true }
def FnChangeDefaultUptoSaid : Prop := fnChangeDefaultUptoRow.holds Tryz.pinned (OpenSpec.upto fnChangeDefaultSpec)

/-- 'laws.FnExactCheckChange', WHERE WHAT IT READS IS OF BULK AT MOST 1048576: true; the input reads as it did. -/
def fnExactCheckChangeUptoRow : OpenClaim := { program := "ytgpdnnhmndlljaagreatdoor", sum := "422ba355ad52693c6178f4830ac317a7a54692c0a3f4e61b72e939ecc4a84527", func := "loop.example/packetfilter/laws.FnExactCheckChange", spec := "fnExactCheckChange", unfollowed := true, recurses := true, named := ["loop.example/packetfilter/impl.fieldShapes"], apart := false, laid := [("loop.example/packetfilter/impl.fieldShapes", laid_loop_example_packetfilter_impl_fieldShapes)], narrowed := true }
def FnExactCheckChangeUptoSaid : Prop := fnExactCheckChangeUptoRow.holds Tryz.pinned (OpenSpec.upto fnExactCheckChangeSpec)

/-- 'laws.FnExactCompile', WHERE WHAT IT READS IS OF BULK AT MOST 1048576: true; the input reads as it did. -/
def fnExactCompileUptoRow : OpenClaim := { program := "ytgpdnnhmndlljaagreatdoor", sum := "422ba355ad52693c6178f4830ac317a7a54692c0a3f4e61b72e939ecc4a84527", func := "loop.example/packetfilter/laws.FnExactCompile", spec := "fnExactCompile", unfollowed := true, recurses := true, named := ["loop.example/packetfilter/impl.fieldShapes"], apart := false, laid := [("loop.example/packetfilter/impl.fieldShapes", laid_loop_example_packetfilter_impl_fieldShapes)], narrowed := true }
def FnExactCompileUptoSaid : Prop := fnExactCompileUptoRow.holds Tryz.pinned (OpenSpec.upto fnExactCompileSpec)

/-- 'laws.FnChangeCompiled', WHERE WHAT IT READS IS OF BULK AT MOST 1048576: true; the input reads as it did. -/
def fnChangeCompiledUptoRow : OpenClaim := { program := "ytgpdnnhmndlljaagreatdoor", sum := "422ba355ad52693c6178f4830ac317a7a54692c0a3f4e61b72e939ecc4a84527", func := "loop.example/packetfilter/laws.FnChangeCompiled", spec := "fnChangeCompiled", unfollowed := true, recurses := true, named := ["loop.example/packetfilter/impl.fieldShapes"], apart := false, laid := [("loop.example/packetfilter/impl.fieldShapes", laid_loop_example_packetfilter_impl_fieldShapes)], narrowed := true }
def FnChangeCompiledUptoSaid : Prop := fnChangeCompiledUptoRow.holds Tryz.pinned (OpenSpec.upto fnChangeCompiledSpec)

/-- 'laws.FnCompile', WHERE WHAT IT READS IS OF BULK AT MOST 1048576: true; the input reads as it did. -/
def fnCompileUptoRow : OpenClaim := { program := "ytgpdnnhmndlljaagreatdoor", sum := "422ba355ad52693c6178f4830ac317a7a54692c0a3f4e61b72e939ecc4a84527", func := "loop.example/packetfilter/laws.FnCompile", spec := "fnCompile", unfollowed := true, recurses := true, named := ["loop.example/packetfilter/impl.fieldShapes"], apart := false, laid := [("loop.example/packetfilter/impl.fieldShapes", laid_loop_example_packetfilter_impl_fieldShapes)], narrowed := true }
def FnCompileUptoSaid : Prop := fnCompileUptoRow.holds Tryz.pinned (OpenSpec.upto fnCompileSpec)

/-- 'laws.FnExactCompileText', WHERE WHAT IT READS IS OF BULK AT MOST 1048576: true; the input reads as it did. -/
def fnExactCompileTextUptoRow : OpenClaim := { program := "ytgpdnnhmndlljaagreatdoor", sum := "422ba355ad52693c6178f4830ac317a7a54692c0a3f4e61b72e939ecc4a84527", func := "loop.example/packetfilter/laws.FnExactCompileText", spec := "fnExactCompileText", unfollowed := true, recurses := true, named := ["internal/strconv.uint64pow10", "math/bits.deBruijn32tab", "math/bits.deBruijn64tab", "loop.example/packetfilter/impl.fieldShapes"], apart := false, laid := [("math/bits.deBruijn32tab", laid_math_bits_deBruijn32tab), ("math/bits.deBruijn64tab", laid_math_bits_deBruijn64tab), ("internal/strconv.uint64pow10", laid_internal_strconv_uint64pow10), ("loop.example/packetfilter/impl.fieldShapes", laid_loop_example_packetfilter_impl_fieldShapes)], narrowed := true }
def FnExactCompileTextUptoSaid : Prop := fnExactCompileTextUptoRow.holds Tryz.pinned (OpenSpec.upto fnExactCompileTextSpec)

/-- 'laws.FnCompileText', WHERE WHAT IT READS IS OF BULK AT MOST 1048576: true; the input reads as it did. -/
def fnCompileTextUptoRow : OpenClaim := { program := "ytgpdnnhmndlljaagreatdoor", sum := "422ba355ad52693c6178f4830ac317a7a54692c0a3f4e61b72e939ecc4a84527", func := "loop.example/packetfilter/laws.FnCompileText", spec := "fnCompileText", unfollowed := true, recurses := true, named := ["internal/strconv.uint64pow10", "math/bits.deBruijn32tab", "math/bits.deBruijn64tab", "loop.example/packetfilter/impl.fieldShapes"], apart := false, laid := [("math/bits.deBruijn32tab", laid_math_bits_deBruijn32tab), ("math/bits.deBruijn64tab", laid_math_bits_deBruijn64tab), ("internal/strconv.uint64pow10", laid_internal_strconv_uint64pow10), ("loop.example/packetfilter/impl.fieldShapes", laid_loop_example_packetfilter_impl_fieldShapes)], narrowed := true }
def FnCompileTextUptoSaid : Prop := fnCompileTextUptoRow.holds Tryz.pinned (OpenSpec.upto fnCompileTextSpec)

end Rows
end Go.Proofs.YtgpdnnhmndlljaaGreatDoor
