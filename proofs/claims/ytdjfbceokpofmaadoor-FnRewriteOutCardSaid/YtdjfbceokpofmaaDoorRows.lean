/-
  NARROWER THAN 'FOR EVERY INPUT', by the rows' own cells (each row's printed sentence says how): FnExactRewriteIn: laid · FnExactRewriteOut: laid · FnSplitRewrite: laid · FnRewriteIn: laid · FnRewriteOut: laid.
  DERIVED. THE GIVEN ROWS OF THIS SEAT. 5 by the template 'for every input the law returns true; each argument reads behind the call as it read before'; 0 by the template 'total and deterministic' (their statements: YtdjfbceokpofmaaDoorTotals.lean).
  GIVEN WITH THE SEED: the statements are not yours to turn. If you find one false, say at which input.
  Laid BY PROGRAM, IN A SANDBOX (cutbox-rows.mjs): the forced cells as the released guide's own fill.sh prints them over the translation 0b75fb9b67fc0dd3… (all of the seat's roots in one cut). By AI agents, Wed Nov 11 2026. No macro, syntax, notation, axiom, sorry.
-/
import Derived.Test.YtdjfbceokpofmaaDoorChecked
import GoSem.Claim
import GoSem.ClaimJoined
import GoSem.ClaimMapViews
import Derived.JoinedTies
import Derived.KernelRfl
namespace Go.Proofs.YtdjfbceokpofmaaDoor
/- THE CELL 'sum', in the pinned program and in every row, IS THE sha256 OF THE DUMP (.gsa) THAT YtdjfbceokpofmaaDoorProg.lean LOADS. Nothing in Lean hashes anything: it is a label: what it is worth is what the hold of that sum in a sandbox is worth. -/
noncomputable def Tryd.pinned : Pinned := { name := "ytdjfbceokpofmaadoor", sum := "0b75fb9b67fc0dd37776a64df928e420a9e983cfb76a5c49f39aa5f83557349e", checked := Tryd.checked }
namespace Rows
def none {H : Type} : Left H := { results := [], args := [] }

/- WHAT THE LISTED PACKAGE-LEVEL VARIABLES READ AS WHEN THE CALL BEGINS. Each datum BY PROGRAM (the guide's laid-datum.mjs) off the statement by which the dump's own 'gosem.cut.vars' lays the variable. In a bare row this is a premise. The card (YtdjfbceokpofmaaDoorCards.lean) ties it to the program's text. -/
def laid_loop_example_packetfilter_impl_fieldShapes {H : Type} : DataW H := .agg [.agg [.lit (.string [102, 114, 111, 109]), .lit (.int .i64 65535)], .agg [.lit (.string [116, 111]), .lit (.int .i64 65535)], .agg [.lit (.string [112, 111, 114, 116]), .lit (.int .i64 255)], .agg [.lit (.string [112, 114, 111, 116, 111]), .lit (.int .i64 7)]]

/-- 'laws.FnExactRewriteIn': WHATEVER THE INPUT: true; the input reads as it did. -/
def fnExactRewriteInSpec : ChangeSpec := { name := "fnExactRewriteIn", vars := ["loop.example/packetfilter/impl.fieldShapes"], fn := fun _ => fun
  | [d1, d2, g1] => { results := [.lit (.bool true)], args := [d1, d2], vars := [g1] }
  | _ => none }
def fnExactRewriteInRow : OpenClaim := { program := "ytdjfbceokpofmaadoor", sum := "0b75fb9b67fc0dd37776a64df928e420a9e983cfb76a5c49f39aa5f83557349e", func := "loop.example/packetfilter/laws.FnExactRewriteIn", spec := "fnExactRewriteIn", unfollowed := true, recurses := true, named := ["loop.example/packetfilter/impl.fieldShapes"], apart := false, laid := [("loop.example/packetfilter/impl.fieldShapes", laid_loop_example_packetfilter_impl_fieldShapes)] }
def FnExactRewriteInSaid : Prop := fnExactRewriteInRow.holds Tryd.pinned (OpenSpec.ofChange fnExactRewriteInSpec)

/-- ITS FALSE NEIGHBOUR: 'it returns false'. Refute it at one input. -/
def fnExactRewriteInWrong : ChangeSpec := { name := "fnExactRewriteIn", vars := ["loop.example/packetfilter/impl.fieldShapes"], fn := fun _ => fun
  | [d1, d2, g1] => { results := [.lit (.bool false)], args := [d1, d2], vars := [g1] }
  | _ => none }
def FnExactRewriteInWrongFalsely : Prop := fnExactRewriteInRow.holds Tryd.pinned (OpenSpec.ofChange fnExactRewriteInWrong)

/-- 'laws.FnExactRewriteOut': WHATEVER THE INPUT: true; the input reads as it did. -/
def fnExactRewriteOutSpec : ChangeSpec := { name := "fnExactRewriteOut", vars := ["loop.example/packetfilter/impl.fieldShapes"], fn := fun _ => fun
  | [d1, d2, g1] => { results := [.lit (.bool true)], args := [d1, d2], vars := [g1] }
  | _ => none }
def fnExactRewriteOutRow : OpenClaim := { program := "ytdjfbceokpofmaadoor", sum := "0b75fb9b67fc0dd37776a64df928e420a9e983cfb76a5c49f39aa5f83557349e", func := "loop.example/packetfilter/laws.FnExactRewriteOut", spec := "fnExactRewriteOut", unfollowed := true, recurses := true, named := ["loop.example/packetfilter/impl.fieldShapes"], apart := false, laid := [("loop.example/packetfilter/impl.fieldShapes", laid_loop_example_packetfilter_impl_fieldShapes)] }
def FnExactRewriteOutSaid : Prop := fnExactRewriteOutRow.holds Tryd.pinned (OpenSpec.ofChange fnExactRewriteOutSpec)

/-- ITS FALSE NEIGHBOUR: 'it returns false'. Refute it at one input. -/
def fnExactRewriteOutWrong : ChangeSpec := { name := "fnExactRewriteOut", vars := ["loop.example/packetfilter/impl.fieldShapes"], fn := fun _ => fun
  | [d1, d2, g1] => { results := [.lit (.bool false)], args := [d1, d2], vars := [g1] }
  | _ => none }
def FnExactRewriteOutWrongFalsely : Prop := fnExactRewriteOutRow.holds Tryd.pinned (OpenSpec.ofChange fnExactRewriteOutWrong)

/-- 'laws.FnSplitRewrite': WHATEVER THE INPUT: true; the input reads as it did. -/
def fnSplitRewriteSpec : ChangeSpec := { name := "fnSplitRewrite", vars := ["loop.example/packetfilter/impl.fieldShapes"], fn := fun _ => fun
  | [d1, d2, g1] => { results := [.lit (.bool true)], args := [d1, d2], vars := [g1] }
  | _ => none }
def fnSplitRewriteRow : OpenClaim := { program := "ytdjfbceokpofmaadoor", sum := "0b75fb9b67fc0dd37776a64df928e420a9e983cfb76a5c49f39aa5f83557349e", func := "loop.example/packetfilter/laws.FnSplitRewrite", spec := "fnSplitRewrite", unfollowed := true, recurses := true, named := ["loop.example/packetfilter/impl.fieldShapes"], apart := false, laid := [("loop.example/packetfilter/impl.fieldShapes", laid_loop_example_packetfilter_impl_fieldShapes)] }
def FnSplitRewriteSaid : Prop := fnSplitRewriteRow.holds Tryd.pinned (OpenSpec.ofChange fnSplitRewriteSpec)

/-- ITS FALSE NEIGHBOUR: 'it returns false'. Refute it at one input. -/
def fnSplitRewriteWrong : ChangeSpec := { name := "fnSplitRewrite", vars := ["loop.example/packetfilter/impl.fieldShapes"], fn := fun _ => fun
  | [d1, d2, g1] => { results := [.lit (.bool false)], args := [d1, d2], vars := [g1] }
  | _ => none }
def FnSplitRewriteWrongFalsely : Prop := fnSplitRewriteRow.holds Tryd.pinned (OpenSpec.ofChange fnSplitRewriteWrong)

/-- 'laws.FnRewriteIn': WHATEVER THE INPUT: true; the input reads as it did. -/
def fnRewriteInSpec : ChangeSpec := { name := "fnRewriteIn", vars := ["loop.example/packetfilter/impl.fieldShapes"], fn := fun _ => fun
  | [d, g1] => { results := [.lit (.bool true)], args := [d], vars := [g1] }
  | _ => none }
def fnRewriteInRow : OpenClaim := { program := "ytdjfbceokpofmaadoor", sum := "0b75fb9b67fc0dd37776a64df928e420a9e983cfb76a5c49f39aa5f83557349e", func := "loop.example/packetfilter/laws.FnRewriteIn", spec := "fnRewriteIn", unfollowed := true, recurses := true, named := ["loop.example/packetfilter/impl.fieldShapes"], apart := false, laid := [("loop.example/packetfilter/impl.fieldShapes", laid_loop_example_packetfilter_impl_fieldShapes)] }
def FnRewriteInSaid : Prop := fnRewriteInRow.holds Tryd.pinned (OpenSpec.ofChange fnRewriteInSpec)

/-- ITS FALSE NEIGHBOUR: 'it returns false'. Refute it at one input. -/
def fnRewriteInWrong : ChangeSpec := { name := "fnRewriteIn", vars := ["loop.example/packetfilter/impl.fieldShapes"], fn := fun _ => fun
  | [d, g1] => { results := [.lit (.bool false)], args := [d], vars := [g1] }
  | _ => none }
def FnRewriteInWrongFalsely : Prop := fnRewriteInRow.holds Tryd.pinned (OpenSpec.ofChange fnRewriteInWrong)

/-- 'laws.FnRewriteOut': WHATEVER THE INPUT: true; the input reads as it did. -/
def fnRewriteOutSpec : ChangeSpec := { name := "fnRewriteOut", vars := ["loop.example/packetfilter/impl.fieldShapes"], fn := fun _ => fun
  | [d, g1] => { results := [.lit (.bool true)], args := [d], vars := [g1] }
  | _ => none }
def fnRewriteOutRow : OpenClaim := { program := "ytdjfbceokpofmaadoor", sum := "0b75fb9b67fc0dd37776a64df928e420a9e983cfb76a5c49f39aa5f83557349e", func := "loop.example/packetfilter/laws.FnRewriteOut", spec := "fnRewriteOut", unfollowed := true, recurses := true, named := ["loop.example/packetfilter/impl.fieldShapes"], apart := false, laid := [("loop.example/packetfilter/impl.fieldShapes", laid_loop_example_packetfilter_impl_fieldShapes)] }
def FnRewriteOutSaid : Prop := fnRewriteOutRow.holds Tryd.pinned (OpenSpec.ofChange fnRewriteOutSpec)

/-- ITS FALSE NEIGHBOUR: 'it returns false'. Refute it at one input. -/
def fnRewriteOutWrong : ChangeSpec := { name := "fnRewriteOut", vars := ["loop.example/packetfilter/impl.fieldShapes"], fn := fun _ => fun
  | [d, g1] => { results := [.lit (.bool false)], args := [d], vars := [g1] }
  | _ => none }
def FnRewriteOutWrongFalsely : Prop := fnRewriteOutRow.holds Tryd.pinned (OpenSpec.ofChange fnRewriteOutWrong)

/- THE SECOND FORM. 'bulk': how many values and letters a reading holds, each counted each time it is reached (what is shared counts as often as it is met; a slice's spare places count too). A statement '..UptoSaid' is the law's where the arguments, and the package variables that the reading takes, are together of bulk at most 1048576: NARROWER than '..Said'. Prove '..Said' where nothing that the law and all that it calls make is longer than what came in: it says more and counts as full. Else prove '..UptoSaid'. A law counts once. -/
mutual
def uptoBulk {H : Type} : DataW H → Nat
  | .lit (.string bytes) => bytes.length + 1
  | .lit _ => 1
  | .nil => 1
  | .ptr d => uptoBulk d + 1
  | .slice elems spare => uptoBulkAll elems + uptoBulkAll spare + 1
  | .agg parts => uptoBulkAll parts + 1
  | .iface _ d => uptoBulk d + 1
  | .map entries => uptoBulkEntries entries + 1
  | .held _ => 1
def uptoBulkAll {H : Type} : List (DataW H) → Nat
  | [] => 0
  | d :: r => uptoBulk d + uptoBulkAll r
def uptoBulkEntries {H : Type} : List (Lit × DataW H) → Nat
  | [] => 0
  | x :: r => uptoBulkEntry x + uptoBulkEntries r
def uptoBulkEntry {H : Type} : Lit × DataW H → Nat
  | (.string bytes, d) => bytes.length + uptoBulk d + 1
  | (_, d) => uptoBulk d + 1
 end
def uptoSmall : (H : Type) → List (DataW H) → Bool := fun _ ds => decide (uptoBulkAll ds ≤ 1048576)
def OpenSpec.upto (s : _root_.Go.ChangeSpec) : _root_.Go.OpenSpec := { _root_.Go.OpenSpec.ofChange s with cond := some uptoSmall }

/-- 'laws.FnExactRewriteIn', WHERE WHAT IT READS IS OF BULK AT MOST 1048576: true; the input reads as it did. -/
def fnExactRewriteInUptoRow : OpenClaim := { program := "ytdjfbceokpofmaadoor", sum := "0b75fb9b67fc0dd37776a64df928e420a9e983cfb76a5c49f39aa5f83557349e", func := "loop.example/packetfilter/laws.FnExactRewriteIn", spec := "fnExactRewriteIn", unfollowed := true, recurses := true, named := ["loop.example/packetfilter/impl.fieldShapes"], apart := false, laid := [("loop.example/packetfilter/impl.fieldShapes", laid_loop_example_packetfilter_impl_fieldShapes)], narrowed := true }
def FnExactRewriteInUptoSaid : Prop := fnExactRewriteInUptoRow.holds Tryd.pinned (OpenSpec.upto fnExactRewriteInSpec)

/-- 'laws.FnExactRewriteOut', WHERE WHAT IT READS IS OF BULK AT MOST 1048576: true; the input reads as it did. -/
def fnExactRewriteOutUptoRow : OpenClaim := { program := "ytdjfbceokpofmaadoor", sum := "0b75fb9b67fc0dd37776a64df928e420a9e983cfb76a5c49f39aa5f83557349e", func := "loop.example/packetfilter/laws.FnExactRewriteOut", spec := "fnExactRewriteOut", unfollowed := true, recurses := true, named := ["loop.example/packetfilter/impl.fieldShapes"], apart := false, laid := [("loop.example/packetfilter/impl.fieldShapes", laid_loop_example_packetfilter_impl_fieldShapes)], narrowed := true }
def FnExactRewriteOutUptoSaid : Prop := fnExactRewriteOutUptoRow.holds Tryd.pinned (OpenSpec.upto fnExactRewriteOutSpec)

/-- 'laws.FnSplitRewrite', WHERE WHAT IT READS IS OF BULK AT MOST 1048576: true; the input reads as it did. -/
def fnSplitRewriteUptoRow : OpenClaim := { program := "ytdjfbceokpofmaadoor", sum := "0b75fb9b67fc0dd37776a64df928e420a9e983cfb76a5c49f39aa5f83557349e", func := "loop.example/packetfilter/laws.FnSplitRewrite", spec := "fnSplitRewrite", unfollowed := true, recurses := true, named := ["loop.example/packetfilter/impl.fieldShapes"], apart := false, laid := [("loop.example/packetfilter/impl.fieldShapes", laid_loop_example_packetfilter_impl_fieldShapes)], narrowed := true }
def FnSplitRewriteUptoSaid : Prop := fnSplitRewriteUptoRow.holds Tryd.pinned (OpenSpec.upto fnSplitRewriteSpec)

/-- 'laws.FnRewriteIn', WHERE WHAT IT READS IS OF BULK AT MOST 1048576: true; the input reads as it did. -/
def fnRewriteInUptoRow : OpenClaim := { program := "ytdjfbceokpofmaadoor", sum := "0b75fb9b67fc0dd37776a64df928e420a9e983cfb76a5c49f39aa5f83557349e", func := "loop.example/packetfilter/laws.FnRewriteIn", spec := "fnRewriteIn", unfollowed := true, recurses := true, named := ["loop.example/packetfilter/impl.fieldShapes"], apart := false, laid := [("loop.example/packetfilter/impl.fieldShapes", laid_loop_example_packetfilter_impl_fieldShapes)], narrowed := true }
def FnRewriteInUptoSaid : Prop := fnRewriteInUptoRow.holds Tryd.pinned (OpenSpec.upto fnRewriteInSpec)

/-- 'laws.FnRewriteOut', WHERE WHAT IT READS IS OF BULK AT MOST 1048576: true; the input reads as it did. -/
def fnRewriteOutUptoRow : OpenClaim := { program := "ytdjfbceokpofmaadoor", sum := "0b75fb9b67fc0dd37776a64df928e420a9e983cfb76a5c49f39aa5f83557349e", func := "loop.example/packetfilter/laws.FnRewriteOut", spec := "fnRewriteOut", unfollowed := true, recurses := true, named := ["loop.example/packetfilter/impl.fieldShapes"], apart := false, laid := [("loop.example/packetfilter/impl.fieldShapes", laid_loop_example_packetfilter_impl_fieldShapes)], narrowed := true }
def FnRewriteOutUptoSaid : Prop := fnRewriteOutUptoRow.holds Tryd.pinned (OpenSpec.upto fnRewriteOutSpec)

end Rows
end Go.Proofs.YtdjfbceokpofmaaDoor
