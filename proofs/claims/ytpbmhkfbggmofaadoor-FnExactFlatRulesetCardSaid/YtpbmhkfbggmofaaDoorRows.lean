/-
  NARROWER THAN 'FOR EVERY INPUT', by the rows' own cells (each row's printed sentence says how): FnHitsJoin: laid · FnExactFlatRuleset: laid · FnHitCounts: laid · FnFlatRuleset: laid.
  DERIVED. THE GIVEN ROWS OF THIS SEAT. 4 by the template 'for every input the law returns true; each argument reads behind the call as it read before'; 0 by the template 'total and deterministic' (their statements: YtpbmhkfbggmofaaDoorTotals.lean).
  GIVEN WITH THE SEED: the statements are not yours to turn. If you find one false, say at which input.
  Laid BY PROGRAM, IN A SANDBOX (cutbox-rows.mjs): the forced cells as the released guide's own fill.sh prints them over the translation 5c483a63afd57e9d… (all of the seat's roots in one cut). By AI agents, Wed Nov 11 2026. No macro, syntax, notation, axiom, sorry.
-/
import Derived.Test.YtpbmhkfbggmofaaDoorChecked
import GoSem.Claim
import GoSem.ClaimJoined
import GoSem.ClaimMapViews
import Derived.JoinedTies
import Derived.KernelRfl
namespace Go.Proofs.YtpbmhkfbggmofaaDoor
/- THE CELL 'sum', in the pinned program and in every row, IS THE sha256 OF THE DUMP (.gsa) THAT YtpbmhkfbggmofaaDoorProg.lean LOADS. Nothing in Lean hashes anything: it is a label: what it is worth is what the hold of that sum in a sandbox is worth. -/
noncomputable def Tryd.pinned : Pinned := { name := "ytpbmhkfbggmofaadoor", sum := "5c483a63afd57e9d652bfed352f96713c1a6b44b27fa5f8daaf416e2207c4bcf", checked := Tryd.checked }
namespace Rows
def none {H : Type} : Left H := { results := [], args := [] }

/- WHAT THE LISTED PACKAGE-LEVEL VARIABLES READ AS WHEN THE CALL BEGINS. Each datum BY PROGRAM (the guide's laid-datum.mjs) off the statement by which the dump's own 'gosem.cut.vars' lays the variable. In a bare row this is a premise. The card (YtpbmhkfbggmofaaDoorCards.lean) ties it to the program's text. -/
def laid_loop_example_packetfilter_impl_fieldShapes {H : Type} : DataW H := .agg [.agg [.lit (.string [102, 114, 111, 109]), .lit (.int .i64 65535)], .agg [.lit (.string [116, 111]), .lit (.int .i64 65535)], .agg [.lit (.string [112, 111, 114, 116]), .lit (.int .i64 255)], .agg [.lit (.string [112, 114, 111, 116, 111]), .lit (.int .i64 7)]]

/-- 'laws.FnHitsJoin': WHATEVER THE INPUT: true; the input reads as it did. -/
def fnHitsJoinSpec : ChangeSpec := { name := "fnHitsJoin", vars := ["loop.example/packetfilter/impl.fieldShapes"], fn := fun _ => fun
  | [d, g1] => { results := [.lit (.bool true)], args := [d], vars := [g1] }
  | _ => none }
def fnHitsJoinRow : OpenClaim := { program := "ytpbmhkfbggmofaadoor", sum := "5c483a63afd57e9d652bfed352f96713c1a6b44b27fa5f8daaf416e2207c4bcf", func := "loop.example/packetfilter/laws.FnHitsJoin", spec := "fnHitsJoin", unfollowed := true, recurses := true, named := ["loop.example/packetfilter/impl.fieldShapes"], apart := false, laid := [("loop.example/packetfilter/impl.fieldShapes", laid_loop_example_packetfilter_impl_fieldShapes)] }
def FnHitsJoinSaid : Prop := fnHitsJoinRow.holds Tryd.pinned (OpenSpec.ofChange fnHitsJoinSpec)

/-- ITS FALSE NEIGHBOUR: 'it returns false'. Refute it at one input. -/
def fnHitsJoinWrong : ChangeSpec := { name := "fnHitsJoin", vars := ["loop.example/packetfilter/impl.fieldShapes"], fn := fun _ => fun
  | [d, g1] => { results := [.lit (.bool false)], args := [d], vars := [g1] }
  | _ => none }
def FnHitsJoinWrongFalsely : Prop := fnHitsJoinRow.holds Tryd.pinned (OpenSpec.ofChange fnHitsJoinWrong)

/-- 'laws.FnExactFlatRuleset': WHATEVER THE INPUT: true; the input reads as it did. -/
def fnExactFlatRulesetSpec : ChangeSpec := { name := "fnExactFlatRuleset", vars := ["loop.example/packetfilter/impl.fieldShapes"], fn := fun _ => fun
  | [d1, d2, g1] => { results := [.lit (.bool true)], args := [d1, d2], vars := [g1] }
  | _ => none }
def fnExactFlatRulesetRow : OpenClaim := { program := "ytpbmhkfbggmofaadoor", sum := "5c483a63afd57e9d652bfed352f96713c1a6b44b27fa5f8daaf416e2207c4bcf", func := "loop.example/packetfilter/laws.FnExactFlatRuleset", spec := "fnExactFlatRuleset", named := ["loop.example/packetfilter/impl.fieldShapes"], apart := false, laid := [("loop.example/packetfilter/impl.fieldShapes", laid_loop_example_packetfilter_impl_fieldShapes)] }
def FnExactFlatRulesetSaid : Prop := fnExactFlatRulesetRow.holds Tryd.pinned (OpenSpec.ofChange fnExactFlatRulesetSpec)

/-- ITS FALSE NEIGHBOUR: 'it returns false'. Refute it at one input. -/
def fnExactFlatRulesetWrong : ChangeSpec := { name := "fnExactFlatRuleset", vars := ["loop.example/packetfilter/impl.fieldShapes"], fn := fun _ => fun
  | [d1, d2, g1] => { results := [.lit (.bool false)], args := [d1, d2], vars := [g1] }
  | _ => none }
def FnExactFlatRulesetWrongFalsely : Prop := fnExactFlatRulesetRow.holds Tryd.pinned (OpenSpec.ofChange fnExactFlatRulesetWrong)

/-- 'laws.FnHitCounts': WHATEVER THE INPUT: true; the input reads as it did. -/
def fnHitCountsSpec : ChangeSpec := { name := "fnHitCounts", vars := ["loop.example/packetfilter/impl.fieldShapes"], fn := fun _ => fun
  | [d, g1] => { results := [.lit (.bool true)], args := [d], vars := [g1] }
  | _ => none }
def fnHitCountsRow : OpenClaim := { program := "ytpbmhkfbggmofaadoor", sum := "5c483a63afd57e9d652bfed352f96713c1a6b44b27fa5f8daaf416e2207c4bcf", func := "loop.example/packetfilter/laws.FnHitCounts", spec := "fnHitCounts", unfollowed := true, recurses := true, named := ["loop.example/packetfilter/impl.fieldShapes"], apart := false, laid := [("loop.example/packetfilter/impl.fieldShapes", laid_loop_example_packetfilter_impl_fieldShapes)] }
def FnHitCountsSaid : Prop := fnHitCountsRow.holds Tryd.pinned (OpenSpec.ofChange fnHitCountsSpec)

/-- ITS FALSE NEIGHBOUR: 'it returns false'. Refute it at one input. -/
def fnHitCountsWrong : ChangeSpec := { name := "fnHitCounts", vars := ["loop.example/packetfilter/impl.fieldShapes"], fn := fun _ => fun
  | [d, g1] => { results := [.lit (.bool false)], args := [d], vars := [g1] }
  | _ => none }
def FnHitCountsWrongFalsely : Prop := fnHitCountsRow.holds Tryd.pinned (OpenSpec.ofChange fnHitCountsWrong)

/-- 'laws.FnFlatRuleset': WHATEVER THE INPUT: true; the input reads as it did. -/
def fnFlatRulesetSpec : ChangeSpec := { name := "fnFlatRuleset", vars := ["loop.example/packetfilter/impl.fieldShapes"], fn := fun _ => fun
  | [d1, d2, g1] => { results := [.lit (.bool true)], args := [d1, d2], vars := [g1] }
  | _ => none }
def fnFlatRulesetRow : OpenClaim := { program := "ytpbmhkfbggmofaadoor", sum := "5c483a63afd57e9d652bfed352f96713c1a6b44b27fa5f8daaf416e2207c4bcf", func := "loop.example/packetfilter/laws.FnFlatRuleset", spec := "fnFlatRuleset", unfollowed := true, recurses := true, named := ["loop.example/packetfilter/impl.fieldShapes"], apart := false, laid := [("loop.example/packetfilter/impl.fieldShapes", laid_loop_example_packetfilter_impl_fieldShapes)] }
def FnFlatRulesetSaid : Prop := fnFlatRulesetRow.holds Tryd.pinned (OpenSpec.ofChange fnFlatRulesetSpec)

/-- ITS FALSE NEIGHBOUR: 'it returns false'. Refute it at one input. -/
def fnFlatRulesetWrong : ChangeSpec := { name := "fnFlatRuleset", vars := ["loop.example/packetfilter/impl.fieldShapes"], fn := fun _ => fun
  | [d1, d2, g1] => { results := [.lit (.bool false)], args := [d1, d2], vars := [g1] }
  | _ => none }
def FnFlatRulesetWrongFalsely : Prop := fnFlatRulesetRow.holds Tryd.pinned (OpenSpec.ofChange fnFlatRulesetWrong)

/- THE SECOND FORM. 'bulk': how many values and letters a reading holds, each counted each time it is reached (what is shared counts as often as it is met; a slice's spare places count too). A statement '..UptoSaid' is the law's where the arguments, and the package variables that the reading takes, are together of bulk at most 1048576: NARROWER than '..Said'. Prove '..Said' where nothing that the law and all that it calls make is longer than what came in: it says more and counts as full. Else prove '..UptoSaid'. A law counts once. -/
mutual
def uptoBulk {H : Type} : DataW H → Nat
  | .lit (.string bytes) => bytes.length + 1
  | .lit _ => 1
  | .nil => 1
  | .ptr d => uptoBulk d + 1
  | .slice elems spare => uptoBulkAll elems + uptoBulkAll spare + 1
  | .agg parts => uptoBulkAll parts + 1
  | .iface _ d => uptoBulk d + 1
  | .map entries => uptoBulkEntries entries + 1
  | .held _ => 1
def uptoBulkAll {H : Type} : List (DataW H) → Nat
  | [] => 0
  | d :: r => uptoBulk d + uptoBulkAll r
def uptoBulkEntries {H : Type} : List (Lit × DataW H) → Nat
  | [] => 0
  | x :: r => uptoBulkEntry x + uptoBulkEntries r
def uptoBulkEntry {H : Type} : Lit × DataW H → Nat
  | (.string bytes, d) => bytes.length + uptoBulk d + 1
  | (_, d) => uptoBulk d + 1
 end
def uptoSmall : (H : Type) → List (DataW H) → Bool := fun _ ds => decide (uptoBulkAll ds ≤ 1048576)
def OpenSpec.upto (s : _root_.Go.ChangeSpec) : _root_.Go.OpenSpec := { _root_.Go.OpenSpec.ofChange s with cond := some uptoSmall }

/-- 'laws.FnHitsJoin', WHERE WHAT IT READS IS OF BULK AT MOST 1048576: true; the input reads as it did. -/
def fnHitsJoinUptoRow : OpenClaim := { program := "ytpbmhkfbggmofaadoor", sum := "5c483a63afd57e9d652bfed352f96713c1a6b44b27fa5f8daaf416e2207c4bcf", func := "loop.example/packetfilter/laws.FnHitsJoin", spec := "fnHitsJoin", unfollowed := true, recurses := true, named := ["loop.example/packetfilter/impl.fieldShapes"], apart := false, laid := [("loop.example/packetfilter/impl.fieldShapes", laid_loop_example_packetfilter_impl_fieldShapes)], narrowed := true }
def FnHitsJoinUptoSaid : Prop := fnHitsJoinUptoRow.holds Tryd.pinned (OpenSpec.upto fnHitsJoinSpec)

/-- 'laws.FnExactFlatRuleset', WHERE WHAT IT READS IS OF BULK AT MOST 1048576: true; the input reads as it did. -/
def fnExactFlatRulesetUptoRow : OpenClaim := { program := "ytpbmhkfbggmofaadoor", sum := "5c483a63afd57e9d652bfed352f96713c1a6b44b27fa5f8daaf416e2207c4bcf", func := "loop.example/packetfilter/laws.FnExactFlatRuleset", spec := "fnExactFlatRuleset", named := ["loop.example/packetfilter/impl.fieldShapes"], apart := false, laid := [("loop.example/packetfilter/impl.fieldShapes", laid_loop_example_packetfilter_impl_fieldShapes)], narrowed := true }
def FnExactFlatRulesetUptoSaid : Prop := fnExactFlatRulesetUptoRow.holds Tryd.pinned (OpenSpec.upto fnExactFlatRulesetSpec)

/-- 'laws.FnHitCounts', WHERE WHAT IT READS IS OF BULK AT MOST 1048576: true; the input reads as it did. -/
def fnHitCountsUptoRow : OpenClaim := { program := "ytpbmhkfbggmofaadoor", sum := "5c483a63afd57e9d652bfed352f96713c1a6b44b27fa5f8daaf416e2207c4bcf", func := "loop.example/packetfilter/laws.FnHitCounts", spec := "fnHitCounts", unfollowed := true, recurses := true, named := ["loop.example/packetfilter/impl.fieldShapes"], apart := false, laid := [("loop.example/packetfilter/impl.fieldShapes", laid_loop_example_packetfilter_impl_fieldShapes)], narrowed := true }
def FnHitCountsUptoSaid : Prop := fnHitCountsUptoRow.holds Tryd.pinned (OpenSpec.upto fnHitCountsSpec)

/-- 'laws.FnFlatRuleset', WHERE WHAT IT READS IS OF BULK AT MOST 1048576: true; the input reads as it did. -/
def fnFlatRulesetUptoRow : OpenClaim := { program := "ytpbmhkfbggmofaadoor", sum := "5c483a63afd57e9d652bfed352f96713c1a6b44b27fa5f8daaf416e2207c4bcf", func := "loop.example/packetfilter/laws.FnFlatRuleset", spec := "fnFlatRuleset", unfollowed := true, recurses := true, named := ["loop.example/packetfilter/impl.fieldShapes"], apart := false, laid := [("loop.example/packetfilter/impl.fieldShapes", laid_loop_example_packetfilter_impl_fieldShapes)], narrowed := true }
def FnFlatRulesetUptoSaid : Prop := fnFlatRulesetUptoRow.holds Tryd.pinned (OpenSpec.upto fnFlatRulesetSpec)

end Rows
end Go.Proofs.YtpbmhkfbggmofaaDoor
