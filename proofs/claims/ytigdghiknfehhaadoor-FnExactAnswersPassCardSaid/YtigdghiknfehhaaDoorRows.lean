/-
  NARROWER THAN 'FOR EVERY INPUT', by the rows' own cells (each row's printed sentence says how): FnJudgeAll: laid · FnExactAnswersPass: laid · FnAnswersPass: laid · FnPassAll: laid · FnPassShort: laid · FnPassPacket: laid · FnExactPassPacket: laid · FnExactPassAll: laid.
  DERIVED. THE GIVEN ROWS OF THIS SEAT. 8 by the template 'for every input the law returns true; each argument reads behind the call as it read before'; 0 by the template 'total and deterministic' (their statements: YtigdghiknfehhaaDoorTotals.lean).
  GIVEN WITH THE SEED: the statements are not yours to turn. If you find one false, say at which input.
  Laid BY PROGRAM, IN A SANDBOX (cutbox-rows.mjs): the forced cells as the released guide's own fill.sh prints them over the translation 72a9d17410329e68… (all of the seat's roots in one cut). By AI agents, Wed Nov 11 2026. No macro, syntax, notation, axiom, sorry.
-/
import Derived.Test.YtigdghiknfehhaaDoorChecked
import GoSem.Claim
import GoSem.ClaimJoined
import GoSem.ClaimMapViews
import Derived.JoinedTies
import Derived.KernelRfl
namespace Go.Proofs.YtigdghiknfehhaaDoor
/- THE CELL 'sum', in the pinned program and in every row, IS THE sha256 OF THE DUMP (.gsa) THAT YtigdghiknfehhaaDoorProg.lean LOADS. Nothing in Lean hashes anything: it is a label: what it is worth is what the hold of that sum in a sandbox is worth. -/
noncomputable def Tryd.pinned : Pinned := { name := "ytigdghiknfehhaadoor", sum := "72a9d17410329e68bdaeb7808b4b51e21e7f2e264136e987355ebf23f0b37761", checked := Tryd.checked }
namespace Rows
def none {H : Type} : Left H := { results := [], args := [] }

/- WHAT THE LISTED PACKAGE-LEVEL VARIABLES READ AS WHEN THE CALL BEGINS. Each datum BY PROGRAM (the guide's laid-datum.mjs) off the statement by which the dump's own 'gosem.cut.vars' lays the variable. In a bare row this is a premise. The card (YtigdghiknfehhaaDoorCards.lean) ties it to the program's text. -/
def laid_loop_example_packetfilter_impl_fieldShapes {H : Type} : DataW H := .agg [.agg [.lit (.string [102, 114, 111, 109]), .lit (.int .i64 65535)], .agg [.lit (.string [116, 111]), .lit (.int .i64 65535)], .agg [.lit (.string [112, 111, 114, 116]), .lit (.int .i64 255)], .agg [.lit (.string [112, 114, 111, 116, 111]), .lit (.int .i64 7)]]

/-- 'laws.FnJudgeAll': WHATEVER THE INPUT: true; the input reads as it did. -/
def fnJudgeAllSpec : ChangeSpec := { name := "fnJudgeAll", vars := ["loop.example/packetfilter/impl.fieldShapes"], fn := fun _ => fun
  | [d, g1] => { results := [.lit (.bool true)], args := [d], vars := [g1] }
  | _ => none }
def fnJudgeAllRow : OpenClaim := { program := "ytigdghiknfehhaadoor", sum := "72a9d17410329e68bdaeb7808b4b51e21e7f2e264136e987355ebf23f0b37761", func := "loop.example/packetfilter/laws.FnJudgeAll", spec := "fnJudgeAll", unfollowed := true, recurses := true, named := ["loop.example/packetfilter/impl.fieldShapes"], plainKeys := false, apart := false, laid := [("loop.example/packetfilter/impl.fieldShapes", laid_loop_example_packetfilter_impl_fieldShapes)] }
def FnJudgeAllSaid : Prop := fnJudgeAllRow.holds Tryd.pinned (OpenSpec.ofChange fnJudgeAllSpec)

/-- ITS FALSE NEIGHBOUR: 'it returns false'. Refute it at one input. -/
def fnJudgeAllWrong : ChangeSpec := { name := "fnJudgeAll", vars := ["loop.example/packetfilter/impl.fieldShapes"], fn := fun _ => fun
  | [d, g1] => { results := [.lit (.bool false)], args := [d], vars := [g1] }
  | _ => none }
def FnJudgeAllWrongFalsely : Prop := fnJudgeAllRow.holds Tryd.pinned (OpenSpec.ofChange fnJudgeAllWrong)

/-- 'laws.FnExactAnswersPass': WHATEVER THE INPUT: true; the input reads as it did. -/
def fnExactAnswersPassSpec : ChangeSpec := { name := "fnExactAnswersPass", vars := ["loop.example/packetfilter/impl.fieldShapes"], fn := fun _ => fun
  | [d1, d2, d3, d4, g1] => { results := [.lit (.bool true)], args := [d1, d2, d3, d4], vars := [g1] }
  | _ => none }
def fnExactAnswersPassRow : OpenClaim := { program := "ytigdghiknfehhaadoor", sum := "72a9d17410329e68bdaeb7808b4b51e21e7f2e264136e987355ebf23f0b37761", func := "loop.example/packetfilter/laws.FnExactAnswersPass", spec := "fnExactAnswersPass", unfollowed := true, recurses := true, named := ["loop.example/packetfilter/impl.fieldShapes"], plainKeys := false, apart := false, laid := [("loop.example/packetfilter/impl.fieldShapes", laid_loop_example_packetfilter_impl_fieldShapes)] }
def FnExactAnswersPassSaid : Prop := fnExactAnswersPassRow.holds Tryd.pinned (OpenSpec.ofChange fnExactAnswersPassSpec)

/-- ITS FALSE NEIGHBOUR: 'it returns false'. Refute it at one input. -/
def fnExactAnswersPassWrong : ChangeSpec := { name := "fnExactAnswersPass", vars := ["loop.example/packetfilter/impl.fieldShapes"], fn := fun _ => fun
  | [d1, d2, d3, d4, g1] => { results := [.lit (.bool false)], args := [d1, d2, d3, d4], vars := [g1] }
  | _ => none }
def FnExactAnswersPassWrongFalsely : Prop := fnExactAnswersPassRow.holds Tryd.pinned (OpenSpec.ofChange fnExactAnswersPassWrong)

/-- 'laws.FnAnswersPass': WHATEVER THE INPUT: true; the input reads as it did. -/
def fnAnswersPassSpec : ChangeSpec := { name := "fnAnswersPass", vars := ["loop.example/packetfilter/impl.fieldShapes"], fn := fun _ => fun
  | [d, g1] => { results := [.lit (.bool true)], args := [d], vars := [g1] }
  | _ => none }
def fnAnswersPassRow : OpenClaim := { program := "ytigdghiknfehhaadoor", sum := "72a9d17410329e68bdaeb7808b4b51e21e7f2e264136e987355ebf23f0b37761", func := "loop.example/packetfilter/laws.FnAnswersPass", spec := "fnAnswersPass", unfollowed := true, recurses := true, named := ["loop.example/packetfilter/impl.fieldShapes"], plainKeys := false, apart := false, laid := [("loop.example/packetfilter/impl.fieldShapes", laid_loop_example_packetfilter_impl_fieldShapes)] }
def FnAnswersPassSaid : Prop := fnAnswersPassRow.holds Tryd.pinned (OpenSpec.ofChange fnAnswersPassSpec)

/-- ITS FALSE NEIGHBOUR: 'it returns false'. Refute it at one input. -/
def fnAnswersPassWrong : ChangeSpec := { name := "fnAnswersPass", vars := ["loop.example/packetfilter/impl.fieldShapes"], fn := fun _ => fun
  | [d, g1] => { results := [.lit (.bool false)], args := [d], vars := [g1] }
  | _ => none }
def FnAnswersPassWrongFalsely : Prop := fnAnswersPassRow.holds Tryd.pinned (OpenSpec.ofChange fnAnswersPassWrong)

/-- 'laws.FnPassAll': WHATEVER THE INPUT: true; the input reads as it did. -/
def fnPassAllSpec : ChangeSpec := { name := "fnPassAll", vars := ["loop.example/packetfilter/impl.fieldShapes"], fn := fun _ => fun
  | [d, g1] => { results := [.lit (.bool true)], args := [d], vars := [g1] }
  | _ => none }
def fnPassAllRow : OpenClaim := { program := "ytigdghiknfehhaadoor", sum := "72a9d17410329e68bdaeb7808b4b51e21e7f2e264136e987355ebf23f0b37761", func := "loop.example/packetfilter/laws.FnPassAll", spec := "fnPassAll", unfollowed := true, recurses := true, named := ["loop.example/packetfilter/impl.fieldShapes"], plainKeys := false, apart := false, laid := [("loop.example/packetfilter/impl.fieldShapes", laid_loop_example_packetfilter_impl_fieldShapes)] }
def FnPassAllSaid : Prop := fnPassAllRow.holds Tryd.pinned (OpenSpec.ofChange fnPassAllSpec)

/-- ITS FALSE NEIGHBOUR: 'it returns false'. Refute it at one input. -/
def fnPassAllWrong : ChangeSpec := { name := "fnPassAll", vars := ["loop.example/packetfilter/impl.fieldShapes"], fn := fun _ => fun
  | [d, g1] => { results := [.lit (.bool false)], args := [d], vars := [g1] }
  | _ => none }
def FnPassAllWrongFalsely : Prop := fnPassAllRow.holds Tryd.pinned (OpenSpec.ofChange fnPassAllWrong)

/-- 'laws.FnPassShort': WHATEVER THE INPUT: true; the input reads as it did. -/
def fnPassShortSpec : ChangeSpec := { name := "fnPassShort", vars := ["loop.example/packetfilter/impl.fieldShapes"], fn := fun _ => fun
  | [d, g1] => { results := [.lit (.bool true)], args := [d], vars := [g1] }
  | _ => none }
def fnPassShortRow : OpenClaim := { program := "ytigdghiknfehhaadoor", sum := "72a9d17410329e68bdaeb7808b4b51e21e7f2e264136e987355ebf23f0b37761", func := "loop.example/packetfilter/laws.FnPassShort", spec := "fnPassShort", unfollowed := true, recurses := true, named := ["loop.example/packetfilter/impl.fieldShapes"], plainKeys := false, apart := false, laid := [("loop.example/packetfilter/impl.fieldShapes", laid_loop_example_packetfilter_impl_fieldShapes)] }
def FnPassShortSaid : Prop := fnPassShortRow.holds Tryd.pinned (OpenSpec.ofChange fnPassShortSpec)

/-- ITS FALSE NEIGHBOUR: 'it returns false'. Refute it at one input. -/
def fnPassShortWrong : ChangeSpec := { name := "fnPassShort", vars := ["loop.example/packetfilter/impl.fieldShapes"], fn := fun _ => fun
  | [d, g1] => { results := [.lit (.bool false)], args := [d], vars := [g1] }
  | _ => none }
def FnPassShortWrongFalsely : Prop := fnPassShortRow.holds Tryd.pinned (OpenSpec.ofChange fnPassShortWrong)

/-- 'laws.FnPassPacket': WHATEVER THE INPUT: true; the input reads as it did. -/
def fnPassPacketSpec : ChangeSpec := { name := "fnPassPacket", vars := ["loop.example/packetfilter/impl.fieldShapes"], fn := fun _ => fun
  | [d, g1] => { results := [.lit (.bool true)], args := [d], vars := [g1] }
  | _ => none }
def fnPassPacketRow : OpenClaim := { program := "ytigdghiknfehhaadoor", sum := "72a9d17410329e68bdaeb7808b4b51e21e7f2e264136e987355ebf23f0b37761", func := "loop.example/packetfilter/laws.FnPassPacket", spec := "fnPassPacket", unfollowed := true, recurses := true, named := ["loop.example/packetfilter/impl.fieldShapes"], plainKeys := false, apart := false, laid := [("loop.example/packetfilter/impl.fieldShapes", laid_loop_example_packetfilter_impl_fieldShapes)] }
def FnPassPacketSaid : Prop := fnPassPacketRow.holds Tryd.pinned (OpenSpec.ofChange fnPassPacketSpec)

/-- ITS FALSE NEIGHBOUR: 'it returns false'. Refute it at one input. -/
def fnPassPacketWrong : ChangeSpec := { name := "fnPassPacket", vars := ["loop.example/packetfilter/impl.fieldShapes"], fn := fun _ => fun
  | [d, g1] => { results := [.lit (.bool false)], args := [d], vars := [g1] }
  | _ => none }
def FnPassPacketWrongFalsely : Prop := fnPassPacketRow.holds Tryd.pinned (OpenSpec.ofChange fnPassPacketWrong)

/-- 'laws.FnExactPassPacket': WHATEVER THE INPUT: true; the input reads as it did. -/
def fnExactPassPacketSpec : ChangeSpec := { name := "fnExactPassPacket", vars := ["loop.example/packetfilter/impl.fieldShapes"], fn := fun _ => fun
  | [d1, d2, d3, d4, d5, g1] => { results := [.lit (.bool true)], args := [d1, d2, d3, d4, d5], vars := [g1] }
  | _ => none }
def fnExactPassPacketRow : OpenClaim := { program := "ytigdghiknfehhaadoor", sum := "72a9d17410329e68bdaeb7808b4b51e21e7f2e264136e987355ebf23f0b37761", func := "loop.example/packetfilter/laws.FnExactPassPacket", spec := "fnExactPassPacket", unfollowed := true, recurses := true, named := ["loop.example/packetfilter/impl.fieldShapes"], plainKeys := false, apart := false, laid := [("loop.example/packetfilter/impl.fieldShapes", laid_loop_example_packetfilter_impl_fieldShapes)] }
def FnExactPassPacketSaid : Prop := fnExactPassPacketRow.holds Tryd.pinned (OpenSpec.ofChange fnExactPassPacketSpec)

/-- ITS FALSE NEIGHBOUR: 'it returns false'. Refute it at one input. -/
def fnExactPassPacketWrong : ChangeSpec := { name := "fnExactPassPacket", vars := ["loop.example/packetfilter/impl.fieldShapes"], fn := fun _ => fun
  | [d1, d2, d3, d4, d5, g1] => { results := [.lit (.bool false)], args := [d1, d2, d3, d4, d5], vars := [g1] }
  | _ => none }
def FnExactPassPacketWrongFalsely : Prop := fnExactPassPacketRow.holds Tryd.pinned (OpenSpec.ofChange fnExactPassPacketWrong)

/-- 'laws.FnExactPassAll': WHATEVER THE INPUT: true; the input reads as it did. -/
def fnExactPassAllSpec : ChangeSpec := { name := "fnExactPassAll", vars := ["loop.example/packetfilter/impl.fieldShapes"], fn := fun _ => fun
  | [d1, d2, d3, d4, g1] => { results := [.lit (.bool true)], args := [d1, d2, d3, d4], vars := [g1] }
  | _ => none }
def fnExactPassAllRow : OpenClaim := { program := "ytigdghiknfehhaadoor", sum := "72a9d17410329e68bdaeb7808b4b51e21e7f2e264136e987355ebf23f0b37761", func := "loop.example/packetfilter/laws.FnExactPassAll", spec := "fnExactPassAll", unfollowed := true, recurses := true, named := ["loop.example/packetfilter/impl.fieldShapes"], plainKeys := false, apart := false, laid := [("loop.example/packetfilter/impl.fieldShapes", laid_loop_example_packetfilter_impl_fieldShapes)] }
def FnExactPassAllSaid : Prop := fnExactPassAllRow.holds Tryd.pinned (OpenSpec.ofChange fnExactPassAllSpec)

/-- ITS FALSE NEIGHBOUR: 'it returns false'. Refute it at one input. -/
def fnExactPassAllWrong : ChangeSpec := { name := "fnExactPassAll", vars := ["loop.example/packetfilter/impl.fieldShapes"], fn := fun _ => fun
  | [d1, d2, d3, d4, g1] => { results := [.lit (.bool false)], args := [d1, d2, d3, d4], vars := [g1] }
  | _ => none }
def FnExactPassAllWrongFalsely : Prop := fnExactPassAllRow.holds Tryd.pinned (OpenSpec.ofChange fnExactPassAllWrong)

/- THE SECOND FORM. 'bulk': how many values and letters a reading holds, each counted each time it is reached (what is shared counts as often as it is met; a slice's spare places count too). A statement '..UptoSaid' is the law's where the arguments, and the package variables that the reading takes, are together of bulk at most 1048576: NARROWER than '..Said'. Prove '..Said' where nothing that the law and all that it calls make is longer than what came in: it says more and counts as full. Else prove '..UptoSaid'. A law counts once. -/
mutual
def uptoBulk {H : Type} : DataW H → Nat
  | .lit (.string bytes) => bytes.length + 1
  | .lit _ => 1
  | .nil => 1
  | .ptr d => uptoBulk d + 1
  | .slice elems spare => uptoBulkAll elems + uptoBulkAll spare + 1
  | .agg parts => uptoBulkAll parts + 1
  | .iface _ d => uptoBulk d + 1
  | .map entries => uptoBulkEntries entries + 1
  | .held _ => 1
def uptoBulkAll {H : Type} : List (DataW H) → Nat
  | [] => 0
  | d :: r => uptoBulk d + uptoBulkAll r
def uptoBulkEntries {H : Type} : List (Lit × DataW H) → Nat
  | [] => 0
  | x :: r => uptoBulkEntry x + uptoBulkEntries r
def uptoBulkEntry {H : Type} : Lit × DataW H → Nat
  | (.string bytes, d) => bytes.length + uptoBulk d + 1
  | (_, d) => uptoBulk d + 1
 end
def uptoSmall : (H : Type) → List (DataW H) → Bool := fun _ ds => decide (uptoBulkAll ds ≤ 1048576)
def OpenSpec.upto (s : _root_.Go.ChangeSpec) : _root_.Go.OpenSpec := { _root_.Go.OpenSpec.ofChange s with cond := some uptoSmall }

/-- 'laws.FnJudgeAll', WHERE WHAT IT READS IS OF BULK AT MOST 1048576: true; the input reads as it did. -/
def fnJudgeAllUptoRow : OpenClaim := { program := "ytigdghiknfehhaadoor", sum := "72a9d17410329e68bdaeb7808b4b51e21e7f2e264136e987355ebf23f0b37761", func := "loop.example/packetfilter/laws.FnJudgeAll", spec := "fnJudgeAll", unfollowed := true, recurses := true, named := ["loop.example/packetfilter/impl.fieldShapes"], plainKeys := false, apart := false, laid := [("loop.example/packetfilter/impl.fieldShapes", laid_loop_example_packetfilter_impl_fieldShapes)], narrowed := true }
def FnJudgeAllUptoSaid : Prop := fnJudgeAllUptoRow.holds Tryd.pinned (OpenSpec.upto fnJudgeAllSpec)

/-- 'laws.FnExactAnswersPass', WHERE WHAT IT READS IS OF BULK AT MOST 1048576: true; the input reads as it did. -/
def fnExactAnswersPassUptoRow : OpenClaim := { program := "ytigdghiknfehhaadoor", sum := "72a9d17410329e68bdaeb7808b4b51e21e7f2e264136e987355ebf23f0b37761", func := "loop.example/packetfilter/laws.FnExactAnswersPass", spec := "fnExactAnswersPass", unfollowed := true, recurses := true, named := ["loop.example/packetfilter/impl.fieldShapes"], plainKeys := false, apart := false, laid := [("loop.example/packetfilter/impl.fieldShapes", laid_loop_example_packetfilter_impl_fieldShapes)], narrowed := true }
def FnExactAnswersPassUptoSaid : Prop := fnExactAnswersPassUptoRow.holds Tryd.pinned (OpenSpec.upto fnExactAnswersPassSpec)

/-- 'laws.FnAnswersPass', WHERE WHAT IT READS IS OF BULK AT MOST 1048576: true; the input reads as it did. -/
def fnAnswersPassUptoRow : OpenClaim := { program := "ytigdghiknfehhaadoor", sum := "72a9d17410329e68bdaeb7808b4b51e21e7f2e264136e987355ebf23f0b37761", func := "loop.example/packetfilter/laws.FnAnswersPass", spec := "fnAnswersPass", unfollowed := true, recurses := true, named := ["loop.example/packetfilter/impl.fieldShapes"], plainKeys := false, apart := false, laid := [("loop.example/packetfilter/impl.fieldShapes", laid_loop_example_packetfilter_impl_fieldShapes)], narrowed := true }
def FnAnswersPassUptoSaid : Prop := fnAnswersPassUptoRow.holds Tryd.pinned (OpenSpec.upto fnAnswersPassSpec)

/-- 'laws.FnPassAll', WHERE WHAT IT READS IS OF BULK AT MOST 1048576: true; the input reads as it did. -/
def fnPassAllUptoRow : OpenClaim := { program := "ytigdghiknfehhaadoor", sum := "72a9d17410329e68bdaeb7808b4b51e21e7f2e264136e987355ebf23f0b37761", func := "loop.example/packetfilter/laws.FnPassAll", spec := "fnPassAll", unfollowed := true, recurses := true, named := ["loop.example/packetfilter/impl.fieldShapes"], plainKeys := false, apart := false, laid := [("loop.example/packetfilter/impl.fieldShapes", laid_loop_example_packetfilter_impl_fieldShapes)], narrowed := true }
def FnPassAllUptoSaid : Prop := fnPassAllUptoRow.holds Tryd.pinned (OpenSpec.upto fnPassAllSpec)

/-- 'laws.FnPassShort', WHERE WHAT IT READS IS OF BULK AT MOST 1048576: true; the input reads as it did. -/
def fnPassShortUptoRow : OpenClaim := { program := "ytigdghiknfehhaadoor", sum := "72a9d17410329e68bdaeb7808b4b51e21e7f2e264136e987355ebf23f0b37761", func := "loop.example/packetfilter/laws.FnPassShort", spec := "fnPassShort", unfollowed := true, recurses := true, named := ["loop.example/packetfilter/impl.fieldShapes"], plainKeys := false, apart := false, laid := [("loop.example/packetfilter/impl.fieldShapes", laid_loop_example_packetfilter_impl_fieldShapes)], narrowed := true }
def FnPassShortUptoSaid : Prop := fnPassShortUptoRow.holds Tryd.pinned (OpenSpec.upto fnPassShortSpec)

/-- 'laws.FnPassPacket', WHERE WHAT IT READS IS OF BULK AT MOST 1048576: true; the input reads as it did. -/
def fnPassPacketUptoRow : OpenClaim := { program := "ytigdghiknfehhaadoor", sum := "72a9d17410329e68bdaeb7808b4b51e21e7f2e264136e987355ebf23f0b37761", func := "loop.example/packetfilter/laws.FnPassPacket", spec := "fnPassPacket", unfollowed := true, recurses := true, named := ["loop.example/packetfilter/impl.fieldShapes"], plainKeys := false, apart := false, laid := [("loop.example/packetfilter/impl.fieldShapes", laid_loop_example_packetfilter_impl_fieldShapes)], narrowed := true }
def FnPassPacketUptoSaid : Prop := fnPassPacketUptoRow.holds Tryd.pinned (OpenSpec.upto fnPassPacketSpec)

/-- 'laws.FnExactPassPacket', WHERE WHAT IT READS IS OF BULK AT MOST 1048576: true; the input reads as it did. -/
def fnExactPassPacketUptoRow : OpenClaim := { program := "ytigdghiknfehhaadoor", sum := "72a9d17410329e68bdaeb7808b4b51e21e7f2e264136e987355ebf23f0b37761", func := "loop.example/packetfilter/laws.FnExactPassPacket", spec := "fnExactPassPacket", unfollowed := true, recurses := true, named := ["loop.example/packetfilter/impl.fieldShapes"], plainKeys := false, apart := false, laid := [("loop.example/packetfilter/impl.fieldShapes", laid_loop_example_packetfilter_impl_fieldShapes)], narrowed := true }
def FnExactPassPacketUptoSaid : Prop := fnExactPassPacketUptoRow.holds Tryd.pinned (OpenSpec.upto fnExactPassPacketSpec)

/-- 'laws.FnExactPassAll', WHERE WHAT IT READS IS OF BULK AT MOST 1048576: true; the input reads as it did. -/
def fnExactPassAllUptoRow : OpenClaim := { program := "ytigdghiknfehhaadoor", sum := "72a9d17410329e68bdaeb7808b4b51e21e7f2e264136e987355ebf23f0b37761", func := "loop.example/packetfilter/laws.FnExactPassAll", spec := "fnExactPassAll", unfollowed := true, recurses := true, named := ["loop.example/packetfilter/impl.fieldShapes"], plainKeys := false, apart := false, laid := [("loop.example/packetfilter/impl.fieldShapes", laid_loop_example_packetfilter_impl_fieldShapes)], narrowed := true }
def FnExactPassAllUptoSaid : Prop := fnExactPassAllUptoRow.holds Tryd.pinned (OpenSpec.upto fnExactPassAllSpec)

end Rows
end Go.Proofs.YtigdghiknfehhaaDoor
