/-
  No cell of these rows narrows 'for every input' (looked for: loops, veiled, ifaces, maps, wideKeys, modest, calm, conditions, laid).
  DERIVED. THE GIVEN ROWS OF THIS SEAT. 11 by the template 'for every input the law returns true; each argument reads behind the call as it read before'; 0 by the template 'total and deterministic' (their statements: YtcinklbbacmihaaTotals.lean).
  GIVEN WITH THE SEED: the statements are not yours to turn. If you find one false, say at which input.
  Laid BY PROGRAM, IN A SANDBOX (cutbox-rows.mjs): the forced cells as the released guide's own fill.sh prints them over the translation acc73c80a0c4b2b1… (all of the seat's roots in one cut). By AI agents, Wed Nov 11 2026. No macro, syntax, notation, axiom, sorry.
-/
import Derived.Test.YtcinklbbacmihaaChecked
import GoSem.Claim
import GoSem.ClaimJoined
import GoSem.ClaimMapViews
import Derived.JoinedTies
import Derived.KernelRfl
namespace Go.Proofs.Ytcinklbbacmihaa
/- THE CELL 'sum', in the pinned program and in every row, IS THE sha256 OF THE DUMP (.gsa) THAT YtcinklbbacmihaaProg.lean LOADS. Nothing in Lean hashes anything: it is a label: what it is worth is what the hold of that sum in a sandbox is worth. -/
noncomputable def Try.pinned : Pinned := { name := "ytcinklbbacmihaa", sum := "acc73c80a0c4b2b16896436d4b39da74671a1222da9a6194d227c29011799259", checked := Try.checked }
namespace Rows
def none {H : Type} : Left H := { results := [], args := [] }

/-- 'laws.FnExactBucketValid': WHATEVER THE INPUT: true; the input reads as it did. -/
def fnExactBucketValidSpec : ChangeSpec := { name := "fnExactBucketValid", fn := fun _ => fun
  | [d] => { results := [.lit (.bool true)], args := [d] }
  | _ => none }
def fnExactBucketValidRow : OpenClaim := { program := "ytcinklbbacmihaa", sum := "acc73c80a0c4b2b16896436d4b39da74671a1222da9a6194d227c29011799259", func := "loop.example/packetfilter/laws.FnExactBucketValid", spec := "fnExactBucketValid", apart := false }
def FnExactBucketValidSaid : Prop := fnExactBucketValidRow.holds Try.pinned (OpenSpec.ofChange fnExactBucketValidSpec)

/-- ITS FALSE NEIGHBOUR: 'it returns false'. Refute it at one input. -/
def fnExactBucketValidWrong : ChangeSpec := { name := "fnExactBucketValid", fn := fun _ => fun
  | [d] => { results := [.lit (.bool false)], args := [d] }
  | _ => none }
def FnExactBucketValidWrongFalsely : Prop := fnExactBucketValidRow.holds Try.pinned (OpenSpec.ofChange fnExactBucketValidWrong)

/-- 'laws.FnBucketValid': WHATEVER THE INPUT: true; the input reads as it did. -/
def fnBucketValidSpec : ChangeSpec := { name := "fnBucketValid", fn := fun _ => fun
  | [d] => { results := [.lit (.bool true)], args := [d] }
  | _ => none }
def fnBucketValidRow : OpenClaim := { program := "ytcinklbbacmihaa", sum := "acc73c80a0c4b2b16896436d4b39da74671a1222da9a6194d227c29011799259", func := "loop.example/packetfilter/laws.FnBucketValid", spec := "fnBucketValid", apart := false }
def FnBucketValidSaid : Prop := fnBucketValidRow.holds Try.pinned (OpenSpec.ofChange fnBucketValidSpec)

/-- ITS FALSE NEIGHBOUR: 'it returns false'. Refute it at one input. -/
def fnBucketValidWrong : ChangeSpec := { name := "fnBucketValid", fn := fun _ => fun
  | [d] => { results := [.lit (.bool false)], args := [d] }
  | _ => none }
def FnBucketValidWrongFalsely : Prop := fnBucketValidRow.holds Try.pinned (OpenSpec.ofChange fnBucketValidWrong)

/-- 'laws.FnExactNextToken': WHATEVER THE INPUT: true; the input reads as it did. -/
def fnExactNextTokenSpec : ChangeSpec := { name := "fnExactNextToken", fn := fun _ => fun
  | [d1, d2] => { results := [.lit (.bool true)], args := [d1, d2] }
  | _ => none }
def fnExactNextTokenRow : OpenClaim := { program := "ytcinklbbacmihaa", sum := "acc73c80a0c4b2b16896436d4b39da74671a1222da9a6194d227c29011799259", func := "loop.example/packetfilter/laws.FnExactNextToken", spec := "fnExactNextToken", apart := false }
def FnExactNextTokenSaid : Prop := fnExactNextTokenRow.holds Try.pinned (OpenSpec.ofChange fnExactNextTokenSpec)

/-- ITS FALSE NEIGHBOUR: 'it returns false'. Refute it at one input. -/
def fnExactNextTokenWrong : ChangeSpec := { name := "fnExactNextToken", fn := fun _ => fun
  | [d1, d2] => { results := [.lit (.bool false)], args := [d1, d2] }
  | _ => none }
def FnExactNextTokenWrongFalsely : Prop := fnExactNextTokenRow.holds Try.pinned (OpenSpec.ofChange fnExactNextTokenWrong)

/-- 'laws.FnExactBucketAt': WHATEVER THE INPUT: true; the input reads as it did. -/
def fnExactBucketAtSpec : ChangeSpec := { name := "fnExactBucketAt", fn := fun _ => fun
  | [d1, d2] => { results := [.lit (.bool true)], args := [d1, d2] }
  | _ => none }
def fnExactBucketAtRow : OpenClaim := { program := "ytcinklbbacmihaa", sum := "acc73c80a0c4b2b16896436d4b39da74671a1222da9a6194d227c29011799259", func := "loop.example/packetfilter/laws.FnExactBucketAt", spec := "fnExactBucketAt", apart := false }
def FnExactBucketAtSaid : Prop := fnExactBucketAtRow.holds Try.pinned (OpenSpec.ofChange fnExactBucketAtSpec)

/-- ITS FALSE NEIGHBOUR: 'it returns false'. Refute it at one input. -/
def fnExactBucketAtWrong : ChangeSpec := { name := "fnExactBucketAt", fn := fun _ => fun
  | [d1, d2] => { results := [.lit (.bool false)], args := [d1, d2] }
  | _ => none }
def FnExactBucketAtWrongFalsely : Prop := fnExactBucketAtRow.holds Try.pinned (OpenSpec.ofChange fnExactBucketAtWrong)

/-- 'laws.FnExactTakeToken': WHATEVER THE INPUT: true; the input reads as it did. -/
def fnExactTakeTokenSpec : ChangeSpec := { name := "fnExactTakeToken", fn := fun _ => fun
  | [d1, d2] => { results := [.lit (.bool true)], args := [d1, d2] }
  | _ => none }
def fnExactTakeTokenRow : OpenClaim := { program := "ytcinklbbacmihaa", sum := "acc73c80a0c4b2b16896436d4b39da74671a1222da9a6194d227c29011799259", func := "loop.example/packetfilter/laws.FnExactTakeToken", spec := "fnExactTakeToken", apart := false }
def FnExactTakeTokenSaid : Prop := fnExactTakeTokenRow.holds Try.pinned (OpenSpec.ofChange fnExactTakeTokenSpec)

/-- ITS FALSE NEIGHBOUR: 'it returns false'. Refute it at one input. -/
def fnExactTakeTokenWrong : ChangeSpec := { name := "fnExactTakeToken", fn := fun _ => fun
  | [d1, d2] => { results := [.lit (.bool false)], args := [d1, d2] }
  | _ => none }
def FnExactTakeTokenWrongFalsely : Prop := fnExactTakeTokenRow.holds Try.pinned (OpenSpec.ofChange fnExactTakeTokenWrong)

/-- 'laws.FnBucketAt': WHATEVER THE INPUT: true; the input reads as it did. -/
def fnBucketAtSpec : ChangeSpec := { name := "fnBucketAt", fn := fun _ => fun
  | [d1, d2] => { results := [.lit (.bool true)], args := [d1, d2] }
  | _ => none }
def fnBucketAtRow : OpenClaim := { program := "ytcinklbbacmihaa", sum := "acc73c80a0c4b2b16896436d4b39da74671a1222da9a6194d227c29011799259", func := "loop.example/packetfilter/laws.FnBucketAt", spec := "fnBucketAt", apart := false }
def FnBucketAtSaid : Prop := fnBucketAtRow.holds Try.pinned (OpenSpec.ofChange fnBucketAtSpec)

/-- ITS FALSE NEIGHBOUR: 'it returns false'. Refute it at one input. -/
def fnBucketAtWrong : ChangeSpec := { name := "fnBucketAt", fn := fun _ => fun
  | [d1, d2] => { results := [.lit (.bool false)], args := [d1, d2] }
  | _ => none }
def FnBucketAtWrongFalsely : Prop := fnBucketAtRow.holds Try.pinned (OpenSpec.ofChange fnBucketAtWrong)

/-- 'laws.FnTakeSteady': WHATEVER THE INPUT: true; the input reads as it did. -/
def fnTakeSteadySpec : ChangeSpec := { name := "fnTakeSteady", fn := fun _ => fun
  | [d] => { results := [.lit (.bool true)], args := [d] }
  | _ => none }
def fnTakeSteadyRow : OpenClaim := { program := "ytcinklbbacmihaa", sum := "acc73c80a0c4b2b16896436d4b39da74671a1222da9a6194d227c29011799259", func := "loop.example/packetfilter/laws.FnTakeSteady", spec := "fnTakeSteady", apart := false }
def FnTakeSteadySaid : Prop := fnTakeSteadyRow.holds Try.pinned (OpenSpec.ofChange fnTakeSteadySpec)

/-- ITS FALSE NEIGHBOUR: 'it returns false'. Refute it at one input. -/
def fnTakeSteadyWrong : ChangeSpec := { name := "fnTakeSteady", fn := fun _ => fun
  | [d] => { results := [.lit (.bool false)], args := [d] }
  | _ => none }
def FnTakeSteadyWrongFalsely : Prop := fnTakeSteadyRow.holds Try.pinned (OpenSpec.ofChange fnTakeSteadyWrong)

/-- 'laws.FnTakeToken': WHATEVER THE INPUT: true; the input reads as it did. -/
def fnTakeTokenSpec : ChangeSpec := { name := "fnTakeToken", fn := fun _ => fun
  | [d] => { results := [.lit (.bool true)], args := [d] }
  | _ => none }
def fnTakeTokenRow : OpenClaim := { program := "ytcinklbbacmihaa", sum := "acc73c80a0c4b2b16896436d4b39da74671a1222da9a6194d227c29011799259", func := "loop.example/packetfilter/laws.FnTakeToken", spec := "fnTakeToken", apart := false }
def FnTakeTokenSaid : Prop := fnTakeTokenRow.holds Try.pinned (OpenSpec.ofChange fnTakeTokenSpec)

/-- ITS FALSE NEIGHBOUR: 'it returns false'. Refute it at one input. -/
def fnTakeTokenWrong : ChangeSpec := { name := "fnTakeToken", fn := fun _ => fun
  | [d] => { results := [.lit (.bool false)], args := [d] }
  | _ => none }
def FnTakeTokenWrongFalsely : Prop := fnTakeTokenRow.holds Try.pinned (OpenSpec.ofChange fnTakeTokenWrong)

/-- 'laws.FnNextToken': WHATEVER THE INPUT: true; the input reads as it did. -/
def fnNextTokenSpec : ChangeSpec := { name := "fnNextToken", fn := fun _ => fun
  | [d] => { results := [.lit (.bool true)], args := [d] }
  | _ => none }
def fnNextTokenRow : OpenClaim := { program := "ytcinklbbacmihaa", sum := "acc73c80a0c4b2b16896436d4b39da74671a1222da9a6194d227c29011799259", func := "loop.example/packetfilter/laws.FnNextToken", spec := "fnNextToken", apart := false }
def FnNextTokenSaid : Prop := fnNextTokenRow.holds Try.pinned (OpenSpec.ofChange fnNextTokenSpec)

/-- ITS FALSE NEIGHBOUR: 'it returns false'. Refute it at one input. -/
def fnNextTokenWrong : ChangeSpec := { name := "fnNextToken", fn := fun _ => fun
  | [d] => { results := [.lit (.bool false)], args := [d] }
  | _ => none }
def FnNextTokenWrongFalsely : Prop := fnNextTokenRow.holds Try.pinned (OpenSpec.ofChange fnNextTokenWrong)

/-- 'laws.FnExactTakeMany': WHATEVER THE INPUT: true; the input reads as it did. -/
def fnExactTakeManySpec : ChangeSpec := { name := "fnExactTakeMany", fn := fun _ => fun
  | [d1, d2] => { results := [.lit (.bool true)], args := [d1, d2] }
  | _ => none }
def fnExactTakeManyRow : OpenClaim := { program := "ytcinklbbacmihaa", sum := "acc73c80a0c4b2b16896436d4b39da74671a1222da9a6194d227c29011799259", func := "loop.example/packetfilter/laws.FnExactTakeMany", spec := "fnExactTakeMany", apart := false }
def FnExactTakeManySaid : Prop := fnExactTakeManyRow.holds Try.pinned (OpenSpec.ofChange fnExactTakeManySpec)

/-- ITS FALSE NEIGHBOUR: 'it returns false'. Refute it at one input. -/
def fnExactTakeManyWrong : ChangeSpec := { name := "fnExactTakeMany", fn := fun _ => fun
  | [d1, d2] => { results := [.lit (.bool false)], args := [d1, d2] }
  | _ => none }
def FnExactTakeManyWrongFalsely : Prop := fnExactTakeManyRow.holds Try.pinned (OpenSpec.ofChange fnExactTakeManyWrong)

/-- 'laws.FnTakeMany': WHATEVER THE INPUT: true; the input reads as it did. -/
def fnTakeManySpec : ChangeSpec := { name := "fnTakeMany", fn := fun _ => fun
  | [d] => { results := [.lit (.bool true)], args := [d] }
  | _ => none }
def fnTakeManyRow : OpenClaim := { program := "ytcinklbbacmihaa", sum := "acc73c80a0c4b2b16896436d4b39da74671a1222da9a6194d227c29011799259", func := "loop.example/packetfilter/laws.FnTakeMany", spec := "fnTakeMany", apart := false }
def FnTakeManySaid : Prop := fnTakeManyRow.holds Try.pinned (OpenSpec.ofChange fnTakeManySpec)

/-- ITS FALSE NEIGHBOUR: 'it returns false'. Refute it at one input. -/
def fnTakeManyWrong : ChangeSpec := { name := "fnTakeMany", fn := fun _ => fun
  | [d] => { results := [.lit (.bool false)], args := [d] }
  | _ => none }
def FnTakeManyWrongFalsely : Prop := fnTakeManyRow.holds Try.pinned (OpenSpec.ofChange fnTakeManyWrong)

/- THE SECOND FORM. 'bulk': how many values and letters a reading holds, each counted each time it is reached (what is shared counts as often as it is met; a slice's spare places count too). A statement '..UptoSaid' is the law's where the arguments, and the package variables that the reading takes, are together of bulk at most 1048576: NARROWER than '..Said'. Prove '..Said' where nothing that the law and all that it calls make is longer than what came in: it says more and counts as full. Else prove '..UptoSaid'. A law counts once. -/
mutual
def uptoBulk {H : Type} : DataW H → Nat
  | .lit (.string bytes) => bytes.length + 1
  | .lit _ => 1
  | .nil => 1
  | .ptr d => uptoBulk d + 1
  | .slice elems spare => uptoBulkAll elems + uptoBulkAll spare + 1
  | .agg parts => uptoBulkAll parts + 1
  | .iface _ d => uptoBulk d + 1
  | .map entries => uptoBulkEntries entries + 1
  | .held _ => 1
def uptoBulkAll {H : Type} : List (DataW H) → Nat
  | [] => 0
  | d :: r => uptoBulk d + uptoBulkAll r
def uptoBulkEntries {H : Type} : List (Lit × DataW H) → Nat
  | [] => 0
  | x :: r => uptoBulkEntry x + uptoBulkEntries r
def uptoBulkEntry {H : Type} : Lit × DataW H → Nat
  | (.string bytes, d) => bytes.length + uptoBulk d + 1
  | (_, d) => uptoBulk d + 1
 end
def uptoSmall : (H : Type) → List (DataW H) → Bool := fun _ ds => decide (uptoBulkAll ds ≤ 1048576)
def OpenSpec.upto (s : _root_.Go.ChangeSpec) : _root_.Go.OpenSpec := { _root_.Go.OpenSpec.ofChange s with cond := some uptoSmall }

/-- 'laws.FnExactBucketValid', WHERE WHAT IT READS IS OF BULK AT MOST 1048576: true; the input reads as it did. -/
def fnExactBucketValidUptoRow : OpenClaim := { program := "ytcinklbbacmihaa", sum := "acc73c80a0c4b2b16896436d4b39da74671a1222da9a6194d227c29011799259", func := "loop.example/packetfilter/laws.FnExactBucketValid", spec := "fnExactBucketValid", apart := false, narrowed := true }
def FnExactBucketValidUptoSaid : Prop := fnExactBucketValidUptoRow.holds Try.pinned (OpenSpec.upto fnExactBucketValidSpec)

/-- 'laws.FnBucketValid', WHERE WHAT IT READS IS OF BULK AT MOST 1048576: true; the input reads as it did. -/
def fnBucketValidUptoRow : OpenClaim := { program := "ytcinklbbacmihaa", sum := "acc73c80a0c4b2b16896436d4b39da74671a1222da9a6194d227c29011799259", func := "loop.example/packetfilter/laws.FnBucketValid", spec := "fnBucketValid", apart := false, narrowed := true }
def FnBucketValidUptoSaid : Prop := fnBucketValidUptoRow.holds Try.pinned (OpenSpec.upto fnBucketValidSpec)

/-- 'laws.FnExactNextToken', WHERE WHAT IT READS IS OF BULK AT MOST 1048576: true; the input reads as it did. -/
def fnExactNextTokenUptoRow : OpenClaim := { program := "ytcinklbbacmihaa", sum := "acc73c80a0c4b2b16896436d4b39da74671a1222da9a6194d227c29011799259", func := "loop.example/packetfilter/laws.FnExactNextToken", spec := "fnExactNextToken", apart := false, narrowed := true }
def FnExactNextTokenUptoSaid : Prop := fnExactNextTokenUptoRow.holds Try.pinned (OpenSpec.upto fnExactNextTokenSpec)

/-- 'laws.FnExactBucketAt', WHERE WHAT IT READS IS OF BULK AT MOST 1048576: true; the input reads as it did. -/
def fnExactBucketAtUptoRow : OpenClaim := { program := "ytcinklbbacmihaa", sum := "acc73c80a0c4b2b16896436d4b39da74671a1222da9a6194d227c29011799259", func := "loop.example/packetfilter/laws.FnExactBucketAt", spec := "fnExactBucketAt", apart := false, narrowed := true }
def FnExactBucketAtUptoSaid : Prop := fnExactBucketAtUptoRow.holds Try.pinned (OpenSpec.upto fnExactBucketAtSpec)

/-- 'laws.FnExactTakeToken', WHERE WHAT IT READS IS OF BULK AT MOST 1048576: true; the input reads as it did. -/
def fnExactTakeTokenUptoRow : OpenClaim := { program := "ytcinklbbacmihaa", sum := "acc73c80a0c4b2b16896436d4b39da74671a1222da9a6194d227c29011799259", func := "loop.example/packetfilter/laws.FnExactTakeToken", spec := "fnExactTakeToken", apart := false, narrowed := true }
def FnExactTakeTokenUptoSaid : Prop := fnExactTakeTokenUptoRow.holds Try.pinned (OpenSpec.upto fnExactTakeTokenSpec)

/-- 'laws.FnBucketAt', WHERE WHAT IT READS IS OF BULK AT MOST 1048576: true; the input reads as it did. -/
def fnBucketAtUptoRow : OpenClaim := { program := "ytcinklbbacmihaa", sum := "acc73c80a0c4b2b16896436d4b39da74671a1222da9a6194d227c29011799259", func := "loop.example/packetfilter/laws.FnBucketAt", spec := "fnBucketAt", apart := false, narrowed := true }
def FnBucketAtUptoSaid : Prop := fnBucketAtUptoRow.holds Try.pinned (OpenSpec.upto fnBucketAtSpec)

/-- 'laws.FnTakeSteady', WHERE WHAT IT READS IS OF BULK AT MOST 1048576: true; the input reads as it did. -/
def fnTakeSteadyUptoRow : OpenClaim := { program := "ytcinklbbacmihaa", sum := "acc73c80a0c4b2b16896436d4b39da74671a1222da9a6194d227c29011799259", func := "loop.example/packetfilter/laws.FnTakeSteady", spec := "fnTakeSteady", apart := false, narrowed := true }
def FnTakeSteadyUptoSaid : Prop := fnTakeSteadyUptoRow.holds Try.pinned (OpenSpec.upto fnTakeSteadySpec)

/-- 'laws.FnTakeToken', WHERE WHAT IT READS IS OF BULK AT MOST 1048576: true; the input reads as it did. -/
def fnTakeTokenUptoRow : OpenClaim := { program := "ytcinklbbacmihaa", sum := "acc73c80a0c4b2b16896436d4b39da74671a1222da9a6194d227c29011799259", func := "loop.example/packetfilter/laws.FnTakeToken", spec := "fnTakeToken", apart := false, narrowed := true }
def FnTakeTokenUptoSaid : Prop := fnTakeTokenUptoRow.holds Try.pinned (OpenSpec.upto fnTakeTokenSpec)

/-- 'laws.FnNextToken', WHERE WHAT IT READS IS OF BULK AT MOST 1048576: true; the input reads as it did. -/
def fnNextTokenUptoRow : OpenClaim := { program := "ytcinklbbacmihaa", sum := "acc73c80a0c4b2b16896436d4b39da74671a1222da9a6194d227c29011799259", func := "loop.example/packetfilter/laws.FnNextToken", spec := "fnNextToken", apart := false, narrowed := true }
def FnNextTokenUptoSaid : Prop := fnNextTokenUptoRow.holds Try.pinned (OpenSpec.upto fnNextTokenSpec)

/-- 'laws.FnExactTakeMany', WHERE WHAT IT READS IS OF BULK AT MOST 1048576: true; the input reads as it did. -/
def fnExactTakeManyUptoRow : OpenClaim := { program := "ytcinklbbacmihaa", sum := "acc73c80a0c4b2b16896436d4b39da74671a1222da9a6194d227c29011799259", func := "loop.example/packetfilter/laws.FnExactTakeMany", spec := "fnExactTakeMany", apart := false, narrowed := true }
def FnExactTakeManyUptoSaid : Prop := fnExactTakeManyUptoRow.holds Try.pinned (OpenSpec.upto fnExactTakeManySpec)

/-- 'laws.FnTakeMany', WHERE WHAT IT READS IS OF BULK AT MOST 1048576: true; the input reads as it did. -/
def fnTakeManyUptoRow : OpenClaim := { program := "ytcinklbbacmihaa", sum := "acc73c80a0c4b2b16896436d4b39da74671a1222da9a6194d227c29011799259", func := "loop.example/packetfilter/laws.FnTakeMany", spec := "fnTakeMany", apart := false, narrowed := true }
def FnTakeManyUptoSaid : Prop := fnTakeManyUptoRow.holds Try.pinned (OpenSpec.upto fnTakeManySpec)

end Rows
end Go.Proofs.Ytcinklbbacmihaa
