/-
  No cell of these rows narrows 'for every input' (looked for: loops, veiled, ifaces, maps, wideKeys, modest, calm, conditions, laid).
  DERIVED. THE GIVEN ROWS OF THIS SEAT. 5 by the template 'for every input the law returns true; each argument reads behind the call as it read before'; 0 by the template 'total and deterministic' (their statements: YtdjfbceokpofmaaTotals.lean).
  GIVEN WITH THE SEED: the statements are not yours to turn. If you find one false, say at which input.
  Laid BY PROGRAM, IN A SANDBOX (cutbox-rows.mjs): the forced cells as the released guide's own fill.sh prints them over the translation 2ea4a69868ff2f96… (all of the seat's roots in one cut). By AI agents, Wed Nov 11 2026. No macro, syntax, notation, axiom, sorry.
-/
import Derived.Test.YtdjfbceokpofmaaChecked
import GoSem.Claim
import GoSem.ClaimJoined
import GoSem.ClaimMapViews
import Derived.JoinedTies
import Derived.KernelRfl
namespace Go.Proofs.Ytdjfbceokpofmaa
/- THE CELL 'sum', in the pinned program and in every row, IS THE sha256 OF THE DUMP (.gsa) THAT YtdjfbceokpofmaaProg.lean LOADS. Nothing in Lean hashes anything: it is a label: what it is worth is what the hold of that sum in a sandbox is worth. -/
noncomputable def Try.pinned : Pinned := { name := "ytdjfbceokpofmaa", sum := "2ea4a69868ff2f96a993b82205621beed23ceadc2831d4335029ba66dc4c1057", checked := Try.checked }
namespace Rows
def none {H : Type} : Left H := { results := [], args := [] }

/-- 'laws.FnExactSplitRewrite': WHATEVER THE INPUT: true; the input reads as it did. -/
def fnExactSplitRewriteSpec : ChangeSpec := { name := "fnExactSplitRewrite", fn := fun _ => fun
  | [d] => { results := [.lit (.bool true)], args := [d] }
  | _ => none }
def fnExactSplitRewriteRow : OpenClaim := { program := "ytdjfbceokpofmaa", sum := "2ea4a69868ff2f96a993b82205621beed23ceadc2831d4335029ba66dc4c1057", func := "loop.example/packetfilter/laws.FnExactSplitRewrite", spec := "fnExactSplitRewrite", unfollowed := true, recurses := true, apart := false }
def FnExactSplitRewriteSaid : Prop := fnExactSplitRewriteRow.holds Try.pinned (OpenSpec.ofChange fnExactSplitRewriteSpec)

/-- ITS FALSE NEIGHBOUR: 'it returns false'. Refute it at one input. -/
def fnExactSplitRewriteWrong : ChangeSpec := { name := "fnExactSplitRewrite", fn := fun _ => fun
  | [d] => { results := [.lit (.bool false)], args := [d] }
  | _ => none }
def FnExactSplitRewriteWrongFalsely : Prop := fnExactSplitRewriteRow.holds Try.pinned (OpenSpec.ofChange fnExactSplitRewriteWrong)

/-- 'laws.FnExactRewritesValid': WHATEVER THE INPUT: true; the input reads as it did. -/
def fnExactRewritesValidSpec : ChangeSpec := { name := "fnExactRewritesValid", fn := fun _ => fun
  | [d] => { results := [.lit (.bool true)], args := [d] }
  | _ => none }
def fnExactRewritesValidRow : OpenClaim := { program := "ytdjfbceokpofmaa", sum := "2ea4a69868ff2f96a993b82205621beed23ceadc2831d4335029ba66dc4c1057", func := "loop.example/packetfilter/laws.FnExactRewritesValid", spec := "fnExactRewritesValid", unfollowed := true, recurses := true, apart := false }
def FnExactRewritesValidSaid : Prop := fnExactRewritesValidRow.holds Try.pinned (OpenSpec.ofChange fnExactRewritesValidSpec)

/-- ITS FALSE NEIGHBOUR: 'it returns false'. Refute it at one input. -/
def fnExactRewritesValidWrong : ChangeSpec := { name := "fnExactRewritesValid", fn := fun _ => fun
  | [d] => { results := [.lit (.bool false)], args := [d] }
  | _ => none }
def FnExactRewritesValidWrongFalsely : Prop := fnExactRewritesValidRow.holds Try.pinned (OpenSpec.ofChange fnExactRewritesValidWrong)

/-- 'laws.FnRewritesValid': WHATEVER THE INPUT: true; the input reads as it did. -/
def fnRewritesValidSpec : ChangeSpec := { name := "fnRewritesValid", fn := fun _ => fun
  | [d] => { results := [.lit (.bool true)], args := [d] }
  | _ => none }
def fnRewritesValidRow : OpenClaim := { program := "ytdjfbceokpofmaa", sum := "2ea4a69868ff2f96a993b82205621beed23ceadc2831d4335029ba66dc4c1057", func := "loop.example/packetfilter/laws.FnRewritesValid", spec := "fnRewritesValid", unfollowed := true, recurses := true, apart := false }
def FnRewritesValidSaid : Prop := fnRewritesValidRow.holds Try.pinned (OpenSpec.ofChange fnRewritesValidSpec)

/-- ITS FALSE NEIGHBOUR: 'it returns false'. Refute it at one input. -/
def fnRewritesValidWrong : ChangeSpec := { name := "fnRewritesValid", fn := fun _ => fun
  | [d] => { results := [.lit (.bool false)], args := [d] }
  | _ => none }
def FnRewritesValidWrongFalsely : Prop := fnRewritesValidRow.holds Try.pinned (OpenSpec.ofChange fnRewritesValidWrong)

/-- 'laws.FnHiddenFrom': WHATEVER THE INPUT: true; the input reads as it did. -/
def fnHiddenFromSpec : ChangeSpec := { name := "fnHiddenFrom", fn := fun _ => fun
  | [d] => { results := [.lit (.bool true)], args := [d] }
  | _ => none }
def fnHiddenFromRow : OpenClaim := { program := "ytdjfbceokpofmaa", sum := "2ea4a69868ff2f96a993b82205621beed23ceadc2831d4335029ba66dc4c1057", func := "loop.example/packetfilter/laws.FnHiddenFrom", spec := "fnHiddenFrom", unfollowed := true, recurses := true, apart := false }
def FnHiddenFromSaid : Prop := fnHiddenFromRow.holds Try.pinned (OpenSpec.ofChange fnHiddenFromSpec)

/-- ITS FALSE NEIGHBOUR: 'it returns false'. Refute it at one input. -/
def fnHiddenFromWrong : ChangeSpec := { name := "fnHiddenFrom", fn := fun _ => fun
  | [d] => { results := [.lit (.bool false)], args := [d] }
  | _ => none }
def FnHiddenFromWrongFalsely : Prop := fnHiddenFromRow.holds Try.pinned (OpenSpec.ofChange fnHiddenFromWrong)

/-- 'laws.FnExactHiddenFrom': WHATEVER THE INPUT: true; the input reads as it did. -/
def fnExactHiddenFromSpec : ChangeSpec := { name := "fnExactHiddenFrom", fn := fun _ => fun
  | [d] => { results := [.lit (.bool true)], args := [d] }
  | _ => none }
def fnExactHiddenFromRow : OpenClaim := { program := "ytdjfbceokpofmaa", sum := "2ea4a69868ff2f96a993b82205621beed23ceadc2831d4335029ba66dc4c1057", func := "loop.example/packetfilter/laws.FnExactHiddenFrom", spec := "fnExactHiddenFrom", unfollowed := true, recurses := true, apart := false }
def FnExactHiddenFromSaid : Prop := fnExactHiddenFromRow.holds Try.pinned (OpenSpec.ofChange fnExactHiddenFromSpec)

/-- ITS FALSE NEIGHBOUR: 'it returns false'. Refute it at one input. -/
def fnExactHiddenFromWrong : ChangeSpec := { name := "fnExactHiddenFrom", fn := fun _ => fun
  | [d] => { results := [.lit (.bool false)], args := [d] }
  | _ => none }
def FnExactHiddenFromWrongFalsely : Prop := fnExactHiddenFromRow.holds Try.pinned (OpenSpec.ofChange fnExactHiddenFromWrong)

/- THE SECOND FORM. 'bulk': how many values and letters a reading holds, each counted each time it is reached (what is shared counts as often as it is met; a slice's spare places count too). A statement '..UptoSaid' is the law's where the arguments, and the package variables that the reading takes, are together of bulk at most 1048576: NARROWER than '..Said'. Prove '..Said' where nothing that the law and all that it calls make is longer than what came in: it says more and counts as full. Else prove '..UptoSaid'. A law counts once. -/
mutual
def uptoBulk {H : Type} : DataW H → Nat
  | .lit (.string bytes) => bytes.length + 1
  | .lit _ => 1
  | .nil => 1
  | .ptr d => uptoBulk d + 1
  | .slice elems spare => uptoBulkAll elems + uptoBulkAll spare + 1
  | .agg parts => uptoBulkAll parts + 1
  | .iface _ d => uptoBulk d + 1
  | .map entries => uptoBulkEntries entries + 1
  | .held _ => 1
def uptoBulkAll {H : Type} : List (DataW H) → Nat
  | [] => 0
  | d :: r => uptoBulk d + uptoBulkAll r
def uptoBulkEntries {H : Type} : List (Lit × DataW H) → Nat
  | [] => 0
  | x :: r => uptoBulkEntry x + uptoBulkEntries r
def uptoBulkEntry {H : Type} : Lit × DataW H → Nat
  | (.string bytes, d) => bytes.length + uptoBulk d + 1
  | (_, d) => uptoBulk d + 1
 end
def uptoSmall : (H : Type) → List (DataW H) → Bool := fun _ ds => decide (uptoBulkAll ds ≤ 1048576)
def OpenSpec.upto (s : _root_.Go.ChangeSpec) : _root_.Go.OpenSpec := { _root_.Go.OpenSpec.ofChange s with cond := some uptoSmall }

/-- 'laws.FnExactSplitRewrite', WHERE WHAT IT READS IS OF BULK AT MOST 1048576: true; the input reads as it did. -/
def fnExactSplitRewriteUptoRow : OpenClaim := { program := "ytdjfbceokpofmaa", sum := "2ea4a69868ff2f96a993b82205621beed23ceadc2831d4335029ba66dc4c1057", func := "loop.example/packetfilter/laws.FnExactSplitRewrite", spec := "fnExactSplitRewrite", unfollowed := true, recurses := true, apart := false, narrowed := true }
def FnExactSplitRewriteUptoSaid : Prop := fnExactSplitRewriteUptoRow.holds Try.pinned (OpenSpec.upto fnExactSplitRewriteSpec)

/-- 'laws.FnExactRewritesValid', WHERE WHAT IT READS IS OF BULK AT MOST 1048576: true; the input reads as it did. -/
def fnExactRewritesValidUptoRow : OpenClaim := { program := "ytdjfbceokpofmaa", sum := "2ea4a69868ff2f96a993b82205621beed23ceadc2831d4335029ba66dc4c1057", func := "loop.example/packetfilter/laws.FnExactRewritesValid", spec := "fnExactRewritesValid", unfollowed := true, recurses := true, apart := false, narrowed := true }
def FnExactRewritesValidUptoSaid : Prop := fnExactRewritesValidUptoRow.holds Try.pinned (OpenSpec.upto fnExactRewritesValidSpec)

/-- 'laws.FnRewritesValid', WHERE WHAT IT READS IS OF BULK AT MOST 1048576: true; the input reads as it did. -/
def fnRewritesValidUptoRow : OpenClaim := { program := "ytdjfbceokpofmaa", sum := "2ea4a69868ff2f96a993b82205621beed23ceadc2831d4335029ba66dc4c1057", func := "loop.example/packetfilter/laws.FnRewritesValid", spec := "fnRewritesValid", unfollowed := true, recurses := true, apart := false, narrowed := true }
def FnRewritesValidUptoSaid : Prop := fnRewritesValidUptoRow.holds Try.pinned (OpenSpec.upto fnRewritesValidSpec)

/-- 'laws.FnHiddenFrom', WHERE WHAT IT READS IS OF BULK AT MOST 1048576: true; the input reads as it did. -/
def fnHiddenFromUptoRow : OpenClaim := { program := "ytdjfbceokpofmaa", sum := "2ea4a69868ff2f96a993b82205621beed23ceadc2831d4335029ba66dc4c1057", func := "loop.example/packetfilter/laws.FnHiddenFrom", spec := "fnHiddenFrom", unfollowed := true, recurses := true, apart := false, narrowed := true }
def FnHiddenFromUptoSaid : Prop := fnHiddenFromUptoRow.holds Try.pinned (OpenSpec.upto fnHiddenFromSpec)

/-- 'laws.FnExactHiddenFrom', WHERE WHAT IT READS IS OF BULK AT MOST 1048576: true; the input reads as it did. -/
def fnExactHiddenFromUptoRow : OpenClaim := { program := "ytdjfbceokpofmaa", sum := "2ea4a69868ff2f96a993b82205621beed23ceadc2831d4335029ba66dc4c1057", func := "loop.example/packetfilter/laws.FnExactHiddenFrom", spec := "fnExactHiddenFrom", unfollowed := true, recurses := true, apart := false, narrowed := true }
def FnExactHiddenFromUptoSaid : Prop := fnExactHiddenFromUptoRow.holds Try.pinned (OpenSpec.upto fnExactHiddenFromSpec)

end Rows
end Go.Proofs.Ytdjfbceokpofmaa
