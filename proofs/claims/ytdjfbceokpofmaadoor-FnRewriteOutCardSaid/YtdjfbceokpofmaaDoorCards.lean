/-
  DERIVED. GIVEN WITH THE SEED: THE CARDS: each row of YtdjfbceokpofmaaDoorRows.lean that lists a variable, with what it lists TIED to the program's text (the seventh form; the later family's looks); each row that meets fmt, with fmt's text TOLD by the authors' own Lean function (tested against real Go, not proved from fmt's source: count such statements apart). THE CARD IS WHAT COUNTS. Prove the row's statement (the work); the ties are given (YtdjfbceokpofmaaDoorTie.lean); close each card by the builder's one call (the guide's Derived/Test/ToyasCard.lean, 'card_holds'). Laid BY PROGRAM, IN A SANDBOX (cutbox-door.mjs). By AI agents, Wed Nov 11 2026. No macro, syntax, notation, axiom, sorry.
-/
import Derived.Test.YtdjfbceokpofmaaDoorRows
import GoSem.ClaimSeven
namespace Go.Proofs.YtdjfbceokpofmaaDoor
namespace Rows

/-- THE TIED CARD OF 'laws.FnExactRewriteIn'. -/
def fnExactRewriteInCard : Claim7 := { stood := { row := fnExactRewriteInRow, standIns := [], harness := (true, "eee3b859177dbba5810a8d0e4b89f80bbefde8bfcc82eaad6b1e3df3d9a83ef1"), looks := false }, kinds := [], alts := [], laidByText := true, laidKinds := [.data], laidTests := true, laidLooks := .later }
def FnExactRewriteInCardSaid : Prop := Claim7.holds Tryd.pinned (.plain (OpenSpec.ofChange fnExactRewriteInSpec)) fnExactRewriteInCard

/-- THE TIED CARD OF 'laws.FnExactRewriteOut'. -/
def fnExactRewriteOutCard : Claim7 := { stood := { row := fnExactRewriteOutRow, standIns := [], harness := (true, "eee3b859177dbba5810a8d0e4b89f80bbefde8bfcc82eaad6b1e3df3d9a83ef1"), looks := false }, kinds := [], alts := [], laidByText := true, laidKinds := [.data], laidTests := true, laidLooks := .later }
def FnExactRewriteOutCardSaid : Prop := Claim7.holds Tryd.pinned (.plain (OpenSpec.ofChange fnExactRewriteOutSpec)) fnExactRewriteOutCard

/-- THE TIED CARD OF 'laws.FnSplitRewrite'. -/
def fnSplitRewriteCard : Claim7 := { stood := { row := fnSplitRewriteRow, standIns := [], harness := (true, "eee3b859177dbba5810a8d0e4b89f80bbefde8bfcc82eaad6b1e3df3d9a83ef1"), looks := false }, kinds := [], alts := [], laidByText := true, laidKinds := [.data], laidTests := true, laidLooks := .later }
def FnSplitRewriteCardSaid : Prop := Claim7.holds Tryd.pinned (.plain (OpenSpec.ofChange fnSplitRewriteSpec)) fnSplitRewriteCard

/-- THE TIED CARD OF 'laws.FnRewriteIn'. -/
def fnRewriteInCard : Claim7 := { stood := { row := fnRewriteInRow, standIns := [], harness := (true, "eee3b859177dbba5810a8d0e4b89f80bbefde8bfcc82eaad6b1e3df3d9a83ef1"), looks := false }, kinds := [], alts := [], laidByText := true, laidKinds := [.data], laidTests := true, laidLooks := .later }
def FnRewriteInCardSaid : Prop := Claim7.holds Tryd.pinned (.plain (OpenSpec.ofChange fnRewriteInSpec)) fnRewriteInCard

/-- THE TIED CARD OF 'laws.FnRewriteOut'. -/
def fnRewriteOutCard : Claim7 := { stood := { row := fnRewriteOutRow, standIns := [], harness := (true, "eee3b859177dbba5810a8d0e4b89f80bbefde8bfcc82eaad6b1e3df3d9a83ef1"), looks := false }, kinds := [], alts := [], laidByText := true, laidKinds := [.data], laidTests := true, laidLooks := .later }
def FnRewriteOutCardSaid : Prop := Claim7.holds Tryd.pinned (.plain (OpenSpec.ofChange fnRewriteOutSpec)) fnRewriteOutCard

/-- THE SECOND FORM's CARD OF 'laws.FnExactRewriteIn'. -/
def fnExactRewriteInUptoCard : Claim7 := { stood := { row := fnExactRewriteInUptoRow, standIns := [], harness := (true, "eee3b859177dbba5810a8d0e4b89f80bbefde8bfcc82eaad6b1e3df3d9a83ef1"), looks := false }, kinds := [], alts := [], laidByText := true, laidKinds := [.data], laidTests := true, laidLooks := .later }
def FnExactRewriteInUptoCardSaid : Prop := Claim7.holds Tryd.pinned (.plain (OpenSpec.upto fnExactRewriteInSpec)) fnExactRewriteInUptoCard

/-- THE SECOND FORM's CARD OF 'laws.FnExactRewriteOut'. -/
def fnExactRewriteOutUptoCard : Claim7 := { stood := { row := fnExactRewriteOutUptoRow, standIns := [], harness := (true, "eee3b859177dbba5810a8d0e4b89f80bbefde8bfcc82eaad6b1e3df3d9a83ef1"), looks := false }, kinds := [], alts := [], laidByText := true, laidKinds := [.data], laidTests := true, laidLooks := .later }
def FnExactRewriteOutUptoCardSaid : Prop := Claim7.holds Tryd.pinned (.plain (OpenSpec.upto fnExactRewriteOutSpec)) fnExactRewriteOutUptoCard

/-- THE SECOND FORM's CARD OF 'laws.FnSplitRewrite'. -/
def fnSplitRewriteUptoCard : Claim7 := { stood := { row := fnSplitRewriteUptoRow, standIns := [], harness := (true, "eee3b859177dbba5810a8d0e4b89f80bbefde8bfcc82eaad6b1e3df3d9a83ef1"), looks := false }, kinds := [], alts := [], laidByText := true, laidKinds := [.data], laidTests := true, laidLooks := .later }
def FnSplitRewriteUptoCardSaid : Prop := Claim7.holds Tryd.pinned (.plain (OpenSpec.upto fnSplitRewriteSpec)) fnSplitRewriteUptoCard

/-- THE SECOND FORM's CARD OF 'laws.FnRewriteIn'. -/
def fnRewriteInUptoCard : Claim7 := { stood := { row := fnRewriteInUptoRow, standIns := [], harness := (true, "eee3b859177dbba5810a8d0e4b89f80bbefde8bfcc82eaad6b1e3df3d9a83ef1"), looks := false }, kinds := [], alts := [], laidByText := true, laidKinds := [.data], laidTests := true, laidLooks := .later }
def FnRewriteInUptoCardSaid : Prop := Claim7.holds Tryd.pinned (.plain (OpenSpec.upto fnRewriteInSpec)) fnRewriteInUptoCard

/-- THE SECOND FORM's CARD OF 'laws.FnRewriteOut'. -/
def fnRewriteOutUptoCard : Claim7 := { stood := { row := fnRewriteOutUptoRow, standIns := [], harness := (true, "eee3b859177dbba5810a8d0e4b89f80bbefde8bfcc82eaad6b1e3df3d9a83ef1"), looks := false }, kinds := [], alts := [], laidByText := true, laidKinds := [.data], laidTests := true, laidLooks := .later }
def FnRewriteOutUptoCardSaid : Prop := Claim7.holds Tryd.pinned (.plain (OpenSpec.upto fnRewriteOutSpec)) fnRewriteOutUptoCard
end Rows
end Go.Proofs.YtdjfbceokpofmaaDoor
