/-
  DERIVED. GIVEN WITH THE SEED: THE CARDS: each row of YtpbmhkfbggmofaaDoorRows.lean that lists a variable, with what it lists TIED to the program's text (the seventh form; the later family's looks); each row that meets fmt, with fmt's text TOLD by the authors' own Lean function (tested against real Go, not proved from fmt's source: count such statements apart). THE CARD IS WHAT COUNTS. Prove the row's statement (the work); the ties are given (YtpbmhkfbggmofaaDoorTie.lean); close each card by the builder's one call (the guide's Derived/Test/ToyasCard.lean, 'card_holds'). Laid BY PROGRAM, IN A SANDBOX (cutbox-door.mjs). By AI agents, Wed Nov 11 2026. No macro, syntax, notation, axiom, sorry.
-/
import Derived.Test.YtpbmhkfbggmofaaDoorRows
import GoSem.ClaimSeven
namespace Go.Proofs.YtpbmhkfbggmofaaDoor
namespace Rows

/-- THE TIED CARD OF 'laws.FnHitsJoin'. -/
def fnHitsJoinCard : Claim7 := { stood := { row := fnHitsJoinRow, standIns := [], harness := (true, "b665e7e05d249a3fd0723c6245aef12008fd5f654c700a680790730f43e94a19"), looks := false }, kinds := [], alts := [], laidByText := true, laidKinds := [.data], laidTests := true, laidLooks := .later }
def FnHitsJoinCardSaid : Prop := Claim7.holds Tryd.pinned (.plain (OpenSpec.ofChange fnHitsJoinSpec)) fnHitsJoinCard

/-- THE TIED CARD OF 'laws.FnExactFlatRuleset'. -/
def fnExactFlatRulesetCard : Claim7 := { stood := { row := fnExactFlatRulesetRow, standIns := [], harness := (true, "b665e7e05d249a3fd0723c6245aef12008fd5f654c700a680790730f43e94a19"), looks := false }, kinds := [], alts := [], laidByText := true, laidKinds := [.data], laidTests := true, laidLooks := .later }
def FnExactFlatRulesetCardSaid : Prop := Claim7.holds Tryd.pinned (.plain (OpenSpec.ofChange fnExactFlatRulesetSpec)) fnExactFlatRulesetCard

/-- THE TIED CARD OF 'laws.FnHitCounts'. -/
def fnHitCountsCard : Claim7 := { stood := { row := fnHitCountsRow, standIns := [], harness := (true, "b665e7e05d249a3fd0723c6245aef12008fd5f654c700a680790730f43e94a19"), looks := false }, kinds := [], alts := [], laidByText := true, laidKinds := [.data], laidTests := true, laidLooks := .later }
def FnHitCountsCardSaid : Prop := Claim7.holds Tryd.pinned (.plain (OpenSpec.ofChange fnHitCountsSpec)) fnHitCountsCard

/-- THE TIED CARD OF 'laws.FnFlatRuleset'. -/
def fnFlatRulesetCard : Claim7 := { stood := { row := fnFlatRulesetRow, standIns := [], harness := (true, "b665e7e05d249a3fd0723c6245aef12008fd5f654c700a680790730f43e94a19"), looks := false }, kinds := [], alts := [], laidByText := true, laidKinds := [.data], laidTests := true, laidLooks := .later }
def FnFlatRulesetCardSaid : Prop := Claim7.holds Tryd.pinned (.plain (OpenSpec.ofChange fnFlatRulesetSpec)) fnFlatRulesetCard

/-- THE SECOND FORM's CARD OF 'laws.FnHitsJoin'. -/
def fnHitsJoinUptoCard : Claim7 := { stood := { row := fnHitsJoinUptoRow, standIns := [], harness := (true, "b665e7e05d249a3fd0723c6245aef12008fd5f654c700a680790730f43e94a19"), looks := false }, kinds := [], alts := [], laidByText := true, laidKinds := [.data], laidTests := true, laidLooks := .later }
def FnHitsJoinUptoCardSaid : Prop := Claim7.holds Tryd.pinned (.plain (OpenSpec.upto fnHitsJoinSpec)) fnHitsJoinUptoCard

/-- THE SECOND FORM's CARD OF 'laws.FnExactFlatRuleset'. -/
def fnExactFlatRulesetUptoCard : Claim7 := { stood := { row := fnExactFlatRulesetUptoRow, standIns := [], harness := (true, "b665e7e05d249a3fd0723c6245aef12008fd5f654c700a680790730f43e94a19"), looks := false }, kinds := [], alts := [], laidByText := true, laidKinds := [.data], laidTests := true, laidLooks := .later }
def FnExactFlatRulesetUptoCardSaid : Prop := Claim7.holds Tryd.pinned (.plain (OpenSpec.upto fnExactFlatRulesetSpec)) fnExactFlatRulesetUptoCard

/-- THE SECOND FORM's CARD OF 'laws.FnHitCounts'. -/
def fnHitCountsUptoCard : Claim7 := { stood := { row := fnHitCountsUptoRow, standIns := [], harness := (true, "b665e7e05d249a3fd0723c6245aef12008fd5f654c700a680790730f43e94a19"), looks := false }, kinds := [], alts := [], laidByText := true, laidKinds := [.data], laidTests := true, laidLooks := .later }
def FnHitCountsUptoCardSaid : Prop := Claim7.holds Tryd.pinned (.plain (OpenSpec.upto fnHitCountsSpec)) fnHitCountsUptoCard

/-- THE SECOND FORM's CARD OF 'laws.FnFlatRuleset'. -/
def fnFlatRulesetUptoCard : Claim7 := { stood := { row := fnFlatRulesetUptoRow, standIns := [], harness := (true, "b665e7e05d249a3fd0723c6245aef12008fd5f654c700a680790730f43e94a19"), looks := false }, kinds := [], alts := [], laidByText := true, laidKinds := [.data], laidTests := true, laidLooks := .later }
def FnFlatRulesetUptoCardSaid : Prop := Claim7.holds Tryd.pinned (.plain (OpenSpec.upto fnFlatRulesetSpec)) fnFlatRulesetUptoCard
end Rows
end Go.Proofs.YtpbmhkfbggmofaaDoor
