/-
  DERIVED. GIVEN WITH THE SEED: THE CARDS: each row of YtlcjkhnamgklgaaDoorRows.lean that lists a variable, with what it lists TIED to the program's text (the seventh form; the later family's looks); each row that meets fmt, with fmt's text TOLD by the authors' own Lean function (tested against real Go, not proved from fmt's source: count such statements apart). THE CARD IS WHAT COUNTS. Prove the row's statement (the work); the ties are given (YtlcjkhnamgklgaaDoorTie.lean); close each card by the builder's one call (the guide's Derived/Test/ToyasCard.lean, 'card_holds'). Laid BY PROGRAM, IN A SANDBOX (cutbox-door.mjs). By AI agents, Wed Nov 11 2026. No macro, syntax, notation, axiom, sorry.
-/
import Derived.Test.YtlcjkhnamgklgaaDoorRows
import GoSem.ClaimSeven
namespace Go.Proofs.YtlcjkhnamgklgaaDoor
namespace Rows

/-- THE TIED CARD OF 'laws.FnExactRulesetText'. -/
def fnExactRulesetTextCard : Claim7 := { stood := { row := fnExactRulesetTextRow, standIns := [], harness := (true, "6c86c8f70480699b83d027564b85f86b8ac4fd3f509e55188b36a881c35ea998"), looks := false }, kinds := [], alts := [], laidByText := true, laidKinds := [.data, .data, .data, .data], laidTests := true, laidLooks := .later }
def FnExactRulesetTextCardSaid : Prop := Claim7.holds Tryd.pinned (.plain (OpenSpec.ofChange fnExactRulesetTextSpec)) fnExactRulesetTextCard

/-- THE TIED CARD OF 'laws.FnExactFirstBad'. -/
def fnExactFirstBadCard : Claim7 := { stood := { row := fnExactFirstBadRow, standIns := [], harness := (true, "6c86c8f70480699b83d027564b85f86b8ac4fd3f509e55188b36a881c35ea998"), looks := false }, kinds := [], alts := [], laidByText := true, laidKinds := [.data, .data, .data, .data], laidTests := true, laidLooks := .later }
def FnExactFirstBadCardSaid : Prop := Claim7.holds Tryd.pinned (.plain (OpenSpec.ofChange fnExactFirstBadSpec)) fnExactFirstBadCard

/-- THE TIED CARD OF 'laws.FnRulesetText'. -/
def fnRulesetTextCard : Claim7 := { stood := { row := fnRulesetTextRow, standIns := [], harness := (true, "6c86c8f70480699b83d027564b85f86b8ac4fd3f509e55188b36a881c35ea998"), looks := false }, kinds := [], alts := [], laidByText := true, laidKinds := [.data, .data, .data, .data], laidTests := true, laidLooks := .later }
def FnRulesetTextCardSaid : Prop := Claim7.holds Tryd.pinned (.plain (OpenSpec.ofChange fnRulesetTextSpec)) fnRulesetTextCard

/-- THE TIED CARD OF 'laws.FnExactReadRuleset'. -/
def fnExactReadRulesetCard : Claim7 := { stood := { row := fnExactReadRulesetRow, standIns := [], harness := (true, "6c86c8f70480699b83d027564b85f86b8ac4fd3f509e55188b36a881c35ea998"), looks := false }, kinds := [], alts := [], laidByText := true, laidKinds := [.data, .data, .data, .data], laidTests := true, laidLooks := .later }
def FnExactReadRulesetCardSaid : Prop := Claim7.holds Tryd.pinned (.plain (OpenSpec.ofChange fnExactReadRulesetSpec)) fnExactReadRulesetCard

/-- THE TIED CARD OF 'laws.FnFirstBad'. -/
def fnFirstBadCard : Claim7 := { stood := { row := fnFirstBadRow, standIns := [], harness := (true, "6c86c8f70480699b83d027564b85f86b8ac4fd3f509e55188b36a881c35ea998"), looks := false }, kinds := [], alts := [], laidByText := true, laidKinds := [.data, .data, .data, .data], laidTests := true, laidLooks := .later }
def FnFirstBadCardSaid : Prop := Claim7.holds Tryd.pinned (.plain (OpenSpec.ofChange fnFirstBadSpec)) fnFirstBadCard

/-- THE TIED CARD OF 'laws.FnReadRuleset'. -/
def fnReadRulesetCard : Claim7 := { stood := { row := fnReadRulesetRow, standIns := [], harness := (true, "6c86c8f70480699b83d027564b85f86b8ac4fd3f509e55188b36a881c35ea998"), looks := false }, kinds := [], alts := [], laidByText := true, laidKinds := [.data, .data, .data, .data], laidTests := true, laidLooks := .later }
def FnReadRulesetCardSaid : Prop := Claim7.holds Tryd.pinned (.plain (OpenSpec.ofChange fnReadRulesetSpec)) fnReadRulesetCard

/-- THE SECOND FORM's CARD OF 'laws.FnExactRulesetText'. -/
def fnExactRulesetTextUptoCard : Claim7 := { stood := { row := fnExactRulesetTextUptoRow, standIns := [], harness := (true, "6c86c8f70480699b83d027564b85f86b8ac4fd3f509e55188b36a881c35ea998"), looks := false }, kinds := [], alts := [], laidByText := true, laidKinds := [.data, .data, .data, .data], laidTests := true, laidLooks := .later }
def FnExactRulesetTextUptoCardSaid : Prop := Claim7.holds Tryd.pinned (.plain (OpenSpec.upto fnExactRulesetTextSpec)) fnExactRulesetTextUptoCard

/-- THE SECOND FORM's CARD OF 'laws.FnExactFirstBad'. -/
def fnExactFirstBadUptoCard : Claim7 := { stood := { row := fnExactFirstBadUptoRow, standIns := [], harness := (true, "6c86c8f70480699b83d027564b85f86b8ac4fd3f509e55188b36a881c35ea998"), looks := false }, kinds := [], alts := [], laidByText := true, laidKinds := [.data, .data, .data, .data], laidTests := true, laidLooks := .later }
def FnExactFirstBadUptoCardSaid : Prop := Claim7.holds Tryd.pinned (.plain (OpenSpec.upto fnExactFirstBadSpec)) fnExactFirstBadUptoCard

/-- THE SECOND FORM's CARD OF 'laws.FnRulesetText'. -/
def fnRulesetTextUptoCard : Claim7 := { stood := { row := fnRulesetTextUptoRow, standIns := [], harness := (true, "6c86c8f70480699b83d027564b85f86b8ac4fd3f509e55188b36a881c35ea998"), looks := false }, kinds := [], alts := [], laidByText := true, laidKinds := [.data, .data, .data, .data], laidTests := true, laidLooks := .later }
def FnRulesetTextUptoCardSaid : Prop := Claim7.holds Tryd.pinned (.plain (OpenSpec.upto fnRulesetTextSpec)) fnRulesetTextUptoCard

/-- THE SECOND FORM's CARD OF 'laws.FnExactReadRuleset'. -/
def fnExactReadRulesetUptoCard : Claim7 := { stood := { row := fnExactReadRulesetUptoRow, standIns := [], harness := (true, "6c86c8f70480699b83d027564b85f86b8ac4fd3f509e55188b36a881c35ea998"), looks := false }, kinds := [], alts := [], laidByText := true, laidKinds := [.data, .data, .data, .data], laidTests := true, laidLooks := .later }
def FnExactReadRulesetUptoCardSaid : Prop := Claim7.holds Tryd.pinned (.plain (OpenSpec.upto fnExactReadRulesetSpec)) fnExactReadRulesetUptoCard

/-- THE SECOND FORM's CARD OF 'laws.FnFirstBad'. -/
def fnFirstBadUptoCard : Claim7 := { stood := { row := fnFirstBadUptoRow, standIns := [], harness := (true, "6c86c8f70480699b83d027564b85f86b8ac4fd3f509e55188b36a881c35ea998"), looks := false }, kinds := [], alts := [], laidByText := true, laidKinds := [.data, .data, .data, .data], laidTests := true, laidLooks := .later }
def FnFirstBadUptoCardSaid : Prop := Claim7.holds Tryd.pinned (.plain (OpenSpec.upto fnFirstBadSpec)) fnFirstBadUptoCard

/-- THE SECOND FORM's CARD OF 'laws.FnReadRuleset'. -/
def fnReadRulesetUptoCard : Claim7 := { stood := { row := fnReadRulesetUptoRow, standIns := [], harness := (true, "6c86c8f70480699b83d027564b85f86b8ac4fd3f509e55188b36a881c35ea998"), looks := false }, kinds := [], alts := [], laidByText := true, laidKinds := [.data, .data, .data, .data], laidTests := true, laidLooks := .later }
def FnReadRulesetUptoCardSaid : Prop := Claim7.holds Tryd.pinned (.plain (OpenSpec.upto fnReadRulesetSpec)) fnReadRulesetUptoCard
end Rows
end Go.Proofs.YtlcjkhnamgklgaaDoor
