/-
  DERIVED. GIVEN WITH THE SEED: THE CARDS: each row of YtnogaeckmiekdaaDoorRows.lean that lists a variable, with what it lists TIED to the program's text (the seventh form; the later family's looks); each row that meets fmt, with fmt's text TOLD by the authors' own Lean function (tested against real Go, not proved from fmt's source: count such statements apart). THE CARD IS WHAT COUNTS. Prove the row's statement (the work); the ties are given (YtnogaeckmiekdaaDoorTie.lean); close each card by the builder's one call (the guide's Derived/Test/ToyasCard.lean, 'card_holds'). Laid BY PROGRAM, IN A SANDBOX (cutbox-door.mjs). By AI agents, Wed Nov 11 2026. No macro, syntax, notation, axiom, sorry.
-/
import Derived.Test.YtnogaeckmiekdaaDoorRows
import GoSem.ClaimSeven
namespace Go.Proofs.YtnogaeckmiekdaaDoor
namespace Rows

/-- THE TIED CARD OF 'laws.FnExactTestText'. -/
def fnExactTestTextCard : Claim7 := { stood := { row := fnExactTestTextRow, standIns := [], harness := (true, "1f7d08ec4e28adc5492ed9e7256aa3b56711de1da80856a85354adff7d24a541"), looks := false }, kinds := [], alts := [], laidByText := true, laidKinds := [.data, .data, .data, .data], laidTests := true, laidLooks := .later }
def FnExactTestTextCardSaid : Prop := Claim7.holds Tryd.pinned (.plain (OpenSpec.ofChange fnExactTestTextSpec)) fnExactTestTextCard

/-- THE TIED CARD OF 'laws.FnExactReadPrefix'. -/
def fnExactReadPrefixCard : Claim7 := { stood := { row := fnExactReadPrefixRow, standIns := [], harness := (true, "1f7d08ec4e28adc5492ed9e7256aa3b56711de1da80856a85354adff7d24a541"), looks := false }, kinds := [], alts := [], laidByText := true, laidKinds := [.data, .data, .data], laidTests := true, laidLooks := .later }
def FnExactReadPrefixCardSaid : Prop := Claim7.holds Tryd.pinned (.plain (OpenSpec.ofChange fnExactReadPrefixSpec)) fnExactReadPrefixCard

/-- THE TIED CARD OF 'laws.FnPrefixText'. -/
def fnPrefixTextCard : Claim7 := { stood := { row := fnPrefixTextRow, standIns := [], harness := (true, "1f7d08ec4e28adc5492ed9e7256aa3b56711de1da80856a85354adff7d24a541"), looks := false }, kinds := [], alts := [], laidByText := true, laidKinds := [.data, .data, .data], laidTests := true, laidLooks := .later }
def FnPrefixTextCardSaid : Prop := Claim7.holds Tryd.pinned (.plain (OpenSpec.ofChange fnPrefixTextSpec)) fnPrefixTextCard

/-- THE TIED CARD OF 'laws.FnReadPrefix'. -/
def fnReadPrefixCard : Claim7 := { stood := { row := fnReadPrefixRow, standIns := [], harness := (true, "1f7d08ec4e28adc5492ed9e7256aa3b56711de1da80856a85354adff7d24a541"), looks := false }, kinds := [], alts := [], laidByText := true, laidKinds := [.data, .data, .data], laidTests := true, laidLooks := .later }
def FnReadPrefixCardSaid : Prop := Claim7.holds Tryd.pinned (.plain (OpenSpec.ofChange fnReadPrefixSpec)) fnReadPrefixCard

/-- THE TIED CARD OF 'laws.FnExactReadTest'. -/
def fnExactReadTestCard : Claim7 := { stood := { row := fnExactReadTestRow, standIns := [], harness := (true, "1f7d08ec4e28adc5492ed9e7256aa3b56711de1da80856a85354adff7d24a541"), looks := false }, kinds := [], alts := [], laidByText := true, laidKinds := [.data, .data, .data, .data], laidTests := true, laidLooks := .later }
def FnExactReadTestCardSaid : Prop := Claim7.holds Tryd.pinned (.plain (OpenSpec.ofChange fnExactReadTestSpec)) fnExactReadTestCard

/-- THE TIED CARD OF 'laws.FnTestText'. -/
def fnTestTextCard : Claim7 := { stood := { row := fnTestTextRow, standIns := [], harness := (true, "1f7d08ec4e28adc5492ed9e7256aa3b56711de1da80856a85354adff7d24a541"), looks := false }, kinds := [], alts := [], laidByText := true, laidKinds := [.data, .data, .data, .data], laidTests := true, laidLooks := .later }
def FnTestTextCardSaid : Prop := Claim7.holds Tryd.pinned (.plain (OpenSpec.ofChange fnTestTextSpec)) fnTestTextCard

/-- THE TIED CARD OF 'laws.FnExactRuleText'. -/
def fnExactRuleTextCard : Claim7 := { stood := { row := fnExactRuleTextRow, standIns := [], harness := (true, "1f7d08ec4e28adc5492ed9e7256aa3b56711de1da80856a85354adff7d24a541"), looks := false }, kinds := [], alts := [], laidByText := true, laidKinds := [.data, .data, .data, .data], laidTests := true, laidLooks := .later }
def FnExactRuleTextCardSaid : Prop := Claim7.holds Tryd.pinned (.plain (OpenSpec.ofChange fnExactRuleTextSpec)) fnExactRuleTextCard

/-- THE TIED CARD OF 'laws.FnReadTest'. -/
def fnReadTestCard : Claim7 := { stood := { row := fnReadTestRow, standIns := [], harness := (true, "1f7d08ec4e28adc5492ed9e7256aa3b56711de1da80856a85354adff7d24a541"), looks := false }, kinds := [], alts := [], laidByText := true, laidKinds := [.data, .data, .data, .data], laidTests := true, laidLooks := .later }
def FnReadTestCardSaid : Prop := Claim7.holds Tryd.pinned (.plain (OpenSpec.ofChange fnReadTestSpec)) fnReadTestCard

/-- THE TIED CARD OF 'laws.FnRuleText'. -/
def fnRuleTextCard : Claim7 := { stood := { row := fnRuleTextRow, standIns := [], harness := (true, "1f7d08ec4e28adc5492ed9e7256aa3b56711de1da80856a85354adff7d24a541"), looks := false }, kinds := [], alts := [], laidByText := true, laidKinds := [.data, .data, .data, .data], laidTests := true, laidLooks := .later }
def FnRuleTextCardSaid : Prop := Claim7.holds Tryd.pinned (.plain (OpenSpec.ofChange fnRuleTextSpec)) fnRuleTextCard

/-- THE TIED CARD OF 'laws.FnExactReadRule'. -/
def fnExactReadRuleCard : Claim7 := { stood := { row := fnExactReadRuleRow, standIns := [], harness := (true, "1f7d08ec4e28adc5492ed9e7256aa3b56711de1da80856a85354adff7d24a541"), looks := false }, kinds := [], alts := [], laidByText := true, laidKinds := [.data, .data, .data, .data], laidTests := true, laidLooks := .later }
def FnExactReadRuleCardSaid : Prop := Claim7.holds Tryd.pinned (.plain (OpenSpec.ofChange fnExactReadRuleSpec)) fnExactReadRuleCard

/-- THE TIED CARD OF 'laws.FnReadRule'. -/
def fnReadRuleCard : Claim7 := { stood := { row := fnReadRuleRow, standIns := [], harness := (true, "1f7d08ec4e28adc5492ed9e7256aa3b56711de1da80856a85354adff7d24a541"), looks := false }, kinds := [], alts := [], laidByText := true, laidKinds := [.data, .data, .data, .data], laidTests := true, laidLooks := .later }
def FnReadRuleCardSaid : Prop := Claim7.holds Tryd.pinned (.plain (OpenSpec.ofChange fnReadRuleSpec)) fnReadRuleCard

/-- THE TIED CARD OF 'laws.FnLinesCount'. -/
def fnLinesCountCard : Claim7 := { stood := { row := fnLinesCountRow, standIns := [], harness := (true, "1f7d08ec4e28adc5492ed9e7256aa3b56711de1da80856a85354adff7d24a541"), looks := false }, kinds := [], alts := [], laidByText := true, laidKinds := [.data, .data, .data, .data], laidTests := true, laidLooks := .later }
def FnLinesCountCardSaid : Prop := Claim7.holds Tryd.pinned (.plain (OpenSpec.ofChange fnLinesCountSpec)) fnLinesCountCard

/-- THE SECOND FORM's CARD OF 'laws.FnExactTestText'. -/
def fnExactTestTextUptoCard : Claim7 := { stood := { row := fnExactTestTextUptoRow, standIns := [], harness := (true, "1f7d08ec4e28adc5492ed9e7256aa3b56711de1da80856a85354adff7d24a541"), looks := false }, kinds := [], alts := [], laidByText := true, laidKinds := [.data, .data, .data, .data], laidTests := true, laidLooks := .later }
def FnExactTestTextUptoCardSaid : Prop := Claim7.holds Tryd.pinned (.plain (OpenSpec.upto fnExactTestTextSpec)) fnExactTestTextUptoCard

/-- THE SECOND FORM's CARD OF 'laws.FnExactReadPrefix'. -/
def fnExactReadPrefixUptoCard : Claim7 := { stood := { row := fnExactReadPrefixUptoRow, standIns := [], harness := (true, "1f7d08ec4e28adc5492ed9e7256aa3b56711de1da80856a85354adff7d24a541"), looks := false }, kinds := [], alts := [], laidByText := true, laidKinds := [.data, .data, .data], laidTests := true, laidLooks := .later }
def FnExactReadPrefixUptoCardSaid : Prop := Claim7.holds Tryd.pinned (.plain (OpenSpec.upto fnExactReadPrefixSpec)) fnExactReadPrefixUptoCard

/-- THE SECOND FORM's CARD OF 'laws.FnPrefixText'. -/
def fnPrefixTextUptoCard : Claim7 := { stood := { row := fnPrefixTextUptoRow, standIns := [], harness := (true, "1f7d08ec4e28adc5492ed9e7256aa3b56711de1da80856a85354adff7d24a541"), looks := false }, kinds := [], alts := [], laidByText := true, laidKinds := [.data, .data, .data], laidTests := true, laidLooks := .later }
def FnPrefixTextUptoCardSaid : Prop := Claim7.holds Tryd.pinned (.plain (OpenSpec.upto fnPrefixTextSpec)) fnPrefixTextUptoCard

/-- THE SECOND FORM's CARD OF 'laws.FnReadPrefix'. -/
def fnReadPrefixUptoCard : Claim7 := { stood := { row := fnReadPrefixUptoRow, standIns := [], harness := (true, "1f7d08ec4e28adc5492ed9e7256aa3b56711de1da80856a85354adff7d24a541"), looks := false }, kinds := [], alts := [], laidByText := true, laidKinds := [.data, .data, .data], laidTests := true, laidLooks := .later }
def FnReadPrefixUptoCardSaid : Prop := Claim7.holds Tryd.pinned (.plain (OpenSpec.upto fnReadPrefixSpec)) fnReadPrefixUptoCard

/-- THE SECOND FORM's CARD OF 'laws.FnExactReadTest'. -/
def fnExactReadTestUptoCard : Claim7 := { stood := { row := fnExactReadTestUptoRow, standIns := [], harness := (true, "1f7d08ec4e28adc5492ed9e7256aa3b56711de1da80856a85354adff7d24a541"), looks := false }, kinds := [], alts := [], laidByText := true, laidKinds := [.data, .data, .data, .data], laidTests := true, laidLooks := .later }
def FnExactReadTestUptoCardSaid : Prop := Claim7.holds Tryd.pinned (.plain (OpenSpec.upto fnExactReadTestSpec)) fnExactReadTestUptoCard

/-- THE SECOND FORM's CARD OF 'laws.FnTestText'. -/
def fnTestTextUptoCard : Claim7 := { stood := { row := fnTestTextUptoRow, standIns := [], harness := (true, "1f7d08ec4e28adc5492ed9e7256aa3b56711de1da80856a85354adff7d24a541"), looks := false }, kinds := [], alts := [], laidByText := true, laidKinds := [.data, .data, .data, .data], laidTests := true, laidLooks := .later }
def FnTestTextUptoCardSaid : Prop := Claim7.holds Tryd.pinned (.plain (OpenSpec.upto fnTestTextSpec)) fnTestTextUptoCard

/-- THE SECOND FORM's CARD OF 'laws.FnExactRuleText'. -/
def fnExactRuleTextUptoCard : Claim7 := { stood := { row := fnExactRuleTextUptoRow, standIns := [], harness := (true, "1f7d08ec4e28adc5492ed9e7256aa3b56711de1da80856a85354adff7d24a541"), looks := false }, kinds := [], alts := [], laidByText := true, laidKinds := [.data, .data, .data, .data], laidTests := true, laidLooks := .later }
def FnExactRuleTextUptoCardSaid : Prop := Claim7.holds Tryd.pinned (.plain (OpenSpec.upto fnExactRuleTextSpec)) fnExactRuleTextUptoCard

/-- THE SECOND FORM's CARD OF 'laws.FnReadTest'. -/
def fnReadTestUptoCard : Claim7 := { stood := { row := fnReadTestUptoRow, standIns := [], harness := (true, "1f7d08ec4e28adc5492ed9e7256aa3b56711de1da80856a85354adff7d24a541"), looks := false }, kinds := [], alts := [], laidByText := true, laidKinds := [.data, .data, .data, .data], laidTests := true, laidLooks := .later }
def FnReadTestUptoCardSaid : Prop := Claim7.holds Tryd.pinned (.plain (OpenSpec.upto fnReadTestSpec)) fnReadTestUptoCard

/-- THE SECOND FORM's CARD OF 'laws.FnRuleText'. -/
def fnRuleTextUptoCard : Claim7 := { stood := { row := fnRuleTextUptoRow, standIns := [], harness := (true, "1f7d08ec4e28adc5492ed9e7256aa3b56711de1da80856a85354adff7d24a541"), looks := false }, kinds := [], alts := [], laidByText := true, laidKinds := [.data, .data, .data, .data], laidTests := true, laidLooks := .later }
def FnRuleTextUptoCardSaid : Prop := Claim7.holds Tryd.pinned (.plain (OpenSpec.upto fnRuleTextSpec)) fnRuleTextUptoCard

/-- THE SECOND FORM's CARD OF 'laws.FnExactReadRule'. -/
def fnExactReadRuleUptoCard : Claim7 := { stood := { row := fnExactReadRuleUptoRow, standIns := [], harness := (true, "1f7d08ec4e28adc5492ed9e7256aa3b56711de1da80856a85354adff7d24a541"), looks := false }, kinds := [], alts := [], laidByText := true, laidKinds := [.data, .data, .data, .data], laidTests := true, laidLooks := .later }
def FnExactReadRuleUptoCardSaid : Prop := Claim7.holds Tryd.pinned (.plain (OpenSpec.upto fnExactReadRuleSpec)) fnExactReadRuleUptoCard

/-- THE SECOND FORM's CARD OF 'laws.FnReadRule'. -/
def fnReadRuleUptoCard : Claim7 := { stood := { row := fnReadRuleUptoRow, standIns := [], harness := (true, "1f7d08ec4e28adc5492ed9e7256aa3b56711de1da80856a85354adff7d24a541"), looks := false }, kinds := [], alts := [], laidByText := true, laidKinds := [.data, .data, .data, .data], laidTests := true, laidLooks := .later }
def FnReadRuleUptoCardSaid : Prop := Claim7.holds Tryd.pinned (.plain (OpenSpec.upto fnReadRuleSpec)) fnReadRuleUptoCard

/-- THE SECOND FORM's CARD OF 'laws.FnLinesCount'. -/
def fnLinesCountUptoCard : Claim7 := { stood := { row := fnLinesCountUptoRow, standIns := [], harness := (true, "1f7d08ec4e28adc5492ed9e7256aa3b56711de1da80856a85354adff7d24a541"), looks := false }, kinds := [], alts := [], laidByText := true, laidKinds := [.data, .data, .data, .data], laidTests := true, laidLooks := .later }
def FnLinesCountUptoCardSaid : Prop := Claim7.holds Tryd.pinned (.plain (OpenSpec.upto fnLinesCountSpec)) fnLinesCountUptoCard
end Rows
end Go.Proofs.YtnogaeckmiekdaaDoor
