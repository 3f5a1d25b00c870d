/-
  DERIVED. GIVEN WITH THE SEED: THE CARDS: each row of YtgpdnnhmndlljaaGreatDoorRows.lean that lists a variable, with what it lists TIED to the program's text (the seventh form; the later family's looks); each row that meets fmt, with fmt's text TOLD by the authors' own Lean function (tested against real Go, not proved from fmt's source: count such statements apart). THE CARD IS WHAT COUNTS. Prove the row's statement (the work); the ties are given (YtgpdnnhmndlljaaGreatDoorTie.lean); close each card by the builder's one call (the guide's Derived/Test/ToyasCard.lean, 'card_holds'). Laid BY PROGRAM, IN A SANDBOX (cutbox-door.mjs). By AI agents, Wed Nov 11 2026. No macro, syntax, notation, axiom, sorry.
-/
import Derived.Test.YtgpdnnhmndlljaaGreatDoorRows
import GoSem.ClaimSeven
namespace Go.Proofs.YtgpdnnhmndlljaaGreatDoor
namespace Rows

/-- THE TIED CARD OF 'laws.FnCheckChange'. -/
def fnCheckChangeCard : Claim7 := { stood := { row := fnCheckChangeRow, standIns := [], harness := (true, "2d67a756402a7a261a7c1aae2af05c2414232af11b3caa80435ddd53cb0a5b57"), looks := false }, kinds := [], alts := [], laidByText := true, laidKinds := [.data], laidTests := true, laidLooks := .later }
def FnCheckChangeCardSaid : Prop := Claim7.holds Tryz.pinned (.plain (OpenSpec.ofChange fnCheckChangeSpec)) fnCheckChangeCard

/-- THE TIED CARD OF 'laws.FnUnfoldFlat'. -/
def fnUnfoldFlatCard : Claim7 := { stood := { row := fnUnfoldFlatRow, standIns := [], harness := (true, "2d67a756402a7a261a7c1aae2af05c2414232af11b3caa80435ddd53cb0a5b57"), looks := false }, kinds := [], alts := [], laidByText := true, laidKinds := [.data], laidTests := true, laidLooks := .later }
def FnUnfoldFlatCardSaid : Prop := Claim7.holds Tryz.pinned (.plain (OpenSpec.ofChange fnUnfoldFlatSpec)) fnUnfoldFlatCard

/-- THE TIED CARD OF 'laws.FnChangeDefault'. -/
def fnChangeDefaultCard : Claim7 := { stood := { row := fnChangeDefaultRow, standIns := [], harness := (true, "2d67a756402a7a261a7c1aae2af05c2414232af11b3caa80435ddd53cb0a5b57"), looks := false }, kinds := [], alts := [], laidByText := true, laidKinds := [.data], laidTests := true, laidLooks := .later }
def FnChangeDefaultCardSaid : Prop := Claim7.holds Tryz.pinned (.plain (OpenSpec.ofChange fnChangeDefaultSpec)) fnChangeDefaultCard

/-- THE TIED CARD OF 'laws.FnExactCheckChange'. -/
def fnExactCheckChangeCard : Claim7 := { stood := { row := fnExactCheckChangeRow, standIns := [], harness := (true, "2d67a756402a7a261a7c1aae2af05c2414232af11b3caa80435ddd53cb0a5b57"), looks := false }, kinds := [], alts := [], laidByText := true, laidKinds := [.data], laidTests := true, laidLooks := .later }
def FnExactCheckChangeCardSaid : Prop := Claim7.holds Tryz.pinned (.plain (OpenSpec.ofChange fnExactCheckChangeSpec)) fnExactCheckChangeCard

/-- THE TIED CARD OF 'laws.FnExactCompile'. -/
def fnExactCompileCard : Claim7 := { stood := { row := fnExactCompileRow, standIns := [], harness := (true, "2d67a756402a7a261a7c1aae2af05c2414232af11b3caa80435ddd53cb0a5b57"), looks := false }, kinds := [], alts := [], laidByText := true, laidKinds := [.data], laidTests := true, laidLooks := .later }
def FnExactCompileCardSaid : Prop := Claim7.holds Tryz.pinned (.plain (OpenSpec.ofChange fnExactCompileSpec)) fnExactCompileCard

/-- THE TIED CARD OF 'laws.FnChangeCompiled'. -/
def fnChangeCompiledCard : Claim7 := { stood := { row := fnChangeCompiledRow, standIns := [], harness := (true, "2d67a756402a7a261a7c1aae2af05c2414232af11b3caa80435ddd53cb0a5b57"), looks := false }, kinds := [], alts := [], laidByText := true, laidKinds := [.data], laidTests := true, laidLooks := .later }
def FnChangeCompiledCardSaid : Prop := Claim7.holds Tryz.pinned (.plain (OpenSpec.ofChange fnChangeCompiledSpec)) fnChangeCompiledCard

/-- THE TIED CARD OF 'laws.FnCompile'. -/
def fnCompileCard : Claim7 := { stood := { row := fnCompileRow, standIns := [], harness := (true, "2d67a756402a7a261a7c1aae2af05c2414232af11b3caa80435ddd53cb0a5b57"), looks := false }, kinds := [], alts := [], laidByText := true, laidKinds := [.data], laidTests := true, laidLooks := .later }
def FnCompileCardSaid : Prop := Claim7.holds Tryz.pinned (.plain (OpenSpec.ofChange fnCompileSpec)) fnCompileCard

/-- THE TIED CARD OF 'laws.FnExactCompileText'. -/
def fnExactCompileTextCard : Claim7 := { stood := { row := fnExactCompileTextRow, standIns := [], harness := (true, "2d67a756402a7a261a7c1aae2af05c2414232af11b3caa80435ddd53cb0a5b57"), looks := false }, kinds := [], alts := [], laidByText := true, laidKinds := [.data, .data, .data, .data], laidTests := true, laidLooks := .later }
def FnExactCompileTextCardSaid : Prop := Claim7.holds Tryz.pinned (.plain (OpenSpec.ofChange fnExactCompileTextSpec)) fnExactCompileTextCard

/-- THE TIED CARD OF 'laws.FnCompileText'. -/
def fnCompileTextCard : Claim7 := { stood := { row := fnCompileTextRow, standIns := [], harness := (true, "2d67a756402a7a261a7c1aae2af05c2414232af11b3caa80435ddd53cb0a5b57"), looks := false }, kinds := [], alts := [], laidByText := true, laidKinds := [.data, .data, .data, .data], laidTests := true, laidLooks := .later }
def FnCompileTextCardSaid : Prop := Claim7.holds Tryz.pinned (.plain (OpenSpec.ofChange fnCompileTextSpec)) fnCompileTextCard

/-- THE SECOND FORM's CARD OF 'laws.FnCheckChange'. -/
def fnCheckChangeUptoCard : Claim7 := { stood := { row := fnCheckChangeUptoRow, standIns := [], harness := (true, "2d67a756402a7a261a7c1aae2af05c2414232af11b3caa80435ddd53cb0a5b57"), looks := false }, kinds := [], alts := [], laidByText := true, laidKinds := [.data], laidTests := true, laidLooks := .later }
def FnCheckChangeUptoCardSaid : Prop := Claim7.holds Tryz.pinned (.plain (OpenSpec.upto fnCheckChangeSpec)) fnCheckChangeUptoCard

/-- THE SECOND FORM's CARD OF 'laws.FnUnfoldFlat'. -/
def fnUnfoldFlatUptoCard : Claim7 := { stood := { row := fnUnfoldFlatUptoRow, standIns := [], harness := (true, "2d67a756402a7a261a7c1aae2af05c2414232af11b3caa80435ddd53cb0a5b57"), looks := false }, kinds := [], alts := [], laidByText := true, laidKinds := [.data], laidTests := true, laidLooks := .later }
def FnUnfoldFlatUptoCardSaid : Prop := Claim7.holds Tryz.pinned (.plain (OpenSpec.upto fnUnfoldFlatSpec)) fnUnfoldFlatUptoCard

/-- THE SECOND FORM's CARD OF 'laws.FnChangeDefault'. -/
def fnChangeDefaultUptoCard : Claim7 := { stood := { row := fnChangeDefaultUptoRow, standIns := [], harness := (true, "2d67a756402a7a261a7c1aae2af05c2414232af11b3caa80435ddd53cb0a5b57"), looks := false }, kinds := [], alts := [], laidByText := true, laidKinds := [.data], laidTests := true, laidLooks := .later }
def FnChangeDefaultUptoCardSaid : Prop := Claim7.holds Tryz.pinned (.plain (OpenSpec.upto fnChangeDefaultSpec)) fnChangeDefaultUptoCard

/-- THE SECOND FORM's CARD OF 'laws.FnExactCheckChange'. -/
def fnExactCheckChangeUptoCard : Claim7 := { stood := { row := fnExactCheckChangeUptoRow, standIns := [], harness := (true, "2d67a756402a7a261a7c1aae2af05c2414232af11b3caa80435ddd53cb0a5b57"), looks := false }, kinds := [], alts := [], laidByText := true, laidKinds := [.data], laidTests := true, laidLooks := .later }
def FnExactCheckChangeUptoCardSaid : Prop := Claim7.holds Tryz.pinned (.plain (OpenSpec.upto fnExactCheckChangeSpec)) fnExactCheckChangeUptoCard

/-- THE SECOND FORM's CARD OF 'laws.FnExactCompile'. -/
def fnExactCompileUptoCard : Claim7 := { stood := { row := fnExactCompileUptoRow, standIns := [], harness := (true, "2d67a756402a7a261a7c1aae2af05c2414232af11b3caa80435ddd53cb0a5b57"), looks := false }, kinds := [], alts := [], laidByText := true, laidKinds := [.data], laidTests := true, laidLooks := .later }
def FnExactCompileUptoCardSaid : Prop := Claim7.holds Tryz.pinned (.plain (OpenSpec.upto fnExactCompileSpec)) fnExactCompileUptoCard

/-- THE SECOND FORM's CARD OF 'laws.FnChangeCompiled'. -/
def fnChangeCompiledUptoCard : Claim7 := { stood := { row := fnChangeCompiledUptoRow, standIns := [], harness := (true, "2d67a756402a7a261a7c1aae2af05c2414232af11b3caa80435ddd53cb0a5b57"), looks := false }, kinds := [], alts := [], laidByText := true, laidKinds := [.data], laidTests := true, laidLooks := .later }
def FnChangeCompiledUptoCardSaid : Prop := Claim7.holds Tryz.pinned (.plain (OpenSpec.upto fnChangeCompiledSpec)) fnChangeCompiledUptoCard

/-- THE SECOND FORM's CARD OF 'laws.FnCompile'. -/
def fnCompileUptoCard : Claim7 := { stood := { row := fnCompileUptoRow, standIns := [], harness := (true, "2d67a756402a7a261a7c1aae2af05c2414232af11b3caa80435ddd53cb0a5b57"), looks := false }, kinds := [], alts := [], laidByText := true, laidKinds := [.data], laidTests := true, laidLooks := .later }
def FnCompileUptoCardSaid : Prop := Claim7.holds Tryz.pinned (.plain (OpenSpec.upto fnCompileSpec)) fnCompileUptoCard

/-- THE SECOND FORM's CARD OF 'laws.FnExactCompileText'. -/
def fnExactCompileTextUptoCard : Claim7 := { stood := { row := fnExactCompileTextUptoRow, standIns := [], harness := (true, "2d67a756402a7a261a7c1aae2af05c2414232af11b3caa80435ddd53cb0a5b57"), looks := false }, kinds := [], alts := [], laidByText := true, laidKinds := [.data, .data, .data, .data], laidTests := true, laidLooks := .later }
def FnExactCompileTextUptoCardSaid : Prop := Claim7.holds Tryz.pinned (.plain (OpenSpec.upto fnExactCompileTextSpec)) fnExactCompileTextUptoCard

/-- THE SECOND FORM's CARD OF 'laws.FnCompileText'. -/
def fnCompileTextUptoCard : Claim7 := { stood := { row := fnCompileTextUptoRow, standIns := [], harness := (true, "2d67a756402a7a261a7c1aae2af05c2414232af11b3caa80435ddd53cb0a5b57"), looks := false }, kinds := [], alts := [], laidByText := true, laidKinds := [.data, .data, .data, .data], laidTests := true, laidLooks := .later }
def FnCompileTextUptoCardSaid : Prop := Claim7.holds Tryz.pinned (.plain (OpenSpec.upto fnCompileTextSpec)) fnCompileTextUptoCard
end Rows
end Go.Proofs.YtgpdnnhmndlljaaGreatDoor
