/-
  DERIVED. GIVEN WITH THE SEED: THE CARDS: each row of YtigdghiknfehhaaDoorRows.lean that lists a variable, with what it lists TIED to the program's text (the seventh form; the later family's looks); each row that meets fmt, with fmt's text TOLD by the authors' own Lean function (tested against real Go, not proved from fmt's source: count such statements apart). THE CARD IS WHAT COUNTS. Prove the row's statement (the work); the ties are given (YtigdghiknfehhaaDoorTie.lean); close each card by the builder's one call (the guide's Derived/Test/ToyasCard.lean, 'card_holds'). Laid BY PROGRAM, IN A SANDBOX (cutbox-door.mjs). By AI agents, Wed Nov 11 2026. No macro, syntax, notation, axiom, sorry.
-/
import Derived.Test.YtigdghiknfehhaaDoorRows
import GoSem.ClaimSeven
namespace Go.Proofs.YtigdghiknfehhaaDoor
namespace Rows

/-- THE TIED CARD OF 'laws.FnJudgeAll'. -/
def fnJudgeAllCard : Claim7 := { stood := { row := fnJudgeAllRow, standIns := [], harness := (true, "f1318fcdd238eccc9caf2783d90418b7f57f5cd30bd3b6b6c7d8d8e236f93a4f"), looks := false }, kinds := [], alts := [], laidByText := true, laidKinds := [.data], laidTests := true, laidLooks := .later }
def FnJudgeAllCardSaid : Prop := Claim7.holds Tryd.pinned (.plain (OpenSpec.ofChange fnJudgeAllSpec)) fnJudgeAllCard

/-- THE TIED CARD OF 'laws.FnExactAnswersPass'. -/
def fnExactAnswersPassCard : Claim7 := { stood := { row := fnExactAnswersPassRow, standIns := [], harness := (true, "f1318fcdd238eccc9caf2783d90418b7f57f5cd30bd3b6b6c7d8d8e236f93a4f"), looks := false }, kinds := [], alts := [], laidByText := true, laidKinds := [.data], laidTests := true, laidLooks := .later }
def FnExactAnswersPassCardSaid : Prop := Claim7.holds Tryd.pinned (.plain (OpenSpec.ofChange fnExactAnswersPassSpec)) fnExactAnswersPassCard

/-- THE TIED CARD OF 'laws.FnAnswersPass'. -/
def fnAnswersPassCard : Claim7 := { stood := { row := fnAnswersPassRow, standIns := [], harness := (true, "f1318fcdd238eccc9caf2783d90418b7f57f5cd30bd3b6b6c7d8d8e236f93a4f"), looks := false }, kinds := [], alts := [], laidByText := true, laidKinds := [.data], laidTests := true, laidLooks := .later }
def FnAnswersPassCardSaid : Prop := Claim7.holds Tryd.pinned (.plain (OpenSpec.ofChange fnAnswersPassSpec)) fnAnswersPassCard

/-- THE TIED CARD OF 'laws.FnPassAll'. -/
def fnPassAllCard : Claim7 := { stood := { row := fnPassAllRow, standIns := [], harness := (true, "f1318fcdd238eccc9caf2783d90418b7f57f5cd30bd3b6b6c7d8d8e236f93a4f"), looks := false }, kinds := [], alts := [], laidByText := true, laidKinds := [.data], laidTests := true, laidLooks := .later }
def FnPassAllCardSaid : Prop := Claim7.holds Tryd.pinned (.plain (OpenSpec.ofChange fnPassAllSpec)) fnPassAllCard

/-- THE TIED CARD OF 'laws.FnPassShort'. -/
def fnPassShortCard : Claim7 := { stood := { row := fnPassShortRow, standIns := [], harness := (true, "f1318fcdd238eccc9caf2783d90418b7f57f5cd30bd3b6b6c7d8d8e236f93a4f"), looks := false }, kinds := [], alts := [], laidByText := true, laidKinds := [.data], laidTests := true, laidLooks := .later }
def FnPassShortCardSaid : Prop := Claim7.holds Tryd.pinned (.plain (OpenSpec.ofChange fnPassShortSpec)) fnPassShortCard

/-- THE TIED CARD OF 'laws.FnPassPacket'. -/
def fnPassPacketCard : Claim7 := { stood := { row := fnPassPacketRow, standIns := [], harness := (true, "f1318fcdd238eccc9caf2783d90418b7f57f5cd30bd3b6b6c7d8d8e236f93a4f"), looks := false }, kinds := [], alts := [], laidByText := true, laidKinds := [.data], laidTests := true, laidLooks := .later }
def FnPassPacketCardSaid : Prop := Claim7.holds Tryd.pinned (.plain (OpenSpec.ofChange fnPassPacketSpec)) fnPassPacketCard

/-- THE TIED CARD OF 'laws.FnExactPassPacket'. -/
def fnExactPassPacketCard : Claim7 := { stood := { row := fnExactPassPacketRow, standIns := [], harness := (true, "f1318fcdd238eccc9caf2783d90418b7f57f5cd30bd3b6b6c7d8d8e236f93a4f"), looks := false }, kinds := [], alts := [], laidByText := true, laidKinds := [.data], laidTests := true, laidLooks := .later }
def FnExactPassPacketCardSaid : Prop := Claim7.holds Tryd.pinned (.plain (OpenSpec.ofChange fnExactPassPacketSpec)) fnExactPassPacketCard

/-- THE TIED CARD OF 'laws.FnExactPassAll'. -/
def fnExactPassAllCard : Claim7 := { stood := { row := fnExactPassAllRow, standIns := [], harness := (true, "f1318fcdd238eccc9caf2783d90418b7f57f5cd30bd3b6b6c7d8d8e236f93a4f"), looks := false }, kinds := [], alts := [], laidByText := true, laidKinds := [.data], laidTests := true, laidLooks := .later }
def FnExactPassAllCardSaid : Prop := Claim7.holds Tryd.pinned (.plain (OpenSpec.ofChange fnExactPassAllSpec)) fnExactPassAllCard

/-- THE SECOND FORM's CARD OF 'laws.FnJudgeAll'. -/
def fnJudgeAllUptoCard : Claim7 := { stood := { row := fnJudgeAllUptoRow, standIns := [], harness := (true, "f1318fcdd238eccc9caf2783d90418b7f57f5cd30bd3b6b6c7d8d8e236f93a4f"), looks := false }, kinds := [], alts := [], laidByText := true, laidKinds := [.data], laidTests := true, laidLooks := .later }
def FnJudgeAllUptoCardSaid : Prop := Claim7.holds Tryd.pinned (.plain (OpenSpec.upto fnJudgeAllSpec)) fnJudgeAllUptoCard

/-- THE SECOND FORM's CARD OF 'laws.FnExactAnswersPass'. -/
def fnExactAnswersPassUptoCard : Claim7 := { stood := { row := fnExactAnswersPassUptoRow, standIns := [], harness := (true, "f1318fcdd238eccc9caf2783d90418b7f57f5cd30bd3b6b6c7d8d8e236f93a4f"), looks := false }, kinds := [], alts := [], laidByText := true, laidKinds := [.data], laidTests := true, laidLooks := .later }
def FnExactAnswersPassUptoCardSaid : Prop := Claim7.holds Tryd.pinned (.plain (OpenSpec.upto fnExactAnswersPassSpec)) fnExactAnswersPassUptoCard

/-- THE SECOND FORM's CARD OF 'laws.FnAnswersPass'. -/
def fnAnswersPassUptoCard : Claim7 := { stood := { row := fnAnswersPassUptoRow, standIns := [], harness := (true, "f1318fcdd238eccc9caf2783d90418b7f57f5cd30bd3b6b6c7d8d8e236f93a4f"), looks := false }, kinds := [], alts := [], laidByText := true, laidKinds := [.data], laidTests := true, laidLooks := .later }
def FnAnswersPassUptoCardSaid : Prop := Claim7.holds Tryd.pinned (.plain (OpenSpec.upto fnAnswersPassSpec)) fnAnswersPassUptoCard

/-- THE SECOND FORM's CARD OF 'laws.FnPassAll'. -/
def fnPassAllUptoCard : Claim7 := { stood := { row := fnPassAllUptoRow, standIns := [], harness := (true, "f1318fcdd238eccc9caf2783d90418b7f57f5cd30bd3b6b6c7d8d8e236f93a4f"), looks := false }, kinds := [], alts := [], laidByText := true, laidKinds := [.data], laidTests := true, laidLooks := .later }
def FnPassAllUptoCardSaid : Prop := Claim7.holds Tryd.pinned (.plain (OpenSpec.upto fnPassAllSpec)) fnPassAllUptoCard

/-- THE SECOND FORM's CARD OF 'laws.FnPassShort'. -/
def fnPassShortUptoCard : Claim7 := { stood := { row := fnPassShortUptoRow, standIns := [], harness := (true, "f1318fcdd238eccc9caf2783d90418b7f57f5cd30bd3b6b6c7d8d8e236f93a4f"), looks := false }, kinds := [], alts := [], laidByText := true, laidKinds := [.data], laidTests := true, laidLooks := .later }
def FnPassShortUptoCardSaid : Prop := Claim7.holds Tryd.pinned (.plain (OpenSpec.upto fnPassShortSpec)) fnPassShortUptoCard

/-- THE SECOND FORM's CARD OF 'laws.FnPassPacket'. -/
def fnPassPacketUptoCard : Claim7 := { stood := { row := fnPassPacketUptoRow, standIns := [], harness := (true, "f1318fcdd238eccc9caf2783d90418b7f57f5cd30bd3b6b6c7d8d8e236f93a4f"), looks := false }, kinds := [], alts := [], laidByText := true, laidKinds := [.data], laidTests := true, laidLooks := .later }
def FnPassPacketUptoCardSaid : Prop := Claim7.holds Tryd.pinned (.plain (OpenSpec.upto fnPassPacketSpec)) fnPassPacketUptoCard

/-- THE SECOND FORM's CARD OF 'laws.FnExactPassPacket'. -/
def fnExactPassPacketUptoCard : Claim7 := { stood := { row := fnExactPassPacketUptoRow, standIns := [], harness := (true, "f1318fcdd238eccc9caf2783d90418b7f57f5cd30bd3b6b6c7d8d8e236f93a4f"), looks := false }, kinds := [], alts := [], laidByText := true, laidKinds := [.data], laidTests := true, laidLooks := .later }
def FnExactPassPacketUptoCardSaid : Prop := Claim7.holds Tryd.pinned (.plain (OpenSpec.upto fnExactPassPacketSpec)) fnExactPassPacketUptoCard

/-- THE SECOND FORM's CARD OF 'laws.FnExactPassAll'. -/
def fnExactPassAllUptoCard : Claim7 := { stood := { row := fnExactPassAllUptoRow, standIns := [], harness := (true, "f1318fcdd238eccc9caf2783d90418b7f57f5cd30bd3b6b6c7d8d8e236f93a4f"), looks := false }, kinds := [], alts := [], laidByText := true, laidKinds := [.data], laidTests := true, laidLooks := .later }
def FnExactPassAllUptoCardSaid : Prop := Claim7.holds Tryd.pinned (.plain (OpenSpec.upto fnExactPassAllSpec)) fnExactPassAllUptoCard
end Rows
end Go.Proofs.YtigdghiknfehhaaDoor
