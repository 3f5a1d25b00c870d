/-
  DERIVED. GIVEN WITH THE SEED: THE CARDS: each row of YtfgbbpmbmmihcaaDoorRows.lean that lists a variable, with what it lists TIED to the program's text (the seventh form; the later family's looks); each row that meets fmt, with fmt's text TOLD by the authors' own Lean function (tested against real Go, not proved from fmt's source: count such statements apart). THE CARD IS WHAT COUNTS. Prove the row's statement (the work); the ties are given (YtfgbbpmbmmihcaaDoorTie.lean); close each card by the builder's one call (the guide's Derived/Test/ToyasCard.lean, 'card_holds'). Laid BY PROGRAM, IN A SANDBOX (cutbox-door.mjs). By AI agents, Wed Nov 11 2026. No macro, syntax, notation, axiom, sorry.
-/
import Derived.Test.YtfgbbpmbmmihcaaDoorRows
import GoSem.ClaimSeven
namespace Go.Proofs.YtfgbbpmbmmihcaaDoor
namespace Rows

/-- THE TIED CARD OF 'laws.FnExactTrackFlow'. -/
def fnExactTrackFlowCard : Claim7 := { stood := { row := fnExactTrackFlowRow, standIns := [], harness := (true, "e081252afb337dd3ee76f0008b20b3908d46b43fe55144ba0839b95076a2c27b"), looks := false }, kinds := [], alts := [], laidByText := true, laidKinds := [.data], laidTests := true, laidLooks := .later }
def FnExactTrackFlowCardSaid : Prop := Claim7.holds Tryd.pinned (.plain (OpenSpec.ofChange fnExactTrackFlowSpec)) fnExactTrackFlowCard

/-- THE TIED CARD OF 'laws.FnFlowsTwice'. -/
def fnFlowsTwiceCard : Claim7 := { stood := { row := fnFlowsTwiceRow, standIns := [], harness := (true, "e081252afb337dd3ee76f0008b20b3908d46b43fe55144ba0839b95076a2c27b"), looks := false }, kinds := [], alts := [], laidByText := true, laidKinds := [.data], laidTests := true, laidLooks := .later }
def FnFlowsTwiceCardSaid : Prop := Claim7.holds Tryd.pinned (.plain (OpenSpec.ofChange fnFlowsTwiceSpec)) fnFlowsTwiceCard

/-- THE TIED CARD OF 'laws.FnTrackFlow'. -/
def fnTrackFlowCard : Claim7 := { stood := { row := fnTrackFlowRow, standIns := [], harness := (true, "e081252afb337dd3ee76f0008b20b3908d46b43fe55144ba0839b95076a2c27b"), looks := false }, kinds := [], alts := [], laidByText := true, laidKinds := [.data], laidTests := true, laidLooks := .later }
def FnTrackFlowCardSaid : Prop := Claim7.holds Tryd.pinned (.plain (OpenSpec.ofChange fnTrackFlowSpec)) fnTrackFlowCard

/-- THE TIED CARD OF 'laws.FnJudgeAll'. -/
def fnJudgeAllCard : Claim7 := { stood := { row := fnJudgeAllRow, standIns := [], harness := (true, "e081252afb337dd3ee76f0008b20b3908d46b43fe55144ba0839b95076a2c27b"), looks := false }, kinds := [], alts := [], laidByText := true, laidKinds := [.data], laidTests := true, laidLooks := .later }
def FnJudgeAllCardSaid : Prop := Claim7.holds Tryd.pinned (.plain (OpenSpec.ofChange fnJudgeAllSpec)) fnJudgeAllCard

/-- THE TIED CARD OF 'laws.FnExactAnswersPass'. -/
def fnExactAnswersPassCard : Claim7 := { stood := { row := fnExactAnswersPassRow, standIns := [], harness := (true, "e081252afb337dd3ee76f0008b20b3908d46b43fe55144ba0839b95076a2c27b"), looks := false }, kinds := [], alts := [], laidByText := true, laidKinds := [.data], laidTests := true, laidLooks := .later }
def FnExactAnswersPassCardSaid : Prop := Claim7.holds Tryd.pinned (.plain (OpenSpec.ofChange fnExactAnswersPassSpec)) fnExactAnswersPassCard

/-- THE TIED CARD OF 'laws.FnAnswersPass'. -/
def fnAnswersPassCard : Claim7 := { stood := { row := fnAnswersPassRow, standIns := [], harness := (true, "e081252afb337dd3ee76f0008b20b3908d46b43fe55144ba0839b95076a2c27b"), looks := false }, kinds := [], alts := [], laidByText := true, laidKinds := [.data], laidTests := true, laidLooks := .later }
def FnAnswersPassCardSaid : Prop := Claim7.holds Tryd.pinned (.plain (OpenSpec.ofChange fnAnswersPassSpec)) fnAnswersPassCard

/-- THE TIED CARD OF 'laws.FnPassAll'. -/
def fnPassAllCard : Claim7 := { stood := { row := fnPassAllRow, standIns := [], harness := (true, "e081252afb337dd3ee76f0008b20b3908d46b43fe55144ba0839b95076a2c27b"), looks := false }, kinds := [], alts := [], laidByText := true, laidKinds := [.data], laidTests := true, laidLooks := .later }
def FnPassAllCardSaid : Prop := Claim7.holds Tryd.pinned (.plain (OpenSpec.ofChange fnPassAllSpec)) fnPassAllCard

/-- THE TIED CARD OF 'laws.FnPassShort'. -/
def fnPassShortCard : Claim7 := { stood := { row := fnPassShortRow, standIns := [], harness := (true, "e081252afb337dd3ee76f0008b20b3908d46b43fe55144ba0839b95076a2c27b"), looks := false }, kinds := [], alts := [], laidByText := true, laidKinds := [.data], laidTests := true, laidLooks := .later }
def FnPassShortCardSaid : Prop := Claim7.holds Tryd.pinned (.plain (OpenSpec.ofChange fnPassShortSpec)) fnPassShortCard

/-- THE TIED CARD OF 'laws.FnPassPacket'. -/
def fnPassPacketCard : Claim7 := { stood := { row := fnPassPacketRow, standIns := [], harness := (true, "e081252afb337dd3ee76f0008b20b3908d46b43fe55144ba0839b95076a2c27b"), looks := false }, kinds := [], alts := [], laidByText := true, laidKinds := [.data], laidTests := true, laidLooks := .later }
def FnPassPacketCardSaid : Prop := Claim7.holds Tryd.pinned (.plain (OpenSpec.ofChange fnPassPacketSpec)) fnPassPacketCard

/-- THE TIED CARD OF 'laws.FnExactPassPacket'. -/
def fnExactPassPacketCard : Claim7 := { stood := { row := fnExactPassPacketRow, standIns := [], harness := (true, "e081252afb337dd3ee76f0008b20b3908d46b43fe55144ba0839b95076a2c27b"), looks := false }, kinds := [], alts := [], laidByText := true, laidKinds := [.data], laidTests := true, laidLooks := .later }
def FnExactPassPacketCardSaid : Prop := Claim7.holds Tryd.pinned (.plain (OpenSpec.ofChange fnExactPassPacketSpec)) fnExactPassPacketCard

/-- THE TIED CARD OF 'laws.FnExactPassAll'. -/
def fnExactPassAllCard : Claim7 := { stood := { row := fnExactPassAllRow, standIns := [], harness := (true, "e081252afb337dd3ee76f0008b20b3908d46b43fe55144ba0839b95076a2c27b"), looks := false }, kinds := [], alts := [], laidByText := true, laidKinds := [.data], laidTests := true, laidLooks := .later }
def FnExactPassAllCardSaid : Prop := Claim7.holds Tryd.pinned (.plain (OpenSpec.ofChange fnExactPassAllSpec)) fnExactPassAllCard

/-- THE SECOND FORM's CARD OF 'laws.FnExactTrackFlow'. -/
def fnExactTrackFlowUptoCard : Claim7 := { stood := { row := fnExactTrackFlowUptoRow, standIns := [], harness := (true, "e081252afb337dd3ee76f0008b20b3908d46b43fe55144ba0839b95076a2c27b"), looks := false }, kinds := [], alts := [], laidByText := true, laidKinds := [.data], laidTests := true, laidLooks := .later }
def FnExactTrackFlowUptoCardSaid : Prop := Claim7.holds Tryd.pinned (.plain (OpenSpec.upto fnExactTrackFlowSpec)) fnExactTrackFlowUptoCard

/-- THE SECOND FORM's CARD OF 'laws.FnFlowsTwice'. -/
def fnFlowsTwiceUptoCard : Claim7 := { stood := { row := fnFlowsTwiceUptoRow, standIns := [], harness := (true, "e081252afb337dd3ee76f0008b20b3908d46b43fe55144ba0839b95076a2c27b"), looks := false }, kinds := [], alts := [], laidByText := true, laidKinds := [.data], laidTests := true, laidLooks := .later }
def FnFlowsTwiceUptoCardSaid : Prop := Claim7.holds Tryd.pinned (.plain (OpenSpec.upto fnFlowsTwiceSpec)) fnFlowsTwiceUptoCard

/-- THE SECOND FORM's CARD OF 'laws.FnTrackFlow'. -/
def fnTrackFlowUptoCard : Claim7 := { stood := { row := fnTrackFlowUptoRow, standIns := [], harness := (true, "e081252afb337dd3ee76f0008b20b3908d46b43fe55144ba0839b95076a2c27b"), looks := false }, kinds := [], alts := [], laidByText := true, laidKinds := [.data], laidTests := true, laidLooks := .later }
def FnTrackFlowUptoCardSaid : Prop := Claim7.holds Tryd.pinned (.plain (OpenSpec.upto fnTrackFlowSpec)) fnTrackFlowUptoCard

/-- THE SECOND FORM's CARD OF 'laws.FnJudgeAll'. -/
def fnJudgeAllUptoCard : Claim7 := { stood := { row := fnJudgeAllUptoRow, standIns := [], harness := (true, "e081252afb337dd3ee76f0008b20b3908d46b43fe55144ba0839b95076a2c27b"), looks := false }, kinds := [], alts := [], laidByText := true, laidKinds := [.data], laidTests := true, laidLooks := .later }
def FnJudgeAllUptoCardSaid : Prop := Claim7.holds Tryd.pinned (.plain (OpenSpec.upto fnJudgeAllSpec)) fnJudgeAllUptoCard

/-- THE SECOND FORM's CARD OF 'laws.FnExactAnswersPass'. -/
def fnExactAnswersPassUptoCard : Claim7 := { stood := { row := fnExactAnswersPassUptoRow, standIns := [], harness := (true, "e081252afb337dd3ee76f0008b20b3908d46b43fe55144ba0839b95076a2c27b"), looks := false }, kinds := [], alts := [], laidByText := true, laidKinds := [.data], laidTests := true, laidLooks := .later }
def FnExactAnswersPassUptoCardSaid : Prop := Claim7.holds Tryd.pinned (.plain (OpenSpec.upto fnExactAnswersPassSpec)) fnExactAnswersPassUptoCard

/-- THE SECOND FORM's CARD OF 'laws.FnAnswersPass'. -/
def fnAnswersPassUptoCard : Claim7 := { stood := { row := fnAnswersPassUptoRow, standIns := [], harness := (true, "e081252afb337dd3ee76f0008b20b3908d46b43fe55144ba0839b95076a2c27b"), looks := false }, kinds := [], alts := [], laidByText := true, laidKinds := [.data], laidTests := true, laidLooks := .later }
def FnAnswersPassUptoCardSaid : Prop := Claim7.holds Tryd.pinned (.plain (OpenSpec.upto fnAnswersPassSpec)) fnAnswersPassUptoCard

/-- THE SECOND FORM's CARD OF 'laws.FnPassAll'. -/
def fnPassAllUptoCard : Claim7 := { stood := { row := fnPassAllUptoRow, standIns := [], harness := (true, "e081252afb337dd3ee76f0008b20b3908d46b43fe55144ba0839b95076a2c27b"), looks := false }, kinds := [], alts := [], laidByText := true, laidKinds := [.data], laidTests := true, laidLooks := .later }
def FnPassAllUptoCardSaid : Prop := Claim7.holds Tryd.pinned (.plain (OpenSpec.upto fnPassAllSpec)) fnPassAllUptoCard

/-- THE SECOND FORM's CARD OF 'laws.FnPassShort'. -/
def fnPassShortUptoCard : Claim7 := { stood := { row := fnPassShortUptoRow, standIns := [], harness := (true, "e081252afb337dd3ee76f0008b20b3908d46b43fe55144ba0839b95076a2c27b"), looks := false }, kinds := [], alts := [], laidByText := true, laidKinds := [.data], laidTests := true, laidLooks := .later }
def FnPassShortUptoCardSaid : Prop := Claim7.holds Tryd.pinned (.plain (OpenSpec.upto fnPassShortSpec)) fnPassShortUptoCard

/-- THE SECOND FORM's CARD OF 'laws.FnPassPacket'. -/
def fnPassPacketUptoCard : Claim7 := { stood := { row := fnPassPacketUptoRow, standIns := [], harness := (true, "e081252afb337dd3ee76f0008b20b3908d46b43fe55144ba0839b95076a2c27b"), looks := false }, kinds := [], alts := [], laidByText := true, laidKinds := [.data], laidTests := true, laidLooks := .later }
def FnPassPacketUptoCardSaid : Prop := Claim7.holds Tryd.pinned (.plain (OpenSpec.upto fnPassPacketSpec)) fnPassPacketUptoCard

/-- THE SECOND FORM's CARD OF 'laws.FnExactPassPacket'. -/
def fnExactPassPacketUptoCard : Claim7 := { stood := { row := fnExactPassPacketUptoRow, standIns := [], harness := (true, "e081252afb337dd3ee76f0008b20b3908d46b43fe55144ba0839b95076a2c27b"), looks := false }, kinds := [], alts := [], laidByText := true, laidKinds := [.data], laidTests := true, laidLooks := .later }
def FnExactPassPacketUptoCardSaid : Prop := Claim7.holds Tryd.pinned (.plain (OpenSpec.upto fnExactPassPacketSpec)) fnExactPassPacketUptoCard

/-- THE SECOND FORM's CARD OF 'laws.FnExactPassAll'. -/
def fnExactPassAllUptoCard : Claim7 := { stood := { row := fnExactPassAllUptoRow, standIns := [], harness := (true, "e081252afb337dd3ee76f0008b20b3908d46b43fe55144ba0839b95076a2c27b"), looks := false }, kinds := [], alts := [], laidByText := true, laidKinds := [.data], laidTests := true, laidLooks := .later }
def FnExactPassAllUptoCardSaid : Prop := Claim7.holds Tryd.pinned (.plain (OpenSpec.upto fnExactPassAllSpec)) fnExactPassAllUptoCard
end Rows
end Go.Proofs.YtfgbbpmbmmihcaaDoor
