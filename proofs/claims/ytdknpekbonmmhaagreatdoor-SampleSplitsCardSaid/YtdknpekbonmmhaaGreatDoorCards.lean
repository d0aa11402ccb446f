/-
  DERIVED. GIVEN WITH THE SEED: THE CARDS: each row of YtdknpekbonmmhaaGreatDoorRows.lean that lists a variable, with what it lists TIED to the program's text (the seventh form; the later family's looks); each row that meets fmt, with fmt's text TOLD by the authors' own Lean function (tested against real Go, not proved from fmt's source: count such statements apart). THE CARD IS WHAT COUNTS. Prove the row's statement (the work); the ties are given (YtdknpekbonmmhaaGreatDoorTie.lean); close each card by the builder's one call (the guide's Derived/Test/ToyasCard.lean, 'card_holds'). Laid BY PROGRAM, IN A SANDBOX (cutbox-door.mjs). By AI agents, Wed Nov 11 2026. No macro, syntax, notation, axiom, sorry.
-/
import Derived.Test.YtdknpekbonmmhaaGreatDoorRows
import GoSem.ClaimSeven
namespace Go.Proofs.YtdknpekbonmmhaaGreatDoor
namespace Rows

/-- THE TIED CARD OF 'chaselaw2.DecisionChecks'. -/
def decisionChecksCard : Claim7 := { stood := { row := decisionChecksRow, standIns := [], harness := (true, "01393000d124d88817c645a58bbd327150af32cac9505aeb66c21e45463d842d"), looks := true }, kinds := [], alts := [], laidByText := true, laidKinds := [.data, .listed, .data, .pinned], laidTests := true, laidLooks := .later }
def DecisionChecksCardSaid : Prop := Claim7.holds Tryz.pinned (.plain (OpenSpec.ofChange decisionChecksSpec)) decisionChecksCard

/-- THE TIED CARD OF 'chaselaw2.LayoutTexts'. -/
def layoutTextsCard : Claim7 := { stood := { row := layoutTextsRow, standIns := [], harness := (true, "01393000d124d88817c645a58bbd327150af32cac9505aeb66c21e45463d842d"), looks := true }, kinds := [], alts := [], laidByText := true, laidKinds := [.data, .listed, .data, .pinned], laidTests := true, laidLooks := .later }
def LayoutTextsCardSaid : Prop := Claim7.holds Tryz.pinned (.plain (OpenSpec.ofChange layoutTextsSpec)) layoutTextsCard

/-- THE TIED CARD OF 'chaselaw2.SampleSplits'. -/
def sampleSplitsCard : Claim7 := { stood := { row := sampleSplitsRow, standIns := [], harness := (true, "01393000d124d88817c645a58bbd327150af32cac9505aeb66c21e45463d842d"), looks := true }, kinds := [], alts := [], laidByText := true, laidKinds := [.data, .data, .data, .data, .pinned], laidTests := true, laidLooks := .later }
def SampleSplitsCardSaid : Prop := Claim7.holds Tryz.pinned (.plain (OpenSpec.ofChange sampleSplitsSpec)) sampleSplitsCard

/-- THE TIED CARD OF 'chaselaw2.CodingCounts'. -/
def codingCountsCard : Claim7 := { stood := { row := codingCountsRow, standIns := [], harness := (true, "01393000d124d88817c645a58bbd327150af32cac9505aeb66c21e45463d842d"), looks := true }, kinds := [], alts := [], laidByText := true, laidKinds := [.data, .listed, .data, .pinned], laidTests := true, laidLooks := .later }
def CodingCountsCardSaid : Prop := Claim7.holds Tryz.pinned (.plain (OpenSpec.ofChange codingCountsSpec)) codingCountsCard

/-- THE TIED CARD OF 'chaselaw2.SampleLeasts'. -/
def sampleLeastsCard : Claim7 := { stood := { row := sampleLeastsRow, standIns := [], harness := (true, "01393000d124d88817c645a58bbd327150af32cac9505aeb66c21e45463d842d"), looks := true }, kinds := [], alts := [], laidByText := true, laidKinds := [.data, .data, .data, .data, .pinned], laidTests := true, laidLooks := .later }
def SampleLeastsCardSaid : Prop := Claim7.holds Tryz.pinned (.plain (OpenSpec.ofChange sampleLeastsSpec)) sampleLeastsCard

/-- THE TIED CARD OF 'chaselaw2.SampleStrata'. -/
def sampleStrataCard : Claim7 := { stood := { row := sampleStrataRow, standIns := [], harness := (true, "01393000d124d88817c645a58bbd327150af32cac9505aeb66c21e45463d842d"), looks := true }, kinds := [], alts := [], laidByText := true, laidKinds := [.data, .data, .data, .data, .pinned], laidTests := true, laidLooks := .later }
def SampleStrataCardSaid : Prop := Claim7.holds Tryz.pinned (.plain (OpenSpec.ofChange sampleStrataSpec)) sampleStrataCard

/-- THE TIED CARD OF 'chaselaw2.DecisionMerges'. -/
def decisionMergesCard : Claim7 := { stood := { row := decisionMergesRow, standIns := [], harness := (true, "01393000d124d88817c645a58bbd327150af32cac9505aeb66c21e45463d842d"), looks := true }, kinds := [], alts := [], laidByText := true, laidKinds := [.data, .listed, .data, .pinned], laidTests := true, laidLooks := .later }
def DecisionMergesCardSaid : Prop := Claim7.holds Tryz.pinned (.plain (OpenSpec.ofChange decisionMergesSpec)) decisionMergesCard

/-- THE TIED CARD OF 'chaselaw2.CodingLatest'. -/
def codingLatestCard : Claim7 := { stood := { row := codingLatestRow, standIns := [], harness := (true, "01393000d124d88817c645a58bbd327150af32cac9505aeb66c21e45463d842d"), looks := true }, kinds := [], alts := [], laidByText := true, laidKinds := [.data, .listed, .data, .pinned], laidTests := true, laidLooks := .later }
def CodingLatestCardSaid : Prop := Claim7.holds Tryz.pinned (.plain (OpenSpec.ofChange codingLatestSpec)) codingLatestCard

/-- THE TIED CARD OF 'chaselaw2.MoveChecks'. -/
def moveChecksCard : Claim7 := { stood := { row := moveChecksRow, standIns := [], harness := (true, "01393000d124d88817c645a58bbd327150af32cac9505aeb66c21e45463d842d"), looks := true }, kinds := [], alts := [], laidByText := true, laidKinds := [.data, .data, .data, .data, .sentinel, .sentinel, .pinned], laidTests := true, laidLooks := .later }
def MoveChecksCardSaid : Prop := Claim7.holds Tryz.pinned (.plain (OpenSpec.ofChange moveChecksSpec)) moveChecksCard

/-- THE SECOND FORM's CARD OF 'chaselaw2.DecisionChecks'. -/
def decisionChecksUptoCard : Claim7 := { stood := { row := decisionChecksUptoRow, standIns := [], harness := (true, "01393000d124d88817c645a58bbd327150af32cac9505aeb66c21e45463d842d"), looks := true }, kinds := [], alts := [], laidByText := true, laidKinds := [.data, .listed, .data, .pinned], laidTests := true, laidLooks := .later }
def DecisionChecksUptoCardSaid : Prop := Claim7.holds Tryz.pinned (.plain (OpenSpec.upto decisionChecksSpec)) decisionChecksUptoCard

/-- THE SECOND FORM's CARD OF 'chaselaw2.LayoutTexts'. -/
def layoutTextsUptoCard : Claim7 := { stood := { row := layoutTextsUptoRow, standIns := [], harness := (true, "01393000d124d88817c645a58bbd327150af32cac9505aeb66c21e45463d842d"), looks := true }, kinds := [], alts := [], laidByText := true, laidKinds := [.data, .listed, .data, .pinned], laidTests := true, laidLooks := .later }
def LayoutTextsUptoCardSaid : Prop := Claim7.holds Tryz.pinned (.plain (OpenSpec.upto layoutTextsSpec)) layoutTextsUptoCard

/-- THE SECOND FORM's CARD OF 'chaselaw2.SampleSplits'. -/
def sampleSplitsUptoCard : Claim7 := { stood := { row := sampleSplitsUptoRow, standIns := [], harness := (true, "01393000d124d88817c645a58bbd327150af32cac9505aeb66c21e45463d842d"), looks := true }, kinds := [], alts := [], laidByText := true, laidKinds := [.data, .data, .data, .data, .pinned], laidTests := true, laidLooks := .later }
def SampleSplitsUptoCardSaid : Prop := Claim7.holds Tryz.pinned (.plain (OpenSpec.upto sampleSplitsSpec)) sampleSplitsUptoCard

/-- THE SECOND FORM's CARD OF 'chaselaw2.CodingCounts'. -/
def codingCountsUptoCard : Claim7 := { stood := { row := codingCountsUptoRow, standIns := [], harness := (true, "01393000d124d88817c645a58bbd327150af32cac9505aeb66c21e45463d842d"), looks := true }, kinds := [], alts := [], laidByText := true, laidKinds := [.data, .listed, .data, .pinned], laidTests := true, laidLooks := .later }
def CodingCountsUptoCardSaid : Prop := Claim7.holds Tryz.pinned (.plain (OpenSpec.upto codingCountsSpec)) codingCountsUptoCard

/-- THE SECOND FORM's CARD OF 'chaselaw2.SampleLeasts'. -/
def sampleLeastsUptoCard : Claim7 := { stood := { row := sampleLeastsUptoRow, standIns := [], harness := (true, "01393000d124d88817c645a58bbd327150af32cac9505aeb66c21e45463d842d"), looks := true }, kinds := [], alts := [], laidByText := true, laidKinds := [.data, .data, .data, .data, .pinned], laidTests := true, laidLooks := .later }
def SampleLeastsUptoCardSaid : Prop := Claim7.holds Tryz.pinned (.plain (OpenSpec.upto sampleLeastsSpec)) sampleLeastsUptoCard

/-- THE SECOND FORM's CARD OF 'chaselaw2.SampleStrata'. -/
def sampleStrataUptoCard : Claim7 := { stood := { row := sampleStrataUptoRow, standIns := [], harness := (true, "01393000d124d88817c645a58bbd327150af32cac9505aeb66c21e45463d842d"), looks := true }, kinds := [], alts := [], laidByText := true, laidKinds := [.data, .data, .data, .data, .pinned], laidTests := true, laidLooks := .later }
def SampleStrataUptoCardSaid : Prop := Claim7.holds Tryz.pinned (.plain (OpenSpec.upto sampleStrataSpec)) sampleStrataUptoCard

/-- THE SECOND FORM's CARD OF 'chaselaw2.DecisionMerges'. -/
def decisionMergesUptoCard : Claim7 := { stood := { row := decisionMergesUptoRow, standIns := [], harness := (true, "01393000d124d88817c645a58bbd327150af32cac9505aeb66c21e45463d842d"), looks := true }, kinds := [], alts := [], laidByText := true, laidKinds := [.data, .listed, .data, .pinned], laidTests := true, laidLooks := .later }
def DecisionMergesUptoCardSaid : Prop := Claim7.holds Tryz.pinned (.plain (OpenSpec.upto decisionMergesSpec)) decisionMergesUptoCard

/-- THE SECOND FORM's CARD OF 'chaselaw2.CodingLatest'. -/
def codingLatestUptoCard : Claim7 := { stood := { row := codingLatestUptoRow, standIns := [], harness := (true, "01393000d124d88817c645a58bbd327150af32cac9505aeb66c21e45463d842d"), looks := true }, kinds := [], alts := [], laidByText := true, laidKinds := [.data, .listed, .data, .pinned], laidTests := true, laidLooks := .later }
def CodingLatestUptoCardSaid : Prop := Claim7.holds Tryz.pinned (.plain (OpenSpec.upto codingLatestSpec)) codingLatestUptoCard

/-- THE SECOND FORM's CARD OF 'chaselaw2.MoveChecks'. -/
def moveChecksUptoCard : Claim7 := { stood := { row := moveChecksUptoRow, standIns := [], harness := (true, "01393000d124d88817c645a58bbd327150af32cac9505aeb66c21e45463d842d"), looks := true }, kinds := [], alts := [], laidByText := true, laidKinds := [.data, .data, .data, .data, .sentinel, .sentinel, .pinned], laidTests := true, laidLooks := .later }
def MoveChecksUptoCardSaid : Prop := Claim7.holds Tryz.pinned (.plain (OpenSpec.upto moveChecksSpec)) moveChecksUptoCard
end Rows
end Go.Proofs.YtdknpekbonmmhaaGreatDoor
