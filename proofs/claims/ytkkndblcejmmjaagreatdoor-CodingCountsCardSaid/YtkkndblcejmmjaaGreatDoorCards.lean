/-
  DERIVED. GIVEN WITH THE SEED: THE CARDS: each row of YtkkndblcejmmjaaGreatDoorRows.lean that lists a variable, with what it lists TIED to the program's text (the seventh form; the later family's looks); each row that meets fmt, with fmt's text TOLD by the authors' own Lean function (tested against real Go, not proved from fmt's source: count such statements apart). THE CARD IS WHAT COUNTS. Prove the row's statement (the work); the ties are given (YtkkndblcejmmjaaGreatDoorTie.lean); close each card by the builder's one call (the guide's Derived/Test/ToyasCard.lean, 'card_holds'). Laid BY PROGRAM, IN A SANDBOX (cutbox-door.mjs). By AI agents, Wed Nov 11 2026. No macro, syntax, notation, axiom, sorry.
-/
import Derived.Test.YtkkndblcejmmjaaGreatDoorRows
import GoSem.ClaimSeven
namespace Go.Proofs.YtkkndblcejmmjaaGreatDoor
namespace Rows

/-- THE TIED CARD OF 'chaselaw2.DecisionChecks'. -/
def decisionChecksCard : Claim7 := { stood := { row := decisionChecksRow, standIns := [], harness := (true, "ff60e9ba20b0eba629ef0289259035aff5313cbda77ab9919460a8dfd279eb24"), looks := false }, kinds := [], alts := [], laidByText := true, laidKinds := [.data, .listed, .data, .pinned], laidTests := true, laidLooks := .later }
def DecisionChecksCardSaid : Prop := Claim7.holds Tryz.pinned (.plain (OpenSpec.ofChange decisionChecksSpec)) decisionChecksCard

/-- THE TIED CARD OF 'chaselaw2.CodingCounts'. -/
def codingCountsCard : Claim7 := { stood := { row := codingCountsRow, standIns := [], harness := (true, "ff60e9ba20b0eba629ef0289259035aff5313cbda77ab9919460a8dfd279eb24"), looks := false }, kinds := [], alts := [], laidByText := true, laidKinds := [.data, .listed, .data, .pinned], laidTests := true, laidLooks := .later }
def CodingCountsCardSaid : Prop := Claim7.holds Tryz.pinned (.plain (OpenSpec.ofChange codingCountsSpec)) codingCountsCard

/-- THE TIED CARD OF 'chaselaw2.DecisionMerges'. -/
def decisionMergesCard : Claim7 := { stood := { row := decisionMergesRow, standIns := [], harness := (true, "ff60e9ba20b0eba629ef0289259035aff5313cbda77ab9919460a8dfd279eb24"), looks := false }, kinds := [], alts := [], laidByText := true, laidKinds := [.data, .listed, .data, .pinned], laidTests := true, laidLooks := .later }
def DecisionMergesCardSaid : Prop := Claim7.holds Tryz.pinned (.plain (OpenSpec.ofChange decisionMergesSpec)) decisionMergesCard

/-- THE TIED CARD OF 'chaselaw2.CodingLatest'. -/
def codingLatestCard : Claim7 := { stood := { row := codingLatestRow, standIns := [], harness := (true, "ff60e9ba20b0eba629ef0289259035aff5313cbda77ab9919460a8dfd279eb24"), looks := false }, kinds := [], alts := [], laidByText := true, laidKinds := [.data, .listed, .data, .pinned], laidTests := true, laidLooks := .later }
def CodingLatestCardSaid : Prop := Claim7.holds Tryz.pinned (.plain (OpenSpec.ofChange codingLatestSpec)) codingLatestCard

/-- THE TIED CARD OF 'chaselaw2.DecisionClashes'. -/
def decisionClashesCard : Claim7 := { stood := { row := decisionClashesRow, standIns := [], harness := (true, "ff60e9ba20b0eba629ef0289259035aff5313cbda77ab9919460a8dfd279eb24"), looks := false }, kinds := [], alts := [], laidByText := true, laidKinds := [.data, .listed, .data, .pinned], laidTests := true, laidLooks := .later }
def DecisionClashesCardSaid : Prop := Claim7.holds Tryz.pinned (.plain (OpenSpec.ofChange decisionClashesSpec)) decisionClashesCard

/-- THE SECOND FORM's CARD OF 'chaselaw2.DecisionChecks'. -/
def decisionChecksUptoCard : Claim7 := { stood := { row := decisionChecksUptoRow, standIns := [], harness := (true, "ff60e9ba20b0eba629ef0289259035aff5313cbda77ab9919460a8dfd279eb24"), looks := false }, kinds := [], alts := [], laidByText := true, laidKinds := [.data, .listed, .data, .pinned], laidTests := true, laidLooks := .later }
def DecisionChecksUptoCardSaid : Prop := Claim7.holds Tryz.pinned (.plain (OpenSpec.upto decisionChecksSpec)) decisionChecksUptoCard

/-- THE SECOND FORM's CARD OF 'chaselaw2.CodingCounts'. -/
def codingCountsUptoCard : Claim7 := { stood := { row := codingCountsUptoRow, standIns := [], harness := (true, "ff60e9ba20b0eba629ef0289259035aff5313cbda77ab9919460a8dfd279eb24"), looks := false }, kinds := [], alts := [], laidByText := true, laidKinds := [.data, .listed, .data, .pinned], laidTests := true, laidLooks := .later }
def CodingCountsUptoCardSaid : Prop := Claim7.holds Tryz.pinned (.plain (OpenSpec.upto codingCountsSpec)) codingCountsUptoCard

/-- THE SECOND FORM's CARD OF 'chaselaw2.DecisionMerges'. -/
def decisionMergesUptoCard : Claim7 := { stood := { row := decisionMergesUptoRow, standIns := [], harness := (true, "ff60e9ba20b0eba629ef0289259035aff5313cbda77ab9919460a8dfd279eb24"), looks := false }, kinds := [], alts := [], laidByText := true, laidKinds := [.data, .listed, .data, .pinned], laidTests := true, laidLooks := .later }
def DecisionMergesUptoCardSaid : Prop := Claim7.holds Tryz.pinned (.plain (OpenSpec.upto decisionMergesSpec)) decisionMergesUptoCard

/-- THE SECOND FORM's CARD OF 'chaselaw2.CodingLatest'. -/
def codingLatestUptoCard : Claim7 := { stood := { row := codingLatestUptoRow, standIns := [], harness := (true, "ff60e9ba20b0eba629ef0289259035aff5313cbda77ab9919460a8dfd279eb24"), looks := false }, kinds := [], alts := [], laidByText := true, laidKinds := [.data, .listed, .data, .pinned], laidTests := true, laidLooks := .later }
def CodingLatestUptoCardSaid : Prop := Claim7.holds Tryz.pinned (.plain (OpenSpec.upto codingLatestSpec)) codingLatestUptoCard

/-- THE SECOND FORM's CARD OF 'chaselaw2.DecisionClashes'. -/
def decisionClashesUptoCard : Claim7 := { stood := { row := decisionClashesUptoRow, standIns := [], harness := (true, "ff60e9ba20b0eba629ef0289259035aff5313cbda77ab9919460a8dfd279eb24"), looks := false }, kinds := [], alts := [], laidByText := true, laidKinds := [.data, .listed, .data, .pinned], laidTests := true, laidLooks := .later }
def DecisionClashesUptoCardSaid : Prop := Claim7.holds Tryz.pinned (.plain (OpenSpec.upto decisionClashesSpec)) decisionClashesUptoCard
end Rows
end Go.Proofs.YtkkndblcejmmjaaGreatDoor
