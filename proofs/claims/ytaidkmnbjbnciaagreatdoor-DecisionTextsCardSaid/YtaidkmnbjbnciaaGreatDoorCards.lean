/-
  DERIVED. GIVEN WITH THE SEED: THE CARDS: each row of YtaidkmnbjbnciaaGreatDoorRows.lean that lists a variable, with what it lists TIED to the program's text (the seventh form; the later family's looks); each row that meets fmt, with fmt's text TOLD by the authors' own Lean function (tested against real Go, not proved from fmt's source: count such statements apart). THE CARD IS WHAT COUNTS. Prove the row's statement (the work); the ties are given (YtaidkmnbjbnciaaGreatDoorTie.lean); close each card by the builder's one call (the guide's Derived/Test/ToyasCard.lean, 'card_holds'). Laid BY PROGRAM, IN A SANDBOX (cutbox-door.mjs). By AI agents, Wed Nov 11 2026. No macro, syntax, notation, axiom, sorry.
-/
import Derived.Test.YtaidkmnbjbnciaaGreatDoorRows
import GoSem.ClaimSeven
namespace Go.Proofs.YtaidkmnbjbnciaaGreatDoor
namespace Rows

/-- THE TIED CARD OF 'chaselaw2.LayoutTexts'. -/
def layoutTextsCard : Claim7 := { stood := { row := layoutTextsRow, standIns := [], harness := (true, "168df1c3bd967b2f37d83d02d56d0c3688e0bf5ab675057dc90aa06b43a73562"), looks := true }, kinds := [], alts := [], laidByText := true, laidKinds := [.data, .listed, .data, .pinned], laidTests := true, laidLooks := .later }
def LayoutTextsCardSaid : Prop := Claim7.holds Tryz.pinned (.plain (OpenSpec.ofChange layoutTextsSpec)) layoutTextsCard

/-- THE TIED CARD OF 'chaselaw2.DecisionTexts'. -/
def decisionTextsCard : Claim7 := { stood := { row := decisionTextsRow, standIns := [], harness := (true, "168df1c3bd967b2f37d83d02d56d0c3688e0bf5ab675057dc90aa06b43a73562"), looks := true }, kinds := [], alts := [], laidByText := true, laidKinds := [.data, .data, .data, .data, .sentinel, .sentinel, .listed, .data, .pinned], laidTests := true, laidLooks := .later }
def DecisionTextsCardSaid : Prop := Claim7.holds Tryz.pinned (.plain (OpenSpec.ofChange decisionTextsSpec)) decisionTextsCard

/-- THE TIED CARD OF 'chaselaw2.DeskHands'. -/
def deskHandsCard : Claim7 := { stood := { row := deskHandsRow, standIns := [], harness := (true, "168df1c3bd967b2f37d83d02d56d0c3688e0bf5ab675057dc90aa06b43a73562"), looks := true }, kinds := [], alts := [], laidByText := true, laidKinds := [.data, .listed, .data, .pinned], laidTests := true, laidLooks := .later }
def DeskHandsCardSaid : Prop := Claim7.holds Tryz.pinned (.plain (OpenSpec.ofChange deskHandsSpec)) deskHandsCard

/-- THE TIED CARD OF 'chaselaw2.CodingSpreads'. -/
def codingSpreadsCard : Claim7 := { stood := { row := codingSpreadsRow, standIns := [], harness := (true, "168df1c3bd967b2f37d83d02d56d0c3688e0bf5ab675057dc90aa06b43a73562"), looks := true }, kinds := [], alts := [], laidByText := true, laidKinds := [.data, .data, .data, .data, .listed, .data, .pinned], laidTests := true, laidLooks := .later }
def CodingSpreadsCardSaid : Prop := Claim7.holds Tryz.pinned (.plain (OpenSpec.ofChange codingSpreadsSpec)) codingSpreadsCard

/-- THE SECOND FORM's CARD OF 'chaselaw2.LayoutTexts'. -/
def layoutTextsUptoCard : Claim7 := { stood := { row := layoutTextsUptoRow, standIns := [], harness := (true, "168df1c3bd967b2f37d83d02d56d0c3688e0bf5ab675057dc90aa06b43a73562"), looks := true }, kinds := [], alts := [], laidByText := true, laidKinds := [.data, .listed, .data, .pinned], laidTests := true, laidLooks := .later }
def LayoutTextsUptoCardSaid : Prop := Claim7.holds Tryz.pinned (.plain (OpenSpec.upto layoutTextsSpec)) layoutTextsUptoCard

/-- THE SECOND FORM's CARD OF 'chaselaw2.DecisionTexts'. -/
def decisionTextsUptoCard : Claim7 := { stood := { row := decisionTextsUptoRow, standIns := [], harness := (true, "168df1c3bd967b2f37d83d02d56d0c3688e0bf5ab675057dc90aa06b43a73562"), looks := true }, kinds := [], alts := [], laidByText := true, laidKinds := [.data, .data, .data, .data, .sentinel, .sentinel, .listed, .data, .pinned], laidTests := true, laidLooks := .later }
def DecisionTextsUptoCardSaid : Prop := Claim7.holds Tryz.pinned (.plain (OpenSpec.upto decisionTextsSpec)) decisionTextsUptoCard

/-- THE SECOND FORM's CARD OF 'chaselaw2.DeskHands'. -/
def deskHandsUptoCard : Claim7 := { stood := { row := deskHandsUptoRow, standIns := [], harness := (true, "168df1c3bd967b2f37d83d02d56d0c3688e0bf5ab675057dc90aa06b43a73562"), looks := true }, kinds := [], alts := [], laidByText := true, laidKinds := [.data, .listed, .data, .pinned], laidTests := true, laidLooks := .later }
def DeskHandsUptoCardSaid : Prop := Claim7.holds Tryz.pinned (.plain (OpenSpec.upto deskHandsSpec)) deskHandsUptoCard

/-- THE SECOND FORM's CARD OF 'chaselaw2.CodingSpreads'. -/
def codingSpreadsUptoCard : Claim7 := { stood := { row := codingSpreadsUptoRow, standIns := [], harness := (true, "168df1c3bd967b2f37d83d02d56d0c3688e0bf5ab675057dc90aa06b43a73562"), looks := true }, kinds := [], alts := [], laidByText := true, laidKinds := [.data, .data, .data, .data, .listed, .data, .pinned], laidTests := true, laidLooks := .later }
def CodingSpreadsUptoCardSaid : Prop := Claim7.holds Tryz.pinned (.plain (OpenSpec.upto codingSpreadsSpec)) codingSpreadsUptoCard
end Rows
end Go.Proofs.YtaidkmnbjbnciaaGreatDoor
