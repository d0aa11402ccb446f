/-
  DERIVED. GIVEN WITH THE SEED: THE CARDS: each row of YtelpdjhkedhppaaGreatDoorRows.lean that lists a variable, with what it lists TIED to the program's text (the seventh form; the later family's looks); each row that meets fmt, with fmt's text TOLD by the authors' own Lean function (tested against real Go, not proved from fmt's source: count such statements apart). THE CARD IS WHAT COUNTS. Prove the row's statement (the work); the ties are given (YtelpdjhkedhppaaGreatDoorTie.lean); close each card by the builder's one call (the guide's Derived/Test/ToyasCard.lean, 'card_holds'). Laid BY PROGRAM, IN A SANDBOX (cutbox-door.mjs). By AI agents, Wed Nov 11 2026. No macro, syntax, notation, axiom, sorry.
-/
import Derived.Test.YtelpdjhkedhppaaGreatDoorRows
import GoSem.ClaimSeven
namespace Go.Proofs.YtelpdjhkedhppaaGreatDoor
namespace Rows

/-- THE TIED CARD OF 'chaselaw2.ItemTexts'. -/
def itemTextsCard : Claim7 := { stood := { row := itemTextsRow, standIns := [], harness := (true, "5a096ffc5d3a1c88eebbb84b50f0b0ff83ee8ed4e8d79b4ef70132a25b695e0a"), looks := true }, kinds := [], alts := [], laidByText := true, laidKinds := [.data, .data, .data, .data, .sentinel, .sentinel, .listed, .data, .pinned], laidTests := true, laidLooks := .later }
def ItemTextsCardSaid : Prop := Claim7.holds Tryz.pinned (.plain (OpenSpec.ofChange itemTextsSpec)) itemTextsCard

/-- THE TIED CARD OF 'chaselaw2.WordCuts'. -/
def wordCutsCard : Claim7 := { stood := { row := wordCutsRow, standIns := [], harness := (true, "5a096ffc5d3a1c88eebbb84b50f0b0ff83ee8ed4e8d79b4ef70132a25b695e0a"), looks := true }, kinds := [], alts := [], laidByText := true, laidKinds := [.data, .data, .data, .data, .sentinel, .sentinel, .pinned], laidTests := true, laidLooks := .later }
def WordCutsCardSaid : Prop := Claim7.holds Tryz.pinned (.plain (OpenSpec.ofChange wordCutsSpec)) wordCutsCard

/-- THE TIED CARD OF 'chaselaw2.QueryChecks'. -/
def queryChecksCard : Claim7 := { stood := { row := queryChecksRow, standIns := [], harness := (true, "5a096ffc5d3a1c88eebbb84b50f0b0ff83ee8ed4e8d79b4ef70132a25b695e0a"), looks := true }, kinds := [], alts := [], laidByText := true, laidKinds := [.data, .data, .data, .data, .sentinel, .sentinel, .pinned], laidTests := true, laidLooks := .later }
def QueryChecksCardSaid : Prop := Claim7.holds Tryz.pinned (.plain (OpenSpec.ofChange queryChecksSpec)) queryChecksCard

/-- THE TIED CARD OF 'chaselaw2.QueryPatterns'. -/
def queryPatternsCard : Claim7 := { stood := { row := queryPatternsRow, standIns := [], harness := (true, "5a096ffc5d3a1c88eebbb84b50f0b0ff83ee8ed4e8d79b4ef70132a25b695e0a"), looks := true }, kinds := [], alts := [], laidByText := true, laidKinds := [.data, .data, .data, .data, .sentinel, .sentinel, .pinned], laidTests := true, laidLooks := .later }
def QueryPatternsCardSaid : Prop := Claim7.holds Tryz.pinned (.plain (OpenSpec.ofChange queryPatternsSpec)) queryPatternsCard

/-- THE TIED CARD OF 'chaselaw2.QueryOrders'. -/
def queryOrdersCard : Claim7 := { stood := { row := queryOrdersRow, standIns := [], harness := (true, "5a096ffc5d3a1c88eebbb84b50f0b0ff83ee8ed4e8d79b4ef70132a25b695e0a"), looks := true }, kinds := [], alts := [], laidByText := true, laidKinds := [.data, .data, .data, .data, .sentinel, .sentinel, .pinned], laidTests := true, laidLooks := .later }
def QueryOrdersCardSaid : Prop := Claim7.holds Tryz.pinned (.plain (OpenSpec.ofChange queryOrdersSpec)) queryOrdersCard

/-- THE SECOND FORM's CARD OF 'chaselaw2.ItemTexts'. -/
def itemTextsUptoCard : Claim7 := { stood := { row := itemTextsUptoRow, standIns := [], harness := (true, "5a096ffc5d3a1c88eebbb84b50f0b0ff83ee8ed4e8d79b4ef70132a25b695e0a"), looks := true }, kinds := [], alts := [], laidByText := true, laidKinds := [.data, .data, .data, .data, .sentinel, .sentinel, .listed, .data, .pinned], laidTests := true, laidLooks := .later }
def ItemTextsUptoCardSaid : Prop := Claim7.holds Tryz.pinned (.plain (OpenSpec.upto itemTextsSpec)) itemTextsUptoCard

/-- THE SECOND FORM's CARD OF 'chaselaw2.WordCuts'. -/
def wordCutsUptoCard : Claim7 := { stood := { row := wordCutsUptoRow, standIns := [], harness := (true, "5a096ffc5d3a1c88eebbb84b50f0b0ff83ee8ed4e8d79b4ef70132a25b695e0a"), looks := true }, kinds := [], alts := [], laidByText := true, laidKinds := [.data, .data, .data, .data, .sentinel, .sentinel, .pinned], laidTests := true, laidLooks := .later }
def WordCutsUptoCardSaid : Prop := Claim7.holds Tryz.pinned (.plain (OpenSpec.upto wordCutsSpec)) wordCutsUptoCard

/-- THE SECOND FORM's CARD OF 'chaselaw2.QueryChecks'. -/
def queryChecksUptoCard : Claim7 := { stood := { row := queryChecksUptoRow, standIns := [], harness := (true, "5a096ffc5d3a1c88eebbb84b50f0b0ff83ee8ed4e8d79b4ef70132a25b695e0a"), looks := true }, kinds := [], alts := [], laidByText := true, laidKinds := [.data, .data, .data, .data, .sentinel, .sentinel, .pinned], laidTests := true, laidLooks := .later }
def QueryChecksUptoCardSaid : Prop := Claim7.holds Tryz.pinned (.plain (OpenSpec.upto queryChecksSpec)) queryChecksUptoCard

/-- THE SECOND FORM's CARD OF 'chaselaw2.QueryPatterns'. -/
def queryPatternsUptoCard : Claim7 := { stood := { row := queryPatternsUptoRow, standIns := [], harness := (true, "5a096ffc5d3a1c88eebbb84b50f0b0ff83ee8ed4e8d79b4ef70132a25b695e0a"), looks := true }, kinds := [], alts := [], laidByText := true, laidKinds := [.data, .data, .data, .data, .sentinel, .sentinel, .pinned], laidTests := true, laidLooks := .later }
def QueryPatternsUptoCardSaid : Prop := Claim7.holds Tryz.pinned (.plain (OpenSpec.upto queryPatternsSpec)) queryPatternsUptoCard

/-- THE SECOND FORM's CARD OF 'chaselaw2.QueryOrders'. -/
def queryOrdersUptoCard : Claim7 := { stood := { row := queryOrdersUptoRow, standIns := [], harness := (true, "5a096ffc5d3a1c88eebbb84b50f0b0ff83ee8ed4e8d79b4ef70132a25b695e0a"), looks := true }, kinds := [], alts := [], laidByText := true, laidKinds := [.data, .data, .data, .data, .sentinel, .sentinel, .pinned], laidTests := true, laidLooks := .later }
def QueryOrdersUptoCardSaid : Prop := Claim7.holds Tryz.pinned (.plain (OpenSpec.upto queryOrdersSpec)) queryOrdersUptoCard
end Rows
end Go.Proofs.YtelpdjhkedhppaaGreatDoor
