/-
  DERIVED. GIVEN WITH THE SEED: THE CARDS: each row of YtbajgjbdcgakoaaGreatDoorRows.lean that lists a variable, with what it lists TIED to the program's text (the seventh form; the later family's looks); each row that meets fmt, with fmt's text TOLD by the authors' own Lean function (tested against real Go, not proved from fmt's source: count such statements apart). THE CARD IS WHAT COUNTS. Prove the row's statement (the work); the ties are given (YtbajgjbdcgakoaaGreatDoorTie.lean); close each card by the builder's one call (the guide's Derived/Test/ToyasCard.lean, 'card_holds'). Laid BY PROGRAM, IN A SANDBOX (cutbox-door.mjs). By AI agents, Wed Nov 11 2026. No macro, syntax, notation, axiom, sorry.
-/
import Derived.Test.YtbajgjbdcgakoaaGreatDoorRows
import GoSem.ClaimSeven
namespace Go.Proofs.YtbajgjbdcgakoaaGreatDoor
namespace Rows

/-- THE TIED CARD OF 'chaselaw2.QueryChecks'. -/
def queryChecksCard : Claim7 := { stood := { row := queryChecksRow, standIns := [], harness := (true, "3c13ad4ed79b1e1b18c49e760510f87c14016794eaec2362d75581e6ede3724a"), looks := true }, kinds := [], alts := [], laidByText := true, laidKinds := [.data, .data, .data, .data, .sentinel, .sentinel, .pinned], laidTests := true, laidLooks := .later }
def QueryChecksCardSaid : Prop := Claim7.holds Tryz.pinned (.plain (OpenSpec.ofChange queryChecksSpec)) queryChecksCard

/-- THE TIED CARD OF 'chaselaw2.QueryPatterns'. -/
def queryPatternsCard : Claim7 := { stood := { row := queryPatternsRow, standIns := [], harness := (true, "3c13ad4ed79b1e1b18c49e760510f87c14016794eaec2362d75581e6ede3724a"), looks := true }, kinds := [], alts := [], laidByText := true, laidKinds := [.data, .data, .data, .data, .sentinel, .sentinel, .pinned], laidTests := true, laidLooks := .later }
def QueryPatternsCardSaid : Prop := Claim7.holds Tryz.pinned (.plain (OpenSpec.ofChange queryPatternsSpec)) queryPatternsCard

/-- THE TIED CARD OF 'chaselaw2.QueryOrders'. -/
def queryOrdersCard : Claim7 := { stood := { row := queryOrdersRow, standIns := [], harness := (true, "3c13ad4ed79b1e1b18c49e760510f87c14016794eaec2362d75581e6ede3724a"), looks := true }, kinds := [], alts := [], laidByText := true, laidKinds := [.data, .data, .data, .data, .sentinel, .sentinel, .pinned], laidTests := true, laidLooks := .later }
def QueryOrdersCardSaid : Prop := Claim7.holds Tryz.pinned (.plain (OpenSpec.ofChange queryOrdersSpec)) queryOrdersCard

/-- THE TIED CARD OF 'chaselaw2.QueryPrints'. -/
def queryPrintsCard : Claim7 := { stood := { row := queryPrintsRow, standIns := [], harness := (true, "3c13ad4ed79b1e1b18c49e760510f87c14016794eaec2362d75581e6ede3724a"), looks := true }, kinds := [], alts := [], laidByText := true, laidKinds := [.data, .data, .data, .data, .sentinel, .sentinel, .pinned], laidTests := true, laidLooks := .later }
def QueryPrintsCardSaid : Prop := Claim7.holds Tryz.pinned (.plain (OpenSpec.ofChange queryPrintsSpec)) queryPrintsCard

/-- THE SECOND FORM's CARD OF 'chaselaw2.QueryChecks'. -/
def queryChecksUptoCard : Claim7 := { stood := { row := queryChecksUptoRow, standIns := [], harness := (true, "3c13ad4ed79b1e1b18c49e760510f87c14016794eaec2362d75581e6ede3724a"), looks := true }, kinds := [], alts := [], laidByText := true, laidKinds := [.data, .data, .data, .data, .sentinel, .sentinel, .pinned], laidTests := true, laidLooks := .later }
def QueryChecksUptoCardSaid : Prop := Claim7.holds Tryz.pinned (.plain (OpenSpec.upto queryChecksSpec)) queryChecksUptoCard

/-- THE SECOND FORM's CARD OF 'chaselaw2.QueryPatterns'. -/
def queryPatternsUptoCard : Claim7 := { stood := { row := queryPatternsUptoRow, standIns := [], harness := (true, "3c13ad4ed79b1e1b18c49e760510f87c14016794eaec2362d75581e6ede3724a"), looks := true }, kinds := [], alts := [], laidByText := true, laidKinds := [.data, .data, .data, .data, .sentinel, .sentinel, .pinned], laidTests := true, laidLooks := .later }
def QueryPatternsUptoCardSaid : Prop := Claim7.holds Tryz.pinned (.plain (OpenSpec.upto queryPatternsSpec)) queryPatternsUptoCard

/-- THE SECOND FORM's CARD OF 'chaselaw2.QueryOrders'. -/
def queryOrdersUptoCard : Claim7 := { stood := { row := queryOrdersUptoRow, standIns := [], harness := (true, "3c13ad4ed79b1e1b18c49e760510f87c14016794eaec2362d75581e6ede3724a"), looks := true }, kinds := [], alts := [], laidByText := true, laidKinds := [.data, .data, .data, .data, .sentinel, .sentinel, .pinned], laidTests := true, laidLooks := .later }
def QueryOrdersUptoCardSaid : Prop := Claim7.holds Tryz.pinned (.plain (OpenSpec.upto queryOrdersSpec)) queryOrdersUptoCard

/-- THE SECOND FORM's CARD OF 'chaselaw2.QueryPrints'. -/
def queryPrintsUptoCard : Claim7 := { stood := { row := queryPrintsUptoRow, standIns := [], harness := (true, "3c13ad4ed79b1e1b18c49e760510f87c14016794eaec2362d75581e6ede3724a"), looks := true }, kinds := [], alts := [], laidByText := true, laidKinds := [.data, .data, .data, .data, .sentinel, .sentinel, .pinned], laidTests := true, laidLooks := .later }
def QueryPrintsUptoCardSaid : Prop := Claim7.holds Tryz.pinned (.plain (OpenSpec.upto queryPrintsSpec)) queryPrintsUptoCard
end Rows
end Go.Proofs.YtbajgjbdcgakoaaGreatDoor
