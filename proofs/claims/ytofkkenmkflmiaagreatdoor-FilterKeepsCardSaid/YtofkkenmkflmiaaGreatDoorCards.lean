/-
  DERIVED. GIVEN WITH THE SEED: THE CARDS: each row of YtofkkenmkflmiaaGreatDoorRows.lean that lists a variable, with what it lists TIED to the program's text (the seventh form; the later family's looks); each row that meets fmt, with fmt's text TOLD by the authors' own Lean function (tested against real Go, not proved from fmt's source: count such statements apart). THE CARD IS WHAT COUNTS. Prove the row's statement (the work); the ties are given (YtofkkenmkflmiaaGreatDoorTie.lean); close each card by the builder's one call (the guide's Derived/Test/ToyasCard.lean, 'card_holds'). Laid BY PROGRAM, IN A SANDBOX (cutbox-door.mjs). By AI agents, Wed Nov 11 2026. No macro, syntax, notation, axiom, sorry.
-/
import Derived.Test.YtofkkenmkflmiaaGreatDoorRows
import GoSem.ClaimSeven
namespace Go.Proofs.YtofkkenmkflmiaaGreatDoor
namespace Rows

/-- THE TIED CARD OF 'chaselaw2.FilterKeeps'. -/
def filterKeepsCard : Claim7 := { stood := { row := filterKeepsRow, standIns := [], harness := (true, "509f6bdae82a77637e05aa4113824bcce2eda3de6c5c5633c4ecac442ae82bf5"), looks := true }, kinds := [], alts := [], laidByText := true, laidKinds := [.data, .data, .data, .data, .sentinel, .sentinel, .pinned], laidTests := true, laidLooks := .later }
def FilterKeepsCardSaid : Prop := Claim7.holds Tryz.pinned (.plain (OpenSpec.ofChange filterKeepsSpec)) filterKeepsCard

/-- THE TIED CARD OF 'chaselaw2.GroupFamilies'. -/
def groupFamiliesCard : Claim7 := { stood := { row := groupFamiliesRow, standIns := [], harness := (true, "509f6bdae82a77637e05aa4113824bcce2eda3de6c5c5633c4ecac442ae82bf5"), looks := true }, kinds := [], alts := [], laidByText := true, laidKinds := [.data, .data, .data, .data, .sentinel, .sentinel, .pinned], laidTests := true, laidLooks := .later }
def GroupFamiliesCardSaid : Prop := Claim7.holds Tryz.pinned (.plain (OpenSpec.ofChange groupFamiliesSpec)) groupFamiliesCard

/-- THE TIED CARD OF 'chaselaw2.ItemTexts'. -/
def itemTextsCard : Claim7 := { stood := { row := itemTextsRow, standIns := [], harness := (true, "509f6bdae82a77637e05aa4113824bcce2eda3de6c5c5633c4ecac442ae82bf5"), looks := true }, kinds := [], alts := [], laidByText := true, laidKinds := [.data, .data, .data, .data, .sentinel, .sentinel, .listed, .data, .pinned], laidTests := true, laidLooks := .later }
def ItemTextsCardSaid : Prop := Claim7.holds Tryz.pinned (.plain (OpenSpec.ofChange itemTextsSpec)) itemTextsCard

/-- THE SECOND FORM's CARD OF 'chaselaw2.FilterKeeps'. -/
def filterKeepsUptoCard : Claim7 := { stood := { row := filterKeepsUptoRow, standIns := [], harness := (true, "509f6bdae82a77637e05aa4113824bcce2eda3de6c5c5633c4ecac442ae82bf5"), looks := true }, kinds := [], alts := [], laidByText := true, laidKinds := [.data, .data, .data, .data, .sentinel, .sentinel, .pinned], laidTests := true, laidLooks := .later }
def FilterKeepsUptoCardSaid : Prop := Claim7.holds Tryz.pinned (.plain (OpenSpec.upto filterKeepsSpec)) filterKeepsUptoCard

/-- THE SECOND FORM's CARD OF 'chaselaw2.GroupFamilies'. -/
def groupFamiliesUptoCard : Claim7 := { stood := { row := groupFamiliesUptoRow, standIns := [], harness := (true, "509f6bdae82a77637e05aa4113824bcce2eda3de6c5c5633c4ecac442ae82bf5"), looks := true }, kinds := [], alts := [], laidByText := true, laidKinds := [.data, .data, .data, .data, .sentinel, .sentinel, .pinned], laidTests := true, laidLooks := .later }
def GroupFamiliesUptoCardSaid : Prop := Claim7.holds Tryz.pinned (.plain (OpenSpec.upto groupFamiliesSpec)) groupFamiliesUptoCard

/-- THE SECOND FORM's CARD OF 'chaselaw2.ItemTexts'. -/
def itemTextsUptoCard : Claim7 := { stood := { row := itemTextsUptoRow, standIns := [], harness := (true, "509f6bdae82a77637e05aa4113824bcce2eda3de6c5c5633c4ecac442ae82bf5"), looks := true }, kinds := [], alts := [], laidByText := true, laidKinds := [.data, .data, .data, .data, .sentinel, .sentinel, .listed, .data, .pinned], laidTests := true, laidLooks := .later }
def ItemTextsUptoCardSaid : Prop := Claim7.holds Tryz.pinned (.plain (OpenSpec.upto itemTextsSpec)) itemTextsUptoCard
end Rows
end Go.Proofs.YtofkkenmkflmiaaGreatDoor
