/-
  DERIVED. GIVEN WITH THE SEED: THE CARDS: each row of YtgfgggeeoeppjaaGreatDoorRows.lean that lists a variable, with what it lists TIED to the program's text (the seventh form; the later family's looks); each row that meets fmt, with fmt's text TOLD by the authors' own Lean function (tested against real Go, not proved from fmt's source: count such statements apart). THE CARD IS WHAT COUNTS. Prove the row's statement (the work); the ties are given (YtgfgggeeoeppjaaGreatDoorTie.lean); close each card by the builder's one call (the guide's Derived/Test/ToyasCard.lean, 'card_holds'). Laid BY PROGRAM, IN A SANDBOX (cutbox-door.mjs). By AI agents, Wed Nov 11 2026. No macro, syntax, notation, axiom, sorry.
-/
import Derived.Test.YtgfgggeeoeppjaaGreatDoorRows
import GoSem.ClaimSeven
namespace Go.Proofs.YtgfgggeeoeppjaaGreatDoor
namespace Rows

/-- THE TIED CARD OF 'chaselaw2.DeskHands'. -/
def deskHandsCard : Claim7 := { stood := { row := deskHandsRow, standIns := [], harness := (true, "160d1acc80c91138a1c861cd937ce101d9310e9e0b50424427b4b99ea832f90f"), looks := true }, kinds := [], alts := [], laidByText := true, laidKinds := [.data, .listed, .data, .pinned], laidTests := true, laidLooks := .later }
def DeskHandsCardSaid : Prop := Claim7.holds Tryz.pinned (.plain (OpenSpec.ofChange deskHandsSpec)) deskHandsCard

/-- THE TIED CARD OF 'chaselaw2.GroupFamilies'. -/
def groupFamiliesCard : Claim7 := { stood := { row := groupFamiliesRow, standIns := [], harness := (true, "160d1acc80c91138a1c861cd937ce101d9310e9e0b50424427b4b99ea832f90f"), looks := true }, kinds := [], alts := [], laidByText := true, laidKinds := [.data, .data, .data, .data, .sentinel, .sentinel, .pinned], laidTests := true, laidLooks := .later }
def GroupFamiliesCardSaid : Prop := Claim7.holds Tryz.pinned (.plain (OpenSpec.ofChange groupFamiliesSpec)) groupFamiliesCard

/-- THE TIED CARD OF 'chaselaw2.ItemTexts'. -/
def itemTextsCard : Claim7 := { stood := { row := itemTextsRow, standIns := [], harness := (true, "160d1acc80c91138a1c861cd937ce101d9310e9e0b50424427b4b99ea832f90f"), looks := true }, kinds := [], alts := [], laidByText := true, laidKinds := [.data, .data, .data, .data, .sentinel, .sentinel, .listed, .data, .pinned], laidTests := true, laidLooks := .later }
def ItemTextsCardSaid : Prop := Claim7.holds Tryz.pinned (.plain (OpenSpec.ofChange itemTextsSpec)) itemTextsCard

/-- THE SECOND FORM's CARD OF 'chaselaw2.DeskHands'. -/
def deskHandsUptoCard : Claim7 := { stood := { row := deskHandsUptoRow, standIns := [], harness := (true, "160d1acc80c91138a1c861cd937ce101d9310e9e0b50424427b4b99ea832f90f"), looks := true }, kinds := [], alts := [], laidByText := true, laidKinds := [.data, .listed, .data, .pinned], laidTests := true, laidLooks := .later }
def DeskHandsUptoCardSaid : Prop := Claim7.holds Tryz.pinned (.plain (OpenSpec.upto deskHandsSpec)) deskHandsUptoCard

/-- THE SECOND FORM's CARD OF 'chaselaw2.GroupFamilies'. -/
def groupFamiliesUptoCard : Claim7 := { stood := { row := groupFamiliesUptoRow, standIns := [], harness := (true, "160d1acc80c91138a1c861cd937ce101d9310e9e0b50424427b4b99ea832f90f"), looks := true }, kinds := [], alts := [], laidByText := true, laidKinds := [.data, .data, .data, .data, .sentinel, .sentinel, .pinned], laidTests := true, laidLooks := .later }
def GroupFamiliesUptoCardSaid : Prop := Claim7.holds Tryz.pinned (.plain (OpenSpec.upto groupFamiliesSpec)) groupFamiliesUptoCard

/-- THE SECOND FORM's CARD OF 'chaselaw2.ItemTexts'. -/
def itemTextsUptoCard : Claim7 := { stood := { row := itemTextsUptoRow, standIns := [], harness := (true, "160d1acc80c91138a1c861cd937ce101d9310e9e0b50424427b4b99ea832f90f"), looks := true }, kinds := [], alts := [], laidByText := true, laidKinds := [.data, .data, .data, .data, .sentinel, .sentinel, .listed, .data, .pinned], laidTests := true, laidLooks := .later }
def ItemTextsUptoCardSaid : Prop := Claim7.holds Tryz.pinned (.plain (OpenSpec.upto itemTextsSpec)) itemTextsUptoCard
end Rows
end Go.Proofs.YtgfgggeeoeppjaaGreatDoor
