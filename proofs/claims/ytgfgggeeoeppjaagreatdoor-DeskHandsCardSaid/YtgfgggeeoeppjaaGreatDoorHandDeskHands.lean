/- DeskHands: for every list of numbers the law's call returns true, and the list reads afterwards as it read before. Condition: the listed tables of the library hold what the program's text lays (the card ties that). -/
import Derived.Test.YtgfgggeeoeppjaaGreatDoorHandDeskHandsB
import Derived.Test.YtgfgggeeoeppjaaGreatDoorHandDeskHandsC
import Derived.Test.YtgfgggeeoeppjaaGreatDoorHandDeskHandsF5
import Derived.Test.YtgfgggeeoeppjaaGreatDoorHandDeskHandsF6
namespace Go.Proofs.YtgfgggeeoeppjaaGreatDoor
set_option linter.unusedVariables false
set_option linter.unusedSimpArgs false

/-- The card. -/
theorem DeskHands_holds : Rows.DeskHandsCardSaid :=
  Claim7.holds_tied_plain_at .later [] _ _ _ _ DeskHandsFrame.said (fun _ h => by cases h) DeskHandsFrame.wfT (fun _ h => by cases h) deskHands_row_tie rfl ⟨rfl, rfl⟩ DeskHandsFrame.mainT rfl DeskHandsFrame.plain DeskHandsFrame.goes

end Go.Proofs.YtgfgggeeoeppjaaGreatDoor
