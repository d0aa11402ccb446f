/- GroupFamilies: for every list of numbers the law's call returns true, and the list reads afterwards as it read before. Condition: the listed tables of the library hold what the program's text lays (the card ties that). -/
import Derived.Test.YtgfgggeeoeppjaaGreatDoorHandGroupFamiliesB
import Derived.Test.YtgfgggeeoeppjaaGreatDoorHandGroupFamiliesC
import Derived.Test.YtgfgggeeoeppjaaGreatDoorHandGroupFamiliesF5
import Derived.Test.YtgfgggeeoeppjaaGreatDoorHandGroupFamiliesF6
namespace Go.Proofs.YtgfgggeeoeppjaaGreatDoor
set_option linter.unusedVariables false
set_option linter.unusedSimpArgs false

/-- The card. -/
theorem GroupFamilies_holds : Rows.GroupFamiliesCardSaid :=
  Claim7.holds_tied_plain_at .later [] _ _ _ _ GroupFamiliesFrame.said (fun _ h => by cases h) GroupFamiliesFrame.wfT (fun _ h => by cases h) groupFamilies_row_tie rfl ⟨rfl, rfl⟩ GroupFamiliesFrame.mainT rfl GroupFamiliesFrame.plain GroupFamiliesFrame.goes

end Go.Proofs.YtgfgggeeoeppjaaGreatDoor
