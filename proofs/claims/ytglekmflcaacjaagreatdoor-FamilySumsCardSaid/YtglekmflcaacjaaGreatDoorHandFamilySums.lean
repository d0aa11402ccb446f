/- FamilySums: for every list of numbers the law's call returns true, and the list reads afterwards as it read before. Condition: the listed tables of the library hold what the program's text lays (the card ties that). -/
import Derived.Test.YtglekmflcaacjaaGreatDoorHandFamilySumsB
import Derived.Test.YtglekmflcaacjaaGreatDoorHandFamilySumsC
import Derived.Test.YtglekmflcaacjaaGreatDoorHandFamilySumsF5
import Derived.Test.YtglekmflcaacjaaGreatDoorHandFamilySumsF6
namespace Go.Proofs.YtglekmflcaacjaaGreatDoor
set_option linter.unusedVariables false
set_option linter.unusedSimpArgs false

/-- The card. -/
theorem FamilySums_holds : Rows.FamilySumsCardSaid :=
  Claim7.holds_tied_plain_at .later [] _ _ _ _ FamilySumsFrame.said (fun _ h => by cases h) FamilySumsFrame.wfT (fun _ h => by cases h) familySums_row_tie rfl ⟨rfl, rfl⟩ FamilySumsFrame.mainT rfl FamilySumsFrame.plain FamilySumsFrame.goes

end Go.Proofs.YtglekmflcaacjaaGreatDoor
