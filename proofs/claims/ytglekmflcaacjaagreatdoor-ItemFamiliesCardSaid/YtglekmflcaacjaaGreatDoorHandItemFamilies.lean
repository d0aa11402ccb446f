/- ItemFamilies: for every list of numbers the law's call returns true, and the list reads afterwards as it read before. Condition: the listed tables of the library hold what the program's text lays (the card ties that). -/
import Derived.Test.YtglekmflcaacjaaGreatDoorHandItemFamiliesB
import Derived.Test.YtglekmflcaacjaaGreatDoorHandItemFamiliesC
import Derived.Test.YtglekmflcaacjaaGreatDoorHandItemFamiliesF5
import Derived.Test.YtglekmflcaacjaaGreatDoorHandItemFamiliesF6
namespace Go.Proofs.YtglekmflcaacjaaGreatDoor
set_option linter.unusedVariables false
set_option linter.unusedSimpArgs false

/-- The card. -/
theorem ItemFamilies_holds : Rows.ItemFamiliesCardSaid :=
  Claim7.holds_tied_plain_at .later [] _ _ _ _ ItemFamiliesFrame.said (fun _ h => by cases h) ItemFamiliesFrame.wfT (fun _ h => by cases h) itemFamilies_row_tie rfl ⟨rfl, rfl⟩ ItemFamiliesFrame.mainT rfl ItemFamiliesFrame.plain ItemFamiliesFrame.goes

end Go.Proofs.YtglekmflcaacjaaGreatDoor
