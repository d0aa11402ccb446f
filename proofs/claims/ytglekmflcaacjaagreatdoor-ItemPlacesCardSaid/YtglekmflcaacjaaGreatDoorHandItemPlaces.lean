/- ItemPlaces: for every list of numbers the law's call returns true, and the list reads afterwards as it read before. Condition: the listed tables of the library hold what the program's text lays (the card ties that). -/
import Derived.Test.YtglekmflcaacjaaGreatDoorHandItemPlacesB
import Derived.Test.YtglekmflcaacjaaGreatDoorHandItemPlacesC
import Derived.Test.YtglekmflcaacjaaGreatDoorHandItemPlacesF5
import Derived.Test.YtglekmflcaacjaaGreatDoorHandItemPlacesF6
namespace Go.Proofs.YtglekmflcaacjaaGreatDoor
set_option linter.unusedVariables false
set_option linter.unusedSimpArgs false

/-- The card. -/
theorem ItemPlaces_holds : Rows.ItemPlacesCardSaid :=
  Claim7.holds_tied_plain_at .later [] _ _ _ _ ItemPlacesFrame.said (fun _ h => by cases h) ItemPlacesFrame.wfT (fun _ h => by cases h) itemPlaces_row_tie rfl ⟨rfl, rfl⟩ ItemPlacesFrame.mainT rfl ItemPlacesFrame.plain ItemPlacesFrame.goes

end Go.Proofs.YtglekmflcaacjaaGreatDoor
