/- ItemWholes: for every list of numbers the law's call returns true, and the list reads afterwards as it read before. Condition: the listed tables of the library hold what the program's text lays (the card ties that). -/
import Derived.Test.YtglekmflcaacjaaGreatDoorHandItemWholesB
import Derived.Test.YtglekmflcaacjaaGreatDoorHandItemWholesC
import Derived.Test.YtglekmflcaacjaaGreatDoorHandItemWholesF5
import Derived.Test.YtglekmflcaacjaaGreatDoorHandItemWholesF6
namespace Go.Proofs.YtglekmflcaacjaaGreatDoor
set_option linter.unusedVariables false
set_option linter.unusedSimpArgs false

/-- The card. -/
theorem ItemWholes_holds : Rows.ItemWholesCardSaid :=
  Claim7.holds_tied_plain_at .later [] _ _ _ _ ItemWholesFrame.said (fun _ h => by cases h) ItemWholesFrame.wfT (fun _ h => by cases h) itemWholes_row_tie rfl ⟨rfl, rfl⟩ ItemWholesFrame.mainT rfl ItemWholesFrame.plain ItemWholesFrame.goes

end Go.Proofs.YtglekmflcaacjaaGreatDoor
