/- QuerySearches: for every list of numbers the law's call returns true, and the list reads afterwards as it read before. Condition: the listed tables of the library hold what the program's text lays (the card ties that). -/
import Derived.Test.YtnfflgicngeekaaGreatDoorHandQuerySearchesB
import Derived.Test.YtnfflgicngeekaaGreatDoorHandQuerySearchesC
import Derived.Test.YtnfflgicngeekaaGreatDoorHandQuerySearchesF5
import Derived.Test.YtnfflgicngeekaaGreatDoorHandQuerySearchesF6
namespace Go.Proofs.YtnfflgicngeekaaGreatDoor
set_option linter.unusedVariables false
set_option linter.unusedSimpArgs false

/-- The card. -/
theorem QuerySearches_holds : Rows.QuerySearchesCardSaid :=
  Claim7.holds_tied_plain_at .later [] _ _ _ _ QuerySearchesFrame.said (fun _ h => by cases h) QuerySearchesFrame.wfT (fun _ h => by cases h) querySearches_row_tie rfl ⟨rfl, rfl⟩ QuerySearchesFrame.mainT rfl QuerySearchesFrame.plain QuerySearchesFrame.goes

end Go.Proofs.YtnfflgicngeekaaGreatDoor
