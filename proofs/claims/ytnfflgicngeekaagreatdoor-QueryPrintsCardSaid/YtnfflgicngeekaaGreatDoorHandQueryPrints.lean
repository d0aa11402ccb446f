/- QueryPrints: for every list of numbers the law's call returns true, and the list reads afterwards as it read before. Condition: the listed tables of the library hold what the program's text lays (the card ties that). -/
import Derived.Test.YtnfflgicngeekaaGreatDoorHandQueryPrintsB
import Derived.Test.YtnfflgicngeekaaGreatDoorHandQueryPrintsC
import Derived.Test.YtnfflgicngeekaaGreatDoorHandQueryPrintsF5
import Derived.Test.YtnfflgicngeekaaGreatDoorHandQueryPrintsF6
namespace Go.Proofs.YtnfflgicngeekaaGreatDoor
set_option linter.unusedVariables false
set_option linter.unusedSimpArgs false

/-- The card. -/
theorem QueryPrints_holds : Rows.QueryPrintsCardSaid :=
  Claim7.holds_tied_plain_at .later [] _ _ _ _ QueryPrintsFrame.said (fun _ h => by cases h) QueryPrintsFrame.wfT (fun _ h => by cases h) queryPrints_row_tie rfl ⟨rfl, rfl⟩ QueryPrintsFrame.mainT rfl QueryPrintsFrame.plain QueryPrintsFrame.goes

end Go.Proofs.YtnfflgicngeekaaGreatDoor
