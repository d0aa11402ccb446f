/- QueryPatterns: for every list of numbers the law's call returns true, and the list reads afterwards as it read before. Condition: the listed tables of the library hold what the program's text lays (the card ties that). -/
import Derived.Test.YtbajgjbdcgakoaaGreatDoorHandQueryPatternsB
import Derived.Test.YtbajgjbdcgakoaaGreatDoorHandQueryPatternsC
import Derived.Test.YtbajgjbdcgakoaaGreatDoorHandQueryPatternsF5
import Derived.Test.YtbajgjbdcgakoaaGreatDoorHandQueryPatternsF6
namespace Go.Proofs.YtbajgjbdcgakoaaGreatDoor
set_option linter.unusedVariables false
set_option linter.unusedSimpArgs false

/-- The card. -/
theorem QueryPatterns_holds : Rows.QueryPatternsCardSaid :=
  Claim7.holds_tied_plain_at .later [] _ _ _ _ QueryPatternsFrame.said (fun _ h => by cases h) QueryPatternsFrame.wfT (fun _ h => by cases h) queryPatterns_row_tie rfl ⟨rfl, rfl⟩ QueryPatternsFrame.mainT rfl QueryPatternsFrame.plain QueryPatternsFrame.goes

end Go.Proofs.YtbajgjbdcgakoaaGreatDoor
