/- QueryChecks: for every list of numbers the law's call returns true, and the list reads afterwards as it read before. Condition: the listed tables of the library hold what the program's text lays (the card ties that). -/
import Derived.Test.YtbajgjbdcgakoaaGreatDoorHandQueryChecksB
import Derived.Test.YtbajgjbdcgakoaaGreatDoorHandQueryChecksC
import Derived.Test.YtbajgjbdcgakoaaGreatDoorHandQueryChecksF5
import Derived.Test.YtbajgjbdcgakoaaGreatDoorHandQueryChecksF6
namespace Go.Proofs.YtbajgjbdcgakoaaGreatDoor
set_option linter.unusedVariables false
set_option linter.unusedSimpArgs false

/-- The card. -/
theorem QueryChecks_holds : Rows.QueryChecksCardSaid :=
  Claim7.holds_tied_plain_at .later [] _ _ _ _ QueryChecksFrame.said (fun _ h => by cases h) QueryChecksFrame.wfT (fun _ h => by cases h) queryChecks_row_tie rfl ⟨rfl, rfl⟩ QueryChecksFrame.mainT rfl QueryChecksFrame.plain QueryChecksFrame.goes

end Go.Proofs.YtbajgjbdcgakoaaGreatDoor
