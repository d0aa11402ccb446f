/- ItemChecks: for every list of numbers the law's call returns true, and the list reads afterwards as it read before. Condition: the listed tables of the library hold what the program's text lays (the card ties that). -/
import Derived.Test.YtbakhibigglofaaGreatDoorHandItemChecksB
import Derived.Test.YtbakhibigglofaaGreatDoorHandItemChecksC
import Derived.Test.YtbakhibigglofaaGreatDoorHandItemChecksF5
import Derived.Test.YtbakhibigglofaaGreatDoorHandItemChecksF6
namespace Go.Proofs.YtbakhibigglofaaGreatDoor
set_option linter.unusedVariables false
set_option linter.unusedSimpArgs false

/-- The card. -/
theorem ItemChecks_holds : Rows.ItemChecksCardSaid :=
  Claim7.holds_tied_plain_at .later [] _ _ _ _ ItemChecksFrame.said (fun _ h => by cases h) ItemChecksFrame.wfT (fun _ h => by cases h) itemChecks_row_tie rfl ⟨rfl, rfl⟩ ItemChecksFrame.mainT rfl ItemChecksFrame.plain ItemChecksFrame.goes

end Go.Proofs.YtbakhibigglofaaGreatDoor
