/- MoveChecks: for every list of numbers the law's call returns true, and the list reads afterwards as it read before. Condition: the listed tables of the library hold what the program's text lays (the card ties that). -/
import Derived.Test.YtglekmflcaacjaaGreatDoorHandMoveChecksB
import Derived.Test.YtglekmflcaacjaaGreatDoorHandMoveChecksC
import Derived.Test.YtglekmflcaacjaaGreatDoorHandMoveChecksF5
import Derived.Test.YtglekmflcaacjaaGreatDoorHandMoveChecksF6
namespace Go.Proofs.YtglekmflcaacjaaGreatDoor
set_option linter.unusedVariables false
set_option linter.unusedSimpArgs false

/-- The card. -/
theorem MoveChecks_holds : Rows.MoveChecksCardSaid :=
  Claim7.holds_tied_plain_at .later [] _ _ _ _ MoveChecksFrame.said (fun _ h => by cases h) MoveChecksFrame.wfT (fun _ h => by cases h) moveChecks_row_tie rfl ⟨rfl, rfl⟩ MoveChecksFrame.mainT rfl MoveChecksFrame.plain MoveChecksFrame.goes

end Go.Proofs.YtglekmflcaacjaaGreatDoor
