/- FilterKeeps: for every list of numbers the law's call returns true, and the list reads afterwards as it read before. Condition: the listed tables of the library hold what the program's text lays (the card ties that). -/
import Derived.Test.YtofkkenmkflmiaaGreatDoorHandFilterKeepsB
import Derived.Test.YtofkkenmkflmiaaGreatDoorHandFilterKeepsC
import Derived.Test.YtofkkenmkflmiaaGreatDoorHandFilterKeepsF5
import Derived.Test.YtofkkenmkflmiaaGreatDoorHandFilterKeepsF6
namespace Go.Proofs.YtofkkenmkflmiaaGreatDoor
set_option linter.unusedVariables false
set_option linter.unusedSimpArgs false

/-- The card. -/
theorem FilterKeeps_holds : Rows.FilterKeepsCardSaid :=
  Claim7.holds_tied_plain_at .later [] _ _ _ _ FilterKeepsFrame.said (fun _ h => by cases h) FilterKeepsFrame.wfT (fun _ h => by cases h) filterKeeps_row_tie rfl ⟨rfl, rfl⟩ FilterKeepsFrame.mainT rfl FilterKeepsFrame.plain FilterKeepsFrame.goes

end Go.Proofs.YtofkkenmkflmiaaGreatDoor
