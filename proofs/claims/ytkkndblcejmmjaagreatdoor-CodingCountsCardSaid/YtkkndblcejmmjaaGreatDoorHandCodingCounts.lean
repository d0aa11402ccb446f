/- CodingCounts: for every list of numbers the law's call returns true, and the list reads afterwards as it read before. Condition: the listed tables of the library hold what the program's text lays (the card ties that). -/
import Derived.Test.YtkkndblcejmmjaaGreatDoorHandCodingCountsB
import Derived.Test.YtkkndblcejmmjaaGreatDoorHandCodingCountsC
import Derived.Test.YtkkndblcejmmjaaGreatDoorHandCodingCountsF5
import Derived.Test.YtkkndblcejmmjaaGreatDoorHandCodingCountsF6
namespace Go.Proofs.YtkkndblcejmmjaaGreatDoor
set_option linter.unusedVariables false
set_option linter.unusedSimpArgs false

/-- The card. -/
theorem CodingCounts_holds : Rows.CodingCountsCardSaid :=
  Claim7.holds_tied_plain_at .later [] _ _ _ _ CodingCountsFrame.said (fun _ h => by cases h) CodingCountsFrame.wfT (fun _ h => by cases h) codingCounts_row_tie rfl ⟨rfl, rfl⟩ CodingCountsFrame.mainT rfl CodingCountsFrame.plain CodingCountsFrame.goes

end Go.Proofs.YtkkndblcejmmjaaGreatDoor
