/- CodingLatest: for every list of numbers the law's call returns true, and the list reads afterwards as it read before. Condition: the listed tables of the library hold what the program's text lays (the card ties that). -/
import Derived.Test.YtkkndblcejmmjaaGreatDoorHandCodingLatestB
import Derived.Test.YtkkndblcejmmjaaGreatDoorHandCodingLatestC
import Derived.Test.YtkkndblcejmmjaaGreatDoorHandCodingLatestF5
import Derived.Test.YtkkndblcejmmjaaGreatDoorHandCodingLatestF6
namespace Go.Proofs.YtkkndblcejmmjaaGreatDoor
set_option linter.unusedVariables false
set_option linter.unusedSimpArgs false

/-- The card. -/
theorem CodingLatest_holds : Rows.CodingLatestCardSaid :=
  Claim7.holds_tied_plain_at .later [] _ _ _ _ CodingLatestFrame.said (fun _ h => by cases h) CodingLatestFrame.wfT (fun _ h => by cases h) codingLatest_row_tie rfl ⟨rfl, rfl⟩ CodingLatestFrame.mainT rfl CodingLatestFrame.plain CodingLatestFrame.goes

end Go.Proofs.YtkkndblcejmmjaaGreatDoor
