/- DecisionClashes: for every list of numbers the law's call returns true, and the list reads afterwards as it read before. Condition: the listed tables of the library hold what the program's text lays (the card ties that). -/
import Derived.Test.YtkkndblcejmmjaaGreatDoorHandDecisionClashesB
import Derived.Test.YtkkndblcejmmjaaGreatDoorHandDecisionClashesC
import Derived.Test.YtkkndblcejmmjaaGreatDoorHandDecisionClashesF5
import Derived.Test.YtkkndblcejmmjaaGreatDoorHandDecisionClashesF6
namespace Go.Proofs.YtkkndblcejmmjaaGreatDoor
set_option linter.unusedVariables false
set_option linter.unusedSimpArgs false

/-- The card. -/
theorem DecisionClashes_holds : Rows.DecisionClashesCardSaid :=
  Claim7.holds_tied_plain_at .later [] _ _ _ _ DecisionClashesFrame.said (fun _ h => by cases h) DecisionClashesFrame.wfT (fun _ h => by cases h) decisionClashes_row_tie rfl ⟨rfl, rfl⟩ DecisionClashesFrame.mainT rfl DecisionClashesFrame.plain DecisionClashesFrame.goes

end Go.Proofs.YtkkndblcejmmjaaGreatDoor
