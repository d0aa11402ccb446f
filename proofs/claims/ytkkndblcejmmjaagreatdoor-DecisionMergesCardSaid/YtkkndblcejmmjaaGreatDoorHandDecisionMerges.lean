/- DecisionMerges: for every list of numbers the law's call returns true, and the list reads afterwards as it read before. Condition: the listed tables of the library hold what the program's text lays (the card ties that). -/
import Derived.Test.YtkkndblcejmmjaaGreatDoorHandDecisionMergesB
import Derived.Test.YtkkndblcejmmjaaGreatDoorHandDecisionMergesC
import Derived.Test.YtkkndblcejmmjaaGreatDoorHandDecisionMergesF5
import Derived.Test.YtkkndblcejmmjaaGreatDoorHandDecisionMergesF6
namespace Go.Proofs.YtkkndblcejmmjaaGreatDoor
set_option linter.unusedVariables false
set_option linter.unusedSimpArgs false

/-- The card. -/
theorem DecisionMerges_holds : Rows.DecisionMergesCardSaid :=
  Claim7.holds_tied_plain_at .later [] _ _ _ _ DecisionMergesFrame.said (fun _ h => by cases h) DecisionMergesFrame.wfT (fun _ h => by cases h) decisionMerges_row_tie rfl ⟨rfl, rfl⟩ DecisionMergesFrame.mainT rfl DecisionMergesFrame.plain DecisionMergesFrame.goes

end Go.Proofs.YtkkndblcejmmjaaGreatDoor
