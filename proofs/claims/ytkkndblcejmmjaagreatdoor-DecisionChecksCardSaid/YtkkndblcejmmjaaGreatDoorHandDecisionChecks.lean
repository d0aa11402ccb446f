/- DecisionChecks: for every list of numbers the law's call returns true, and the list reads afterwards as it read before. Condition: the listed tables of the library hold what the program's text lays (the card ties that). -/
import Derived.Test.YtkkndblcejmmjaaGreatDoorHandDecisionChecksB
import Derived.Test.YtkkndblcejmmjaaGreatDoorHandDecisionChecksC
import Derived.Test.YtkkndblcejmmjaaGreatDoorHandDecisionChecksF5
import Derived.Test.YtkkndblcejmmjaaGreatDoorHandDecisionChecksF6
namespace Go.Proofs.YtkkndblcejmmjaaGreatDoor
set_option linter.unusedVariables false
set_option linter.unusedSimpArgs false

/-- The card. -/
theorem DecisionChecks_holds : Rows.DecisionChecksCardSaid :=
  Claim7.holds_tied_plain_at .later [] _ _ _ _ DecisionChecksFrame.said (fun _ h => by cases h) DecisionChecksFrame.wfT (fun _ h => by cases h) decisionChecks_row_tie rfl ⟨rfl, rfl⟩ DecisionChecksFrame.mainT rfl DecisionChecksFrame.plain DecisionChecksFrame.goes

end Go.Proofs.YtkkndblcejmmjaaGreatDoor
