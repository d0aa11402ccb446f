/- DecisionTexts: for every list of numbers the law's call returns true, and the list reads afterwards as it read before. Condition: the listed tables of the library hold what the program's text lays (the card ties that). -/
import Derived.Test.YtaidkmnbjbnciaaGreatDoorHandDecisionTextsB
import Derived.Test.YtaidkmnbjbnciaaGreatDoorHandDecisionTextsC
import Derived.Test.YtaidkmnbjbnciaaGreatDoorHandDecisionTextsF5
import Derived.Test.YtaidkmnbjbnciaaGreatDoorHandDecisionTextsF6
namespace Go.Proofs.YtaidkmnbjbnciaaGreatDoor
set_option linter.unusedVariables false
set_option linter.unusedSimpArgs false

/-- The card. -/
theorem DecisionTexts_holds : Rows.DecisionTextsCardSaid :=
  Claim7.holds_tied_plain_at .later [] _ _ _ _ DecisionTextsFrame.said (fun _ h => by cases h) DecisionTextsFrame.wfT (fun _ h => by cases h) decisionTexts_row_tie rfl ⟨rfl, rfl⟩ DecisionTextsFrame.mainT rfl DecisionTextsFrame.plain DecisionTextsFrame.goes

end Go.Proofs.YtaidkmnbjbnciaaGreatDoor
