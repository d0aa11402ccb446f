/- DecisionTexts: a part of its proof. -/
import Derived.Test.YtaidkmnbjbnciaaGreatDoorCards
import Derived.ProofKit
namespace Go.Proofs.YtaidkmnbjbnciaaGreatDoor
set_option linter.unusedVariables false
set_option linter.unusedSimpArgs false
namespace DecisionTextsFrame

set_option maxRecDepth 100000 in
theorem goes : false = Rows.decisionTextsRow.goesBy Tryz.pinned.checked.prog := by kernel_rfl

end DecisionTextsFrame
end Go.Proofs.YtaidkmnbjbnciaaGreatDoor
