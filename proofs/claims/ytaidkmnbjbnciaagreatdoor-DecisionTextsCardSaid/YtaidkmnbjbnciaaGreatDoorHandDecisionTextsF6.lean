/- DecisionTexts: a part of its proof. -/
import Derived.Test.YtaidkmnbjbnciaaGreatDoorCards
import Derived.ProofKit
namespace Go.Proofs.YtaidkmnbjbnciaaGreatDoor
set_option linter.unusedVariables false
set_option linter.unusedSimpArgs false
namespace DecisionTextsFrame

set_option maxRecDepth 100000 in
theorem wfT : Rows.decisionTextsRow.wfByText (OpenSpec.ofChange Rows.decisionTextsSpec) = true := by kernel_rfl
set_option maxRecDepth 100000 in
theorem mainT : Tryz.pinned.checked.prog.mainIs = some (Rows.decisionTextsCard.stood.harness.1, Rows.decisionTextsCard.stood.harness.2.toList) := by kernel_rfl

end DecisionTextsFrame
end Go.Proofs.YtaidkmnbjbnciaaGreatDoor
