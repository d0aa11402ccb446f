/- DecisionChecks: a part of its proof. -/
import Derived.Test.YtkkndblcejmmjaaGreatDoorCards
import Derived.ProofKit
namespace Go.Proofs.YtkkndblcejmmjaaGreatDoor
set_option linter.unusedVariables false
set_option linter.unusedSimpArgs false
namespace DecisionChecksFrame

set_option maxRecDepth 100000 in
theorem wfT : Rows.decisionChecksRow.wfByText (OpenSpec.ofChange Rows.decisionChecksSpec) = true := by kernel_rfl
set_option maxRecDepth 100000 in
theorem mainT : Tryz.pinned.checked.prog.mainIs = some (Rows.decisionChecksCard.stood.harness.1, Rows.decisionChecksCard.stood.harness.2.toList) := by kernel_rfl

end DecisionChecksFrame
end Go.Proofs.YtkkndblcejmmjaaGreatDoor
