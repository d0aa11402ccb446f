/- DecisionMerges: a part of its proof. -/
import Derived.Test.YtkkndblcejmmjaaGreatDoorCards
import Derived.ProofKit
namespace Go.Proofs.YtkkndblcejmmjaaGreatDoor
set_option linter.unusedVariables false
set_option linter.unusedSimpArgs false
namespace DecisionMergesFrame

set_option maxRecDepth 100000 in
theorem wfT : Rows.decisionMergesRow.wfByText (OpenSpec.ofChange Rows.decisionMergesSpec) = true := by kernel_rfl
set_option maxRecDepth 100000 in
theorem mainT : Tryz.pinned.checked.prog.mainIs = some (Rows.decisionMergesCard.stood.harness.1, Rows.decisionMergesCard.stood.harness.2.toList) := by kernel_rfl

end DecisionMergesFrame
end Go.Proofs.YtkkndblcejmmjaaGreatDoor
