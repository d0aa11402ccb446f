/- DecisionClashes: a part of its proof. -/
import Derived.Test.YtkkndblcejmmjaaGreatDoorCards
import Derived.ProofKit
namespace Go.Proofs.YtkkndblcejmmjaaGreatDoor
set_option linter.unusedVariables false
set_option linter.unusedSimpArgs false
namespace DecisionClashesFrame

set_option maxRecDepth 100000 in
theorem wfT : Rows.decisionClashesRow.wfByText (OpenSpec.ofChange Rows.decisionClashesSpec) = true := by kernel_rfl
set_option maxRecDepth 100000 in
theorem mainT : Tryz.pinned.checked.prog.mainIs = some (Rows.decisionClashesCard.stood.harness.1, Rows.decisionClashesCard.stood.harness.2.toList) := by kernel_rfl

end DecisionClashesFrame
end Go.Proofs.YtkkndblcejmmjaaGreatDoor
