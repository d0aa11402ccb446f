/- DecisionClashes: a part of its proof. -/
import Derived.Test.YtkkndblcejmmjaaGreatDoorRows
import Derived.ProofKit
namespace Go.Proofs.YtkkndblcejmmjaaGreatDoor
set_option linter.unusedVariables false
set_option linter.unusedSimpArgs false
namespace DecisionClashesFrame

set_option maxRecDepth 100000 in
theorem fact1 : (Rows.decisionClashesRow.inPlace == Tryz.pinned.checked.prog.inPlace 7) = true := by kernel_rfl

end DecisionClashesFrame
end Go.Proofs.YtkkndblcejmmjaaGreatDoor
