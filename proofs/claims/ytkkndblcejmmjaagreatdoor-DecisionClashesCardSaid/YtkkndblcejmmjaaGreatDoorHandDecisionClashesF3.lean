/- DecisionClashes: a part of its proof. -/
import Derived.Test.YtkkndblcejmmjaaGreatDoorRows
import Derived.ProofKit
namespace Go.Proofs.YtkkndblcejmmjaaGreatDoor
set_option linter.unusedVariables false
set_option linter.unusedSimpArgs false
namespace DecisionClashesFrame

set_option maxRecDepth 100000 in
theorem fact3 : (Rows.decisionClashesRow.recurses == Tryz.pinned.checked.prog.recurses 7) = true := by kernel_rfl

end DecisionClashesFrame
end Go.Proofs.YtkkndblcejmmjaaGreatDoor
