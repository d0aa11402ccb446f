/- DecisionMerges: a part of its proof. -/
import Derived.Test.YtkkndblcejmmjaaGreatDoorRows
import Derived.ProofKit
namespace Go.Proofs.YtkkndblcejmmjaaGreatDoor
set_option linter.unusedVariables false
set_option linter.unusedSimpArgs false
namespace DecisionMergesFrame

set_option maxRecDepth 100000 in
theorem fact2 : (Rows.decisionMergesRow.unfollowed == Tryz.pinned.checked.prog.unfollowed 5) = true := by kernel_rfl

end DecisionMergesFrame
end Go.Proofs.YtkkndblcejmmjaaGreatDoor
