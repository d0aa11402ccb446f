/- DecisionChecks: a part of its proof. -/
import Derived.Test.YtkkndblcejmmjaaGreatDoorRows
import Derived.ProofKit
namespace Go.Proofs.YtkkndblcejmmjaaGreatDoor
set_option linter.unusedVariables false
set_option linter.unusedSimpArgs false
namespace DecisionChecksFrame

set_option maxRecDepth 100000 in
theorem fact4 : (Rows.decisionChecksRow.named == Tryz.pinned.checked.prog.varsNamed 3) = true := by kernel_rfl

end DecisionChecksFrame
end Go.Proofs.YtkkndblcejmmjaaGreatDoor
