/- CodingCounts: a part of its proof. -/
import Derived.Test.YtkkndblcejmmjaaGreatDoorCards
import Derived.ProofKit
namespace Go.Proofs.YtkkndblcejmmjaaGreatDoor
set_option linter.unusedVariables false
set_option linter.unusedSimpArgs false
namespace CodingCountsFrame

set_option maxRecDepth 100000 in
theorem wfT : Rows.codingCountsRow.wfByText (OpenSpec.ofChange Rows.codingCountsSpec) = true := by kernel_rfl
set_option maxRecDepth 100000 in
theorem mainT : Tryz.pinned.checked.prog.mainIs = some (Rows.codingCountsCard.stood.harness.1, Rows.codingCountsCard.stood.harness.2.toList) := by kernel_rfl

end CodingCountsFrame
end Go.Proofs.YtkkndblcejmmjaaGreatDoor
