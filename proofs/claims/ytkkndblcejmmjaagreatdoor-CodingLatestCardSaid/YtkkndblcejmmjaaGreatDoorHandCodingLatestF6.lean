/- CodingLatest: a part of its proof. -/
import Derived.Test.YtkkndblcejmmjaaGreatDoorCards
import Derived.ProofKit
namespace Go.Proofs.YtkkndblcejmmjaaGreatDoor
set_option linter.unusedVariables false
set_option linter.unusedSimpArgs false
namespace CodingLatestFrame

set_option maxRecDepth 100000 in
theorem wfT : Rows.codingLatestRow.wfByText (OpenSpec.ofChange Rows.codingLatestSpec) = true := by kernel_rfl
set_option maxRecDepth 100000 in
theorem mainT : Tryz.pinned.checked.prog.mainIs = some (Rows.codingLatestCard.stood.harness.1, Rows.codingLatestCard.stood.harness.2.toList) := by kernel_rfl

end CodingLatestFrame
end Go.Proofs.YtkkndblcejmmjaaGreatDoor
