/- MoveChecks: a part of its proof. -/
import Derived.Test.YtglekmflcaacjaaGreatDoorCards
import Derived.ProofKit
namespace Go.Proofs.YtglekmflcaacjaaGreatDoor
set_option linter.unusedVariables false
set_option linter.unusedSimpArgs false
namespace MoveChecksFrame

set_option maxRecDepth 100000 in
theorem wfT : Rows.moveChecksRow.wfByText (OpenSpec.ofChange Rows.moveChecksSpec) = true := by kernel_rfl
set_option maxRecDepth 100000 in
theorem mainT : Tryz.pinned.checked.prog.mainIs = some (Rows.moveChecksCard.stood.harness.1, Rows.moveChecksCard.stood.harness.2.toList) := by kernel_rfl

end MoveChecksFrame
end Go.Proofs.YtglekmflcaacjaaGreatDoor
