/- ItemWholes: a part of its proof. -/
import Derived.Test.YtglekmflcaacjaaGreatDoorCards
import Derived.ProofKit
namespace Go.Proofs.YtglekmflcaacjaaGreatDoor
set_option linter.unusedVariables false
set_option linter.unusedSimpArgs false
namespace ItemWholesFrame

set_option maxRecDepth 100000 in
theorem wfT : Rows.itemWholesRow.wfByText (OpenSpec.ofChange Rows.itemWholesSpec) = true := by kernel_rfl
set_option maxRecDepth 100000 in
theorem mainT : Tryz.pinned.checked.prog.mainIs = some (Rows.itemWholesCard.stood.harness.1, Rows.itemWholesCard.stood.harness.2.toList) := by kernel_rfl

end ItemWholesFrame
end Go.Proofs.YtglekmflcaacjaaGreatDoor
