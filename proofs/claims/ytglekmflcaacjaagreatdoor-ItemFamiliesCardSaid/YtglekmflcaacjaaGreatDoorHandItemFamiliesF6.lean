/- ItemFamilies: a part of its proof. -/
import Derived.Test.YtglekmflcaacjaaGreatDoorCards
import Derived.ProofKit
namespace Go.Proofs.YtglekmflcaacjaaGreatDoor
set_option linter.unusedVariables false
set_option linter.unusedSimpArgs false
namespace ItemFamiliesFrame

set_option maxRecDepth 100000 in
theorem wfT : Rows.itemFamiliesRow.wfByText (OpenSpec.ofChange Rows.itemFamiliesSpec) = true := by kernel_rfl
set_option maxRecDepth 100000 in
theorem mainT : Tryz.pinned.checked.prog.mainIs = some (Rows.itemFamiliesCard.stood.harness.1, Rows.itemFamiliesCard.stood.harness.2.toList) := by kernel_rfl

end ItemFamiliesFrame
end Go.Proofs.YtglekmflcaacjaaGreatDoor
