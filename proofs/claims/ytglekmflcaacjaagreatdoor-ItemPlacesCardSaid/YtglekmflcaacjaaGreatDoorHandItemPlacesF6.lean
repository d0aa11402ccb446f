/- ItemPlaces: a part of its proof. -/
import Derived.Test.YtglekmflcaacjaaGreatDoorCards
import Derived.ProofKit
namespace Go.Proofs.YtglekmflcaacjaaGreatDoor
set_option linter.unusedVariables false
set_option linter.unusedSimpArgs false
namespace ItemPlacesFrame

set_option maxRecDepth 100000 in
theorem wfT : Rows.itemPlacesRow.wfByText (OpenSpec.ofChange Rows.itemPlacesSpec) = true := by kernel_rfl
set_option maxRecDepth 100000 in
theorem mainT : Tryz.pinned.checked.prog.mainIs = some (Rows.itemPlacesCard.stood.harness.1, Rows.itemPlacesCard.stood.harness.2.toList) := by kernel_rfl

end ItemPlacesFrame
end Go.Proofs.YtglekmflcaacjaaGreatDoor
