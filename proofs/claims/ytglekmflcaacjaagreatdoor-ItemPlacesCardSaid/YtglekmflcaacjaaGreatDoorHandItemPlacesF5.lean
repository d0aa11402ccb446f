/- ItemPlaces: a part of its proof. -/
import Derived.Test.YtglekmflcaacjaaGreatDoorCards
import Derived.ProofKit
namespace Go.Proofs.YtglekmflcaacjaaGreatDoor
set_option linter.unusedVariables false
set_option linter.unusedSimpArgs false
namespace ItemPlacesFrame

set_option maxRecDepth 100000 in
theorem goes : false = Rows.itemPlacesRow.goesBy Tryz.pinned.checked.prog := by kernel_rfl

end ItemPlacesFrame
end Go.Proofs.YtglekmflcaacjaaGreatDoor
