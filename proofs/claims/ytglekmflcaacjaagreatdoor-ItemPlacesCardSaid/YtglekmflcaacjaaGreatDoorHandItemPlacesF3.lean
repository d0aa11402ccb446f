/- ItemPlaces: a part of its proof. -/
import Derived.Test.YtglekmflcaacjaaGreatDoorRows
import Derived.ProofKit
namespace Go.Proofs.YtglekmflcaacjaaGreatDoor
set_option linter.unusedVariables false
set_option linter.unusedSimpArgs false
namespace ItemPlacesFrame

set_option maxRecDepth 100000 in
theorem fact3 : (Rows.itemPlacesRow.recurses == Tryz.pinned.checked.prog.recurses 6) = true := by kernel_rfl

end ItemPlacesFrame
end Go.Proofs.YtglekmflcaacjaaGreatDoor
