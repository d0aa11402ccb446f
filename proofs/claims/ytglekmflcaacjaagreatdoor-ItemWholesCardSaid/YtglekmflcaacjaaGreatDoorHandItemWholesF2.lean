/- ItemWholes: a part of its proof. -/
import Derived.Test.YtglekmflcaacjaaGreatDoorRows
import Derived.ProofKit
namespace Go.Proofs.YtglekmflcaacjaaGreatDoor
set_option linter.unusedVariables false
set_option linter.unusedSimpArgs false
namespace ItemWholesFrame

set_option maxRecDepth 100000 in
theorem fact2 : (Rows.itemWholesRow.unfollowed == Tryz.pinned.checked.prog.unfollowed 5) = true := by kernel_rfl

end ItemWholesFrame
end Go.Proofs.YtglekmflcaacjaaGreatDoor
