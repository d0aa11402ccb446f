/- ItemFamilies: a part of its proof. -/
import Derived.Test.YtglekmflcaacjaaGreatDoorRows
import Derived.ProofKit
namespace Go.Proofs.YtglekmflcaacjaaGreatDoor
set_option linter.unusedVariables false
set_option linter.unusedSimpArgs false
namespace ItemFamiliesFrame

set_option maxRecDepth 100000 in
theorem fact2 : (Rows.itemFamiliesRow.unfollowed == Tryz.pinned.checked.prog.unfollowed 4) = true := by kernel_rfl

end ItemFamiliesFrame
end Go.Proofs.YtglekmflcaacjaaGreatDoor
