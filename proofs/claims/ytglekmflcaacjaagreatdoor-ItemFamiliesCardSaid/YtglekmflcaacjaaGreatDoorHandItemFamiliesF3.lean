/- ItemFamilies: a part of its proof. -/
import Derived.Test.YtglekmflcaacjaaGreatDoorRows
import Derived.ProofKit
namespace Go.Proofs.YtglekmflcaacjaaGreatDoor
set_option linter.unusedVariables false
set_option linter.unusedSimpArgs false
namespace ItemFamiliesFrame

set_option maxRecDepth 100000 in
theorem fact3 : (Rows.itemFamiliesRow.recurses == Tryz.pinned.checked.prog.recurses 4) = true := by kernel_rfl

end ItemFamiliesFrame
end Go.Proofs.YtglekmflcaacjaaGreatDoor
