/- ItemFamilies: a part of its proof. -/
import Derived.Test.YtglekmflcaacjaaGreatDoorRows
import Derived.ProofKit
namespace Go.Proofs.YtglekmflcaacjaaGreatDoor
set_option linter.unusedVariables false
set_option linter.unusedSimpArgs false
namespace ItemFamiliesFrame

set_option maxRecDepth 100000 in
theorem fact4 : (Rows.itemFamiliesRow.named == Tryz.pinned.checked.prog.varsNamed 4) = true := by kernel_rfl

end ItemFamiliesFrame
end Go.Proofs.YtglekmflcaacjaaGreatDoor
