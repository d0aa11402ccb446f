/- FamilySums: a part of its proof. -/
import Derived.Test.YtglekmflcaacjaaGreatDoorRows
import Derived.ProofKit
namespace Go.Proofs.YtglekmflcaacjaaGreatDoor
set_option linter.unusedVariables false
set_option linter.unusedSimpArgs false
namespace FamilySumsFrame

set_option maxRecDepth 100000 in
theorem fact4 : (Rows.familySumsRow.named == Tryz.pinned.checked.prog.varsNamed 7) = true := by kernel_rfl

end FamilySumsFrame
end Go.Proofs.YtglekmflcaacjaaGreatDoor
