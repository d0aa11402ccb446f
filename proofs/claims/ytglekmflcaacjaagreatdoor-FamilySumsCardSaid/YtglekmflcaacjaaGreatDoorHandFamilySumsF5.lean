/- FamilySums: a part of its proof. -/
import Derived.Test.YtglekmflcaacjaaGreatDoorCards
import Derived.ProofKit
namespace Go.Proofs.YtglekmflcaacjaaGreatDoor
set_option linter.unusedVariables false
set_option linter.unusedSimpArgs false
namespace FamilySumsFrame

set_option maxRecDepth 100000 in
theorem goes : false = Rows.familySumsRow.goesBy Tryz.pinned.checked.prog := by kernel_rfl

end FamilySumsFrame
end Go.Proofs.YtglekmflcaacjaaGreatDoor
