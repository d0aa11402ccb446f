/- MoveChecks: a part of its proof. -/
import Derived.Test.YtglekmflcaacjaaGreatDoorCards
import Derived.ProofKit
namespace Go.Proofs.YtglekmflcaacjaaGreatDoor
set_option linter.unusedVariables false
set_option linter.unusedSimpArgs false
namespace MoveChecksFrame

set_option maxRecDepth 100000 in
theorem goes : false = Rows.moveChecksRow.goesBy Tryz.pinned.checked.prog := by kernel_rfl

end MoveChecksFrame
end Go.Proofs.YtglekmflcaacjaaGreatDoor
