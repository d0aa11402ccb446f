/- MoveChecks: a part of its proof. -/
import Derived.Test.YtglekmflcaacjaaGreatDoorRows
import Derived.ProofKit
namespace Go.Proofs.YtglekmflcaacjaaGreatDoor
set_option linter.unusedVariables false
set_option linter.unusedSimpArgs false
namespace MoveChecksFrame

set_option maxRecDepth 100000 in
theorem fact2 : (Rows.moveChecksRow.unfollowed == Tryz.pinned.checked.prog.unfollowed 3) = true := by kernel_rfl

end MoveChecksFrame
end Go.Proofs.YtglekmflcaacjaaGreatDoor
