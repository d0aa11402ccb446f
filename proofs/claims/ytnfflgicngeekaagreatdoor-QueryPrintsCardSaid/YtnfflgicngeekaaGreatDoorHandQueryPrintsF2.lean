/- QueryPrints: a part of its proof. -/
import Derived.Test.YtnfflgicngeekaaGreatDoorRows
import Derived.ProofKit
namespace Go.Proofs.YtnfflgicngeekaaGreatDoor
set_option linter.unusedVariables false
set_option linter.unusedSimpArgs false
namespace QueryPrintsFrame

set_option maxRecDepth 100000 in
theorem fact2 : (Rows.queryPrintsRow.unfollowed == Tryz.pinned.checked.prog.unfollowed 3) = true := by kernel_rfl

end QueryPrintsFrame
end Go.Proofs.YtnfflgicngeekaaGreatDoor
