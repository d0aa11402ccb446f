/- QueryPrints: a part of its proof. -/
import Derived.Test.YtnfflgicngeekaaGreatDoorRows
import Derived.ProofKit
namespace Go.Proofs.YtnfflgicngeekaaGreatDoor
set_option linter.unusedVariables false
set_option linter.unusedSimpArgs false
namespace QueryPrintsFrame

set_option maxRecDepth 100000 in
theorem fact1 : (Rows.queryPrintsRow.inPlace == Tryz.pinned.checked.prog.inPlace 3) = true := by kernel_rfl

end QueryPrintsFrame
end Go.Proofs.YtnfflgicngeekaaGreatDoor
