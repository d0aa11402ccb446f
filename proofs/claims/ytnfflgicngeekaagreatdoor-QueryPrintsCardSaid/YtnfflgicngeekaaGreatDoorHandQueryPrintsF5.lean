/- QueryPrints: a part of its proof. -/
import Derived.Test.YtnfflgicngeekaaGreatDoorCards
import Derived.ProofKit
namespace Go.Proofs.YtnfflgicngeekaaGreatDoor
set_option linter.unusedVariables false
set_option linter.unusedSimpArgs false
namespace QueryPrintsFrame

set_option maxRecDepth 100000 in
theorem goes : false = Rows.queryPrintsRow.goesBy Tryz.pinned.checked.prog := by kernel_rfl

end QueryPrintsFrame
end Go.Proofs.YtnfflgicngeekaaGreatDoor
