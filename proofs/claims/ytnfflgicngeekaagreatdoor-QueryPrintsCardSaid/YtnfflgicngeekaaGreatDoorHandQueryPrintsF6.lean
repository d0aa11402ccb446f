/- QueryPrints: a part of its proof. -/
import Derived.Test.YtnfflgicngeekaaGreatDoorCards
import Derived.ProofKit
namespace Go.Proofs.YtnfflgicngeekaaGreatDoor
set_option linter.unusedVariables false
set_option linter.unusedSimpArgs false
namespace QueryPrintsFrame

set_option maxRecDepth 100000 in
theorem wfT : Rows.queryPrintsRow.wfByText (OpenSpec.ofChange Rows.queryPrintsSpec) = true := by kernel_rfl
set_option maxRecDepth 100000 in
theorem mainT : Tryz.pinned.checked.prog.mainIs = some (Rows.queryPrintsCard.stood.harness.1, Rows.queryPrintsCard.stood.harness.2.toList) := by kernel_rfl

end QueryPrintsFrame
end Go.Proofs.YtnfflgicngeekaaGreatDoor
