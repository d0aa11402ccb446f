/- QuerySearches: a part of its proof. -/
import Derived.Test.YtnfflgicngeekaaGreatDoorCards
import Derived.ProofKit
namespace Go.Proofs.YtnfflgicngeekaaGreatDoor
set_option linter.unusedVariables false
set_option linter.unusedSimpArgs false
namespace QuerySearchesFrame

set_option maxRecDepth 100000 in
theorem wfT : Rows.querySearchesRow.wfByText (OpenSpec.ofChange Rows.querySearchesSpec) = true := by kernel_rfl
set_option maxRecDepth 100000 in
theorem mainT : Tryz.pinned.checked.prog.mainIs = some (Rows.querySearchesCard.stood.harness.1, Rows.querySearchesCard.stood.harness.2.toList) := by kernel_rfl

end QuerySearchesFrame
end Go.Proofs.YtnfflgicngeekaaGreatDoor
