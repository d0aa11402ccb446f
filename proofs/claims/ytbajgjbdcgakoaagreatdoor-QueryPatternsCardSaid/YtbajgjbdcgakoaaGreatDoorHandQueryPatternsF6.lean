/- QueryPatterns: a part of its proof. -/
import Derived.Test.YtbajgjbdcgakoaaGreatDoorCards
import Derived.ProofKit
namespace Go.Proofs.YtbajgjbdcgakoaaGreatDoor
set_option linter.unusedVariables false
set_option linter.unusedSimpArgs false
namespace QueryPatternsFrame

set_option maxRecDepth 100000 in
theorem wfT : Rows.queryPatternsRow.wfByText (OpenSpec.ofChange Rows.queryPatternsSpec) = true := by kernel_rfl
set_option maxRecDepth 100000 in
theorem mainT : Tryz.pinned.checked.prog.mainIs = some (Rows.queryPatternsCard.stood.harness.1, Rows.queryPatternsCard.stood.harness.2.toList) := by kernel_rfl

end QueryPatternsFrame
end Go.Proofs.YtbajgjbdcgakoaaGreatDoor
