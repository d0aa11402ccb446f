/- ValueChecks: a part of its proof. -/
import Derived.Test.YtinjblkhblhlpaaDoorCards
import Derived.ProofKit
namespace Go.Proofs.YtinjblkhblhlpaaDoor
set_option linter.unusedVariables false
set_option linter.unusedSimpArgs false
namespace ValueChecksFrame

set_option maxRecDepth 100000 in
theorem wfT : Rows.valueChecksRow.wfByText (OpenSpec.ofChange Rows.valueChecksSpec) = true := by kernel_rfl
set_option maxRecDepth 100000 in
theorem mainT : Tryd.pinned.checked.prog.mainIs = some (Rows.valueChecksCard.stood.harness.1, Rows.valueChecksCard.stood.harness.2.toList) := by kernel_rfl

end ValueChecksFrame
end Go.Proofs.YtinjblkhblhlpaaDoor
