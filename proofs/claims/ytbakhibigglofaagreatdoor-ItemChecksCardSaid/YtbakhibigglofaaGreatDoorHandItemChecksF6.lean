/- ItemChecks: a part of its proof. -/
import Derived.Test.YtbakhibigglofaaGreatDoorCards
import Derived.ProofKit
namespace Go.Proofs.YtbakhibigglofaaGreatDoor
set_option linter.unusedVariables false
set_option linter.unusedSimpArgs false
namespace ItemChecksFrame

set_option maxRecDepth 100000 in
theorem wfT : Rows.itemChecksRow.wfByText (OpenSpec.ofChange Rows.itemChecksSpec) = true := by kernel_rfl
set_option maxRecDepth 100000 in
theorem mainT : Tryz.pinned.checked.prog.mainIs = some (Rows.itemChecksCard.stood.harness.1, Rows.itemChecksCard.stood.harness.2.toList) := by kernel_rfl

end ItemChecksFrame
end Go.Proofs.YtbakhibigglofaaGreatDoor
