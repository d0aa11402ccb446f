/- QueryChecks: a part of its proof. -/
import Derived.Test.YtbajgjbdcgakoaaGreatDoorCards
import Derived.ProofKit
namespace Go.Proofs.YtbajgjbdcgakoaaGreatDoor
set_option linter.unusedVariables false
set_option linter.unusedSimpArgs false
namespace QueryChecksFrame

set_option maxRecDepth 100000 in
theorem wfT : Rows.queryChecksRow.wfByText (OpenSpec.ofChange Rows.queryChecksSpec) = true := by kernel_rfl
set_option maxRecDepth 100000 in
theorem mainT : Tryz.pinned.checked.prog.mainIs = some (Rows.queryChecksCard.stood.harness.1, Rows.queryChecksCard.stood.harness.2.toList) := by kernel_rfl

end QueryChecksFrame
end Go.Proofs.YtbajgjbdcgakoaaGreatDoor
