/- QueryOrders: a part of its proof. -/
import Derived.Test.YtbajgjbdcgakoaaGreatDoorCards
import Derived.ProofKit
namespace Go.Proofs.YtbajgjbdcgakoaaGreatDoor
set_option linter.unusedVariables false
set_option linter.unusedSimpArgs false
namespace QueryOrdersFrame

set_option maxRecDepth 100000 in
theorem wfT : Rows.queryOrdersRow.wfByText (OpenSpec.ofChange Rows.queryOrdersSpec) = true := by kernel_rfl
set_option maxRecDepth 100000 in
theorem mainT : Tryz.pinned.checked.prog.mainIs = some (Rows.queryOrdersCard.stood.harness.1, Rows.queryOrdersCard.stood.harness.2.toList) := by kernel_rfl

end QueryOrdersFrame
end Go.Proofs.YtbajgjbdcgakoaaGreatDoor
