/- ItemTotals: a part of its proof. -/
import Derived.Test.YtbdeicbdehgeiaaGreatDoorCards
import Derived.ProofKit
namespace Go.Proofs.YtbdeicbdehgeiaaGreatDoor
set_option linter.unusedVariables false
set_option linter.unusedSimpArgs false
namespace ItemTotalsFrame

set_option maxRecDepth 100000 in
theorem wfT : Rows.itemTotalsRow.wfByText (OpenSpec.ofChange Rows.itemTotalsSpec) = true := by kernel_rfl
set_option maxRecDepth 100000 in
theorem mainT : Tryz.pinned.checked.prog.mainIs = some (Rows.itemTotalsCard.stood.harness.1, Rows.itemTotalsCard.stood.harness.2.toList) := by kernel_rfl

end ItemTotalsFrame
end Go.Proofs.YtbdeicbdehgeiaaGreatDoor
