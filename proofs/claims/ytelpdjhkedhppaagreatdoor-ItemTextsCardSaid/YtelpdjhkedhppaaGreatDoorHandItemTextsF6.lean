/- ItemTexts: a part of its proof. -/
import Derived.Test.YtelpdjhkedhppaaGreatDoorCards
import Derived.ProofKit
namespace Go.Proofs.YtelpdjhkedhppaaGreatDoor
set_option linter.unusedVariables false
set_option linter.unusedSimpArgs false
namespace ItemTextsFrame

set_option maxRecDepth 100000 in
theorem wfT : Rows.itemTextsRow.wfByText (OpenSpec.ofChange Rows.itemTextsSpec) = true := by kernel_rfl
set_option maxRecDepth 100000 in
theorem mainT : Tryz.pinned.checked.prog.mainIs = some (Rows.itemTextsCard.stood.harness.1, Rows.itemTextsCard.stood.harness.2.toList) := by kernel_rfl

end ItemTextsFrame
end Go.Proofs.YtelpdjhkedhppaaGreatDoor
