/- LayoutTexts: a part of its proof. -/
import Derived.Test.YtaidkmnbjbnciaaGreatDoorCards
import Derived.ProofKit
namespace Go.Proofs.YtaidkmnbjbnciaaGreatDoor
set_option linter.unusedVariables false
set_option linter.unusedSimpArgs false
namespace LayoutTextsFrame

set_option maxRecDepth 100000 in
theorem wfT : Rows.layoutTextsRow.wfByText (OpenSpec.ofChange Rows.layoutTextsSpec) = true := by kernel_rfl
set_option maxRecDepth 100000 in
theorem mainT : Tryz.pinned.checked.prog.mainIs = some (Rows.layoutTextsCard.stood.harness.1, Rows.layoutTextsCard.stood.harness.2.toList) := by kernel_rfl

end LayoutTextsFrame
end Go.Proofs.YtaidkmnbjbnciaaGreatDoor
