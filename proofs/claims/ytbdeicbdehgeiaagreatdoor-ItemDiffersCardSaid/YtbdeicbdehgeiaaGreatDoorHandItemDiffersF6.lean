/- ItemDiffers: a part of its proof. -/
import Derived.Test.YtbdeicbdehgeiaaGreatDoorCards
import Derived.ProofKit
namespace Go.Proofs.YtbdeicbdehgeiaaGreatDoor
set_option linter.unusedVariables false
set_option linter.unusedSimpArgs false
namespace ItemDiffersFrame

set_option maxRecDepth 100000 in
theorem wfT : Rows.itemDiffersRow.wfByText (OpenSpec.ofChange Rows.itemDiffersSpec) = true := by kernel_rfl
set_option maxRecDepth 100000 in
theorem mainT : Tryz.pinned.checked.prog.mainIs = some (Rows.itemDiffersCard.stood.harness.1, Rows.itemDiffersCard.stood.harness.2.toList) := by kernel_rfl

end ItemDiffersFrame
end Go.Proofs.YtbdeicbdehgeiaaGreatDoor
