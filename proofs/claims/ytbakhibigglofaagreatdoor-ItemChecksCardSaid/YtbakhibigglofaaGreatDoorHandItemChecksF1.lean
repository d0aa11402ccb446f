/- ItemChecks: a part of its proof. -/
import Derived.Test.YtbakhibigglofaaGreatDoorRows
import Derived.ProofKit
namespace Go.Proofs.YtbakhibigglofaaGreatDoor
set_option linter.unusedVariables false
set_option linter.unusedSimpArgs false
namespace ItemChecksFrame

set_option maxRecDepth 100000 in
theorem fact1 : (Rows.itemChecksRow.inPlace == Tryz.pinned.checked.prog.inPlace 3) = true := by kernel_rfl

end ItemChecksFrame
end Go.Proofs.YtbakhibigglofaaGreatDoor
