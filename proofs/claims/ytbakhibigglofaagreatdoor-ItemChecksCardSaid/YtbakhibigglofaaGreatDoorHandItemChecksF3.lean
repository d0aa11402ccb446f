/- ItemChecks: a part of its proof. -/
import Derived.Test.YtbakhibigglofaaGreatDoorRows
import Derived.ProofKit
namespace Go.Proofs.YtbakhibigglofaaGreatDoor
set_option linter.unusedVariables false
set_option linter.unusedSimpArgs false
namespace ItemChecksFrame

set_option maxRecDepth 100000 in
theorem fact3 : (Rows.itemChecksRow.recurses == Tryz.pinned.checked.prog.recurses 3) = true := by kernel_rfl

end ItemChecksFrame
end Go.Proofs.YtbakhibigglofaaGreatDoor
