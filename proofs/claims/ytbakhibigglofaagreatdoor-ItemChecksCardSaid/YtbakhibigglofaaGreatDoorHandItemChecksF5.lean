/- ItemChecks: a part of its proof. -/
import Derived.Test.YtbakhibigglofaaGreatDoorCards
import Derived.ProofKit
namespace Go.Proofs.YtbakhibigglofaaGreatDoor
set_option linter.unusedVariables false
set_option linter.unusedSimpArgs false
namespace ItemChecksFrame

set_option maxRecDepth 100000 in
theorem goes : false = Rows.itemChecksRow.goesBy Tryz.pinned.checked.prog := by kernel_rfl

end ItemChecksFrame
end Go.Proofs.YtbakhibigglofaaGreatDoor
