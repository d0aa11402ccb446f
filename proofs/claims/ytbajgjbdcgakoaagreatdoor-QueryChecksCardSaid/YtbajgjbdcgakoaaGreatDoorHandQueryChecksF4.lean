/- QueryChecks: a part of its proof. -/
import Derived.Test.YtbajgjbdcgakoaaGreatDoorRows
import Derived.ProofKit
namespace Go.Proofs.YtbajgjbdcgakoaaGreatDoor
set_option linter.unusedVariables false
set_option linter.unusedSimpArgs false
namespace QueryChecksFrame

set_option maxRecDepth 100000 in
theorem fact4 : (Rows.queryChecksRow.named == Tryz.pinned.checked.prog.varsNamed 3) = true := by kernel_rfl

end QueryChecksFrame
end Go.Proofs.YtbajgjbdcgakoaaGreatDoor
