/- CodingCounts: a part of its proof. -/
import Derived.Test.YtkkndblcejmmjaaGreatDoorRows
import Derived.ProofKit
namespace Go.Proofs.YtkkndblcejmmjaaGreatDoor
set_option linter.unusedVariables false
set_option linter.unusedSimpArgs false
namespace CodingCountsFrame

set_option maxRecDepth 100000 in
theorem fact4 : (Rows.codingCountsRow.named == Tryz.pinned.checked.prog.varsNamed 4) = true := by kernel_rfl

end CodingCountsFrame
end Go.Proofs.YtkkndblcejmmjaaGreatDoor
