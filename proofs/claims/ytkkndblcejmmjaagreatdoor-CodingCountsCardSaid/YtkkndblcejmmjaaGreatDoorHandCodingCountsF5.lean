/- CodingCounts: a part of its proof. -/
import Derived.Test.YtkkndblcejmmjaaGreatDoorCards
import Derived.ProofKit
namespace Go.Proofs.YtkkndblcejmmjaaGreatDoor
set_option linter.unusedVariables false
set_option linter.unusedSimpArgs false
namespace CodingCountsFrame

set_option maxRecDepth 100000 in
theorem goes : false = Rows.codingCountsRow.goesBy Tryz.pinned.checked.prog := by kernel_rfl

end CodingCountsFrame
end Go.Proofs.YtkkndblcejmmjaaGreatDoor
