/- CodingLatest: a part of its proof. -/
import Derived.Test.YtkkndblcejmmjaaGreatDoorRows
import Derived.ProofKit
namespace Go.Proofs.YtkkndblcejmmjaaGreatDoor
set_option linter.unusedVariables false
set_option linter.unusedSimpArgs false
namespace CodingLatestFrame

set_option maxRecDepth 100000 in
theorem fact2 : (Rows.codingLatestRow.unfollowed == Tryz.pinned.checked.prog.unfollowed 6) = true := by kernel_rfl

end CodingLatestFrame
end Go.Proofs.YtkkndblcejmmjaaGreatDoor
