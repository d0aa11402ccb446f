/- CodingLatest: a part of its proof. -/
import Derived.Test.YtkkndblcejmmjaaGreatDoorRows
import Derived.ProofKit
namespace Go.Proofs.YtkkndblcejmmjaaGreatDoor
set_option linter.unusedVariables false
set_option linter.unusedSimpArgs false
namespace CodingLatestFrame

set_option maxRecDepth 100000 in
theorem fact3 : (Rows.codingLatestRow.recurses == Tryz.pinned.checked.prog.recurses 6) = true := by kernel_rfl

end CodingLatestFrame
end Go.Proofs.YtkkndblcejmmjaaGreatDoor
