/- FilterKeeps: a part of its proof. -/
import Derived.Test.YtofkkenmkflmiaaGreatDoorRows
import Derived.ProofKit
namespace Go.Proofs.YtofkkenmkflmiaaGreatDoor
set_option linter.unusedVariables false
set_option linter.unusedSimpArgs false
namespace FilterKeepsFrame

set_option maxRecDepth 100000 in
theorem fact3 : (Rows.filterKeepsRow.recurses == Tryz.pinned.checked.prog.recurses 3) = true := by kernel_rfl

end FilterKeepsFrame
end Go.Proofs.YtofkkenmkflmiaaGreatDoor
