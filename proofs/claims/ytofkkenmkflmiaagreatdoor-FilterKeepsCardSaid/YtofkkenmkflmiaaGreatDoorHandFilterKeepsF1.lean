/- FilterKeeps: a part of its proof. -/
import Derived.Test.YtofkkenmkflmiaaGreatDoorRows
import Derived.ProofKit
namespace Go.Proofs.YtofkkenmkflmiaaGreatDoor
set_option linter.unusedVariables false
set_option linter.unusedSimpArgs false
namespace FilterKeepsFrame

set_option maxRecDepth 100000 in
theorem fact1 : (Rows.filterKeepsRow.inPlace == Tryz.pinned.checked.prog.inPlace 3) = true := by kernel_rfl

end FilterKeepsFrame
end Go.Proofs.YtofkkenmkflmiaaGreatDoor
