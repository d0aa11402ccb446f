/- GroupFamilies: a part of its proof. -/
import Derived.Test.YtgfgggeeoeppjaaGreatDoorRows
import Derived.ProofKit
namespace Go.Proofs.YtgfgggeeoeppjaaGreatDoor
set_option linter.unusedVariables false
set_option linter.unusedSimpArgs false
namespace GroupFamiliesFrame

set_option maxRecDepth 100000 in
theorem fact1 : (Rows.groupFamiliesRow.inPlace == Tryz.pinned.checked.prog.inPlace 4) = true := by kernel_rfl

end GroupFamiliesFrame
end Go.Proofs.YtgfgggeeoeppjaaGreatDoor
