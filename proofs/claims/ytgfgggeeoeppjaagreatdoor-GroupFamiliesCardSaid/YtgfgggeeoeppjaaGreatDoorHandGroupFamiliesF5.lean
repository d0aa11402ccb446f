/- GroupFamilies: a part of its proof. -/
import Derived.Test.YtgfgggeeoeppjaaGreatDoorCards
import Derived.ProofKit
namespace Go.Proofs.YtgfgggeeoeppjaaGreatDoor
set_option linter.unusedVariables false
set_option linter.unusedSimpArgs false
namespace GroupFamiliesFrame

set_option maxRecDepth 100000 in
theorem goes : false = Rows.groupFamiliesRow.goesBy Tryz.pinned.checked.prog := by kernel_rfl

end GroupFamiliesFrame
end Go.Proofs.YtgfgggeeoeppjaaGreatDoor
