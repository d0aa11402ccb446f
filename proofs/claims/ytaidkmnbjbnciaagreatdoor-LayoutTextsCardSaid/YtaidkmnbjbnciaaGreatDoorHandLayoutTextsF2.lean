/- LayoutTexts: a part of its proof. -/
import Derived.Test.YtaidkmnbjbnciaaGreatDoorRows
import Derived.ProofKit
namespace Go.Proofs.YtaidkmnbjbnciaaGreatDoor
set_option linter.unusedVariables false
set_option linter.unusedSimpArgs false
namespace LayoutTextsFrame

set_option maxRecDepth 100000 in
theorem fact2 : (Rows.layoutTextsRow.unfollowed == Tryz.pinned.checked.prog.unfollowed 3) = true := by kernel_rfl

end LayoutTextsFrame
end Go.Proofs.YtaidkmnbjbnciaaGreatDoor
