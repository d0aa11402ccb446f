/- LayoutTexts: a part of its proof. -/
import Derived.Test.YtaidkmnbjbnciaaGreatDoorCards
import Derived.ProofKit
namespace Go.Proofs.YtaidkmnbjbnciaaGreatDoor
set_option linter.unusedVariables false
set_option linter.unusedSimpArgs false
namespace LayoutTextsFrame

set_option maxRecDepth 100000 in
theorem goes : false = Rows.layoutTextsRow.goesBy Tryz.pinned.checked.prog := by kernel_rfl

end LayoutTextsFrame
end Go.Proofs.YtaidkmnbjbnciaaGreatDoor
