/- DecisionTexts: a part of its proof. -/
import Derived.Test.YtaidkmnbjbnciaaGreatDoorRows
import Derived.ProofKit
namespace Go.Proofs.YtaidkmnbjbnciaaGreatDoor
set_option linter.unusedVariables false
set_option linter.unusedSimpArgs false
namespace DecisionTextsFrame

set_option maxRecDepth 100000 in
theorem fact4 : (Rows.decisionTextsRow.named == Tryz.pinned.checked.prog.varsNamed 4) = true := by kernel_rfl

end DecisionTextsFrame
end Go.Proofs.YtaidkmnbjbnciaaGreatDoor
