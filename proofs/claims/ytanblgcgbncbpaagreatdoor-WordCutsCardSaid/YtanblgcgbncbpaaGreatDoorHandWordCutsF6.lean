/- WordCuts: a part of its proof. -/
import Derived.Test.YtanblgcgbncbpaaGreatDoorCards
import Derived.ProofKit
namespace Go.Proofs.YtanblgcgbncbpaaGreatDoor
set_option linter.unusedVariables false
set_option linter.unusedSimpArgs false
namespace WordCutsFrame

set_option maxRecDepth 100000 in
theorem wfT : Rows.wordCutsRow.wfByText (OpenSpec.ofChange Rows.wordCutsSpec) = true := by kernel_rfl
set_option maxRecDepth 100000 in
theorem mainT : Tryz.pinned.checked.prog.mainIs = some (Rows.wordCutsCard.stood.harness.1, Rows.wordCutsCard.stood.harness.2.toList) := by kernel_rfl

end WordCutsFrame
end Go.Proofs.YtanblgcgbncbpaaGreatDoor
