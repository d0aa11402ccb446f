/- WordCuts: a part of its proof. -/
import Derived.Test.YtanblgcgbncbpaaGreatDoorCards
import Derived.ProofKit
namespace Go.Proofs.YtanblgcgbncbpaaGreatDoor
set_option linter.unusedVariables false
set_option linter.unusedSimpArgs false
namespace WordCutsFrame

set_option maxRecDepth 100000 in
theorem goes : false = Rows.wordCutsRow.goesBy Tryz.pinned.checked.prog := by kernel_rfl

end WordCutsFrame
end Go.Proofs.YtanblgcgbncbpaaGreatDoor
