/- WordCuts: a part of its proof. -/
import Derived.Test.YtanblgcgbncbpaaGreatDoorRows
import Derived.ProofKit
namespace Go.Proofs.YtanblgcgbncbpaaGreatDoor
set_option linter.unusedVariables false
set_option linter.unusedSimpArgs false
namespace WordCutsFrame

set_option maxRecDepth 100000 in
theorem fact3 : (Rows.wordCutsRow.recurses == Tryz.pinned.checked.prog.recurses 3) = true := by kernel_rfl

end WordCutsFrame
end Go.Proofs.YtanblgcgbncbpaaGreatDoor
