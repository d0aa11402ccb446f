/- SampleStrata: a part of its proof. -/
import Derived.Test.YtkchninlhemioaaGreatDoorCards
import Derived.ProofKit
namespace Go.Proofs.YtkchninlhemioaaGreatDoor
set_option linter.unusedVariables false
set_option linter.unusedSimpArgs false
namespace SampleStrataFrame

set_option maxRecDepth 100000 in
theorem goes : false = Rows.sampleStrataRow.goesBy Tryz.pinned.checked.prog := by kernel_rfl

end SampleStrataFrame
end Go.Proofs.YtkchninlhemioaaGreatDoor
