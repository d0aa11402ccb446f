/- SampleStrata: a part of its proof. -/
import Derived.Test.YtkchninlhemioaaGreatDoorRows
import Derived.ProofKit
namespace Go.Proofs.YtkchninlhemioaaGreatDoor
set_option linter.unusedVariables false
set_option linter.unusedSimpArgs false
namespace SampleStrataFrame

set_option maxRecDepth 100000 in
theorem fact3 : (Rows.sampleStrataRow.recurses == Tryz.pinned.checked.prog.recurses 4) = true := by kernel_rfl

end SampleStrataFrame
end Go.Proofs.YtkchninlhemioaaGreatDoor
