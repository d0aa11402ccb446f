/- SampleLeasts: a part of its proof. -/
import Derived.Test.YtkchninlhemioaaGreatDoorRows
import Derived.ProofKit
namespace Go.Proofs.YtkchninlhemioaaGreatDoor
set_option linter.unusedVariables false
set_option linter.unusedSimpArgs false
namespace SampleLeastsFrame

set_option maxRecDepth 100000 in
theorem fact4 : (Rows.sampleLeastsRow.named == Tryz.pinned.checked.prog.varsNamed 3) = true := by kernel_rfl

end SampleLeastsFrame
end Go.Proofs.YtkchninlhemioaaGreatDoor
