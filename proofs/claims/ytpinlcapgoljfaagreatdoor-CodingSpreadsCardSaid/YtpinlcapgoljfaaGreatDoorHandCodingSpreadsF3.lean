/- CodingSpreads: a part of its proof. -/
import Derived.Test.YtpinlcapgoljfaaGreatDoorRows
import Derived.ProofKit
namespace Go.Proofs.YtpinlcapgoljfaaGreatDoor
set_option linter.unusedVariables false
set_option linter.unusedSimpArgs false
namespace CodingSpreadsFrame

set_option maxRecDepth 100000 in
theorem fact3 : (Rows.codingSpreadsRow.recurses == Tryz.pinned.checked.prog.recurses 4) = true := by kernel_rfl

end CodingSpreadsFrame
end Go.Proofs.YtpinlcapgoljfaaGreatDoor
