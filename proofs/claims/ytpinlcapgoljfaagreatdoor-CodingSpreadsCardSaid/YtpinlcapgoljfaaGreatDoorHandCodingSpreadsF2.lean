/- CodingSpreads: a part of its proof. -/
import Derived.Test.YtpinlcapgoljfaaGreatDoorRows
import Derived.ProofKit
namespace Go.Proofs.YtpinlcapgoljfaaGreatDoor
set_option linter.unusedVariables false
set_option linter.unusedSimpArgs false
namespace CodingSpreadsFrame

set_option maxRecDepth 100000 in
theorem fact2 : (Rows.codingSpreadsRow.unfollowed == Tryz.pinned.checked.prog.unfollowed 4) = true := by kernel_rfl

end CodingSpreadsFrame
end Go.Proofs.YtpinlcapgoljfaaGreatDoor
