/- CodingSpreads: a part of its proof. -/
import Derived.Test.YtpinlcapgoljfaaGreatDoorCards
import Derived.ProofKit
namespace Go.Proofs.YtpinlcapgoljfaaGreatDoor
set_option linter.unusedVariables false
set_option linter.unusedSimpArgs false
namespace CodingSpreadsFrame

set_option maxRecDepth 100000 in
theorem goes : false = Rows.codingSpreadsRow.goesBy Tryz.pinned.checked.prog := by kernel_rfl

end CodingSpreadsFrame
end Go.Proofs.YtpinlcapgoljfaaGreatDoor
