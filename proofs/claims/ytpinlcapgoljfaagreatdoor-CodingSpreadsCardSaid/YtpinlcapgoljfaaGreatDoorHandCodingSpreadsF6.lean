/- CodingSpreads: a part of its proof. -/
import Derived.Test.YtpinlcapgoljfaaGreatDoorCards
import Derived.ProofKit
namespace Go.Proofs.YtpinlcapgoljfaaGreatDoor
set_option linter.unusedVariables false
set_option linter.unusedSimpArgs false
namespace CodingSpreadsFrame

set_option maxRecDepth 100000 in
theorem wfT : Rows.codingSpreadsRow.wfByText (OpenSpec.ofChange Rows.codingSpreadsSpec) = true := by kernel_rfl
set_option maxRecDepth 100000 in
theorem mainT : Tryz.pinned.checked.prog.mainIs = some (Rows.codingSpreadsCard.stood.harness.1, Rows.codingSpreadsCard.stood.harness.2.toList) := by kernel_rfl

end CodingSpreadsFrame
end Go.Proofs.YtpinlcapgoljfaaGreatDoor
