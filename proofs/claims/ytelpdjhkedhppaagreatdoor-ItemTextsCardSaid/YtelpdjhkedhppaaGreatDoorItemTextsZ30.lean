/- Texts of the proof of ItemTexts, put together: LayA, LayB, LayF. -/
import Derived.Test.YtelpdjhkedhppaaGreatDoorItemTextsZ12
import Derived.Test.YtelpdjhkedhppaaGreatDoorItemTextsZ19
import Derived.Test.YtelpdjhkedhppaaGreatDoorItemTextsZ26
import Derived.Deep.DeepCutAuto
import Derived.Deep.CutBlock
set_option linter.unusedVariables false
set_option linter.unusedSimpArgs false
/- Fields of a layout: where they are, whether they have a choice (program and reference). -/
namespace Go.Proofs.YtelpdjhkedhppaaGreatDoor
open Go.RowKit
end Go.Proofs.YtelpdjhkedhppaaGreatDoor
/- Where a field is, whether it has a choice: program and reference. -/
namespace Go.Proofs.YtelpdjhkedhppaaGreatDoor
open Go.RowKit
end Go.Proofs.YtelpdjhkedhppaaGreatDoor
/- What was chosen for a field: program and reference. -/
namespace Go.Proofs.YtelpdjhkedhppaaGreatDoor
open Go.RowKit
end Go.Proofs.YtelpdjhkedhppaaGreatDoor
