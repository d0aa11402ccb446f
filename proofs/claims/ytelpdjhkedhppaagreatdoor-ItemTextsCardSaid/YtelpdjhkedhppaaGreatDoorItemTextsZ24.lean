/- Texts of the proof of ItemTexts, put together: ClnC. -/
import Derived.Test.YtelpdjhkedhppaaGreatDoorItemTextsZ9
import Derived.Test.YtelpdjhkedhppaaGreatDoorItemTextsZ11
import Derived.Shelf.Slices.Clone
import Derived.Deep.AppendLies
set_option linter.unusedVariables false
set_option linter.unusedSimpArgs false
/- slices.Clone of strings. -/
namespace Go.Proofs.YtelpdjhkedhppaaGreatDoor
open Go.RowKit
end Go.Proofs.YtelpdjhkedhppaaGreatDoor
