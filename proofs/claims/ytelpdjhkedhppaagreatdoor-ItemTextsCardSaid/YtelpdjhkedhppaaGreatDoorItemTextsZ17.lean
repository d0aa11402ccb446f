/- Texts of the proof of ItemTexts, put together: SrtP. -/
import Derived.Test.YtelpdjhkedhppaaGreatDoorItemTextsZ11
import Derived.Sort.OwnSorted
import Derived.Lib.SlicesCompact
set_option linter.unusedVariables false
set_option linter.unusedSimpArgs false
/- Sorted lists of strings, without doubles: plain. -/
namespace Go.Proofs.YtelpdjhkedhppaaGreatDoor
open Go.RowKit Go.Sort
end Go.Proofs.YtelpdjhkedhppaaGreatDoor
