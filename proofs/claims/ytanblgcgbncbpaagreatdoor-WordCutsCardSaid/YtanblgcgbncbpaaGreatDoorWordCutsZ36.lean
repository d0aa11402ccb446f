/- Texts of the proof of WordCuts, put together: LayG. -/
import Derived.Test.YtanblgcgbncbpaaGreatDoorWordCutsZ13
import Derived.Test.YtanblgcgbncbpaaGreatDoorWordCutsZ33
import Derived.Deep.AppendLies
/- The rules that values break: program and reference. -/
namespace Go.Proofs.YtanblgcgbncbpaaGreatDoor
set_option linter.unusedVariables false
set_option linter.unusedSimpArgs false
open Go.RowKit

end Go.Proofs.YtanblgcgbncbpaaGreatDoor
