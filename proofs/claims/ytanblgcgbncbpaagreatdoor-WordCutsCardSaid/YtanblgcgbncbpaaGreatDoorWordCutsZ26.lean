/- Texts of the proof of WordCuts, put together: ClnC. -/
import Derived.Test.YtanblgcgbncbpaaGreatDoorWordCutsZ8
import Derived.Test.YtanblgcgbncbpaaGreatDoorWordCutsZ10
import Derived.Shelf.Slices.Clone
import Derived.Deep.AppendLies
/- slices.Clone of strings. -/
namespace Go.Proofs.YtanblgcgbncbpaaGreatDoor
set_option linter.unusedVariables false
set_option linter.unusedSimpArgs false
open Go.RowKit

end Go.Proofs.YtanblgcgbncbpaaGreatDoor
