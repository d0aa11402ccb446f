/- Texts of the proof of WordCuts, put together: RKey. -/
import Derived.Test.YtanblgcgbncbpaaGreatDoorWordCutsZ4
import Derived.Test.YtanblgcgbncbpaaGreatDoorWordCutsZ10
import Derived.Test.YtanblgcgbncbpaaGreatDoorWordCutsZ16
import Derived.Test.YtanblgcgbncbpaaGreatDoorWordCutsZ18
import Derived.Shelf.Strings.SlTrimAscii
/- Keys of the reference: only, Key; the laws' seedFault. -/
namespace Go.Proofs.YtanblgcgbncbpaaGreatDoor
set_option linter.unusedVariables false
set_option linter.unusedSimpArgs false
open Go.RowKit

end Go.Proofs.YtanblgcgbncbpaaGreatDoor
