/- Texts of the proof of QueryPrints, put together: RdLP. -/
import Derived.Test.YtnfflgicngeekaaGreatDoorQueryPrintsZ18
import Derived.Test.YtnfflgicngeekaaGreatDoorQueryPrintsZ24
/- The texts of layouts in plain words: what a line says, what all say. -/
namespace Go.Proofs.YtnfflgicngeekaaGreatDoor
set_option linter.unusedVariables false
set_option linter.unusedSimpArgs false
open Go.RowKit

/-- A field without its slice's value. -/
abbrev AskQ := Str × List Str × Bool × Int
def AskR.q (x : AskR) : AskQ := (x.field, x.ch, x.many, x.spread)
end Go.Proofs.YtnfflgicngeekaaGreatDoor
