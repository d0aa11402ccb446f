/- Texts of the proof of QuerySearches, put together: RdLP. -/
import Derived.Test.YtnfflgicngeekaaGreatDoorQuerySearchesZ17
import Derived.Test.YtnfflgicngeekaaGreatDoorQuerySearchesZ23
set_option linter.unusedVariables false
set_option linter.unusedSimpArgs false
namespace Go.Proofs.YtnfflgicngeekaaGreatDoor
open Go.RowKit
abbrev AskQ:=Str × List Str × Bool × Int
def AskR.q (x:AskR):AskQ:=(x.field,x.ch,x.many,x.spread)
end Go.Proofs.YtnfflgicngeekaaGreatDoor
