/- Texts of the proof of ItemTexts, put together: RdLP. -/
import Derived.Test.YtelpdjhkedhppaaGreatDoorItemTextsZ19
import Derived.Test.YtelpdjhkedhppaaGreatDoorItemTextsZ23
set_option linter.unusedVariables false
set_option linter.unusedSimpArgs false
/- The texts of layouts in plain words: what a line says, what all say. -/
namespace Go.Proofs.YtelpdjhkedhppaaGreatDoor
open Go.RowKit
abbrev AskQ := Str × List Str × Bool × Int
def AskR.q (x : AskR) : AskQ := (x.field, x.ch, x.many, x.spread)
end Go.Proofs.YtelpdjhkedhppaaGreatDoor
