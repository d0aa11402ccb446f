/- Texts of the proof of DeskHands, put together: RdLP. -/
import Derived.Test.YtgfgggeeoeppjaaGreatDoorDeskHandsZ14
import Derived.Test.YtgfgggeeoeppjaaGreatDoorDeskHandsZ18
set_option linter.unusedVariables false
set_option linter.unusedSimpArgs false
/- The texts of layouts in plain words: what a line says, what all say. -/
namespace Go.Proofs.YtgfgggeeoeppjaaGreatDoor
open Go.RowKit
abbrev AskQ := Str × List Str × Bool × Int
def AskR.q (x : AskR) : AskQ := (x.field, x.ch, x.many, x.spread)
def wNone : Str := [110, 111, 110, 101]
def wSame : Str := [115, 97, 109, 101]
def wFamily : Str := [102, 97, 109, 105, 108, 121]
end Go.Proofs.YtgfgggeeoeppjaaGreatDoor
