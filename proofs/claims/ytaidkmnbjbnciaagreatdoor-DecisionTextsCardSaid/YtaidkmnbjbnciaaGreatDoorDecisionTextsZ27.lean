/- Texts of the proof of DecisionTexts, put together: RdLP. -/
import Derived.Test.YtaidkmnbjbnciaaGreatDoorDecisionTextsZ18
import Derived.Test.YtaidkmnbjbnciaaGreatDoorDecisionTextsZ22
/- The texts of layouts in plain words: what a line says, what all say. -/
namespace Go.Proofs.YtaidkmnbjbnciaaGreatDoor
set_option linter.unusedVariables false
set_option linter.unusedSimpArgs false
open Go.RowKit

/-- A field without its slice's value. -/
abbrev AskQ := Str × List Str × Bool × Int
def AskR.q (x : AskR) : AskQ := (x.field, x.ch, x.many, x.spread)
def wordsL (s : Str) : List Str := Lib.split s [32]
def wNone : Str := [110, 111, 110, 101]
def wSame : Str := [115, 97, 109, 101]
def wFamily : Str := [102, 97, 109, 105, 108, 121]
/-- What has been read. -/
structure RdS where
 asks : List AskQ
 rules : List RulR
end Go.Proofs.YtaidkmnbjbnciaaGreatDoor
