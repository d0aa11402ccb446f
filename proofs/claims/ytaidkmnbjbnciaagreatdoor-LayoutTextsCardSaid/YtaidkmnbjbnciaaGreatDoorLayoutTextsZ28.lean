/- Texts of the proof of LayoutTexts, put together: RdLP. -/
import Derived.Test.YtaidkmnbjbnciaaGreatDoorLayoutTextsZ20
import Derived.Test.YtaidkmnbjbnciaaGreatDoorLayoutTextsZ23
/- The texts of layouts in plain words: what a line says, what all say. -/
namespace Go.Proofs.YtaidkmnbjbnciaaGreatDoor
set_option linter.unusedVariables false
set_option linter.unusedSimpArgs false
open Go.RowKit

/-- A field without its slice's value. -/
abbrev AskQ := Str × List Str × Bool × Int
def AskR.q (x : AskR) : AskQ := (x.field, x.ch, x.many, x.spread)
def wordsL (s : Str) : List Str := Lib.split s [32]
def wAsk : Str := [97, 115, 107]
def wRule : Str := [114, 117, 108, 101]
def wOne : Str := [111, 110, 101]
def wMany : Str := [109, 97, 110, 121]
def wNeeds : Str := [110, 101, 101, 100, 115]
def wBars : Str := [98, 97, 114, 115]
def wNone : Str := [110, 111, 110, 101]
def wSame : Str := [115, 97, 109, 101]
def wFamily : Str := [102, 97, 109, 105, 108, 121]
def sprdIx (s : Str) : Int := if s = wNone then 0 else if s = wSame then 1 else if s = wFamily then 2 else -1
def askRd (w : List Str) : Option AskQ :=
 if 4 ≤ w.length ∧ w.getD 0 [] = wAsk ∧ (w.getD 2 [] = wOne ∨ w.getD 2 [] = wMany) ∧ 0 ≤ sprdIx (w.getD 3 []) then some (w.getD 1 [], w.drop 4, decide (w.getD 2 [] = wMany), sprdIx (w.getD 3 [])) else none
def rulRd (w : List Str) : Option RulR :=
 if (w.length = 5 ∨ w.length = 6) ∧ w.getD 0 [] = wRule ∧ (w.getD 1 [] = wNeeds ∨ w.getD 1 [] = wBars) then some ⟨if w.getD 1 [] = wBars then 2 else 1, w.getD 2 [], w.getD 3 [], w.getD 4 [], w.getD 5 []⟩ else none
/-- What has been read. -/
structure RdS where
 asks : List AskQ
 rules : List RulR
/-- One line more. -/
def tkL (S : RdS) (w : List Str) : Option RdS :=
 match askRd w with
 | some a => if S.rules = [] then some ⟨S.asks ++ [a], S.rules⟩ else none
 | none => match rulRd w with
  | some r => some ⟨S.asks, S.rules ++ [r]⟩
  | none => none
def lnL (S : RdS) (s : Str) : Option RdS := if [] ∈ wordsL s then none else tkL S (wordsL s)
end Go.Proofs.YtaidkmnbjbnciaaGreatDoor
