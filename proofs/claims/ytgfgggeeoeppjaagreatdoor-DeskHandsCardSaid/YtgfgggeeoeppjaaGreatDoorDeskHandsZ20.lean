/- Texts of the proof of DeskHands, put together: LatP, CodP, CntQ. -/
import Derived.Test.YtgfgggeeoeppjaaGreatDoorDeskHandsZ12
import Derived.Test.YtgfgggeeoeppjaaGreatDoorDeskHandsZ13
import Derived.Test.YtgfgggeeoeppjaaGreatDoorDeskHandsZ14
import Derived.Test.YtgfgggeeoeppjaaGreatDoorDeskHandsZ16
set_option linter.unusedVariables false
set_option linter.unusedSimpArgs false
/- The latest decisions on items, in plain words. -/
namespace Go.Proofs.YtgfgggeeoeppjaaGreatDoor
open Go.RowKit
end Go.Proofs.YtgfgggeeoeppjaaGreatDoor
/- Codings in plain words. -/
namespace Go.Proofs.YtgfgggeeoeppjaaGreatDoor
open Go.RowKit
structure CodR where
 item : Str
 A : Option Addr
 c : Nat
 vals : List ChoR
def CodR.key (x : CodR) : Str × List (Str × List Str) := (x.item, x.vals.map fun y => (y.field, y.ch))
def likesC (xs ys : List CodR) : Prop := xs.map CodR.key = ys.map CodR.key
theorem likesC.refl (xs : List CodR) : likesC xs xs := rfl
theorem likesC.len {xs ys : List CodR} (h : likesC xs ys) : xs.length = ys.length := by
 have := congrArg List.length h
 simpa using this
theorem likesC.snoc {xs ys : List CodR} {x y : CodR} (h : likesC xs ys) (h1 : x.key = y.key) : likesC (xs ++ [x]) (ys ++ [y]) := by
 unfold likesC at h ⊢;rw [List.map_append, List.map_append, h, List.map_cons, List.map_cons, h1]
end Go.Proofs.YtgfgggeeoeppjaaGreatDoor
/- What is wrong with codings (plain). -/
namespace Go.Proofs.YtgfgggeeoeppjaaGreatDoor
open Go.RowKit
end Go.Proofs.YtgfgggeeoeppjaaGreatDoor
