/- Texts of the proof of DeskHands, put together: DecE. -/
import Derived.Test.YtgfgggeeoeppjaaGreatDoorDeskHandsZ11
import Derived.Test.YtgfgggeeoeppjaaGreatDoorDeskHandsZ17
import Derived.Test.YtgfgggeeoeppjaaGreatDoorDeskHandsZ26
import Derived.Test.YtgfgggeeoeppjaaGreatDoorDeskHandsZ31
set_option linter.unusedVariables false
set_option linter.unusedSimpArgs false
/- Decisions of their own: values and copied of the program. -/
namespace Go.Proofs.YtgfgggeeoeppjaaGreatDoor
open Go.RowKit
theorem likes.snoc {xs ys : List ChoR} {x y : ChoR} (h : likes xs ys) (h1 : x.field = y.field) (h2 : x.ch = y.ch) : likes (xs ++ [x]) (ys ++ [y]) := by
 unfold likes at h ⊢;rw [List.map_append, List.map_append, h, List.map_cons, List.map_cons, h1, h2]
theorem likes.tr {xs ys zs : List ChoR} (h : likes xs ys) (k : likes ys zs) : likes xs zs := Eq.trans h k
theorem ChoS.mod {w w' : World} {S : Nat → Prop} {cs : List ChoR} (h : ChoS w cs) (hm : Mod S w w') (hs : ∀ g arr fr, w.heap[g]? = some (.cells arr 9 fr) → ¬ S g) : ChoS w' cs := fun x hx => (h x hx).mod hm hs
theorem ChoS.snoc {w : World} {cs : List ChoR} {x : ChoR} (h : ChoS w cs) (hx : Sl w 9 1 (.slice x.A x.ch.length x.c) (strsV x.ch)) : ChoS w (cs ++ [x]) := fun y hy => by
 rcases List.mem_append.1 hy with hy | hy
 ·exact h y hy
 ·rw [List.mem_singleton.1 hy]; exact hx
def SlK (w : World) (v : Value) (xs : List Str) : Prop := Sl w 9 1 v (strsV xs)
theorem SlK.pure {w w' : World} {v : Value} {xs : List Str} (h : SlK w v xs) (hm : Pure w w') : SlK w' v xs := Sl.pure h hm
def DecR.key (d : DecR) : Int × Int × Str × Str × Bool × List (Str × List Str) := (d.no, d.at_, d.rev, d.item, d.sec, d.vals.map fun x => (x.field, x.ch))
def likesD (xs ys : List DecR) : Prop := xs.map DecR.key = ys.map DecR.key
theorem likesD.len {xs ys : List DecR} (h : likesD xs ys) : xs.length = ys.length := by
 have := congrArg List.length h
 simpa using this
theorem likesD.snoc {xs ys : List DecR} {x y : DecR} (h : likesD xs ys) (h1 : x.key = y.key) : likesD (xs ++ [x]) (ys ++ [y]) := by
 unfold likesD at h ⊢;rw [List.map_append, List.map_append, h, List.map_cons, List.map_cons, h1]
theorem likesD.refl (xs : List DecR) : likesD xs xs := rfl
end Go.Proofs.YtgfgggeeoeppjaaGreatDoor
