/- Texts of the proof of CodingSpreads, put together: LatP, CodP, CntQ. -/
import Derived.Test.YtpinlcapgoljfaaGreatDoorCodingSpreadsZ12
import Derived.Test.YtpinlcapgoljfaaGreatDoorCodingSpreadsZ13
import Derived.Test.YtpinlcapgoljfaaGreatDoorCodingSpreadsZ14
import Derived.Test.YtpinlcapgoljfaaGreatDoorCodingSpreadsZ16
set_option linter.unusedVariables false
set_option linter.unusedSimpArgs false
/- The latest decisions on items, in plain words. -/
namespace Go.Proofs.YtpinlcapgoljfaaGreatDoor
open Go.RowKit

end Go.Proofs.YtpinlcapgoljfaaGreatDoor

/- Codings in plain words. -/
namespace Go.Proofs.YtpinlcapgoljfaaGreatDoor
open Go.RowKit

/-- A coding; A and c are the place and the room of its values' slice. -/
structure CodR where
 item : Str
 A : Option Addr
 c : Nat
 vals : List ChoR
def CodR.key (x : CodR) : Str × List (Str × List Str) := (x.item, x.vals.map fun y => (y.field, y.ch))
def likesC (xs ys : List CodR) : Prop := xs.map CodR.key = ys.map CodR.key
theorem likesC.refl (xs : List CodR) : likesC xs xs := rfl
theorem likesC.len {xs ys : List CodR} (h : likesC xs ys) : xs.length = ys.length := by
 have := congrArg List.length h
 simpa using this
theorem likesC.snoc {xs ys : List CodR} {x y : CodR} (h : likesC xs ys) (h1 : x.key = y.key) : likesC (xs ++ [x]) (ys ++ [y]) := by
 unfold likesC at h ⊢;rw [List.map_append, List.map_append, h, List.map_cons, List.map_cons, h1]
end Go.Proofs.YtpinlcapgoljfaaGreatDoor

/- What is wrong with codings (plain). -/
namespace Go.Proofs.YtpinlcapgoljfaaGreatDoor
open Go.RowKit

/-- What is wrong with codings that stand behind item p. -/
def ceE (L : LayR) : Str → List CodR → Int
 | _, [] => 0
 | p, x :: t => if keyB x.item = false then 5 else if leS x.item p = true then 7 else if valsE L x.vals ≠ 0 then valsE L x.vals else ceE L x.item t
def codsE (L : LayR) (xs : List CodR) : Int := if 2000 < xs.length then 2 else ceE L [] xs
theorem ceE_step {L : LayR} {xs : List CodR} {k : Nat} (h : k < xs.length) (p : Str) : ceE L p (xs.drop k) = if keyB xs[k].item = false then 5 else if leS xs[k].item p = true then 7 else if valsE L xs[k].vals ≠ 0 then valsE L xs[k].vals else ceE L xs[k].item (xs.drop (k + 1)) := by
 rw [List.drop_eq_getElem_cons h]
 rfl
def cdN : CodR := ⟨[], none, 0, []⟩
/-- The item before place k. -/
def prvC (xs : List CodR) (k : Nat) : Str := if k = 0 then [] else (xs.getD (k - 1) cdN).item
theorem prvC_s {xs : List CodR} {k : Nat} (h : k < xs.length) : prvC xs (k + 1) = xs[k].item := by
 unfold prvC;rw [if_neg (by omega)];simp [List.getD, h]
/-- Keys are not empty. -/
theorem leS_key0 {s : Str} (h : keyB s = true) : leS s [] = false := by
 cases s with
 | nil => exact absurd h (by decide)
 | cons a t => rfl
/-- What the first three looks at a coding say. -/
theorem first3 (a b c : Int) : firstErr [a, b, c] = if a ≠ 0 then a else if b ≠ 0 then b else c := by
 by_cases h1 : a = 0 <;> by_cases h2 : b = 0 <;> by_cases h3 : c = 0 <;> simp [firstErr, h1, h2, h3]
theorem ce_first (kb lb : Bool) (v r : Int) : (if kb = false then (5 : Int) else if lb = true then 7 else if v ≠ 0 then v else r) = if firstErr [if (!kb) = true then (5 : Int) else 0, if lb = true then (7 : Int) else 0, v] ≠ 0 then firstErr [if (!kb) = true then (5 : Int) else 0, if lb = true then (7 : Int) else 0, v] else r := by
 rw [first3]
 cases kb <;> cases lb <;> simp
/-- Not too long. -/
def CodB (x : CodR) : Prop := StB x.item ∧ ValB x.vals

end Go.Proofs.YtpinlcapgoljfaaGreatDoor
