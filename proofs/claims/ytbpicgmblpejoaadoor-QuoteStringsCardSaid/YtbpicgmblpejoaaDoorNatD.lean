/- Package sample's natural numbers: compare, newNatural. -/
import Derived.Test.YtbpicgmblpejoaaDoorNatC
namespace Go.Proofs.YtbpicgmblpejoaaDoor
set_option linter.unusedVariables false
set_option linter.unusedSimpArgs false
open Go.RowKit

def cmpI (x y : Nat) : Int := if x < y then -1 else if x = y then 0 else 1
theorem cmpI_lt {x y : Nat} (h : x < y) : cmpI x y = -1 := by simp [cmpI, h]
theorem cmpI_gt {x y : Nat} (h : y < x) : cmpI x y = 1 := by unfold cmpI; rw [if_neg (by omega), if_neg (by omega)]
theorem cmpI_eq {x y : Nat} (h : x = y) : cmpI x y = 0 := by unfold cmpI; rw [if_neg (by omega), if_pos h]

def IntPost (w : World) (n : Int) (e : Ending) (w' : World) : Prop := e = .returned (.int .i64 n) ∧ Pure w w'
theorem IntPost.of {w w' : World} {n m : Int} (h : n = m) (hm : Pure w w') : IntPost w n (.returned (.int .i64 m)) w' := ⟨by rw [h], hm⟩
def CmpRel (w : World) (xs ys : List Nat) (gk : Nat) (i : Value) (wr : World) : Prop :=
  ∃ m : Nat, m = gk ∧ m ≤ xs.length ∧ i = .int .i64 ((m : Int) - 1) ∧ (∀ j, m ≤ j → xs.getD j 0 = ys.getD j 0) ∧ Pure w wr

end Go.Proofs.YtbpicgmblpejoaaDoor
