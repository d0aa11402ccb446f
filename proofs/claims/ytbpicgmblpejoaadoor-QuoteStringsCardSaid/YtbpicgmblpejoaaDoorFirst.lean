/- Package sample: first, for any closure with two captured variables whose answers rise. -/
import Derived.Test.YtbpicgmblpejoaaDoorNatD
namespace Go.Proofs.YtbpicgmblpejoaaDoor
set_option linter.unusedVariables false
set_option linter.unusedSimpArgs false
open Go.RowKit

def BoolPost (w : World) (b : Bool) (e : Ending) (w' : World) : Prop := e = .returned (.bool b) ∧ Pure w w'
theorem BoolPost.of {w w' : World} {n m : Bool} (h : n = m) (hm : Pure w w') : BoolPost w n (.returned (.bool m)) w' := ⟨by rw [h], hm⟩

/-- x is the least number from lo to hi for which P holds (hi, if for none below). -/
def Least (lo hi : Int) (P : Int → Bool) (x : Int) : Prop := lo ≤ x ∧ x ≤ hi ∧ (∀ y, lo ≤ y → y < x → P y = false) ∧ (x < hi → P x = true)
theorem Least.unique {lo hi : Int} {P : Int → Bool} {x y : Int} (hx : Least lo hi P x) (hy : Least lo hi P y) : x = y := by
  obtain ⟨a1, a2, a3, a4⟩ := hx
  obtain ⟨b1, b2, b3, b4⟩ := hy
  rcases Int.lt_trichotomy x y with h | h | h
  · have := b3 x a1 h; rw [a4 (by omega)] at this; cases this
  · exact h
  · have := a3 y b1 h; rw [b4 (by omega)] at this; cases this

def FirstPost (w : World) (lo hi : Int) (P : Int → Bool) (e : Ending) (w' : World) : Prop := ∃ x, Least lo hi P x ∧ e = .returned (.int .i64 x) ∧ Pure w w'
def FirstRel (w : World) (lo hi : Int) (P : Int → Bool) (gk : Nat) (l h : Value) (wr : World) : Prop :=
  ∃ a b : Int, (b - a).toNat = gk ∧ lo ≤ a ∧ a ≤ b ∧ b ≤ hi ∧ l = .int .i64 a ∧ h = .int .i64 b ∧ (∀ y, lo ≤ y → y < a → P y = false) ∧ (b < hi → P b = true) ∧ Pure w wr

end Go.Proofs.YtbpicgmblpejoaaDoor
