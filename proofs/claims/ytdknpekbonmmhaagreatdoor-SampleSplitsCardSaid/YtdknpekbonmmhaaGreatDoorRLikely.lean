/- The reference's likely. -/
import Derived.Test.YtdknpekbonmmhaaGreatDoorRow
import Derived.Test.YtdknpekbonmmhaaGreatDoorCheck
namespace Go.Proofs.YtdknpekbonmmhaaGreatDoor
set_option linter.unusedVariables false
set_option linter.unusedSimpArgs false
open Go.RowKit
attribute [local go_sem ↓] Go.wp_at_zero Go.wp_at_succ

set_option maxHeartbeats 400000 in
theorem rin_calls (n a b : Int) (w : World) :
    Calls Tryz.prog 97 #[.int .i64 n, .int .i64 a, .int .i64 b] w fun e w' => e = .returned (.bool (inB n a b)) ∧ w = w' := by
  unfold inB
  by_cases h1 : a ≤ n
  · by_cases h2 : n ≤ b
    all_goals
      go_enter Tryz.func97, Tryz.ntmps97
      go_wp2
      go_ret
      exact ⟨by simp [h1, h2], rfl⟩
  · go_enter Tryz.func97, Tryz.ntmps97
    go_wp2
    go_ret
    exact ⟨by simp; omega, rfl⟩

def RLRel (X : World) (oB : Nat) (f : Nat → Nat) (s lo up gk : Nat) (so al i : Value) (wr : World) : Prop :=
  ∃ k : Nat, s + 1 - k = gk ∧ k ≤ s + 1 ∧ i = .int .i64 (k : Int) ∧ IsBig wr so (rsum f lo up k) (1 + 3 * s + k) ∧ IsBig wr al (rsum f 0 s k) (1 + 3 * s + k) ∧ Pure X wr

theorem cmp_ge (x y : Nat) : decide (y ≤ x) = decide (0 ≤ cmpI x y) := by
  apply decide_eq_decide.2
  unfold cmpI
  split
  · omega
  · split <;> omega

end Go.Proofs.YtdknpekbonmmhaaGreatDoor
