/- The reference's numbers: cmp. -/
import Derived.Test.YtdknpekbonmmhaaGreatDoorBigP
namespace Go.Proofs.YtdknpekbonmmhaaGreatDoor
set_option linter.unusedVariables false
set_option linter.unusedSimpArgs false
open Go.RowKit

def signI (n : Int) : Int := if n < 0 then -1 else if 0 < n then 1 else 0
theorem ret_eq {a b : Int} (h : a = b) : Ending.returned (.int .i64 a) = .returned (.int .i64 b) := by rw [h]
set_option maxHeartbeats 400000 in
theorem sign_calls (n : Int) (w : World) : Calls Tryz.prog 160 #[.int .i64 n] w fun r w' => r = .returned (.int .i64 (signI n)) ∧ w = w' := by
  by_cases h1 : n < 0
  · go_enter Tryz.func160, Tryz.ntmps160
    go_wp2
    go_ret
    exact ⟨ret_eq (by unfold signI; rw [if_pos (by omega)]), rfl⟩
  · by_cases h2 : 0 < n
    · go_enter Tryz.func160, Tryz.ntmps160
      go_wp2
      go_ret
      exact ⟨ret_eq (by unfold signI; rw [if_neg (by omega), if_pos (by omega)]), rfl⟩
    · go_enter Tryz.func160, Tryz.ntmps160
      go_wp2
      go_ret
      exact ⟨ret_eq (by unfold signI; rw [if_neg (by omega), if_neg (by omega)]), rfl⟩

theorem sign_cmp {xs ys : List Nat} {k d1 d2 : Nat} (hx : ∀ d ∈ xs, d < 1000000000) (hy : ∀ d ∈ ys, d < 1000000000) (h : ∀ j, k + 1 ≤ j → xs.getD j 0 = ys.getD j 0) (h1 : xs.getD k 0 = d1) (h2 : ys.getD k 0 = d2) (hne : d1 ≠ d2) :
    cmpI (val B9 xs) (val B9 ys) = signI ((d1 : Int) - (d2 : Int)) := by
  rcases Nat.lt_or_gt_of_ne hne with hlt | hgt
  · rw [cmpI_lt (val_lt_of_digit' B9 (by rw [B9_eq]; omega) xs ys hx k h (by rw [h1, h2]; exact hlt))]
    unfold signI
    rw [if_pos (by omega)]
  · rw [cmpI_gt (val_lt_of_digit' B9 (by rw [B9_eq]; omega) ys xs hy k (fun j hj => (h j hj).symm) (by rw [h1, h2]; exact hgt))]
    unfold signI
    rw [if_neg (by omega), if_pos (by omega)]

end Go.Proofs.YtdknpekbonmmhaaGreatDoor
