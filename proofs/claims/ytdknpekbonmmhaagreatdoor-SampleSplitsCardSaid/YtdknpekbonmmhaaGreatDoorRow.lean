/- The reference's row: rows of draws. -/
import Derived.Test.YtdknpekbonmmhaaGreatDoorBigC
import Derived.Test.YtdknpekbonmmhaaGreatDoorHyper
import Derived.Deep.RegionLaw
import Derived.Deep.DrawnRows
namespace Go.Proofs.YtdknpekbonmmhaaGreatDoor
set_option linter.unusedVariables false
set_option linter.unusedSimpArgs false
open Go.RowKit
attribute [local go_sem ↓] Go.wp_at_zero Go.wp_at_succ

/-- What stands in the next row while place i of the last one comes up: A before, B after its first half. -/
def nxA (d q k i j : Nat) : Nat := if j < i then rowv d q (k + 1) j else if j = i then (if i = 0 then 0 else rowv d q k (i - 1) * (d - (i - 1))) else 0
def nxB (d q k i j : Nat) : Nat := if j = i + 1 then rowv d q k i * (d - i) else nxA d q k i j
theorem nx_done (d q k i j : Nat) (hi : i ≤ k) : (if j = i then nxB d q k i i + rowv d q k i * (q - (k - i)) else nxB d q k i j) = nxA d q k (i + 1) j := by
  by_cases e : j = i
  · subst e
    cases j with
    | zero => simp [nxB, nxA, rowv_first]
    | succ j =>
      have := rowv_next d q k j hi
      simp [nxB, nxA]
      omega
  · rw [if_neg e]
    unfold nxB nxA
    by_cases e2 : j = i + 1
    · subst e2
      rw [if_pos rfl, if_neg (by omega), if_pos rfl, if_neg (by omega)]
      simp
    · rw [if_neg e2]
      by_cases e3 : j < i
      · rw [if_pos e3, if_pos (by omega)]
      · rw [if_neg e3, if_neg e, if_neg (by omega), if_neg e2]
theorem nxB_skip (d q k i j : Nat) (h : d ≤ i) : nxB d q k i j = nxA d q k i j := by
  unfold nxB
  split
  · rename_i e
    subst e
    unfold nxA
    rw [if_neg (by omega), if_neg (by omega), show d - i = 0 by omega, Nat.mul_zero]
  · rfl
theorem nx_end (d q k j : Nat) (h : j < k + 2) : nxA d q k (k + 1) j = rowv d q (k + 1) j := by
  unfold nxA
  by_cases e : j < k + 1
  · rw [if_pos e]
  · rw [if_neg e, if_pos (by omega), if_neg (by omega), show j = k + 1 by omega, rowv_last]
    simp
def lenA (L i j : Nat) : Nat := if j < i then L + 3 else if j = i then L + 2 else 0
def lenB (L i j : Nat) : Nat := if j < i then L + 3 else if j ≤ i + 1 then L + 2 else 0
theorem lenAB1 (L i j : Nat) : (if j = i + 1 then L + 1 + 1 else lenA L i j) ≤ lenB L i j := by unfold lenA lenB; (repeat' split) <;> omega
theorem lenAB0 (L i j : Nat) : lenA L i j ≤ lenB L i j := by unfold lenA lenB; (repeat' split) <;> omega
theorem lenBA1 (L i j : Nat) : (if j = i then L + 2 + 1 else lenB L i j) ≤ lenA L (i + 1) j := by unfold lenA lenB; (repeat' split) <;> omega
theorem lenBA0 (L i j : Nat) : lenB L i j ≤ lenA L (i + 1) j := by unfold lenA lenB; (repeat' split) <;> omega

def nils (n : Nat) : Array Value := (List.replicate n (Value.slice none 0 0)).toArray
end Go.Proofs.YtdknpekbonmmhaaGreatDoor
