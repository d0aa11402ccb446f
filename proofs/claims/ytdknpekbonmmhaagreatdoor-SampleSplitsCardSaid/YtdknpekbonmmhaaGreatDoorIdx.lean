/- slices.IndexFunc, slices.ContainsFunc over numbers, with a closure that captured nothing; sample.counts. -/
import Derived.Test.YtdknpekbonmmhaaGreatDoorCheck
namespace Go.Proofs.YtdknpekbonmmhaaGreatDoor
set_option linter.unusedVariables false
set_option linter.unusedSimpArgs false
open Go.RowKit

/-- The place of the first number with P, from k on; -1 if there is none. -/
def idxP (P : Int → Bool) : List Int → Int → Int
  | [], _ => -1
  | x :: xs, k => if P x then k else idxP P xs (k + 1)
theorem idxP_any (P : Int → Bool) : ∀ (xs : List Int) (k : Int), 0 ≤ k → decide (0 ≤ idxP P xs k) = xs.any P
  | [], k, _ => by simp [idxP]
  | x :: xs, k, hk => by
    unfold idxP
    cases hp : P x with
    | true => simp [hp]; omega
    | false => simpa [hp] using idxP_any P xs (k + 1) (by omega)
def intsV (xs : List Int) : List Value := xs.map (Value.int .i64)
theorem intsV_get (xs : List Int) (i : Nat) (h : i < xs.length) : (intsV xs)[i]? = some (.int .i64 xs[i]) := by simp [intsV, h]

def countB (n : Int) : Bool := !inB n 0 1000000
end Go.Proofs.YtdknpekbonmmhaaGreatDoor
