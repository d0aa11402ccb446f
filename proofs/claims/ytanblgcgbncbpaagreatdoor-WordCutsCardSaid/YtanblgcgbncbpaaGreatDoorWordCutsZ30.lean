/- Texts of the proof of WordCuts, put together: SeqS, IdxT. -/
import Derived.Test.YtanblgcgbncbpaaGreatDoorWordCutsZ10
import Derived.Test.YtanblgcgbncbpaaGreatDoorWordCutsZ15
import Derived.Test.YtanblgcgbncbpaaGreatDoorWordCutsZ18
import Derived.Lib.SliceRun
import Derived.Sort.Grow
/- slices.IndexFunc, ContainsFunc, DeleteFunc over strings, with closures that only make memory; worlds that only grow. -/
namespace Go.Proofs.YtanblgcgbncbpaaGreatDoor
set_option linter.unusedVariables false
set_option linter.unusedSimpArgs false
open Go.RowKit

/-- The place of the first element with P, from k on; -1 if there is none. -/
def idxQ {α : Type} (P : α → Bool) : List α → Int → Int
 | [], _ => -1
 | x :: xs, k => if P x then k else idxQ P xs (k + 1)
theorem idxQ_any {α : Type} (P : α → Bool) : ∀ (xs : List α) (k : Int), 0 ≤ k → decide (0 ≤ idxQ P xs k) = xs.any P
 | [], k, _ => by simp [idxQ]
 | x :: xs, k, hk => by
  unfold idxQ
  cases hp : P x with
  | true => simp [hp]; omega
  | false => simpa [hp] using idxQ_any P xs (k + 1) (by omega)
end Go.Proofs.YtanblgcgbncbpaaGreatDoor

/- slices.Index and slices.Contains of strings; parts of a slice. -/
namespace Go.Proofs.YtanblgcgbncbpaaGreatDoor
set_option linter.unusedVariables false
set_option linter.unusedSimpArgs false
open Go.RowKit
end Go.Proofs.YtanblgcgbncbpaaGreatDoor
