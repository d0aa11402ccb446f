/- Texts of the proof of DecisionMerges, put together: SrtP. -/
import Derived.Test.YtkkndblcejmmjaaGreatDoorDecisionMergesZ9
import Derived.Sort.OwnSorted
import Derived.Lib.SlicesCompact
/- Sorted lists of strings, without doubles: plain. -/
namespace Go.Proofs.YtkkndblcejmmjaaGreatDoor
set_option linter.unusedVariables false
set_option linter.unusedSimpArgs false
open Go.RowKit Go.Sort

def uniq : List Str → List Str
 | [] => []
 | x :: xs => if x ∈ xs then uniq xs else x :: uniq xs
end Go.Proofs.YtkkndblcejmmjaaGreatDoor
