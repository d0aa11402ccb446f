/- Texts of the proof of DecisionTexts, put together: LaidV. -/
import Derived.Test.YtaidkmnbjbnciaaGreatDoorDecisionTextsZ6
import Derived.Test.YtaidkmnbjbnciaaGreatDoorDecisionTextsZ22
import Derived.Test.YtaidkmnbjbnciaaGreatDoorDecisionTextsZ34
import Derived.Test.YtaidkmnbjbnciaaGreatDoorRows
import Derived.Lib.LaidTab
import Derived.Stop.LaidErr
import Derived.ProofKit
/- What the listed variables of the review laws hold. -/
namespace Go.Proofs.YtaidkmnbjbnciaaGreatDoor
set_option linter.unusedVariables false
set_option linter.unusedSimpArgs false
open Go.RowKit

def litZv : DataW Unit → Int
 | .lit (.int _ n) => n
 | _ => 0
def litsZv : DataW Unit → List Int
 | .agg ps => ps.map litZv
 | _ => []
theorem ascZ : litsZv Rows.laid_strings_asciiSpace = Lib.asciiSpaceTab := by kernel_rfl
theorem mlns_of {W : World} (h : W.ShapedOpen Tryz.prog) : MlnS W := Tryz.laysM146.s1_3 W h

end Go.Proofs.YtaidkmnbjbnciaaGreatDoor
