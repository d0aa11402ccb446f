/- Texts of the proof of ItemTexts, put together: LaidV. -/
import Derived.Test.YtelpdjhkedhppaaGreatDoorItemTextsZ7
import Derived.Test.YtelpdjhkedhppaaGreatDoorItemTextsZ23
import Derived.Test.YtelpdjhkedhppaaGreatDoorItemTextsZ36
import Derived.Test.YtelpdjhkedhppaaGreatDoorRows
import Derived.Lib.LaidTab
import Derived.Stop.LaidErr
import Derived.ProofKit
set_option linter.unusedVariables false
set_option linter.unusedSimpArgs false
/- What the listed variables of the review laws hold. -/
namespace Go.Proofs.YtelpdjhkedhppaaGreatDoor
open Go.RowKit
def litZv : DataW Unit → Int
 | .lit (.int _ n) => n
 | _ => 0
def litsZv : DataW Unit → List Int
 | .agg ps => ps.map litZv
 | _ => []
theorem ascZ : litsZv Rows.laid_strings_asciiSpace = Lib.asciiSpaceTab := by kernel_rfl
theorem mlns_of {W : World} (h : W.ShapedOpen Tryz.prog) : MlnS W := Tryz.laysM146.s1_3 W h
end Go.Proofs.YtelpdjhkedhppaaGreatDoor
