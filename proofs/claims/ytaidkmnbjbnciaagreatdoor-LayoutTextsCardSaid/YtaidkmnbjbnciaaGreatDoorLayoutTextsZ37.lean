/- Texts of the proof of LayoutTexts, put together: LaidV. -/
import Derived.Test.YtaidkmnbjbnciaaGreatDoorLayoutTextsZ8
import Derived.Test.YtaidkmnbjbnciaaGreatDoorLayoutTextsZ23
import Derived.Test.YtaidkmnbjbnciaaGreatDoorLayoutTextsZ35
import Derived.Test.YtaidkmnbjbnciaaGreatDoorRows
import Derived.Lib.LaidTab
import Derived.Stop.LaidErr
import Derived.ProofKit
/- What the listed variables of the review laws hold. -/
namespace Go.Proofs.YtaidkmnbjbnciaaGreatDoor
set_option linter.unusedVariables false
set_option linter.unusedSimpArgs false
open Go.RowKit

def litZv : DataW Unit → Int
 | .lit (.int _ n) => n
 | _ => 0
def litsZv : DataW Unit → List Int
 | .agg ps => ps.map litZv
 | _ => []
/-- The list of the row. -/
abbrev laidV : List (String × DataW Unit) := [("unicode/utf8.acceptRanges", Rows.laid_unicode_utf8_acceptRanges), ("unicode.White_Space", Rows.laid_unicode_White_Space), ("strings.asciiSpace", Rows.laid_strings_asciiSpace), ("unicode/utf8.first", Rows.laid_unicode_utf8_first)]
theorem ascZ : litsZv Rows.laid_strings_asciiSpace = Lib.asciiSpaceTab := by kernel_rfl
set_option maxRecDepth 100000 in
theorem asc_of {W : World} (hL : laidMet Tryz.prog laidV W) : Asc W := by
 have h1 := Lib.tabIs_of_head (k := .u8) (zs := litsZv Rows.laid_strings_asciiSpace) (g := 0) (name := "strings.asciiSpace") (P := Tryz.prog) (W := W) (n := 256) (t := 221) (e := 5) (by kernel_rfl) (by kernel_rfl) (by kernel_rfl) (by kernel_rfl) (by kernel_rfl) (by kernel_rfl) hL.tail.tail
 rw [ascZ] at h1
 exact h1
theorem mlns_of {W : World} (h : W.ShapedOpen Tryz.prog) : MlnS W := Tryz.laysM146.s1_3 W h

end Go.Proofs.YtaidkmnbjbnciaaGreatDoor
