/- Texts of the proof of WordCuts, put together: RdA, RdC, RdD. -/
import Derived.Test.YtanblgcgbncbpaaGreatDoorWordCutsZ5
import Derived.Test.YtanblgcgbncbpaaGreatDoorWordCutsZ13
import Derived.Test.YtanblgcgbncbpaaGreatDoorWordCutsZ18
import Derived.Test.YtanblgcgbncbpaaGreatDoorWordCutsZ26
import Derived.Test.YtanblgcgbncbpaaGreatDoorWordCutsZ32
import Derived.Test.YtanblgcgbncbpaaGreatDoorWordCutsZ33
import Derived.Shelf.Strings.Fields
import Derived.Lib.LaidTab
import Derived.Deep.DeepCutAuto
import Derived.Deep.CutBlock
/- The one line that the laws of reviews have read: its words, its field. -/
namespace Go.Proofs.YtanblgcgbncbpaaGreatDoor
set_option linter.unusedVariables false
set_option linter.unusedSimpArgs false
open Go.RowKit

def ws5 : List Str := [[97, 115, 107], [97], [111, 110, 101], [110, 111, 110, 101], [98]]
end Go.Proofs.YtanblgcgbncbpaaGreatDoor

/- askLine of the program, for any words. -/
namespace Go.Proofs.YtanblgcgbncbpaaGreatDoor
set_option linter.unusedVariables false
set_option linter.unusedSimpArgs false
open Go.RowKit

end Go.Proofs.YtanblgcgbncbpaaGreatDoor

/- ruleLine of the program, for any words. -/
namespace Go.Proofs.YtanblgcgbncbpaaGreatDoor
set_option linter.unusedVariables false
set_option linter.unusedSimpArgs false
open Go.RowKit

/-- Two blocks of old. -/
def TwoB (Z : World) (g gr : Nat) (t1 t2 : TypeId) (c1 c2 : Array Value) : Prop := Blk Z g t1 c1 ∧ Blk Z gr t2 c2
theorem TwoB.far {Z : World} {g gr q : Nat} {t1 t2 : TypeId} {c1 c2 : Array Value} (h : TwoB Z g gr t1 t2 c1 c2) (h1 : g ≠ q) (h2 : gr ≠ q) (j : Nat) (u : Value) : TwoB (Z.setCell ⟨q, j, none⟩ u) g gr t1 t2 c1 c2 := ⟨h.1.far h1 u, h.2.far h2 u⟩
theorem inI_calls (w : World) (n lo hi : Int) : Calls Tryz.prog 43 #[.int .i64 n, .int .i64 lo, .int .i64 hi] w (BoolPost w (decide (lo ≤ n) && decide (n ≤ hi))) := by
 go_enter Tryz.func43, Tryz.ntmps43
 by_cases h : lo ≤ n
 ·go_wp2_with fail
  go_ret
  exact BoolPost.of (by simp [h]) (Mod.refl _ _)
 ·go_wp2_with fail
  go_ret
  exact BoolPost.of (by rw [decide_eq_false (show ¬ lo ≤ n by omega)]; rfl) (Mod.refl _ _)

end Go.Proofs.YtanblgcgbncbpaaGreatDoor
