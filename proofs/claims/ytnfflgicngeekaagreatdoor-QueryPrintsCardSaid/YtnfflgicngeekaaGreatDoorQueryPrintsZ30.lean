/- Texts of the proof of QueryPrints, put together: ItmC, ItmD. -/
import Derived.Test.YtnfflgicngeekaaGreatDoorQueryPrintsZ9
import Derived.Test.YtnfflgicngeekaaGreatDoorQueryPrintsZ12
import Derived.Test.YtnfflgicngeekaaGreatDoorQueryPrintsZ15
import Derived.Test.YtnfflgicngeekaaGreatDoorQueryPrintsZ19
import Derived.Deep.CutBlock
/- Items in memory; the map of items by their ids; above, placed of package intake. -/
namespace Go.Proofs.YtnfflgicngeekaaGreatDoor
set_option linter.unusedVariables false
set_option linter.unusedSimpArgs false
open Go.RowKit

/-- An item's cells, as a block has them. -/
def itQ (x : Itm) : Array Value := #[.string ⟨x.id.toArray⟩, .string ⟨x.cust.toArray⟩, .int .i64 x.kind, .string ⟨x.name.toArray⟩, .int .i64 x.tm, .string ⟨x.par.toArray⟩, .string ⟨x.text.toArray⟩]
/-- v is a slice that reads as the items xs. -/
def Its (w : World) (v : Value) (xs : List Itm) : Prop := Sl w 62 7 v (itV xs)
theorem Its.pure {w w' : World} {v : Value} {xs : List Itm} (h : Its w v xs) (hm : Pure w w') : Its w' v xs := Sl.pure h hm

end Go.Proofs.YtnfflgicngeekaaGreatDoor

/- above, placed of package intake. -/
namespace Go.Proofs.YtnfflgicngeekaaGreatDoor
set_option linter.unusedVariables false
set_option linter.unusedSimpArgs false
open Go.RowKit

section
variable {w : World} {g : Nat} {t : TypeId} {a0 a1 a2 a3 a4 a5 a6 x0 x1 x2 x3 x4 x5 x6 : Value}
end
end Go.Proofs.YtnfflgicngeekaaGreatDoor
