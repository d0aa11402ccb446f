/- Texts of the proof of QuerySearches, put together: NatE, Likely, Most, MostB. -/
import Derived.Test.YtnfflgicngeekaaGreatDoorQuerySearchesZ1
import Derived.Test.YtnfflgicngeekaaGreatDoorQuerySearchesZ11
import Derived.Test.YtnfflgicngeekaaGreatDoorQuerySearchesZ15
import Derived.Deep.AppendLies
import Derived.Deep.DrawnRows
import Derived.Deep.RegionLaw
set_option linter.unusedVariables false
set_option linter.unusedSimpArgs false
namespace Go.Proofs.YtnfflgicngeekaaGreatDoor
open Go.RowKit
theorem IsNat.form {w:World} {v:Value} {x L:Nat} (h:IsNat w v x L):∃ A n c,v = .slice A n c:=by
 obtain ⟨ds,h1,_⟩:=h;exact h1.form
end Go.Proofs.YtnfflgicngeekaaGreatDoor
namespace Go.Proofs.YtnfflgicngeekaaGreatDoor
open Go.RowKit
attribute [local go_sem ↓] Go.wp_at_zero Go.wp_at_succ
end Go.Proofs.YtnfflgicngeekaaGreatDoor
namespace Go.Proofs.YtnfflgicngeekaaGreatDoor
open Go.RowKit
attribute [local go_sem ↓] Go.wp_at_zero Go.wp_at_succ
end Go.Proofs.YtnfflgicngeekaaGreatDoor
namespace Go.Proofs.YtnfflgicngeekaaGreatDoor
open Go.RowKit
attribute [local go_sem ↓] Go.wp_at_zero Go.wp_at_succ
end Go.Proofs.YtnfflgicngeekaaGreatDoor
