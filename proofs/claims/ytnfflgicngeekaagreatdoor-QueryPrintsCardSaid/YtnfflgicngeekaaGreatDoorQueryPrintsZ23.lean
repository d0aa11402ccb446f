/- Texts of the proof of QueryPrints, put together: NatE, Likely, Most, MostB. -/
import Derived.Test.YtnfflgicngeekaaGreatDoorQueryPrintsZ1
import Derived.Test.YtnfflgicngeekaaGreatDoorQueryPrintsZ11
import Derived.Test.YtnfflgicngeekaaGreatDoorQueryPrintsZ15
import Derived.Deep.AppendLies
import Derived.Deep.DrawnRows
import Derived.Deep.RegionLaw
/- Package sample: ways. -/
namespace Go.Proofs.YtnfflgicngeekaaGreatDoor
set_option linter.unusedVariables false
set_option linter.unusedSimpArgs false
open Go.RowKit

theorem IsNat.form {w : World} {v : Value} {x L : Nat} (h : IsNat w v x L) : ∃ A n c, v = .slice A n c := by
 obtain ⟨ds, h1, _⟩ := h
 exact h1.form
end Go.Proofs.YtnfflgicngeekaaGreatDoor

/- Package sample: likely. -/
namespace Go.Proofs.YtnfflgicngeekaaGreatDoor
set_option linter.unusedVariables false
set_option linter.unusedSimpArgs false
open Go.RowKit
attribute [local go_sem ↓] Go.wp_at_zero Go.wp_at_succ

end Go.Proofs.YtnfflgicngeekaaGreatDoor

/- Package sample: drawnError, most, Most, Fewest. -/
namespace Go.Proofs.YtnfflgicngeekaaGreatDoor
set_option linter.unusedVariables false
set_option linter.unusedSimpArgs false
open Go.RowKit
attribute [local go_sem ↓] Go.wp_at_zero Go.wp_at_succ

end Go.Proofs.YtnfflgicngeekaaGreatDoor

/- Package sample: Most, Fewest. -/
namespace Go.Proofs.YtnfflgicngeekaaGreatDoor
set_option linter.unusedVariables false
set_option linter.unusedSimpArgs false
open Go.RowKit
attribute [local go_sem ↓] Go.wp_at_zero Go.wp_at_succ

end Go.Proofs.YtnfflgicngeekaaGreatDoor
