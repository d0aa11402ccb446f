/- Texts of the proof of QueryOrders, put together: NatE, Likely, Most, MostB. -/
import Derived.Test.YtbajgjbdcgakoaaGreatDoorQueryOrdersZ1
import Derived.Test.YtbajgjbdcgakoaaGreatDoorQueryOrdersZ11
import Derived.Test.YtbajgjbdcgakoaaGreatDoorQueryOrdersZ15
import Derived.Deep.AppendLies
import Derived.Deep.DrawnRows
import Derived.Deep.RegionLaw
/- Package sample: ways. -/
namespace Go.Proofs.YtbajgjbdcgakoaaGreatDoor
set_option linter.unusedVariables false
set_option linter.unusedSimpArgs false
open Go.RowKit

theorem IsNat.form {w : World} {v : Value} {x L : Nat} (h : IsNat w v x L) : ∃ A n c, v = .slice A n c := by
 obtain ⟨ds, h1, _⟩ := h
 exact h1.form
end Go.Proofs.YtbajgjbdcgakoaaGreatDoor

/- Package sample: likely. -/
namespace Go.Proofs.YtbajgjbdcgakoaaGreatDoor
set_option linter.unusedVariables false
set_option linter.unusedSimpArgs false
open Go.RowKit
attribute [local go_sem ↓] Go.wp_at_zero Go.wp_at_succ

end Go.Proofs.YtbajgjbdcgakoaaGreatDoor

/- Package sample: drawnError, most, Most, Fewest. -/
namespace Go.Proofs.YtbajgjbdcgakoaaGreatDoor
set_option linter.unusedVariables false
set_option linter.unusedSimpArgs false
open Go.RowKit
attribute [local go_sem ↓] Go.wp_at_zero Go.wp_at_succ

end Go.Proofs.YtbajgjbdcgakoaaGreatDoor

/- Package sample: Most, Fewest. -/
namespace Go.Proofs.YtbajgjbdcgakoaaGreatDoor
set_option linter.unusedVariables false
set_option linter.unusedSimpArgs false
open Go.RowKit
attribute [local go_sem ↓] Go.wp_at_zero Go.wp_at_succ

end Go.Proofs.YtbajgjbdcgakoaaGreatDoor
