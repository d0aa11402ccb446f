/- Texts of the proof of DecisionTexts, put together: TxtA. -/
import Derived.Test.YtaidkmnbjbnciaaGreatDoorDecisionTextsZ20
import Derived.Test.YtaidkmnbjbnciaaGreatDoorDecisionTextsZ26
import Derived.Test.YtaidkmnbjbnciaaGreatDoorDecisionTextsZ28
import Derived.Test.YtaidkmnbjbnciaaGreatDoorDecisionTextsZ31
import Derived.Test.YtaidkmnbjbnciaaGreatDoorDecisionTextsZ34
import Derived.Deep.AppendLies
/- TextLayout of the program. -/
namespace Go.Proofs.YtaidkmnbjbnciaaGreatDoor
set_option linter.unusedVariables false
set_option linter.unusedSimpArgs false
open Go.RowKit

theorem chosen_calls (w : World) (b : Bool) (x y : Str) : Calls Tryz.prog 58 #[.bool b, .string ⟨x.toArray⟩, .string ⟨y.toArray⟩] w (JnPost w (if b then x else y)) := by
 cases b
 ·go_enter Tryz.func58, Tryz.ntmps58
  go_wp2_with fail
  go_ret
  exact ⟨rfl, Mod.refl _ _⟩
 ·go_enter Tryz.func58, Tryz.ntmps58
  go_wp2_with fail
  go_ret
  exact ⟨rfl, Mod.refl _ _⟩
theorem info_strT : (Tryz.prog.info? 9).map (fun i => (i.zero, i.size, i.bytes)) = some (some (.string ByteArray.empty), 1, 16) := by kernel_rfl
theorem bytes_appT (a b : Str) : (⟨a.toArray⟩ : ByteArray) ++ ⟨b.toArray⟩ = ⟨(a ++ b).toArray⟩ := by
 show (⟨a.toArray⟩ : ByteArray).append ⟨b.toArray⟩ = _
 apply ByteArray.ext
 simp [ByteArray.append]
end Go.Proofs.YtaidkmnbjbnciaaGreatDoor
