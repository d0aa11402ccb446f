/- The generator of seeds. -/
import Derived.Test.YtdknpekbonmmhaaGreatDoorStrs
namespace Go.Proofs.YtdknpekbonmmhaaGreatDoor
set_option linter.unusedVariables false
set_option linter.unusedSimpArgs false
open Go.RowKit

/-- one, two, x-1, the empty string, A -/
def seeds : List Str := [[111, 110, 101], [116, 119, 111], [120, 45, 49], [111, 110, 101], [116, 119, 111], [], [65]]
set_option maxRecDepth 100000 in
set_option maxHeartbeats 400000 in
theorem seed_calls (w : World) (b N : Nat) (hS : Strm w b N) (hN : N ≤ 1000000000) : Calls Tryz.prog 34 #[.pointer (some ⟨b, 0, none⟩)] w (SomePost w b N seeds) := by
  have hb := hS.lt
  go_enter Tryz.func34, Tryz.ntmps34
  go_wp2_with fail
  refine (some_calls _ b N _ _ seeds (hS.alloc _) hN (Blk.new _ _ _) (by omega) (by decide) (by decide)).mono ?_
  rintro e w1 ⟨s, hs, rfl, hS1, hM1⟩
  go_wp2_with fail
  go_ret
  exact ⟨s, hs, rfl, hS1, ((Mod.refl _ w).alloc _).trans hM1⟩

end Go.Proofs.YtdknpekbonmmhaaGreatDoor
