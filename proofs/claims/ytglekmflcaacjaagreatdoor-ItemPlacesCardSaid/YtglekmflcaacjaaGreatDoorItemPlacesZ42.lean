/- Texts of the proof of ItemPlaces, put together: LawI. -/
import Derived.Test.YtglekmflcaacjaaGreatDoorItemPlacesZ32
import Derived.Test.YtglekmflcaacjaaGreatDoorItemPlacesZ40
/- Words for the laws on items. -/
namespace Go.Proofs.YtglekmflcaacjaaGreatDoor
set_option linter.unusedVariables false
set_option linter.unusedSimpArgs false
open Go.RowKit

theorem pure_strmI {w w' : World} {o : Obj} (h : Mod (· = w.heap.size) (w.alloc o) w') : Pure w w' := ((Mod.refl (fun _ => False) w).alloc o).trans' h (fun i hi hlt => by omega)
theorem rangeI_calls (w : World) (b N : Nat) (hi : Int) (hS : Strm w b N) (hN : N ≤ 1000000000) (h1 : 0 ≤ hi) (h2 : hi ≤ 1000) : Calls Tryz.prog 9 #[.pointer (some ⟨b, 0, none⟩), .int .i64 0, .int .i64 hi] w (fun e w' => ∃ (m : Nat) (mI : Int), mI = (m : Int) ∧ mI ≤ hi ∧ e = .returned (.int .i64 mI) ∧ Strm w' b (N + 1) ∧ Mod (· = b) w w') := by
  refine (range_calls w b N 0 hi hS hN h1 (by omega) (by omega)).mono ?_
  rintro e w' ⟨k, h0, h1, rfl, h3, h4⟩
  exact ⟨k.toNat, k, by omega, h1, rfl, h3, h4⟩

end Go.Proofs.YtglekmflcaacjaaGreatDoor
