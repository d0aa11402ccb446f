/- Texts of the proof of DeskHands, put together: ClnC. -/
import Derived.Test.YtgfgggeeoeppjaaGreatDoorDeskHandsZ4
import Derived.Test.YtgfgggeeoeppjaaGreatDoorDeskHandsZ7
import Derived.Shelf.Slices.Clone
import Derived.Deep.AppendLies
set_option linter.unusedVariables false
set_option linter.unusedSimpArgs false
/- slices.Clone of strings. -/
namespace Go.Proofs.YtgfgggeeoeppjaaGreatDoor
open Go.RowKit
def OwnCPost (w : World) (xs : List Str) (e : Ending) (w' : World) : Prop := ∃ v, e = .returned v ∧ w'.ownsRow w.heap.size 9 1 v xs.length (strsV xs) ∧ Pure w w'
theorem cloneC_calls (w : World) (v : Value) (xs : List Str) (hv : Sl w 9 1 v (strsV xs)) (hl : xs.length ≤ 1000000) : Calls Tryz.prog 61 #[v] w (OwnCPost w xs) := by
 obtain ⟨A, n, c, rfl, h1, h2, h3, h4⟩ := hv
 have hn : xs.length = n := by simpa [strsV] using h3
 subst hn
 cases A with
 | none =>
  have h0 : xs.length = 0 := by
   rcases Nat.eq_zero_or_pos xs.length with h | h
   ·exact h
   ·obtain ⟨g, off, h, _⟩ := h4 h
    cases h
  have e : xs = [] := List.eq_nil_of_length_eq_zero h0;subst e;refine (Any.slices_Clone_string_nil Tryz.laysNm216 _ c w).mono ?_;rintro e w' ⟨rfl, rfl⟩;exact ⟨_, rfl, ⟨rfl, .inl ⟨rfl, rfl⟩⟩, Mod.refl _ _⟩
 | some a =>
  rcases Nat.eq_zero_or_pos xs.length with h0 | h0
  ·have e : xs = [] := List.eq_nil_of_length_eq_zero h0;subst e;refine (Any.slices_Clone_string_zero Tryz.laysNm216 a c w).mono ?_;rintro e w' ⟨v', rfl, hown, _, hb⟩;exact ⟨_, rfl, hown, Mod.of_below hb⟩
  ·obtain ⟨g, off, ha, hr⟩ := h4 h0
   injection ha with ha
   subst ha;refine (Any.slices_Clone_string Tryz.laysNm216 g off xs.length c (xs.map fun l => ⟨l.toArray⟩) w (by simp) (by omega) (fun j hj => ?_)).mono ?_
   ·have hj' : j < xs.length := by simpa using hj
    rw [hr.cell (strsV_get xs j hj')];simp [List.getD, hj']
   ·rintro e w' ⟨v', rfl, hown, _, hb⟩;refine ⟨_, rfl, ?_, Mod.of_below hb⟩;rw [List.take_of_length_le (by simp), List.map_map] at hown;exact hown
end Go.Proofs.YtgfgggeeoeppjaaGreatDoor
