/- Texts of the proof of DecisionTexts, put together: JoinT. -/
import Derived.Test.YtaidkmnbjbnciaaGreatDoorDecisionTextsZ5
import Derived.Test.YtaidkmnbjbnciaaGreatDoorDecisionTextsZ12
import Derived.Shelf.Strings.OnBuilder
/- strings.Join. -/
namespace Go.Proofs.YtaidkmnbjbnciaaGreatDoor
set_option linter.unusedVariables false
set_option linter.unusedSimpArgs false
open Go.RowKit

def JnPost (w : World) (l : Str) (e : Ending) (w' : World) : Prop := e = .returned (.string ⟨l.toArray⟩) ∧ Pure w w'
theorem bldExtraT : Builder.Extra Tryz.prog Tryz.lays156_ren where
 sizeBuilder := by kernel_rfl
 liesBuilder := by kernel_rfl
 t5 := Tryz.underlying5
 a5 := Tryz.isAgg5
 z5 := Tryz.sizeOf5
 v5 := Tryz.zeroValue5
 infoByte := by kernel_rfl
 cellsByte := by kernel_rfl
 sizeByte := by kernel_rfl
 neB5 := by decide
theorem map_strsT (xs : List Str) : (xs.map fun s => (⟨s.toArray⟩ : ByteArray)).map (·.data.toList) = xs := by
 induction xs with
 | nil => rfl
 | cons x xs ih => simp only [List.map_cons, ih]
theorem joinT_calls (w : World) (v : Value) (xs : List Str) (sep : Str) (h : Sl w 9 1 v (strsV xs)) (hN : xs.length ≤ 1000000) (hlen : (Lib.join xs sep).length ≤ 100000000) : Calls Tryz.prog 57 #[v, .string ⟨sep.toArray⟩] w (JnPost w (Lib.join xs sep)) := by
 obtain ⟨A, n, c, rfl, h1, h2, h3, h4⟩ := h
 have hn : xs.length = n := by rw [strsV_len] at h3; omega
 subst hn
 by_cases h0 : xs.length = 0
 ·obtain rfl := List.eq_nil_of_length_eq_zero h0
  refine (Any.strings_Join_none Tryz.lays156 bldExtraT A c ⟨sep.toArray⟩ w).mono ?_
  rintro e w' ⟨rfl, rfl⟩
  exact ⟨rfl, Mod.refl _ _⟩
 ·obtain ⟨g, off, rfl, hrow⟩ := h4 (by omega)
  have e := map_strsT xs
  have hj := Any.strings_Join Tryz.lays156 bldExtraT g off c (xs.map fun s => (⟨s.toArray⟩ : ByteArray)) ⟨sep.toArray⟩ w (fun j x hx => by
   rw [List.getElem?_map] at hx
   cases hxj : xs[j]? with
   | none => rw [hxj] at hx; cases hx
   | some s =>
    rw [hxj] at hx
    injection hx with hx
    subst hx
    refine hrow.cell ?_
    simp [strsV, hxj]) hrow.lt (by rw [List.length_map]; omega) (by rw [List.length_map]; exact h1) (by rw [e]; show (Lib.join xs sep).length ≤ _; omega)
  rw [e, List.length_map] at hj
  refine hj.mono ?_
  rintro e w' ⟨rfl, hb⟩
  exact ⟨rfl, Mod.of_below hb⟩

end Go.Proofs.YtaidkmnbjbnciaaGreatDoor
