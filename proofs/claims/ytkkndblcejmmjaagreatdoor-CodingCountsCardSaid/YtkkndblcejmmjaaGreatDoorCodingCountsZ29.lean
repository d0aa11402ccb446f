/- Texts of the proof of CodingCounts, put together: ItmC, ItmD. -/
import Derived.Test.YtkkndblcejmmjaaGreatDoorCodingCountsZ12
import Derived.Test.YtkkndblcejmmjaaGreatDoorCodingCountsZ15
import Derived.Test.YtkkndblcejmmjaaGreatDoorCodingCountsZ17
import Derived.Test.YtkkndblcejmmjaaGreatDoorCodingCountsZ21
import Derived.Deep.CutBlock
/- Items in memory; the map of items by their ids; above, placed of package intake. -/
namespace Go.Proofs.YtkkndblcejmmjaaGreatDoor
set_option linter.unusedVariables false
set_option linter.unusedSimpArgs false
open Go.RowKit

/-- The cells of item k. -/
theorem item_cells {w : World} {g off k : Nat} {xs : List Itm} (h : RowAt w 114 g off (itV xs)) (hk : k < xs.length) :
  w.cell? ⟨g, off + k * 7, none⟩ = some (.string ⟨xs[k].id.toArray⟩) ∧ w.cell? ⟨g, off + k * 7 + 1, none⟩ = some (.string ⟨xs[k].cust.toArray⟩) ∧ w.cell? ⟨g, off + k * 7 + 2, none⟩ = some (.int .i64 xs[k].kind) ∧
  w.cell? ⟨g, off + k * 7 + 3, none⟩ = some (.string ⟨xs[k].name.toArray⟩) ∧ w.cell? ⟨g, off + k * 7 + 4, none⟩ = some (.int .i64 xs[k].tm) ∧ w.cell? ⟨g, off + k * 7 + 5, none⟩ = some (.string ⟨xs[k].par.toArray⟩) ∧ w.cell? ⟨g, off + k * 7 + 6, none⟩ = some (.string ⟨xs[k].text.toArray⟩) := by
 obtain ⟨h0, h1, h2, h3, h4, h5, h6⟩ := itV_get xs k hk
 simp only [Nat.add_assoc]
 exact ⟨h.cell h0, h.cell h1, h.cell h2, h.cell h3, h.cell h4, h.cell h5, h.cell h6⟩
def itZ : Value := .agg #[.string ⟨#[]⟩, .string ⟨#[]⟩, .int .i64 0, .string ⟨#[]⟩, .int .i64 0, .string ⟨#[]⟩, .string ⟨#[]⟩]
def itZc : Array Value := #[.string ⟨#[]⟩, .string ⟨#[]⟩, .int .i64 0, .string ⟨#[]⟩, .int .i64 0, .string ⟨#[]⟩, .string ⟨#[]⟩]
/-- An item's cells, as a block has them. -/
def itQ (x : Itm) : Array Value := #[.string ⟨x.id.toArray⟩, .string ⟨x.cust.toArray⟩, .int .i64 x.kind, .string ⟨x.name.toArray⟩, .int .i64 x.tm, .string ⟨x.par.toArray⟩, .string ⟨x.text.toArray⟩]
/-- v is a slice that reads as the items xs. -/
def Its (w : World) (v : Value) (xs : List Itm) : Prop := Sl w 114 7 v (itV xs)
theorem Its.pure {w w' : World} {v : Value} {xs : List Itm} (h : Its w v xs) (hm : Pure w w') : Its w' v xs := Sl.pure h hm

end Go.Proofs.YtkkndblcejmmjaaGreatDoor

/- above, placed of package intake. -/
namespace Go.Proofs.YtkkndblcejmmjaaGreatDoor
set_option linter.unusedVariables false
set_option linter.unusedSimpArgs false
open Go.RowKit

section
variable {w : World} {g : Nat} {t : TypeId} {a0 a1 a2 a3 a4 a5 a6 x0 x1 x2 x3 x4 x5 x6 : Value}
/-- A store of a whole item. -/
theorem Blk.set7 (h : Blk w g t #[a0, a1, a2, a3, a4, a5, a6]) : Blk (((((((w.setCell ⟨g, 0, none⟩ x0).setCell ⟨g, 1, none⟩ x1).setCell ⟨g, 2, none⟩ x2).setCell ⟨g, 3, none⟩ x3).setCell ⟨g, 4, none⟩ x4).setCell ⟨g, 5, none⟩ x5).setCell ⟨g, 6, none⟩ x6) g t #[x0, x1, x2, x3, x4, x5, x6] := by
 have := ((((((h.set 0 x0).set 1 x1).set 2 x2).set 3 x3).set 4 x4).set 5 x5).set 6 x6
 simpa using this
theorem Mod.set7 (w : World) (g : Nat) (x0 x1 x2 x3 x4 x5 x6 : Value) : Mod (· = g) w (((((((w.setCell ⟨g, 0, none⟩ x0).setCell ⟨g, 1, none⟩ x1).setCell ⟨g, 2, none⟩ x2).setCell ⟨g, 3, none⟩ x3).setCell ⟨g, 4, none⟩ x4).setCell ⟨g, 5, none⟩ x5).setCell ⟨g, 6, none⟩ x6) :=
 by
  have h : ∀ (W : World) (i : Nat) (u : Value), Mod (· = g) w W → Mod (· = g) w (W.setCell ⟨g, i, none⟩ u) := fun W i u h => Mod.setCell (p := ⟨g, i, none⟩) h (.inl rfl) u
  exact h _ _ _ (h _ _ _ (h _ _ _ (h _ _ _ (h _ _ _ (h _ _ _ (h _ _ _ (Mod.refl _ w)))))))
end
end Go.Proofs.YtkkndblcejmmjaaGreatDoor
