/- The generators of strings: some10, Seed. -/
import Derived.Test.YtbpicgmblpejoaaDoorGen
namespace Go.Proofs.YtbpicgmblpejoaaDoor
set_option linter.unusedVariables false
set_option linter.unusedSimpArgs false
open Go.RowKit

/-- A string's bytes. -/
abbrev Str := List UInt8
def strsV (ss : List Str) : List Value := ss.map fun l => Value.string ⟨l.toArray⟩
theorem strsV_len (ss : List Str) : (strsV ss).length = ss.length := by simp [strsV]
theorem strsV_get (ss : List Str) (i : Nat) (h : i < ss.length) : (strsV ss)[i]? = some (.string ⟨ss[i].toArray⟩) := by simp [strsV, h]
theorem strsV_one (ss : List Str) : ∀ u ∈ strsV ss, u.oneCell' = true := by
  intro u hu
  simp [strsV] at hu
  obtain ⟨z, _, rfl⟩ := hu
  rfl
def SomePost (w : World) (b N : Nat) (ss : List Str) (e : Ending) (w' : World) : Prop :=
  ∃ s, s ∈ ss ∧ e = .returned (.string ⟨s.toArray⟩) ∧ Strm w' b (N + 1) ∧ Mod (· = b) w w'

end Go.Proofs.YtbpicgmblpejoaaDoor
