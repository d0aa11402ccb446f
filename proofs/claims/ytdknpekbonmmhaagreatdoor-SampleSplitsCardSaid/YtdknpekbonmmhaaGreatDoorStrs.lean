/- The generators of strings: some10, Seed. -/
import Derived.Test.YtdknpekbonmmhaaGreatDoorGen
namespace Go.Proofs.YtdknpekbonmmhaaGreatDoor
set_option linter.unusedVariables false
set_option linter.unusedSimpArgs false
open Go.RowKit

/-- A string's bytes. -/
abbrev Str := List UInt8
def strsV (ss : List Str) : List Value := ss.map fun l => Value.string ⟨l.toArray⟩
theorem strsV_len (ss : List Str) : (strsV ss).length = ss.length := by simp [strsV]
theorem strsV_get (ss : List Str) (i : Nat) (h : i < ss.length) : (strsV ss)[i]? = some (.string ⟨ss[i].toArray⟩) := by simp [strsV, h]
theorem strsV_one (ss : List Str) : ∀ u ∈ strsV ss, u.oneCell' = true := by
  intro u hu
  simp [strsV] at hu
  obtain ⟨z, _, rfl⟩ := hu
  rfl
def SomePost (w : World) (b N : Nat) (ss : List Str) (e : Ending) (w' : World) : Prop :=
  ∃ s, s ∈ ss ∧ e = .returned (.string ⟨s.toArray⟩) ∧ Strm w' b (N + 1) ∧ Mod (· = b) w w'

set_option maxRecDepth 100000 in
set_option maxHeartbeats 400000 in
theorem some_calls (w : World) (b N g c : Nat) (ss : List Str) (hS : Strm w b N) (hN : N ≤ 1000000000) (hx : Blk w g 9 (strsV ss).toArray) (hgb : g ≠ b) (h0 : 0 < ss.length) (hl : ss.length ≤ 1000) :
    Calls Tryz.prog 81 #[.pointer (some ⟨b, 0, none⟩), .slice (some ⟨g, 0, none⟩) ss.length c] w (SomePost w b N ss) := by
  go_enter Tryz.func81, Tryz.ntmps81
  go_wp2_with fail
  refine (next_calls _ b N _ hS hN (by omega) (by omega)).mono ?_
  rintro e w' ⟨k, hk0, hk1, rfl, hS', hM⟩
  obtain ⟨i, rfl⟩ := Int.eq_ofNat_of_zero_le hk0
  have hi : i < ss.length := by omega
  have hc := (hx.mod hM hgb).cell i
  have hc2 : (strsV ss).toArray[i]? = some (.string ⟨ss[i].toArray⟩) := by simp [strsV, hi]
  rw [hc2] at hc
  have hm : ss[i] ∈ ss := List.getElem_mem hi
  generalize ss[i] = z at hc hm
  clear hc2
  go_wp2_with fail
  go_ret
  exact ⟨_, hm, rfl, hS', hM⟩

end Go.Proofs.YtdknpekbonmmhaaGreatDoor
