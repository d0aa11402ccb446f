/- Texts of the proof of SampleStrata, put together: Least. -/
import Derived.Test.YtkchninlhemioaaGreatDoorSampleStrataZ25
import Derived.Test.YtkchninlhemioaaGreatDoorSampleStrataZ26
import Derived.Shelf.Slices.Clone
import Derived.Shelf.Slices.Delete
import Derived.Deep.AppendLies
/- sample.least, Least, Part; LeastOf and PartOf of the reference. -/
namespace Go.Proofs.YtkchninlhemioaaGreatDoor
set_option linter.unusedVariables false
set_option linter.unusedSimpArgs false
open Go.RowKit Go.Sort

/-- A slice that is a copy. -/
def OwnSPost (w : World) (xs : List Str) (e : Ending) (w' : World) : Prop := ∃ v, e = .returned v ∧ w'.ownsRow w.heap.size 9 1 v xs.length (strsV xs) ∧ Pure w w'
theorem cloneS_calls (w : World) (v : Value) (xs : List Str) (hv : Sl w 9 1 v (strsV xs)) (hl : xs.length ≤ 1000000) : Calls Tryz.prog 41 #[v] w (OwnSPost w xs) := by
  obtain ⟨A, n, c, rfl, h1, h2, h3, h4⟩ := hv
  have hn : xs.length = n := by simpa [strsV] using h3
  subst hn
  cases A with
  | none =>
    have h0 : xs.length = 0 := by
      rcases Nat.eq_zero_or_pos xs.length with h | h
      · exact h
      · obtain ⟨g, off, h, _⟩ := h4 h
        cases h
    have e : xs = [] := List.eq_nil_of_length_eq_zero h0
    subst e
    refine (Any.slices_Clone_string_nil Tryz.laysNm216 _ c w).mono ?_
    rintro e w' ⟨rfl, rfl⟩
    exact ⟨_, rfl, ⟨rfl, .inl ⟨rfl, rfl⟩⟩, Mod.refl _ _⟩
  | some a =>
    rcases Nat.eq_zero_or_pos xs.length with h0 | h0
    · have e : xs = [] := List.eq_nil_of_length_eq_zero h0
      subst e
      refine (Any.slices_Clone_string_zero Tryz.laysNm216 a c w).mono ?_
      rintro e w' ⟨v', rfl, hown, _, hb⟩
      exact ⟨_, rfl, hown, Mod.of_below hb⟩
    · obtain ⟨g, off, ha, hr⟩ := h4 h0
      injection ha with ha
      subst ha
      refine (Any.slices_Clone_string Tryz.laysNm216 g off xs.length c (xs.map fun l => ⟨l.toArray⟩) w (by simp) (by omega) (fun j hj => ?_)).mono ?_
      · have hj' : j < xs.length := by simpa using hj
        rw [hr.cell (strsV_get xs j hj')]
        simp [List.getD, hj']
      · rintro e w' ⟨v', rfl, hown, _, hb⟩
        refine ⟨_, rfl, ?_, Mod.of_below hb⟩
        rw [List.take_of_length_le (by simp), List.map_map] at hown
        exact hown
theorem eraseS_calls (w : World) (g cap n i base : Nat) (j : Int) (xs : List Str) (hown : w.ownsRow base 9 1 (.slice (some ⟨g, 0, none⟩) n cap) n (strsV xs)) (hl : xs.length ≤ 1000000) (hi : i < n) (hj : j = (i : Int) + 1) :
    Calls Tryz.prog 43 #[.slice (some ⟨g, 0, none⟩) n cap, .int .i64 (i : Int), .int .i64 j] w (DelPost w base g cap (xs.eraseIdx i)) := by
  have hn : n = xs.length := by have := hown.1; simp [strsV] at this; omega
  subst hn
  subst hj
  rcases hown.2 with ⟨h0, _⟩ | ⟨g', cap', cur, hv, hbase, hb, h1, h2, h3, h4⟩
  · cases h0
  · cases hv
    have hc := Any.slices_Delete_string Tryz.laysNm224 g 0 cap i (i + 1) xs w (holds_of_block hb (by simpa [strsV] using h4)) h1 (by simpa [maxLen] using h2) (by omega) (by omega)
    rw [show (((i + 1 : Nat)) : Int) = (i : Int) + 1 by omega] at hc
    refine hc.mono ?_
    rintro e w' ⟨rfl, nn, rfl⟩
    have e0 : ∀ W : World, W = grow W #[] := fun W => by simp [grow]
    rw [e0 (putRow _ _ _ _ _)]
    have hlen : (xs.eraseIdx i).length = xs.length - (i + 1 - i) := by rw [List.length_eraseIdx_of_lt hi]; omega
    have hee : xs.take i ++ xs.drop (i + 1) = xs.eraseIdx i := (List.eraseIdx_eq_take_drop_succ xs i).symm
    refine ⟨by rw [hlen], ?_, (grown_mod (grownBy_sorted _)).mono (fun k hk => by injection hk with hk; exact hk.symm)⟩
    have h := ownsRow_sorted (n := nn) (os := #[]) (ts := xs.take i ++ xs.drop (i + 1) ++ List.replicate (i + 1 - i) []) (ss := xs) (by simp; omega) hbase hb h1 h2 h3
    have hx := own_shrink h (show (xs.eraseIdx i).length ≤ xs.length by rw [hlen]; omega)
    rw [hee, List.map_append, List.take_left' (by simp)] at hx
    rw [hee]
    exact hx

def LeastPost (w : World) (seed : Str) (ids : List Str) (many : Nat) (e : Ending) (w' : World) : Prop :=
  ∃ v out, e = .returned v ∧ LeastSpec (hashB seed) ids many out ∧ Sl w' 9 1 v (strsV out) ∧ Pure w w'

end Go.Proofs.YtkchninlhemioaaGreatDoor
