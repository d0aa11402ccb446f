import Derived.Test.YtbpicgmblpejoaaDoorStream
import Derived.Deep.RegionHeld3
namespace Go.Proofs.YtbpicgmblpejoaaDoor
set_option linter.unusedVariables false
set_option linter.unusedSimpArgs false
open Go.RowKit

def RangePost (w : World) (b N : Nat) (lo hi : Int) (e : Ending) (w' : World) : Prop :=
  ∃ k : Int, lo ≤ k ∧ k ≤ hi ∧ e = .returned (.int .i64 k) ∧ Strm w' b (N + 1) ∧ Mod (· = b) w w'

set_option maxHeartbeats 400000 in
theorem range_calls (w : World) (b N : Nat) (lo hi : Int) (hS : Strm w b N) (hN : N ≤ 1000000000) (h1 : lo ≤ hi) (h2 : -4611686018427387904 ≤ lo) (h3 : hi ≤ 4611686018427387900) :
    Calls Tryd.prog 14 #[.pointer (some ⟨b, 0, none⟩), .int .i64 lo, .int .i64 hi] w (RangePost w b N lo hi) := by
  go_enter Tryd.func14, Tryd.ntmps14
  go_wp2_with fail
  refine (next_calls _ b N _ hS hN (by omega) (by omega)).mono ?_
  rintro e w' ⟨k, hk0, hk1, rfl, hS', hM⟩
  go_wp2_with fail
  go_ret
  exact ⟨_, by omega, by omega, rfl, hS', hM⟩

def FlipPost (w : World) (b N : Nat) (e : Ending) (w' : World) : Prop :=
  ∃ k : Bool, e = .returned (.bool k) ∧ Strm w' b (N + 1) ∧ Mod (· = b) w w'

def PickPost (w : World) (b N : Nat) (xs : List Int) (e : Ending) (w' : World) : Prop :=
  ∃ k : Int, k ∈ xs ∧ e = .returned (.int .i64 k) ∧ Strm w' b (N + 1) ∧ Mod (· = b) w w'

def ints (xs : List Int) : List Value := xs.map (Value.int .i64)

set_option maxHeartbeats 400000 in
theorem pick_calls (w : World) (b N g c : Nat) (xs : List Int) (hS : Strm w b N) (hN : N ≤ 1000000000) (hx : Blk w g 3 (ints xs).toArray) (hgb : g ≠ b) (h0 : 0 < xs.length) (hl : xs.length ≤ 1000) :
    Calls Tryd.prog 9 #[.pointer (some ⟨b, 0, none⟩), .slice (some ⟨g, 0, none⟩) xs.length c] w (PickPost w b N xs) := by
  go_enter Tryd.func9, Tryd.ntmps9
  go_wp2_with fail
  refine (next_calls _ b N _ hS hN (by omega) (by omega)).mono ?_
  rintro e w' ⟨k, hk0, hk1, rfl, hS', hM⟩
  obtain ⟨i, rfl⟩ := Int.eq_ofNat_of_zero_le hk0
  have hi : i < xs.length := by omega
  have hc := (hx.mod hM hgb).cell i
  have hc2 : (ints xs).toArray[i]? = some (.int .i64 xs[i]) := by simp [ints, hi]
  rw [hc2] at hc
  have hm : xs[i] ∈ xs := List.getElem_mem hi
  generalize xs[i] = z at hc hm
  clear hc2
  go_wp2_with fail
  go_ret
  exact ⟨_, hm, rfl, hS', hM⟩

def OddPost (w : World) (b N : Nat) (e : Ending) (w' : World) : Prop :=
  ∃ k : Int, -1099511627776 ≤ k ∧ k ≤ 1099511627776 ∧ e = .returned (.int .i64 k) ∧ Strm w' b (N + 2) ∧ Mod (· = b) w w'

def fracs (xs : List (Int × Int)) : List Value := xs.flatMap fun p => [.int .i64 p.1, .int .i64 p.2]
theorem fracs_get : ∀ (xs : List (Int × Int)) (i : Nat) (h : i < xs.length), (fracs xs)[i * 2]? = some (.int .i64 xs[i].1) ∧ (fracs xs)[i * 2 + 1]? = some (.int .i64 xs[i].2)
  | x :: xs, 0, _ => by simp [fracs]
  | x :: xs, i + 1, h => by
    have := fracs_get xs i (by simpa using h)
    have e : (i + 1) * 2 = i * 2 + 1 + 1 := by omega
    simp only [fracs, List.flatMap_cons, List.cons_append, List.nil_append, e, List.getElem?_cons_succ, List.getElem_cons_succ]
    exact this

theorem Blk.frac_at {w : World} {g : Nat} {t : TypeId} (xs : List (Int × Int)) (h : Blk w g t (fracs xs).toArray) {i : Nat} (hi : i < xs.length) :
    ∃ n d, (n, d) ∈ xs ∧ w.cell? ⟨g, i * 2, none⟩ = some (.int .i64 n) ∧ w.cell? ⟨g, i * 2 + 1, none⟩ = some (.int .i64 d) := by
  have := fracs_get xs i hi
  exact ⟨_, _, List.getElem_mem hi, by rw [h.cell]; simpa using this.1, by rw [h.cell]; simpa using this.2⟩

def FracPost (w : World) (b N : Nat) (P : Int → Int → Prop) (e : Ending) (w' : World) : Prop :=
  ∃ n d : Int, P n d ∧ e = .returned (.agg #[.int .i64 n, .int .i64 d]) ∧ Strm w' b N ∧ Mod (· = b) w w'

end Go.Proofs.YtbpicgmblpejoaaDoor
