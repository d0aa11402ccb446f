/- slices.Index, slices.Max over numbers. -/
import Derived.Test.YtpacmdiodnnofaaSortI
namespace Go.Proofs.Ytpacmdiodnnofaa
set_option linter.unusedVariables false
set_option linter.unusedSimpArgs false
open Go.RowKit
attribute [local go_sem ↓] Go.wp_at_zero Go.wp_at_succ

set_option maxRecDepth 100000 in
set_option maxHeartbeats 1000000 in
theorem indexI_calls (w : World) (v : Value) (xs : List Int) (x : Int) (hv : Sl w 3 1 v (intsV xs)) : Calls Try.prog 104 #[v, .int .i64 x] w (IntPost w (idxP (fun y => x == y) xs 0)) := by
  obtain ⟨A, n, c, rfl, hc1, hc2, hl, hr⟩ := hv
  have hln : xs.length = n := by simpa [intsV] using hl
  subst hln
  have HR := Lib.hid hr
  clear hl hr
  go_enter Try.func104, Try.ntmps104
  go_wp2_with fail
  go_loopg [8] xs.length (fun gk i wr => ∃ k : Nat, xs.length - k = gk ∧ k ≤ xs.length ∧ i = .int .i64 (k : Int) ∧ idxP (fun y => x == y) xs 0 = idxP (fun y => x == y) (xs.drop k) (k : Int) ∧ Pure w wr)
  case atStart => exact ⟨0, by omega, by omega, rfl, rfl, Mod.refl _ _⟩
  case round =>
    obtain ⟨k, rfl, hk, rfl, hix, hm⟩ := hrel
    have HIX := Lib.hid hix
    clear hix
    by_cases hlt : k < xs.length
    · obtain ⟨g, off, rfl, hrow⟩ := HR.out (by omega)
      have hq := (hrow.mod hm id).cell (intsV_get xs k hlt)
      have hd : xs.drop k = xs[k] :: xs.drop (k + 1) := List.drop_eq_getElem_cons hlt
      have hi2 : idxP (fun y => x == y) xs 0 = if x == xs[k] then (k : Int) else idxP (fun y => x == y) (xs.drop (k + 1)) ((k : Int) + 1) := by rw [HIX.out, hd]; rfl
      have HI2 := Lib.hid hi2
      clear hd hi2 hrow HIX
      generalize xs[k] = y at *
      cases hp : x == y
      · go_wp2_with fail
        go_roundg (xs.length - (k + 1))
        case measure => omega
        case rel => exact ⟨k + 1, rfl, hlt, by simp, by rw [HI2.out, hp]; simp, hm⟩
      · go_wp2_with fail
        go_ret
        exact IntPost.of (by rw [HI2.out, hp]; rfl) hm
    · have hke : k = xs.length := by omega
      subst hke
      go_wp2_with fail
      go_ret
      exact IntPost.of (by rw [HIX.out, List.drop_of_length_le (Nat.le_refl _)]; rfl) hm

theorem IsMax.snoc {l : List Int} {x y : Int} (h : IsMax l x) : IsMax (l ++ [y]) (if x < y then y else x) := by
  split
  · rename_i hlt
    exact ⟨by simp, fun z hz => by
      rcases List.mem_append.1 hz with h1 | h1
      · have := h.2 z h1; omega
      · simp at h1; omega⟩
  · exact ⟨by simp [h.1], fun z hz => by
      rcases List.mem_append.1 hz with h1 | h1
      · exact h.2 z h1
      · simp at h1; omega⟩
def MaxPost (w : World) (xs : List Int) (e : Ending) (w' : World) : Prop := ∃ x : Int, IsMax xs x ∧ e = .returned (.int .i64 x) ∧ Pure w w'
set_option maxRecDepth 100000 in
set_option maxHeartbeats 1000000 in
theorem maxI_calls (w : World) (v : Value) (xs : List Int) (hv : Sl w 3 1 v (intsV xs)) (h0 : 0 < xs.length) : Calls Try.prog 105 #[v] w (MaxPost w xs) := by
  obtain ⟨A, n, c, rfl, hc1, hc2, hl, hr⟩ := hv
  have hln : xs.length = n := by simpa [intsV] using hl
  subst hln
  obtain ⟨g, off, rfl, hrow⟩ := hr h0
  have hq0 := hrow.cell (intsV_get xs 0 h0)
  have HR := Lib.hid hrow
  have i1 : ¬ ((xs.length : Int) < 1) := by omega
  have H0 : Hid (IsMax (xs.take 1) xs[0]) := by
    have e : xs.take 1 = [xs[0]] := by
      cases xs with
      | nil => simp at h0
      | cons x l => rfl
    show IsMax (xs.take 1) xs[0]
    rw [e]
    exact ⟨by simp, fun y hy => by simp at hy; omega⟩
  rw [Nat.add_zero] at hq0
  generalize xs[0] = x0 at *
  clear hl hr hrow
  go_enter Try.func105, Try.ntmps105
  go_wp2_with fail
  go_loopg [3, 4] (xs.length - 1) (fun gk m i wr => ∃ (k : Nat) (x : Int), xs.length - k = gk ∧ 1 ≤ k ∧ k ≤ xs.length ∧ i = .int .i64 (k : Int) ∧ m = .int .i64 x ∧ IsMax (xs.take k) x ∧ Pure w wr)
  case atStart => exact ⟨1, x0, rfl, by omega, by omega, rfl, rfl, H0.out, Mod.refl _ _⟩
  case round =>
    obtain ⟨k, x, rfl, hk1, hk, rfl, rfl, hmx, hm⟩ := hrel
    have HMX := Lib.hid hmx
    clear hmx hq0
    by_cases hlt : k < xs.length
    · have hq := (HR.out.mod hm id).cell (intsV_get xs k hlt)
      have HN : Hid (IsMax (xs.take (k + 1)) (if x < xs[k] then xs[k] else x)) := by
        show IsMax (xs.take (k + 1)) _
        rw [List.take_succ_eq_append_getElem hlt]
        exact HMX.out.snoc
      generalize xs[k] = y at *
      by_cases hxy : x < y
      · go_wp2_with fail
        go_roundg (xs.length - (k + 1))
        case measure => omega
        case rel => exact ⟨k + 1, _, rfl, by omega, hlt, by simp, rfl, by have := HN.out; rw [if_pos hxy] at this; first | exact this | simpa [hxy] using this, hm⟩
      · go_wp2_with fail
        go_roundg (xs.length - (k + 1))
        case measure => omega
        case rel => exact ⟨k + 1, _, rfl, by omega, hlt, by simp, rfl, by have := HN.out; rw [if_neg (by omega)] at this; first | exact this | simpa [hxy] using this, hm⟩
    · have hke : k = xs.length := by omega
      subst hke
      go_wp2_with fail
      go_ret
      exact ⟨x, by have := HMX.out; rwa [List.take_length] at this, rfl, hm⟩

end Go.Proofs.Ytpacmdiodnnofaa
