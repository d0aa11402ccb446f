/- Knee and its reference; GainsOf; slices.Equal over numbers. -/
import Derived.Test.YtpacmdiodnnofaaGains
namespace Go.Proofs.Ytpacmdiodnnofaa
set_option linter.unusedVariables false
set_option linter.unusedSimpArgs false
open Go.RowKit
attribute [local go_sem ↓] Go.wp_at_zero Go.wp_at_succ

def kneeX (bs : List Bool) (i : Nat) : Int := (cnt (bs.take i) : Int) * (bs.length : Int) - (i : Int) * (cnt bs : Int)
/-- The greatest gain below k, and its place. -/
def kneeTo (bs : List Bool) : Nat → Int × Int
  | 0 => (0, 0)
  | k + 1 => if (kneeTo bs k).1 < kneeX bs k then (kneeX bs k, (k : Int)) else kneeTo bs k
theorem kneeTo_one (bs : List Bool) : kneeTo bs 1 = (0, 0) := by simp [kneeTo, kneeX, cnt]
theorem kneeX_bound (bs : List Bool) (i : Nat) (hl : bs.length ≤ 2000) (hi : i ≤ bs.length) : (0 ≤ (cnt (bs.take i) : Int) * (bs.length : Int) ∧ (cnt (bs.take i) : Int) * (bs.length : Int) ≤ 4000000) ∧ (0 ≤ (i : Int) * (cnt bs : Int) ∧ (i : Int) * (cnt bs : Int) ≤ 4000000) := by
  have h1 := cnt_take_le bs i
  have h2 := cnt_le bs
  have e1 : 0 ≤ (cnt (bs.take i) : Int) * (bs.length : Int) := Int.mul_nonneg (by omega) (by omega)
  have e2 : (cnt (bs.take i) : Int) * (bs.length : Int) ≤ 2000 * 2000 := Int.mul_le_mul (by omega) (by omega) (by omega) (by omega)
  have e3 : 0 ≤ (i : Int) * (cnt bs : Int) := Int.mul_nonneg (by omega) (by omega)
  have e4 : (i : Int) * (cnt bs : Int) ≤ 2000 * 2000 := Int.mul_le_mul (by omega) (by omega) (by omega) (by omega)
  omega
theorem kneeTo_bound (bs : List Bool) (hl : bs.length ≤ 2000) : ∀ k, k ≤ bs.length + 1 → 0 ≤ (kneeTo bs k).1 ∧ (kneeTo bs k).1 ≤ 8000000 ∧ 0 ≤ (kneeTo bs k).2 ∧ (kneeTo bs k).2 ≤ 2001
  | 0, _ => by simp [kneeTo]
  | k + 1, hk => by
    have ih := kneeTo_bound bs hl k (by omega)
    have hx := kneeX_bound bs k hl (by omega)
    unfold kneeTo
    split
    · rename_i h
      simp only
      unfold kneeX at *
      omega
    · exact ih

def KneePost (w : World) (bs : List Bool) (e : Ending) (w' : World) : Prop :=
  (bs.length ≤ 2000 ∧ e = .returned (.tuple #[.int .i64 (kneeTo bs (bs.length + 1)).2, .int .i64 0]) ∧ Pure w w') ∨ (2000 < bs.length ∧ e = .returned (.tuple #[.int .i64 0, .int .i64 2]) ∧ Pure w w')
def KneeRel (w : World) (bs : List Bool) (gk : Nat) (b a i : Value) (wr : World) : Prop :=
  ∃ k : Nat, bs.length - k = gk ∧ k ≤ bs.length ∧ i = .int .i64 (k : Int) ∧ b = .int .i64 (kneeTo bs (k + 1)).1 ∧ a = .int .i64 (kneeTo bs (k + 1)).2 ∧ Pure w wr

set_option maxRecDepth 100000 in
set_option maxHeartbeats 2000000 in
theorem Knee_calls (w : World) (v : Value) (bs : List Bool) (hv : Sl w 4 1 v (boolsV bs)) (hl : bs.length ≤ 1000000) : Calls Try.prog 54 #[v] w (KneePost w bs) := by
  obtain ⟨A, m, c, rfl⟩ := hv.form
  obtain ⟨hm, hmc, hcc⟩ := hv.len
  rw [boolsV_len] at hm
  subst hm
  go_enter Try.func54, Try.ntmps54
  go_wp2_with fail
  refine (readError_calls _ _ _ _ (by omega)).mono ?_
  rintro e w1 ⟨rfl, hm1⟩
  have hv1 := hv.pure hm1
  by_cases h : bs.length ≤ 2000
  · rw [show readErr (bs.length : Int) = 0 from if_pos (by omega)]
    go_wp2_with fail
    refine (all_calls _ _ bs hv1).mono ?_
    rintro e w2 ⟨rfl, hm2⟩
    have hv2 := hv1.pure hm2
    go_wp2_with fail
    refine (gains_calls _ _ bs hv2 hl).mono ?_
    rintro e w4 ⟨v4, n4, rfl, hown, hm4⟩
    have hn4 := own_len hown
    simp only [intsV, List.length_map, gainsL_len] at hn4
    subst hn4
    have sl4 := Sl.of_own hown
    have m4 : Pure w w4 := (hm1.trans hm2).trans hm4
    obtain ⟨A4, n4, c4, rfl⟩ := sl4.form
    obtain ⟨hn4, hc4, hcc4⟩ := sl4.len
    simp only [intsV, List.length_map, gainsL_len] at hn4
    subst hn4
    have HSL := Lib.hid sl4
    clear sl4 hown hv1 hv2 hm1 hm2 hm4
    have hcl := cnt_le bs
    go_wp2_with fail
    go_loopg [6, 7, 21] bs.length (fun gk b a i wr => KneeRel w4 bs gk b a i wr)
    case atStart => exact ⟨0, by omega, by omega, rfl, by rw [kneeTo_one], by rw [kneeTo_one], Mod.refl _ _⟩
    case round =>
      obtain ⟨k, rfl, hk, rfl, rfl, rfl, hm⟩ := hrel
      obtain ⟨b1, b2, b3, b4⟩ := kneeTo_bound bs h (k + 1) (by omega)
      by_cases hlt : k < bs.length
      · obtain ⟨g, off, rfl, hrow⟩ := HSL.out.row (by omega)
        have hq := (hrow.mod hm id).cell (intsV_get (gainsL bs bs.length) k (by rw [gainsL_len]; exact hlt))
        rw [gainsL_get bs hlt] at hq
        have HS : Hid (kneeTo bs (k + 1 + 1) = if (kneeTo bs (k + 1)).1 < kneeX bs (k + 1) then (kneeX bs (k + 1), ((k + 1 : Nat) : Int)) else kneeTo bs (k + 1)) := rfl
        have HX : Hid (kneeX bs (k + 1) = (cnt (bs.take (k + 1)) : Int) * (bs.length : Int) - ((k : Int) + 1) * (cnt bs : Int)) := by
          show kneeX bs (k + 1) = _
          unfold kneeX
          simp
        obtain ⟨⟨x1, x2⟩, x3, x4⟩ := kneeX_bound bs (k + 1) h (by omega)
        rw [show ((k + 1 : Nat) : Int) = (k : Int) + 1 by omega] at x3 x4
        clear hrow
        generalize (cnt (bs.take (k + 1)) : Int) = t1 at *
        generalize hkb : kneeTo bs (k + 1) = kb at *
        clear hkb
        obtain ⟨kb1, kb2⟩ := kb
        simp only at b1 b2 b3 b4 HS ⊢
        by_cases hc : kb1 < t1 * (bs.length : Int) - ((k : Int) + 1) * (cnt bs : Int)
        · go_wp2_with fail
          go_roundg (bs.length - (k + 1))
          case measure => omega
          case rel => exact ⟨k + 1, rfl, hlt, by simp, by rw [HS.out, HX.out, if_pos (by omega)], by rw [HS.out, HX.out, if_pos (by omega)]; simp, hm⟩
        · go_wp2_with fail
          go_roundg (bs.length - (k + 1))
          case measure => omega
          case rel => exact ⟨k + 1, rfl, hlt, by simp, by rw [HS.out, HX.out, if_neg (by omega)], by rw [HS.out, HX.out, if_neg (by omega)], hm⟩
      · have hke : k = bs.length := by omega
        subst hke
        go_wp2_with fail
        go_ret2
        exact .inl ⟨h, rfl, m4.trans hm⟩
  · rw [show readErr (bs.length : Int) = 2 from if_neg (by omega)]
    go_wp2_with fail
    go_ret2
    exact .inr ⟨by omega, rfl, hm1⟩

def KneeRel2 (w : World) (bs : List Bool) (gk : Nat) (b a i : Value) (wr : World) : Prop :=
  ∃ k : Nat, bs.length + 1 - k = gk ∧ k ≤ bs.length + 1 ∧ i = .int .i64 (k : Int) ∧ b = .int .i64 (kneeTo bs k).1 ∧ a = .int .i64 (kneeTo bs k).2 ∧ Pure w wr
set_option maxRecDepth 100000 in
set_option maxHeartbeats 2000000 in
theorem KneeOf_calls (w : World) (v : Value) (bs : List Bool) (hv : Sl w 4 1 v (boolsV bs)) (h : bs.length ≤ 2000) : Calls Try.prog 57 #[v] w (IntPost w (kneeTo bs (bs.length + 1)).2) := by
  obtain ⟨A, m, c, rfl⟩ := hv.form
  obtain ⟨hm, hmc, hcc⟩ := hv.len
  rw [boolsV_len] at hm
  subst hm
  have hcl := cnt_le bs
  go_enter Try.func57, Try.ntmps57
  go_wp2_with fail
  go_loopg [3, 4, 10] (bs.length + 1) (fun gk b a i wr => KneeRel2 w bs gk b a i wr)
  case atStart => exact ⟨0, by omega, by omega, rfl, rfl, rfl, Mod.refl _ _⟩
  case round =>
    obtain ⟨k, rfl, hk, rfl, rfl, rfl, hm⟩ := hrel
    obtain ⟨b1, b2, b3, b4⟩ := kneeTo_bound bs h k (by omega)
    by_cases hlt : k < bs.length + 1
    · have HS : Hid (kneeTo bs (k + 1) = if (kneeTo bs k).1 < kneeX bs k then (kneeX bs k, (k : Int)) else kneeTo bs k) := rfl
      have HX : Hid (kneeX bs k = (cnt (bs.take k) : Int) * (bs.length : Int) - (k : Int) * (cnt bs : Int)) := rfl
      obtain ⟨⟨x1, x2⟩, x3, x4⟩ := kneeX_bound bs k h (by omega)
      have hv1 := hv.pure hm
      have i1 : (0 : Int) ≤ (k : Int) := by omega
      have i2 : (k : Int) ≤ (c : Int) := by omega
      have i3 : k ≤ c := by omega
      generalize hkb : kneeTo bs k = kb at *
      clear hkb
      obtain ⟨kb1, kb2⟩ := kb
      simp only at b1 b2 b3 b4 HS ⊢
      go_wp2_with fail
      refine (allOf_calls _ _ (bs.take k) (by rw [← boolsV_take]; exact hv1.take (by omega))).mono ?_
      rintro e w1 ⟨rfl, hm1⟩
      have hv2 := hv1.pure hm1
      go_wp2_with fail
      refine (allOf_calls _ _ bs hv2).mono ?_
      rintro e w2 ⟨rfl, hm2⟩
      have m2 : Pure w w2 := (hm.trans hm1).trans hm2
      clear hv1 hv2 hm hm1 hm2
      generalize (cnt (bs.take k) : Int) = t1 at *
      by_cases hc : kb1 < t1 * (bs.length : Int) - (k : Int) * (cnt bs : Int)
      · go_wp2_with fail
        go_roundg (bs.length + 1 - (k + 1))
        case measure => omega
        case rel => exact ⟨k + 1, rfl, by omega, by simp, by rw [HS.out, HX.out, if_pos (by omega)], by rw [HS.out, HX.out, if_pos (by omega)], m2⟩
      · go_wp2_with fail
        go_roundg (bs.length + 1 - (k + 1))
        case measure => omega
        case rel => exact ⟨k + 1, rfl, by omega, by simp, by rw [HS.out, HX.out, if_neg (by omega)], by rw [HS.out, HX.out, if_neg (by omega)], m2⟩
    · have hke : k = bs.length + 1 := by omega
      subst hke
      go_wp2_with fail
      go_ret
      exact IntPost.of rfl hm

set_option maxRecDepth 100000 in
set_option maxHeartbeats 2000000 in
theorem equalInts_calls (w : World) (v1 v2 : Value) (xs : List Int) (h1 : Sl w 3 1 v1 (intsV xs)) (h2 : Sl w 3 1 v2 (intsV xs)) : Calls Try.prog 55 #[v1, v2] w (BoolPost w true) := by
  obtain ⟨A1, n1, c1, rfl, a1, a2, a3, a4⟩ := h1
  obtain ⟨A2, n2, c2, rfl, b1, b2, b3, b4⟩ := h2
  have hn1 : xs.length = n1 := by simpa [intsV] using a3
  have hn2 : xs.length = n2 := by simpa [intsV] using b3
  subst hn1
  subst hn2
  have HA := Lib.hid a4
  have HB := Lib.hid b4
  have hne : ((xs.length : Int) != (xs.length : Int)) = false := by simp
  clear a3 b3 a4 b4
  go_enter Try.func55, Try.ntmps55
  go_wp2_with fail
  go_loopg [13] xs.length (fun gk i wr => ∃ k : Nat, xs.length - k = gk ∧ k ≤ xs.length ∧ i = .int .i64 (k : Int) ∧ Pure w wr)
  case atStart => exact ⟨0, by omega, by omega, rfl, Mod.refl _ _⟩
  case round =>
    obtain ⟨k, rfl, hk, rfl, hm⟩ := hrel
    by_cases hlt : k < xs.length
    · obtain ⟨g1, o1, rfl, r1⟩ := HA.out (by omega)
      obtain ⟨g2, o2, rfl, r2⟩ := HB.out (by omega)
      have q1 := (r1.mod hm id).cell (intsV_get xs k hlt)
      have q2 := (r2.mod hm id).cell (intsV_get xs k hlt)
      have t1 : (xs[k] != xs[k]) = false := by simp
      have i1 : (0 : Int) ≤ (k : Int) := by omega
      have i2 : (k : Int) < (xs.length : Int) := by omega
      clear r1 r2
      generalize xs[k] = x at *
      go_wp2_with fail
      go_quiet (fail)
      go_wp2_with fail
      go_roundg (xs.length - (k + 1))
      case measure => omega
      case rel => exact ⟨k + 1, rfl, by omega, by simp, hm.drewN _⟩
    · have hke : k = xs.length := by omega
      subst hke
      go_wp2_with fail
      go_ret
      exact BoolPost.of rfl hm

end Go.Proofs.Ytpacmdiodnnofaa
