/- The reference's likely. -/
import Derived.Test.YtpacmdiodnnofaaRow
import Derived.Test.YtpacmdiodnnofaaCheck
namespace Go.Proofs.Ytpacmdiodnnofaa
set_option linter.unusedVariables false
set_option linter.unusedSimpArgs false
open Go.RowKit
attribute [local go_sem ↓] Go.wp_at_zero Go.wp_at_succ

set_option maxHeartbeats 400000 in
theorem rin_calls (n a b : Int) (w : World) :
    Calls Try.prog 75 #[.int .i64 n, .int .i64 a, .int .i64 b] w fun e w' => e = .returned (.bool (inB n a b)) ∧ w = w' := by
  unfold inB
  by_cases h1 : a ≤ n
  · by_cases h2 : n ≤ b
    all_goals
      go_enter Try.func75, Try.ntmps75
      go_wp2
      go_ret
      exact ⟨by simp [h1, h2], rfl⟩
  · go_enter Try.func75, Try.ntmps75
    go_wp2
    go_ret
    exact ⟨by simp; omega, rfl⟩

def RLRel (X : World) (oB : Nat) (f : Nat → Nat) (s lo up gk : Nat) (so al i : Value) (wr : World) : Prop :=
  ∃ k : Nat, s + 1 - k = gk ∧ k ≤ s + 1 ∧ i = .int .i64 (k : Int) ∧ IsBig wr so (rsum f lo up k) (1 + 3 * s + k) ∧ IsBig wr al (rsum f 0 s k) (1 + 3 * s + k) ∧ Pure X wr

theorem cmp_ge (x y : Nat) : decide (y ≤ x) = decide (0 ≤ cmpI x y) := by
  apply decide_eq_decide.2
  unfold cmpI
  split
  · omega
  · split <;> omega

set_option maxRecDepth 100000 in
set_option maxHeartbeats 4000000 in
theorem rlikely_calls (w : World) (p s f r lo up num den : Nat) (hr : r ≤ p) (hp : p ≤ 2000) (hs : s ≤ 1000) (hup : up ≤ s) (hlo : lo ≤ up + 1) (hden : den ≤ 100000) (hnum : num ≤ den) :
    Calls Try.prog 78 #[.agg #[.int .i64 (p : Int), .int .i64 (s : Int), .int .i64 (f : Int)], .int .i64 (r : Int), .int .i64 (lo : Int), .int .i64 (up : Int), .agg #[.int .i64 (num : Int), .int .i64 (den : Int)]] w
      (BoolPost w (likelyB p s r lo (up + 1 - lo) num den)) := by
  have hB := likely_ref p s r lo up num den hr hup hlo
  have HB := Lib.hid hB
  clear hB
  go_enter Try.func78, Try.ntmps78
  go_wp2_with fail
  have hlB := Blk.new (w.alloc (.cells #[.int .i64 (p : Int), .int .i64 (s : Int), .int .i64 (f : Int)] 27)) 30 #[.int .i64 (num : Int), .int .i64 (den : Int)]
  rw [World.size_alloc] at hlB
  have hm0 : Pure w ((w.alloc (.cells #[.int .i64 (p : Int), .int .i64 (s : Int), .int .i64 (f : Int)] 27)).alloc (.cells #[.int .i64 (num : Int), .int .i64 (den : Int)] 30)) := ((Mod.refl _ _).alloc _).alloc _
  refine (row_calls _ p r s hr hp (by omega)).mono ?_
  rintro e X ⟨oB, rfl, hrow, hm1⟩
  have hl2 := hlB.mod hm1 id
  have hM := hm0.trans hm1
  clear hlB hm0 hm1
  go_wp2_with fail
  go_loopg [11, 12, 22] (s + 1) (fun gk so al i wr => RLRel X oB (rowv r (p - r) s) s lo up gk so al i wr)
  case atStart => exact ⟨0, by omega, by omega, rfl, IsBig.zero _ _, IsBig.zero _ _, Mod.refl _ _⟩
  case round =>
    obtain ⟨k, rfl, hk, rfl, hso, hal, hm⟩ := hrel
    by_cases hlt : k < s + 1
    · obtain ⟨A0, n0, c0, hq0, _, hb0⟩ := (hrow.pure hm).at hlt
      have hall : rsum (rowv r (p - r) s) 0 s (k + 1) = rsum (rowv r (p - r) s) 0 s k + rowv r (p - r) s k := rsum_in (by omega)
      have HALL := Lib.hid hall
      clear hall
      go_wp2_with fail
      refine (bplus_calls _ _ _ _ _ (1 + 3 * s + k) hal (hb0.more (by omega)) (by omega)).mono ?_
      rintro e w3 ⟨v3, rfl, hv3, hm3⟩
      go_wp2_with fail
      refine (rin_calls _ _ _ _).mono ?_
      rintro e w' ⟨rfl, rfl⟩
      cases hin : inB (k : Int) (lo : Int) (up : Int)
      · have h1 := inB_false hin
        go_wp2_with fail
        go_roundg (s + 1 - (k + 1))
        case measure => omega
        case rel => exact ⟨k + 1, rfl, hlt, by simp, by rw [rsum_out (by omega)]; exact (hso.pure hm3).more (by omega), by rw [HALL.out]; exact hv3, hm.trans hm3⟩
      · have h1 := inB_true hin
        go_wp2_with fail
        refine (bplus_calls _ _ _ _ _ (1 + 3 * s + k) (hso.pure hm3) ((hb0.pure hm3).more (by omega)) (by omega)).mono ?_
        rintro e w4 ⟨v4, rfl, hv4, hm4⟩
        go_wp2_with fail
        go_roundg (s + 1 - (k + 1))
        case measure => omega
        case rel => exact ⟨k + 1, rfl, hlt, by simp, by rw [rsum_in (by omega)]; exact hv4, by rw [HALL.out]; exact hv3.pure hm4, (hm.trans hm3).trans hm4⟩
    · have hke : k = s + 1 := by omega
      subst hke
      have hl3 := hl2.mod hm id
      have l0 := hl3.cell 0
      have l1 := hl3.cell 1
      simp at l0 l1
      generalize rsum (rowv r (p - r) s) lo up (s + 1) = SO at *
      generalize rsum (rowv r (p - r) s) 0 s (s + 1) = AL at *
      have e1 : IntKind.i64.wrap ((den : Int) - (num : Int)) = ((den - num : Nat) : Int) := by rw [IntWalk.i64_in _ (by omega)]; omega
      clear hrow hl3 hl2
      have tok1 : True := trivial
      go_wp2_with fail
      go_region_held3 (fun w' => w'.cell? ⟨w.heap.size + 1, 0, none⟩ = some (.int .i64 (num : Int)) ∧ w'.cell? ⟨w.heap.size + 1, 1, none⟩ = some (.int .i64 (den : Int))) (go_keep)
        (first
          | (go_at_call 117; have _t := tok1; clear tok1; (refine (btimes_calls _ _ _ _ den (hso.pure (Mod.refl _ _).drew) (by omega) (by omega)).mono ?_); rintro e w7 ⟨v7, rfl, hv7, hm7⟩; have t7 := hm7.keep l0 id; have s7 := hm7.keep l1 id)
          | (go_at_call 117; (refine (btimes_calls _ _ _ _ (den - num) ((hal.pure (Mod.refl _ _).drew).pure hm7) (by omega) (by omega)).mono ?_); rintro e w8 ⟨v8, rfl, hv8, hm8⟩; have t8 := hm8.keep t7 id; have s8 := hm8.keep s7 id)
          | (go_at_call 118; (refine (bcmp_calls _ _ _ _ _ _ (hv7.pure hm8) hv8 (by omega)).mono ?_); rintro e w9 ⟨rfl, hm9⟩; have t9 := hm9.keep t8 id; have s9 := hm9.keep s8 id))
      have hMM : Pure w w9 := hM.trans (((hm.drew.trans hm7).trans hm8).trans hm9)
      go_wp2_with fail
      go_ret
      exact BoolPost.of (by rw [HB.out, cmp_ge]) hMM

end Go.Proofs.Ytpacmdiodnnofaa
