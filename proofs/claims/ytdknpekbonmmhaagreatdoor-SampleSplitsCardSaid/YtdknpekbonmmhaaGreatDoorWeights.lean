/- The error of weights: the reference's and package sample's. -/
import Derived.Test.YtdknpekbonmmhaaGreatDoorIds
import Derived.Test.YtdknpekbonmmhaaGreatDoorIdx
namespace Go.Proofs.YtdknpekbonmmhaaGreatDoor
set_option linter.unusedVariables false
set_option linter.unusedSimpArgs false
open Go.RowKit

theorem sumI_take (ws : List Int) (k : Nat) (h : k < ws.length) : sumI (ws.take (k + 1)) = sumI (ws.take k) + ws[k] := by
  rw [List.take_succ_eq_append_getElem h]
  generalize ws.take k = l
  induction l with
  | nil => simp [sumI]
  | cons x l ih =>
    simp only [List.cons_append, sumI]
    rw [ih]
    omega
theorem sumI_take_bounds (ws : List Int) (k : Nat) (h : (ws.take k).any weightB = false) : 0 ≤ sumI (ws.take k) ∧ sumI (ws.take k) ≤ (k : Int) * 1000 := by
  have hz : ∀ z ∈ ws.take k, 0 ≤ z ∧ z ≤ 1000 := by
    intro z hz
    have h6 := List.any_eq_false.1 h z hz
    exact inB_true (by simpa [weightB] using h6)
  have h7 := sumI_nonneg _ (fun z h => (hz z h).1)
  have h8 := sumI_le 1000 _ (fun z h => (hz z h).2)
  have h9 : ((ws.take k).length : Int) ≤ k := by rw [List.length_take]; omega
  have := Int.mul_le_mul_of_nonneg_right h9 (show (0 : Int) ≤ 1000 by omega)
  omega
theorem any_take_snoc (ws : List Int) (k : Nat) (h : k < ws.length) : (ws.take (k + 1)).any weightB = ((ws.take k).any weightB || weightB ws[k]) := by
  rw [List.take_succ_eq_append_getElem h, List.any_append]
  simp
theorem any_of_at (ws : List Int) (k : Nat) (h : k < ws.length) (hb : weightB ws[k] = true) : ws.any weightB = true := List.any_eq_true.2 ⟨_, List.getElem_mem h, hb⟩
theorem weightsE_any {ws : List Int} (h0 : ws.length ≠ 0) (h1 : ws.length ≤ 20) (h : ws.any weightB = true) : weightsE ws = 1 := by
  unfold weightsE
  rw [if_neg h0, if_neg (by omega), if_pos h]
theorem weightsE_sum {ws : List Int} (h0 : ws.length ≠ 0) (h1 : ws.length ≤ 20) (h : ws.any weightB = false) : weightsE ws = if sumI ws = 0 then 1 else 0 := by
  unfold weightsE
  rw [if_neg h0, if_neg (by omega), if_neg (by rw [h]; decide)]
def WRel (w : World) (ws : List Int) (gk : Nat) (s i : Value) (wr : World) : Prop :=
  ∃ k : Nat, ws.length - k = gk ∧ k ≤ ws.length ∧ i = .int .i64 (k : Int) ∧ s = .int .i64 (sumI (ws.take k)) ∧ (ws.take k).any weightB = false ∧ Pure w wr

set_option maxRecDepth 100000 in
set_option maxHeartbeats 2000000 in
theorem weightsFault_calls (w : World) (v : Value) (ws : List Int) (hv : Sl w 3 1 v (intsV ws)) (hl : ws.length ≤ 1000) : Calls Tryz.prog 40 #[v] w (IntPost w (weightsE ws)) := by
  obtain ⟨A, n, c, rfl, hc1, hc2, hl2, hr⟩ := hv
  have hln : ws.length = n := by simpa [intsV] using hl2
  subst hln
  have HR := Lib.hid hr
  clear hl2 hr
  by_cases h0 : ws.length = 0
  · have d0 : ((ws.length : Int) == 0) = true := by simp; exact List.eq_nil_of_length_eq_zero h0
    have HE : Hid (weightsE ws = 3) := by
      show weightsE ws = 3
      unfold weightsE
      rw [if_pos h0]
    clear h0
    go_enter Tryz.func40, Tryz.ntmps40
    go_wp2_with fail
    go_ret
    exact IntPost.of HE.out (Mod.refl _ _)
  · have d0 : ((ws.length : Int) == 0) = false := by simp; intro h; exact h0 (by rw [h]; rfl)
    by_cases h1 : 20 < ws.length
    · have d1 : (20 : Int) < (ws.length : Int) := by omega
      have HE : Hid (weightsE ws = 2) := by
        show weightsE ws = 2
        unfold weightsE
        rw [if_neg h0, if_pos h1]
      go_enter Tryz.func40, Tryz.ntmps40
      go_wp2_with fail
      go_ret
      exact IntPost.of HE.out (Mod.refl _ _)
    · have d1 : ¬ (20 : Int) < (ws.length : Int) := by omega
      have HA := Lib.hid (weightsE_any h0 (by omega) (ws := ws))
      have HS := Lib.hid (weightsE_sum h0 (by omega) (ws := ws))
      go_enter Tryz.func40, Tryz.ntmps40
      go_wp2_with fail
      go_loopg [3, 14] ws.length (fun gk s i wr => WRel w ws gk s i wr)
      case atStart => exact ⟨0, by omega, by omega, rfl, by simp [sumI], by simp, Mod.refl _ _⟩
      case round =>
        obtain ⟨k, rfl, hk, rfl, rfl, hany, hm⟩ := hrel
        have hb := sumI_take_bounds ws k hany
        have HANY := Lib.hid hany
        clear hany
        by_cases hlt : k < ws.length
        · obtain ⟨g, off, rfl, hrow⟩ := HR.out (by omega)
          have hq := (hrow.mod hm id).cell (intsV_get ws k hlt)
          have HT := Lib.hid (sumI_take ws k hlt)
          have HN := Lib.hid (any_take_snoc ws k hlt)
          have HB := Lib.hid (any_of_at ws k hlt)
          clear hrow
          generalize ws[k] = y at *
          generalize sumI (ws.take k) = t0 at *
          go_wp2_with fail
          refine (rin_calls _ _ _ _).mono ?_
          rintro e w' ⟨rfl, rfl⟩
          cases hp : inB y 0 1000
          · go_wp2_with fail
            go_ret
            exact IntPost.of (HA.out (HB.out (by simp [weightB, hp]))) hm
          · have hy := inB_true hp
            go_wp2_with fail
            go_roundg (ws.length - (k + 1))
            case measure => omega
            case rel => exact ⟨k + 1, rfl, hlt, by simp, by rw [HT.out], by rw [HN.out, HANY.out]; simp [weightB, hp], hm⟩
        · have hke : k = ws.length := by omega
          subst hke
          have hall : ws.any weightB = false := by have := HANY.out; rwa [List.take_length] at this
          have HE := Lib.hid (HS.out hall)
          have e1 : sumI (ws.take ws.length) = sumI ws := by rw [List.take_length]
          rw [e1] at hb ⊢
          clear e1 hall
          generalize sumI ws = s0 at *
          by_cases hs : s0 = 0
          · subst hs
            go_wp2_with fail
            go_ret
            exact IntPost.of (by rw [HE.out]; rfl) hm
          · have hs2 : (s0 == 0) = false := by simpa using hs
            go_wp2_with fail
            go_ret
            exact IntPost.of (by rw [HE.out, if_neg hs]) hm

set_option maxRecDepth 100000 in
set_option maxHeartbeats 2000000 in
theorem weightsError_calls (w : World) (v : Value) (ws : List Int) (hv : Sl w 3 1 v (intsV ws)) (hl : ws.length ≤ 1000) : Calls Tryz.prog 121 #[v] w (IntPost w (weightsE ws)) := by
  obtain ⟨A, n, c, rfl, hc1, hc2, hl2, hr⟩ := hv
  have hln : ws.length = n := by simpa [intsV] using hl2
  subst hln
  have HR := Lib.hid hr
  clear hl2 hr
  by_cases h0 : ws.length = 0
  · have d0 : ((ws.length : Int) == 0) = true := by simp; exact List.eq_nil_of_length_eq_zero h0
    have d1 : decide ((20 : Int) < (ws.length : Int)) = false := by simp; omega
    have d2 : decide (20 < ws.length) = false := by simp; omega
    have HE : Hid (weightsE ws = 3) := by
      show weightsE ws = 3
      unfold weightsE
      rw [if_pos h0]
    clear h0
    go_enter Tryz.func121, Tryz.ntmps121
    go_wp2_with fail
    refine (when_t _ _).mono ?_
    rintro e w' ⟨rfl, rfl⟩
    go_wp2_with fail
    refine (when_f _ _).mono ?_
    rintro e w' ⟨rfl, rfl⟩
    go_wp2_with fail
    refine (firstE_calls _ _ _ [3, 0] (Blk.new _ _ _).row0 (by simp)).mono ?_
    rintro e w2 ⟨rfl, hm2⟩
    rw [show firstErr [3, 0] = 3 from rfl]
    go_wp2_with fail
    go_ret
    exact IntPost.of HE.out (((Mod.refl _ _).alloc _).trans hm2)
  · have d0 : ((ws.length : Int) == 0) = false := by simp; intro h; exact h0 (by rw [h]; rfl)
    by_cases h1 : 20 < ws.length
    · have d1 : decide ((20 : Int) < (ws.length : Int)) = true := by simp; omega
      have d2 : decide (20 < ws.length) = true := by simp; omega
      have HE : Hid (weightsE ws = 2) := by
        show weightsE ws = 2
        unfold weightsE
        rw [if_neg h0, if_pos h1]
      go_enter Tryz.func121, Tryz.ntmps121
      go_wp2_with fail
      refine (when_f _ _).mono ?_
      rintro e w' ⟨rfl, rfl⟩
      go_wp2_with fail
      refine (when_t _ _).mono ?_
      rintro e w' ⟨rfl, rfl⟩
      go_wp2_with fail
      refine (firstE_calls _ _ _ [0, 2] (Blk.new _ _ _).row0 (by simp)).mono ?_
      rintro e w2 ⟨rfl, hm2⟩
      rw [show firstErr [0, 2] = 2 from rfl]
      go_wp2_with fail
      go_ret
      exact IntPost.of HE.out (((Mod.refl _ _).alloc _).trans hm2)
    · have d1 : decide ((20 : Int) < (ws.length : Int)) = false := by simp; omega
      have d2 : decide (20 < ws.length) = false := by simp; omega
      have HA := Lib.hid (weightsE_any h0 (by omega) (ws := ws))
      have HS := Lib.hid (weightsE_sum h0 (by omega) (ws := ws))
      go_enter Tryz.func121, Tryz.ntmps121
      go_wp2_with fail
      refine (when_f _ _).mono ?_
      rintro e w' ⟨rfl, rfl⟩
      go_wp2_with fail
      refine (when_f _ _).mono ?_
      rintro e w' ⟨rfl, rfl⟩
      go_wp2_with fail
      refine (firstE_calls _ _ _ [0, 0] (Blk.new _ _ _).row0 (by simp)).mono ?_
      rintro e w2 ⟨rfl, hm2⟩
      rw [show firstErr [0, 0] = 0 from rfl]
      have m2 : Pure w w2 := ((Mod.refl _ _).alloc _).trans hm2
      clear hm2
      go_wp2_with fail
      go_loopg [4, 22] ws.length (fun gk s i wr => WRel w ws gk s i wr)
      case atStart => exact ⟨0, by omega, by omega, rfl, by simp [sumI], by simp, m2⟩
      case round =>
        clear m2
        obtain ⟨k, rfl, hk, rfl, rfl, hany, hm⟩ := hrel
        have hb := sumI_take_bounds ws k hany
        have HANY := Lib.hid hany
        clear hany
        by_cases hlt : k < ws.length
        · obtain ⟨g, off, rfl, hrow⟩ := HR.out (by omega)
          have hq := (hrow.mod hm id).cell (intsV_get ws k hlt)
          have HT := Lib.hid (sumI_take ws k hlt)
          have HN := Lib.hid (any_take_snoc ws k hlt)
          have HB := Lib.hid (any_of_at ws k hlt)
          clear hrow
          generalize ws[k] = y at *
          generalize sumI (ws.take k) = t0 at *
          go_wp2_with fail
          refine (in_calls _ _ _ _).mono ?_
          rintro e w'' ⟨rfl, rfl⟩
          cases hp : inB y 0 1000
          · go_wp2_with fail
            go_ret
            exact IntPost.of (HA.out (HB.out (by simp [weightB, hp]))) hm
          · have hy := inB_true hp
            go_wp2_with fail
            go_roundg (ws.length - (k + 1))
            case measure => omega
            case rel => exact ⟨k + 1, rfl, hlt, by simp, by rw [HT.out], by rw [HN.out, HANY.out]; simp [weightB, hp], hm⟩
        · have hke : k = ws.length := by omega
          subst hke
          have hall : ws.any weightB = false := by have := HANY.out; rwa [List.take_length] at this
          have HE := Lib.hid (HS.out hall)
          have e1 : sumI (ws.take ws.length) = sumI ws := by rw [List.take_length]
          rw [e1] at hb ⊢
          clear e1 hall
          generalize sumI ws = s0 at *
          by_cases hs : s0 = 0
          · subst hs
            go_wp2_with fail
            refine (when_t _ _).mono ?_
            rintro e w'' ⟨rfl, rfl⟩
            go_wp2_with fail
            go_ret
            exact IntPost.of (by rw [HE.out]; rfl) hm
          · have hs2 : (s0 == 0) = false := by simpa using hs
            go_wp2_with fail
            refine (when_f _ _).mono ?_
            rintro e w'' ⟨rfl, rfl⟩
            go_wp2_with fail
            go_ret
            exact IntPost.of (by rw [HE.out, if_neg hs]) hm

end Go.Proofs.YtdknpekbonmmhaaGreatDoor
