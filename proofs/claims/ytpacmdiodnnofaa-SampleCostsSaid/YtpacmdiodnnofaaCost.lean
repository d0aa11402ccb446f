/- Costs: package sample's and the reference's. -/
import Derived.Test.YtpacmdiodnnofaaIdx
import Derived.Test.YtpacmdiodnnofaaRCheck
import Derived.Test.YtpacmdiodnnofaaDrawn
namespace Go.Proofs.Ytpacmdiodnnofaa
set_option linter.unusedVariables false
set_option linter.unusedSimpArgs false
open Go.RowKit
attribute [local go_sem ↓] Go.wp_at_zero Go.wp_at_succ

abbrev agg4 (a b c d : Int) : Value := .agg #[.int .i64 a, .int .i64 b, .int .i64 c, .int .i64 d]
/-- What rules of cost must be. -/
def CostOk (o r s v : Int) : Prop := (0 ≤ o ∧ o ≤ 1000000000) ∧ (0 ≤ r ∧ r ≤ 1000000000) ∧ (0 ≤ s ∧ s ≤ 1000000000) ∧ 0 ≤ v ∧ v ≤ 1000000
instance (o r s v : Int) : Decidable (CostOk o r s v) := by unfold CostOk; exact inferInstance
def costErr (o r s v : Int) : Int := if (0 ≤ o ∧ o ≤ 1000000000) ∧ (0 ≤ r ∧ r ≤ 1000000000) ∧ (0 ≤ s ∧ s ≤ 1000000000) ∧ 0 ≤ v ∧ v ≤ 1000000 then 0 else 1
def costV (o r s v i : Int) : Int := o + i * r + if 0 < v then i / v * s else 0

set_option maxRecDepth 100000 in
set_option maxHeartbeats 1000000 in
theorem costError_calls (w : World) (o r s v : Int) :
    Calls Try.prog 81 #[agg4 o r s v] w (IntPost w (costErr o r s v)) := by
  go_enter Try.func81, Try.ntmps81
  go_wp2_with fail
  refine (in_calls _ _ _ _).mono ?_
  rintro e w' ⟨rfl, rfl⟩
  cases h0 : inB o 0 1000000000
  · go_wp2_with fail
    refine (when_t _ _).mono ?_
    rintro e w' ⟨rfl, rfl⟩
    go_wp2_with fail
    go_ret
    refine IntPost.of ?_ ((Mod.refl _ _).alloc _)
    unfold costErr
    have := inB_false h0
    rw [if_neg (by omega)]
  · obtain ⟨a0, b0⟩ := inB_true h0
    clear h0
    go_wp2_with fail
    refine (in_calls _ _ _ _).mono ?_
    rintro e w' ⟨rfl, rfl⟩
    cases h1 : inB r 0 1000000000
    · go_wp2_with fail
      refine (when_t _ _).mono ?_
      rintro e w' ⟨rfl, rfl⟩
      go_wp2_with fail
      go_ret
      refine IntPost.of ?_ ((Mod.refl _ _).alloc _)
      unfold costErr
      have := inB_false h1
      rw [if_neg (by omega)]
    · obtain ⟨a1, b1⟩ := inB_true h1
      clear h1
      go_wp2_with fail
      refine (in_calls _ _ _ _).mono ?_
      rintro e w' ⟨rfl, rfl⟩
      cases h2 : inB s 0 1000000000
      · go_wp2_with fail
        refine (when_t _ _).mono ?_
        rintro e w' ⟨rfl, rfl⟩
        go_wp2_with fail
        go_ret
        refine IntPost.of ?_ ((Mod.refl _ _).alloc _)
        unfold costErr
        have := inB_false h2
        rw [if_neg (by omega)]
      · obtain ⟨a2, b2⟩ := inB_true h2
        clear h2
        go_wp2_with fail
        refine (in_calls _ _ _ _).mono ?_
        rintro e w' ⟨rfl, rfl⟩
        cases h3 : inB v 0 1000000
        · go_wp2_with fail
          refine (when_t _ _).mono ?_
          rintro e w' ⟨rfl, rfl⟩
          go_wp2_with fail
          go_ret
          refine IntPost.of ?_ ((Mod.refl _ _).alloc _)
          unfold costErr
          have := inB_false h3
          rw [if_neg (by omega)]
        · go_wp2_with fail
          refine (when_f _ _).mono ?_
          rintro e w' ⟨rfl, rfl⟩
          go_wp2_with fail
          go_ret
          refine IntPost.of ?_ ((Mod.refl _ _).alloc _)
          unfold costErr
          have := inB_true h3
          rw [if_pos (by omega)]

theorem cost_bounds {o r s v i : Int} (h : CostOk o r s v) (hi : 0 ≤ i ∧ i ≤ 1000000) : (0 ≤ i * r ∧ i * r ≤ 1000000000000000) ∧ (0 ≤ i / v ∧ i / v ≤ 1000000) ∧ (0 ≤ i / v * s ∧ i / v * s ≤ 1000000000000000) := by
  obtain ⟨⟨o1, o2⟩, ⟨r1, r2⟩, ⟨s1, s2⟩, v1, v2⟩ := h
  have a1 : 0 ≤ i * r := Int.mul_nonneg hi.1 r1
  have a2 : i * r ≤ 1000000 * 1000000000 := Int.mul_le_mul hi.2 r2 r1 (by omega)
  have d1 : 0 ≤ i / v := Int.ediv_nonneg hi.1 v1
  have d2 : i / v ≤ i := Int.ediv_le_self v hi.1
  have b1 : 0 ≤ i / v * s := Int.mul_nonneg d1 s1
  have b2 : i / v * s ≤ 1000000 * 1000000000 := Int.mul_le_mul (by omega) s2 s1 (by omega)
  omega

set_option maxRecDepth 100000 in
set_option maxHeartbeats 1000000 in
theorem cost_calls (w : World) (o r s v i : Int) (h : CostOk o r s v) (hi : 0 ≤ i ∧ i ≤ 1000000) :
    Calls Try.prog 83 #[agg4 o r s v, .int .i64 i] w (IntPost w (costV o r s v i)) := by
  obtain ⟨⟨p1, p2⟩, ⟨d1, d2⟩, m1, m2⟩ := cost_bounds h hi
  obtain ⟨⟨o1, o2⟩, ⟨r1, r2⟩, ⟨s1, s2⟩, v1, v2⟩ := h
  obtain ⟨p, hp⟩ : ∃ p, i * r = p := ⟨_, rfl⟩
  rw [hp] at p1 p2
  by_cases hv : 0 < v
  · have hval : costV o r s v i = o + p + i / v * s := by unfold costV; rw [if_pos hv, hp]
    have HV := Lib.hid hval
    have hvz : (v == 0) = false := by simp; omega
    have tq : i.tdiv v = i / v := Int.tdiv_eq_ediv_of_nonneg hi.1
    obtain ⟨q, hq⟩ : ∃ q, i / v = q := ⟨_, rfl⟩
    rw [hq] at d1 d2 m1 m2 tq HV
    obtain ⟨x, hx⟩ : ∃ x, q * s = x := ⟨_, rfl⟩
    rw [hx] at m1 m2 HV
    have e1 : IntKind.i64.wrap q = q := IntWalk.i64_in _ (by omega)
    have e2 : IntKind.i64.wrap x = x := IntWalk.i64_in _ (by omega)
    have e3 : IntKind.i64.wrap (o + p + x) = o + p + x := IntWalk.i64_in _ (by omega)
    clear hval hq
    go_enter Try.func83, Try.ntmps83
    go_wp2_with fail
    go_quiet (fail)
    go_wp2_with fail
    go_ret
    exact IntPost.of HV.out (((Mod.refl _ _).alloc _).drewN _)
  · have hval : costV o r s v i = o + p := by unfold costV; rw [if_neg hv, hp]; omega
    have HV := Lib.hid hval
    clear hval
    go_enter Try.func83, Try.ntmps83
    go_wp2_with fail
    go_ret
    exact IntPost.of HV.out ((Mod.refl _ _).alloc _)

set_option maxRecDepth 100000 in
set_option maxHeartbeats 1000000 in
theorem CostOf_calls (w : World) (o r s v i : Int) (h : CostOk o r s v) (hi : 0 ≤ i ∧ i ≤ 1000000) :
    Calls Try.prog 35 #[agg4 o r s v, .int .i64 i] w (IntPost w (costV o r s v i)) := by
  obtain ⟨⟨p1, p2⟩, ⟨d1, d2⟩, m1, m2⟩ := cost_bounds h hi
  obtain ⟨⟨o1, o2⟩, ⟨r1, r2⟩, ⟨s1, s2⟩, v1, v2⟩ := h
  obtain ⟨p, hp⟩ : ∃ p, i * r = p := ⟨_, rfl⟩
  rw [hp] at p1 p2
  by_cases hv : 0 < v
  · have hval : costV o r s v i = o + p + i / v * s := by unfold costV; rw [if_pos hv, hp]
    have HV := Lib.hid hval
    have hvz : (v == 0) = false := by simp; omega
    have tq : i.tdiv v = i / v := Int.tdiv_eq_ediv_of_nonneg hi.1
    obtain ⟨q, hq⟩ : ∃ q, i / v = q := ⟨_, rfl⟩
    rw [hq] at d1 d2 m1 m2 tq HV
    obtain ⟨x, hx⟩ : ∃ x, q * s = x := ⟨_, rfl⟩
    rw [hx] at m1 m2 HV
    have e1 : IntKind.i64.wrap q = q := IntWalk.i64_in _ (by omega)
    have e2 : IntKind.i64.wrap x = x := IntWalk.i64_in _ (by omega)
    have e3 : IntKind.i64.wrap (o + p + x) = o + p + x := IntWalk.i64_in _ (by omega)
    clear hval hq
    go_enter Try.func35, Try.ntmps35
    go_wp2_with fail
    go_quiet (fail)
    go_wp2_with fail
    go_ret
    exact IntPost.of HV.out (((Mod.refl _ _).alloc _).drewN _)
  · have hval : costV o r s v i = o + p := by unfold costV; rw [if_neg hv, hp]; omega
    have HV := Lib.hid hval
    clear hval
    go_enter Try.func35, Try.ntmps35
    go_wp2_with fail
    go_ret
    exact IntPost.of HV.out ((Mod.refl _ _).alloc _)

end Go.Proofs.Ytpacmdiodnnofaa
