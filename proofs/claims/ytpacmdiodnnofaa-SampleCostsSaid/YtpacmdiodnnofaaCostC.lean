/- Costs: what Cost and Afford answer, case by case. -/
import Derived.Test.YtpacmdiodnnofaaAffordB
namespace Go.Proofs.Ytpacmdiodnnofaa
set_option linter.unusedVariables false
set_option linter.unusedSimpArgs false
open Go.RowKit

theorem costErr_cases (o r s v : Int) : costErr o r s v = 1 ∨ costErr o r s v = 0 := by
  unfold costErr
  split
  · exact .inr rfl
  · exact .inl rfl
def CostSpec (o r s v i a e1 : Int) : Prop :=
  (costErr o r s v = 1 ∧ a = 0 ∧ e1 = 1) ∨ (costErr o r s v = 0 ∧ i < 0 ∧ a = 0 ∧ e1 = 1) ∨ (costErr o r s v = 0 ∧ 0 ≤ i ∧ 1000000 < i ∧ a = 0 ∧ e1 = 1) ∨ (costErr o r s v = 0 ∧ 0 ≤ i ∧ i ≤ 1000000 ∧ a = costV o r s v i ∧ e1 = 0)
def AffSpec (o r s v c a e1 : Int) : Prop :=
  (costErr o r s v = 1 ∧ a = 0 ∧ e1 = 1) ∨ (costErr o r s v = 0 ∧ c < 0 ∧ a = 0 ∧ e1 = 1) ∨ (costErr o r s v = 0 ∧ 0 ≤ c ∧ 10000000000000000 < c ∧ a = 0 ∧ e1 = 1) ∨ (costErr o r s v = 0 ∧ 0 ≤ c ∧ c ≤ 10000000000000000 ∧ c < o ∧ a = 0 ∧ e1 = 16) ∨ (costErr o r s v = 0 ∧ 0 ≤ c ∧ c ≤ 10000000000000000 ∧ o ≤ c ∧ e1 = 0 ∧ Least 1 1000001 (affP o r s v c) (a + 1))
def CostPost (w : World) (o r s v i : Int) (e : Ending) (w' : World) : Prop := ∃ a e1 : Int, CostSpec o r s v i a e1 ∧ e = .returned (.tuple #[.int .i64 a, .int .i64 e1]) ∧ Pure w w'
def AffordPost (w : World) (o r s v c : Int) (e : Ending) (w' : World) : Prop := ∃ a e1 : Int, AffSpec o r s v c a e1 ∧ e = .returned (.tuple #[.int .i64 a, .int .i64 e1]) ∧ Pure w w'
theorem Cost_any (w : World) (o r s v i : Int) : Calls Try.prog 32 #[agg4 o r s v, .int .i64 i] w (CostPost w o r s v i) := by
  rcases costErr_cases o r s v with h | h
  · exact (Cost_err w o r s v i 1 (by simp [firstErr, h]) (by omega)).mono fun e w' hp => ⟨0, 1, .inl ⟨h, rfl, rfl⟩, hp.1, hp.2⟩
  · by_cases h1 : i < 0
    · exact (Cost_err w o r s v i 1 (by simp [firstErr, h, itemErr]; omega) (by omega)).mono fun e w' hp => ⟨0, 1, .inr (.inl ⟨h, h1, rfl, rfl⟩), hp.1, hp.2⟩
    · by_cases h2 : 1000000 < i
      · exact (Cost_err w o r s v i 1 (by simp [firstErr, h, itemErr]; omega) (by omega)).mono fun e w' hp => ⟨0, 1, .inr (.inr (.inl ⟨h, by omega, h2, rfl, rfl⟩)), hp.1, hp.2⟩
      · exact (Cost_ok w o r s v i (costErr_inv h) (by omega)).mono fun e w' hp => ⟨_, 0, .inr (.inr (.inr ⟨h, by omega, by omega, rfl, rfl⟩)), hp.1, hp.2⟩
theorem Afford_any (w : World) (o r s v c : Int) : Calls Try.prog 33 #[agg4 o r s v, .int .i64 c] w (AffordPost w o r s v c) := by
  refine (Afford_calls w o r s v c).mono fun e w' hp => ?_
  obtain ⟨hm, hp⟩ := hp
  rcases hp with ⟨hne, he⟩ | ⟨h0, x, hx, he⟩
  · refine ⟨0, _, ?_, he, hm⟩
    unfold affE at hne ⊢
    rcases costErr_cases o r s v with h | h
    · exact .inl ⟨h, rfl, by simp [firstErr, h]⟩
    · rw [h] at hne ⊢
      by_cases h1 : c < 0
      · refine .inr (.inl ⟨h, h1, rfl, ?_⟩)
        rw [show inB c 0 10000000000000000 = false by unfold inB; rw [decide_eq_false (by omega)]]
        rfl
      · by_cases h2 : 10000000000000000 < c
        · refine .inr (.inr (.inl ⟨h, by omega, h2, rfl, ?_⟩))
          rw [show inB c 0 10000000000000000 = false by unfold inB; rw [decide_eq_false (by omega)]]
          rfl
        · have hi : inB c 0 10000000000000000 = true := by unfold inB; rw [decide_eq_true (by omega)]
          rw [hi] at hne ⊢
          by_cases h3 : c < o
          · refine .inr (.inr (.inr (.inl ⟨h, by omega, by omega, h3, rfl, ?_⟩)))
            rw [decide_eq_true h3]
            rfl
          · rw [decide_eq_false h3] at hne
            exact absurd rfl hne
  · obtain ⟨h1, h2, h3⟩ := affE_zero h0
    refine ⟨x - 1, 0, .inr (.inr (.inr (.inr ⟨costErr_ok h1, h2.1, h2.2, h3, rfl, ?_⟩))), he, hm⟩
    rwa [Int.sub_add_cancel]

def AffOfPost (w : World) (o r s v c : Int) (e : Ending) (w' : World) : Prop := ∃ x : Int, Least 1 1000001 (affP o r s v c) (x + 1) ∧ e = .returned (.tuple #[.int .i64 x, .bool true]) ∧ Pure w w'
theorem AffordOf_ok (w : World) (o r s v c : Int) (h : CostOk o r s v) (hc : o ≤ c) : Calls Try.prog 36 #[agg4 o r s v, .int .i64 c] w (AffOfPost w o r s v c) := by
  refine (AffordOf_calls w o r s v c h).mono fun e w' hp => ?_
  obtain ⟨x, hx, he, hm⟩ := hp
  have hx1 := least_zero hc hx
  have hb : 1 ≤ x := hx1.1
  refine ⟨x - 1, by rwa [Int.sub_add_cancel], ?_, hm⟩
  rw [he, decide_eq_true (by omega)]
  split
  · rfl
  · rw [show (x - 1 : Int) = 0 by omega]
theorem AffordOf_no (w : World) (o r s v c : Int) (h : CostOk o r s v) (hc : c < o) : Calls Try.prog 36 #[agg4 o r s v, .int .i64 c] w (fun e w' => e = .returned (.tuple #[.int .i64 0, .bool false]) ∧ Pure w w') := by
  refine (AffordOf_calls w o r s v c h).mono fun e w' hp => ?_
  obtain ⟨x, hx, he, hm⟩ := hp
  have hx1 := least_none (by omega) hx
  subst hx1
  exact ⟨he, hm⟩

end Go.Proofs.Ytpacmdiodnnofaa
