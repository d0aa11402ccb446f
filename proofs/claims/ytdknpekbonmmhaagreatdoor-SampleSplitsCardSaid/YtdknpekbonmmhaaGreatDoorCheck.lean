/- Small functions of base and sample: errors. -/
import Derived.Test.YtdknpekbonmmhaaGreatDoorStream
import Derived.Test.YtdknpekbonmmhaaGreatDoorFirst
import Derived.Deep.RegionHeld3
import Derived.Deep.DeepCutAuto
import Derived.Deep.DrawnRows
namespace Go.Proofs.YtdknpekbonmmhaaGreatDoor
set_option linter.unusedVariables false
set_option linter.unusedSimpArgs false
open Go.RowKit
attribute [local go_sem ↓] Go.wp_at_zero Go.wp_at_succ

set_option maxHeartbeats 400000 in
theorem when_t (e : Int) (w : World) : Calls Tryz.prog 85 #[.bool true, .int .i64 e] w fun r w' => r = .returned (.int .i64 e) ∧ w = w' := by
  go_enter Tryz.func85, Tryz.ntmps85
  go_wp2
  go_ret
  exact ⟨rfl, rfl⟩
set_option maxHeartbeats 400000 in
theorem when_f (e : Int) (w : World) : Calls Tryz.prog 85 #[.bool false, .int .i64 e] w fun r w' => r = .returned (.int .i64 0) ∧ w = w' := by
  go_enter Tryz.func85, Tryz.ntmps85
  go_wp2
  go_ret
  exact ⟨rfl, rfl⟩

/-- The first error of several. -/
def firstErr : List Int → Int
  | [] => 0
  | e :: l => if e = 0 then firstErr l else e

set_option maxRecDepth 100000 in
set_option maxHeartbeats 400000 in
theorem firstE_calls (w : World) (g c : Nat) (es : List Int) (hb : RowAt w 41 g 0 (es.map (Value.int .i64))) (hl : es.length ≤ 1000) :
    Calls Tryz.prog 84 #[.slice (some ⟨g, 0, none⟩) es.length c] w (IntPost w (firstErr es)) := by
  go_enter Tryz.func84, Tryz.ntmps84
  go_wp2_with fail
  go_loopg [7] es.length (fun gk i wr => ∃ k : Nat, es.length - k = gk ∧ k ≤ es.length ∧ i = .int .i64 (k : Int) ∧ firstErr (es.drop k) = firstErr es ∧ w = wr)
  case atStart => exact ⟨0, by omega, by omega, rfl, rfl, rfl⟩
  case round =>
    obtain ⟨k, rfl, hk, rfl, hf, rfl⟩ := hrel
    have HF := Lib.hid hf
    clear hf
    by_cases hlt : k < es.length
    · have hc := hb.cell (i := k) (u := .int .i64 es[k]) (by simp [hlt])
      rw [Nat.zero_add] at hc
      have hd : es.drop k = es[k] :: es.drop (k + 1) := List.drop_eq_getElem_cons hlt
      have hf2 : firstErr es = if es[k] = 0 then firstErr (es.drop (k + 1)) else es[k] := by rw [← HF.out, hd]; rfl
      have HF2 := Lib.hid hf2
      clear hd hf2
      generalize es[k] = x at *
      by_cases hx : x = 0
      · subst hx
        go_wp2_with fail
        go_roundg (es.length - (k + 1))
        case measure => omega
        case rel => exact ⟨k + 1, rfl, hlt, by simp, by rw [HF2.out]; simp, rfl⟩
      · have hx2 : (x != 0) = true := by simpa using hx
        go_wp2_with fail
        go_ret
        exact IntPost.of (by rw [HF2.out, if_neg hx]) (Mod.refl _ _)
    · have hke : k = es.length := by omega
      subst hke
      go_wp2_with fail
      go_ret
      exact IntPost.of (by rw [← HF.out]; simp [firstErr]) (Mod.refl _ _)

def levelErr (n d : Int) : Int := if 2 ≤ d ∧ d ≤ 1000 ∧ 1 ≤ n ∧ n ≤ d - 1 then 0 else 1
def drawnErr (p s f : Int) : Int := if (1 ≤ p ∧ p ≤ 2000) ∧ (1 ≤ s ∧ s ≤ 60 ∧ s ≤ p) ∧ 0 ≤ f ∧ f ≤ s then 0 else 1

set_option maxRecDepth 100000 in
set_option maxHeartbeats 400000 in
theorem checkLevel_calls (w : World) (n d : Int) :
    Calls Tryz.prog 270 #[.agg #[.int .i64 n, .int .i64 d]] w (IntPost w (levelErr n d)) := by
  go_enter Tryz.func270, Tryz.ntmps270
  go_wp2_with fail
  refine (in_calls _ _ _ _).mono ?_
  rintro e w' ⟨rfl, rfl⟩
  cases h1 : inB d 2 1000
  · go_wp2_with fail
    refine (when_t _ _).mono ?_
    rintro e w' ⟨rfl, rfl⟩
    go_wp2_with fail
    go_ret
    refine IntPost.of ?_ ((Mod.refl _ _).alloc _)
    unfold levelErr
    have := inB_false h1
    rw [if_neg (by omega)]
  · have h1' := inB_true h1
    obtain ⟨h2, h3⟩ := h1'
    clear h1
    go_wp2_with fail
    refine (in_calls _ _ _ _).mono ?_
    rintro e w' ⟨rfl, rfl⟩
    cases h4 : inB n 1 (d - 1)
    · go_wp2_with fail
      refine (when_t _ _).mono ?_
      rintro e w' ⟨rfl, rfl⟩
      go_wp2_with fail
      go_ret
      refine IntPost.of ?_ ((Mod.refl _ _).alloc _)
      unfold levelErr
      have := inB_false h4
      rw [if_neg (by omega)]
    · go_wp2_with fail
      refine (when_f _ _).mono ?_
      rintro e w' ⟨rfl, rfl⟩
      go_wp2_with fail
      go_ret
      refine IntPost.of ?_ ((Mod.refl _ _).alloc _)
      unfold levelErr
      have := inB_true h4
      rw [if_pos (by omega)]

set_option maxRecDepth 100000 in
set_option maxHeartbeats 400000 in
theorem checkDrawn_calls (w : World) (p s f : Int) :
    Calls Tryz.prog 269 #[.agg #[.int .i64 p, .int .i64 s, .int .i64 f]] w (IntPost w (drawnErr p s f)) := by
  obtain ⟨m, hm⟩ : ∃ m, (if p < 60 then p else 60) = m := ⟨_, rfl⟩
  have hm2 : ∀ x, x ≤ m ↔ x ≤ 60 ∧ x ≤ p := by intro x; rw [← hm]; split <;> omega
  have HM2 := Lib.hid hm2
  clear hm2
  go_enter Tryz.func269, Tryz.ntmps269
  go_wp2_with fail
  refine (in_calls _ _ _ _).mono ?_
  rintro e w' ⟨rfl, rfl⟩
  cases h1 : inB p 1 2000
  · go_wp2_with fail
    refine (when_t _ _).mono ?_
    rintro e w' ⟨rfl, rfl⟩
    go_wp2_with fail
    go_ret
    refine IntPost.of ?_ ((Mod.refl _ _).alloc _)
    unfold drawnErr
    have := inB_false h1
    rw [if_neg (by omega)]
  · have h1' := inB_true h1
    obtain ⟨h2, h3⟩ := h1'
    clear h1
    go_wp2_with fail
    refine (in_calls _ _ _ _).mono ?_
    rintro e w' ⟨rfl, rfl⟩
    cases h4 : inB s 1 m
    · go_wp2_with fail
      refine (when_t _ _).mono ?_
      rintro e w' ⟨rfl, rfl⟩
      go_wp2_with fail
      go_ret
      refine IntPost.of ?_ ((Mod.refl _ _).alloc _)
      unfold drawnErr
      have := inB_false h4
      have := HM2.out s
      rw [if_neg (by omega)]
    · have h4' := inB_true h4
      obtain ⟨h5, h6⟩ := h4'
      clear h4
      go_wp2_with fail
      refine (in_calls _ _ _ _).mono ?_
      rintro e w' ⟨rfl, rfl⟩
      cases h7 : inB f 0 s
      · go_wp2_with fail
        refine (when_t _ _).mono ?_
        rintro e w' ⟨rfl, rfl⟩
        go_wp2_with fail
        go_ret
        refine IntPost.of ?_ ((Mod.refl _ _).alloc _)
        unfold drawnErr
        have := inB_false h7
        rw [if_neg (by omega)]
      · go_wp2_with fail
        refine (when_f _ _).mono ?_
        rintro e w' ⟨rfl, rfl⟩
        go_wp2_with fail
        go_ret
        refine IntPost.of ?_ ((Mod.refl _ _).alloc _)
        unfold drawnErr
        have := inB_true h7
        have := HM2.out s
        rw [if_pos (by omega)]

end Go.Proofs.YtdknpekbonmmhaaGreatDoor
