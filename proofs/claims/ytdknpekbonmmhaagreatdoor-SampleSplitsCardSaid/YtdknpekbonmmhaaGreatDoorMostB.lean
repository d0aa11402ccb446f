/- Package sample: Most, Fewest. -/
import Derived.Test.YtdknpekbonmmhaaGreatDoorMost
namespace Go.Proofs.YtdknpekbonmmhaaGreatDoor
set_option linter.unusedVariables false
set_option linter.unusedSimpArgs false
open Go.RowKit
attribute [local go_sem ↓] Go.wp_at_zero Go.wp_at_succ

theorem firstErr_two (a b : Int) : firstErr [a, b] = if a = 0 then b else a := by
  simp only [firstErr]
  by_cases h : a = 0
  · rw [if_pos h, if_pos h]; split <;> omega
  · rw [if_neg h, if_neg h]
theorem firstErr_ok {p s f n d : Int} (h : firstErr [drawnErr p s f, levelErr n d] = 0) : ∃ p' s' f' n' d' : Nat, p = p' ∧ s = s' ∧ f = f' ∧ n = n' ∧ d = d' ∧ DrawnOk p' s' f' n' d' := by
  rw [firstErr_two] at h
  by_cases h1 : drawnErr p s f = 0
  · rw [if_pos h1] at h
    unfold drawnErr at h1
    unfold levelErr at h
    split at h1
    · split at h
      · refine ⟨p.toNat, s.toNat, f.toNat, n.toNat, d.toNat, by omega, by omega, by omega, by omega, by omega, ?_⟩
        unfold DrawnOk
        omega
      · cases h
    · cases h1
  · rw [if_neg h1] at h
    exact absurd h h1

def ErrPost (w : World) (v : Value) (er : Int) (e : Ending) (w' : World) : Prop := e = .returned (.tuple #[v, .int .i64 er]) ∧ Pure w w'

set_option maxRecDepth 100000 in
set_option maxHeartbeats 1000000 in
theorem Most_err (w : World) (p s f n d er : Int) (h : firstErr [drawnErr p s f, levelErr n d] = er) (hne : er ≠ 0) :
    Calls Tryz.prog 125 #[agg3 p s f, agg2 n d] w (ErrPost w (.int .i64 0) er) := by
  have HE := Lib.hid h
  have hb : (er != 0) = true := by simpa using hne
  clear h
  go_enter Tryz.func125, Tryz.ntmps125
  go_wp2_with fail
  refine (drawnError_calls _ _ _ _ _ _).mono ?_
  rintro e w1 ⟨rfl, hm1⟩
  rw [HE.out]
  go_wp2_with fail
  go_ret2
  exact ⟨rfl, (((Mod.refl _ _).alloc _).alloc _).trans hm1⟩

theorem ok_err {p s f num den : Nat} (h : DrawnOk p s f num den) : firstErr [drawnErr p s f, levelErr num den] = 0 := by
  obtain ⟨a1, a2, a3, a4, a5, a6, a7, a8, a9⟩ := h
  rw [firstErr_two]
  unfold drawnErr levelErr
  rw [if_pos (by omega), if_pos (by omega)]

def MostOkPost (w : World) (P : Int → Prop) (e : Ending) (w' : World) : Prop := ∃ x : Int, P x ∧ e = .returned (.tuple #[.int .i64 x, .int .i64 0]) ∧ Pure w w'

set_option maxRecDepth 100000 in
set_option maxHeartbeats 1000000 in
theorem Most_ok (w : World) (p s f num den : Nat) (h : DrawnOk p s f num den) :
    Calls Tryz.prog 125 #[agg3 p s f, agg2 num den] w (MostOkPost w (IsMost p s f num den)) := by
  have HOK := Lib.hid h
  clear h
  go_enter Tryz.func125, Tryz.ntmps125
  go_wp2_with fail
  have hdB := (Blk.new w 163 #[.int .i64 (p : Int), .int .i64 (s : Int), .int .i64 (f : Int)]).alloc (.cells #[.int .i64 (num : Int), .int .i64 (den : Int)] 85)
  have hlB := Blk.new (w.alloc (.cells #[.int .i64 (p : Int), .int .i64 (s : Int), .int .i64 (f : Int)] 163)) 85 #[.int .i64 (num : Int), .int .i64 (den : Int)]
  rw [World.size_alloc] at hlB
  refine (drawnError_calls _ _ _ _ _ _).mono ?_
  rintro e w1 ⟨rfl, hm1⟩
  rw [ok_err HOK.out]
  have h1 := hdB.mod hm1 id
  have h2 := hlB.mod hm1 id
  have q0 := h1.cell 0
  have q1 := h1.cell 1
  have q2 := h1.cell 2
  have l0 := h2.cell 0
  have l1 := h2.cell 1
  simp at q0 q1 q2 l0 l1
  clear hdB hlB h1 h2
  go_wp2_with fail
  refine (most_calls _ p s f num den HOK.out).mono ?_
  rintro e w2 ⟨x, hx, rfl, hm2⟩
  have HX := Lib.hid hx
  clear hx
  go_wp2_with fail
  go_ret2
  exact ⟨x, HX.out, rfl, ((((Mod.refl _ _).alloc _).alloc _).trans hm1).trans hm2⟩

end Go.Proofs.YtdknpekbonmmhaaGreatDoor
