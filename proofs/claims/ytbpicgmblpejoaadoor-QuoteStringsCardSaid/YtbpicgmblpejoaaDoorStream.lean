import Derived.Test.YtbpicgmblpejoaaDoorBase
namespace Go.Proofs.YtbpicgmblpejoaaDoor
set_option linter.unusedVariables false
set_option linter.unusedSimpArgs false
open Go.RowKit

/-- n is from a to b. -/
def inB (n a b : Int) : Bool := decide (a ≤ n ∧ n ≤ b)
theorem inB_true {n a b : Int} (h : inB n a b = true) : a ≤ n ∧ n ≤ b := by simpa [inB] using h
theorem inB_false {n a b : Int} (h : inB n a b = false) : ¬ (a ≤ n ∧ n ≤ b) := by
  intro h2
  unfold inB at h
  rw [decide_eq_true h2] at h
  cases h

set_option maxHeartbeats 400000 in
theorem below_calls (x n : Int) (hn : 1 ≤ n) (hn2 : n ≤ 9223372036854775807) (w : World) :
    Calls Tryd.prog 24 #[.int .i64 x, .int .i64 n] w fun e w' => ∃ k : Int, 0 ≤ k ∧ k < n ∧ e = .returned (.int .i64 k) ∧ w = w' := by
  have h1 : x.tmod n < n := Int.tmod_lt_of_pos x (by omega)
  have h2 : -n < x.tmod n := Int.lt_tmod_of_pos x (by omega)
  generalize hy : x.tmod n = y at h1 h2
  go_enter Tryd.func24, Tryd.ntmps24
  go_wp2
  all_goals go_ret
  all_goals exact ⟨_, by omega, by omega, rfl, rfl⟩

def NextPost (w : World) (b N : Nat) (n : Int) (e : Ending) (w' : World) : Prop :=
  ∃ k : Int, 0 ≤ k ∧ k < n ∧ e = .returned (.int .i64 k) ∧ Strm w' b (N + 1) ∧ Mod (· = b) w w'

set_option maxHeartbeats 400000 in
theorem next_calls (w : World) (b N : Nat) (n : Int) (hS : Strm w b N) (hN : N ≤ 1000000000) (hn : 1 ≤ n) (hn2 : n ≤ 9223372036854775807) :
    Calls Tryd.prog 15 #[.pointer (some ⟨b, 0, none⟩), .int .i64 n] w (NextPost w b N n) := by
  obtain ⟨A, m, c, k, hB, hk, hm, hL⟩ := hS
  have hc0 := hB.cell 0
  have hc1 := hB.cell 1
  have hf0 := hB.frozen 0
  have hf1 := hB.frozen 1
  simp at hc0 hc1
  have fin : ∀ (x : Int) (W : World), 0 ≤ x → x < n → Mod (fun _ => False) (w.setCell ⟨b, 1, none⟩ (.int .i64 (k + 1))) W → NextPost w b N n (.returned (.int .i64 x)) W := by
    intro x W h1 h2 h3
    refine ⟨x, h1, h2, rfl, ?_, ?_⟩
    · have hB2 : Blk (w.setCell ⟨b, 1, none⟩ (.int .i64 (k + 1))) b 25 #[.slice A m c, .int .i64 ((k + 1 : Nat) : Int)] := by
        have := hB.set 1 (.int .i64 (k + 1))
        simpa using this
      have hS2 : Strm (w.setCell ⟨b, 1, none⟩ (.int .i64 (k + 1))) b (N + 1) := by
        refine ⟨A, m, c, k + 1, hB2, by omega, hm, fun hp => ?_⟩
        obtain ⟨g, off, rfl, hg, hc⟩ := hL hp
        refine ⟨g, off, rfl, hg, fun i hi => ?_⟩
        obtain ⟨z, hz⟩ := hc i hi
        exact ⟨z, by rw [World.cell?_setCell_other _ _ _ _ (by intro e; injection e; omega)]; exact hz⟩
      exact hS2.pure h3
    · exact ((Mod.refl (· = b) w).setCell (p := ⟨b, 1, none⟩) (.inl rfl) _).trans' h3 (fun _ x => x.elim)
  have FIN := Lib.hid fin
  clear fin
  by_cases hz : m = 0
  · subst hz
    clear hL
    go_enter Tryd.func15, Tryd.ntmps15
    go_wp2_with fail
    refine (below_calls _ n hn hn2 _).mono ?_
    rintro e w' ⟨x, hx0, hx1, rfl, rfl⟩
    go_wp2_with fail
    go_ret
    exact FIN.out _ _ hx0 hx1 (Mod.refl _ _)
  · obtain ⟨g, off, rfl, hg, hc⟩ := hL (by omega)
    have hm0 : ((m : Int) == 0) = false := by simp; omega
    have hm1 : decide (m = 0) = false := by simp; omega
    obtain ⟨i, hi, hmod⟩ : ∃ i : Nat, i < m ∧ (k : Int) % (m : Int) = (i : Int) := ⟨k % m, Nat.mod_lt _ (by omega), by omega⟩
    have hne : ¬ ((⟨g, off + i, none⟩ : Addr) = ⟨b, 1, none⟩) := by intro e; injection e; omega
    obtain ⟨z, hz⟩ := hc i hi
    clear hc hL
    go_enter Tryd.func15, Tryd.ntmps15
    go_wp2_with fail
    go_quiet (fail)
    go_wp2_with fail
    go_quiet (fail)
    go_wp2_with fail
    refine (below_calls _ _ (by omega) (by omega) _).mono ?_
    rintro e w' ⟨x, hx0, hx1, rfl, rfl⟩
    go_wp2_with fail
    refine (below_calls _ n hn hn2 _).mono ?_
    rintro e w' ⟨y, hy0, hy1, rfl, rfl⟩
    go_wp2_with fail
    go_ret
    exact FIN.out _ _ hy0 hy1 ((Mod.refl _ _).drewN _)

end Go.Proofs.YtbpicgmblpejoaaDoor
