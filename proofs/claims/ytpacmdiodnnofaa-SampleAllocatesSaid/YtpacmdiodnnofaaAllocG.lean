/- Allocate of package sample. -/
import Derived.Test.YtpacmdiodnnofaaAllocF
namespace Go.Proofs.Ytpacmdiodnnofaa
set_option linter.unusedVariables false
set_option linter.unusedSimpArgs false
open Go.RowKit
attribute [local go_sem ↓] Go.wp_at_zero Go.wp_at_succ

def allocE (zs : List Int) (many : Int) : Int := if zs.any sizeB then 1 else manyErr many
def AllocAny (w : World) (zs : List Int) (many : Int) (e : Ending) (w' : World) : Prop :=
  ∃ v n er, e = .returned (.tuple #[v, .int .i64 er]) ∧ er = allocE zs many ∧ (er ≠ 0 → v = .slice none 0 0) ∧ (er = 0 → ∃ out, AllocSpec zs many out ∧ w'.ownsRow w.heap.size 3 1 v n (intsV out)) ∧ Pure w w'
theorem any_ok {zs : List Int} (h : zs.any sizeB = false) : ∀ z ∈ zs, 0 ≤ z ∧ z ≤ 2000 := by
  intro z hz
  have h1 := List.any_eq_false.1 h z hz
  have h2 : inB z 0 2000 = true := by simpa [sizeB] using h1
  exact inB_true h2
theorem many_ok {n : Int} (h : manyErr n = 0) : 0 ≤ n ∧ n ≤ 2000 := by
  unfold manyErr at h
  split at h
  · assumption
  · cases h

set_option maxRecDepth 100000 in
set_option maxHeartbeats 2000000 in
theorem Allocate_calls (w : World) (v : Value) (zs : List Int) (many : Int) (hv : Sl w 3 1 v (intsV zs)) (hl : zs.length < 20) :
    Calls Try.prog 64 #[v, .int .i64 many] w (AllocAny w zs many) := by
  obtain ⟨A, n, c, rfl⟩ := hv.form
  obtain ⟨hn, hnc, hcc⟩ := hv.len
  rw [show (intsV zs).length = zs.length from by simp [intsV]] at hn
  subst hn
  have HC := Lib.hid (containsFunc0_calls w (.slice A zs.length c) zs 100 sizeB hv (fun _ _ => rfl) (fun n W _ _ => allocate1_calls n W))
  have HV := Lib.hid hv
  clear hv
  go_enter Try.func64, Try.ntmps64
  go_wp2_with fail
  refine HC.out.mono ?_
  rintro e w1 ⟨rfl, hm1⟩
  cases hb : zs.any sizeB
  · have HB := Lib.hid hb
    clear hb
    go_wp2_with fail
    refine (manyError_calls _ _).mono ?_
    rintro e w2 ⟨rfl, hm2⟩
    by_cases h0 : manyErr many = 0
    · have H0 := Lib.hid h0
      have hmo := many_ok h0
      rw [h0]
      clear h0
      have HA := Lib.hid (allocate_calls w2 (.slice A zs.length c) zs many ((HV.out.pure hm1).pure hm2) hl (any_ok HB.out) hmo)
      go_wp2_with fail
      refine HA.out.mono ?_
      rintro e w3 ⟨out, v, n, hsp, rfl, hown, hm3⟩
      go_wp2_with fail
      go_ret2
      exact ⟨v, n, 0, rfl, by unfold allocE; rw [HB.out]; exact H0.out.symm, fun h => absurd rfl h, fun _ => ⟨out, hsp, own_base hown (by have := hm1.size; have := hm2.size; omega)⟩, (hm1.trans hm2).trans hm3⟩
    · have h1 : manyErr many = 1 := by
        unfold manyErr at h0 ⊢
        split at h0
        · exact absurd rfl h0
        · rename_i h
          rw [if_neg h]
      rw [h1]
      have H1 := Lib.hid h1
      clear h0 h1
      go_wp2_with fail
      go_ret2
      exact ⟨_, 0, 1, rfl, by unfold allocE; rw [HB.out]; exact H1.out.symm, fun _ => rfl, (fun h => absurd h (by decide)), hm1.trans hm2⟩
  · have HB := Lib.hid hb
    clear hb
    go_wp2_with fail
    go_ret2
    exact ⟨_, 0, 1, rfl, by unfold allocE; rw [HB.out]; rfl, fun _ => rfl, (fun h => absurd h (by decide)), hm1⟩

end Go.Proofs.Ytpacmdiodnnofaa
