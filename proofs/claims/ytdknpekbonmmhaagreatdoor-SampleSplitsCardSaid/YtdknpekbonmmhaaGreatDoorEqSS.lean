/- slices.Equal over strings, slices.EqualFunc over lists of them: the same lists. -/
import Derived.Test.YtdknpekbonmmhaaGreatDoorSplit
namespace Go.Proofs.YtdknpekbonmmhaaGreatDoor
set_option linter.unusedVariables false
set_option linter.unusedSimpArgs false
open Go.RowKit

set_option maxRecDepth 100000 in
set_option maxHeartbeats 2000000 in
theorem equalStrs_calls (w : World) (v1 v2 : Value) (xs : List Str) (h1 : Sl w 9 1 v1 (strsV xs)) (h2 : Sl w 9 1 v2 (strsV xs)) : Calls Tryz.prog 44 #[v1, v2] w (BoolPost w true) := by
  obtain ⟨A1, n1, c1, rfl, a1, a2, a3, a4⟩ := h1
  obtain ⟨A2, n2, c2, rfl, b1, b2, b3, b4⟩ := h2
  have hn1 : xs.length = n1 := by simpa [strsV] using a3
  have hn2 : xs.length = n2 := by simpa [strsV] using b3
  subst hn1
  subst hn2
  have HA := Lib.hid a4
  have HB := Lib.hid b4
  have hne : ((xs.length : Int) != (xs.length : Int)) = false := by simp
  clear a3 b3 a4 b4
  go_enter Tryz.func44, Tryz.ntmps44
  go_wp2_with fail
  go_loopg [13] xs.length (fun gk i wr => ∃ k : Nat, xs.length - k = gk ∧ k ≤ xs.length ∧ i = .int .i64 (k : Int) ∧ Pure w wr)
  case atStart => exact ⟨0, by omega, by omega, rfl, Mod.refl _ _⟩
  case round =>
    obtain ⟨k, rfl, hk, rfl, hm⟩ := hrel
    by_cases hlt : k < xs.length
    · obtain ⟨g1, o1, rfl, r1⟩ := HA.out (by omega)
      obtain ⟨g2, o2, rfl, r2⟩ := HB.out (by omega)
      have q1 := (r1.mod hm id).cell (strsV_get xs k hlt)
      have q2 := (r2.mod hm id).cell (strsV_get xs k hlt)
      have t1 : (xs[k] != xs[k]) = false := by simp
      have i1 : (0 : Int) ≤ (k : Int) := by omega
      have i2 : (k : Int) < (xs.length : Int) := by omega
      clear r1 r2
      generalize xs[k] = x at *
      go_wp2_with fail
      go_quiet (fail)
      go_wp2_with fail
      go_roundg (xs.length - (k + 1))
      case measure => omega
      case rel => exact ⟨k + 1, rfl, by omega, by simp, hm.drewN _⟩
    · have hke : k = xs.length := by omega
      subst hke
      go_wp2_with fail
      go_ret
      exact BoolPost.of rfl hm

theorem SlSS.at {w : World} {A : Option Addr} {n c : Nat} {xss : List (List Str)} (h : SlSS w (.slice A n c) xss) {k : Nat} (hk : k < xss.length) :
    ∃ g off B m d, A = some ⟨g, off, none⟩ ∧ w.cell? ⟨g, off + k, none⟩ = some (.slice B m d) ∧ Sl w 9 1 (.slice B m d) (strsV (xss.getD k [])) := by
  obtain ⟨us, h1, h2, h3⟩ := h
  have hs := h3 k (by omega)
  obtain ⟨B, m, d, hu⟩ := hs.form
  obtain ⟨A', n', c', hf, _, _, hl, hr⟩ := h1
  injection hf with e1 e2 e3
  subst e1 e2 e3
  obtain ⟨g, off, rfl, hrow⟩ := hr (by omega)
  refine ⟨g, off, B, m, d, rfl, ?_, by rw [← hu]; exact hs⟩
  have := hrow.cell (i := k) (u := us.getD k nilS) (by simp [List.getD, show k < us.length by omega])
  rw [this, hu]
theorem SlSS.lens {w : World} {A : Option Addr} {n c : Nat} {xss : List (List Str)} (h : SlSS w (.slice A n c) xss) : xss.length = n ∧ n ≤ 9223372036854775807 := by
  obtain ⟨us, ⟨A', n', c', hf, h4, h5, h6, _⟩, h2, h3⟩ := h
  injection hf with e1 e2 e3
  omega
theorem SlSS.form {w : World} {v : Value} {xss : List (List Str)} (h : SlSS w v xss) : ∃ A n c, v = .slice A n c := by
  obtain ⟨us, ⟨A', n', c', hf, _⟩, _⟩ := h
  exact ⟨A', n', c', hf⟩

set_option maxRecDepth 100000 in
set_option maxHeartbeats 2000000 in
theorem equalSS_calls (w : World) (v1 v2 : Value) (xss : List (List Str)) (h1 : SlSS w v1 xss) (h2 : SlSS w v2 xss) :
    Calls Tryz.prog 42 #[v1, v2, .func (.func 44) #[] #[]] w (BoolPost w true) := by
  obtain ⟨A1, n1, c1, rfl⟩ := h1.form
  obtain ⟨A2, n2, c2, rfl⟩ := h2.form
  obtain ⟨hn1, hb1⟩ := h1.lens
  obtain ⟨hn2, hb2⟩ := h2.lens
  subst hn1
  subst hn2
  have H1 := Lib.hid h1
  have H2 := Lib.hid h2
  have hne : ((xss.length : Int) != (xss.length : Int)) = false := by simp
  have hcf : ∀ (x y : Value) (W : World), Sem.run Tryz.prog (callFunc 44 #[x, y]) W = .ok (.enter 44 #[x, y]) W := fun _ _ _ => rfl
  clear h1 h2
  go_enter Tryz.func42, Tryz.ntmps42
  go_wp2_with fail
  go_loopg [17] xss.length (fun gk i wr => ∃ k : Nat, xss.length - k = gk ∧ k ≤ xss.length ∧ i = .int .i64 (k : Int) ∧ Pure w wr)
  case atStart => exact ⟨0, by omega, by omega, rfl, Mod.refl _ _⟩
  case round =>
    obtain ⟨k, rfl, hk, rfl, hm⟩ := hrel
    by_cases hlt : k < xss.length
    · obtain ⟨g1, o1, B1, m1, d1, rfl, q1, s1⟩ := (H1.out.pure hm).at hlt
      obtain ⟨g2, o2, B2, m2, d2, rfl, q2, s2⟩ := (H2.out.pure hm).at hlt
      have HS := Lib.hid (equalStrs_calls wr _ _ _ s1 s2)
      have i1 : (0 : Int) ≤ (k : Int) := by omega
      have i2 : (k : Int) < (xss.length : Int) := by omega
      clear s1 s2
      go_wp2_with fail
      refine HS.out.mono ?_
      rintro e w1 ⟨rfl, hm1⟩
      go_wp2_with fail
      go_roundg (xss.length - (k + 1))
      case measure => omega
      case rel => exact ⟨k + 1, rfl, by omega, by simp, hm.trans hm1⟩
    · have hke : k = xss.length := by omega
      subst hke
      go_wp2_with fail
      go_ret
      exact BoolPost.of rfl hm

end Go.Proofs.YtdknpekbonmmhaaGreatDoor
