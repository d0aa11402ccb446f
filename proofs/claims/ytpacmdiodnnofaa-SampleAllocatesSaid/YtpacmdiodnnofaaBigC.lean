/- The reference's numbers: cmp. -/
import Derived.Test.YtpacmdiodnnofaaBigP
namespace Go.Proofs.Ytpacmdiodnnofaa
set_option linter.unusedVariables false
set_option linter.unusedSimpArgs false
open Go.RowKit

def signI (n : Int) : Int := if n < 0 then -1 else if 0 < n then 1 else 0
theorem ret_eq {a b : Int} (h : a = b) : Ending.returned (.int .i64 a) = .returned (.int .i64 b) := by rw [h]
set_option maxHeartbeats 400000 in
theorem sign_calls (n : Int) (w : World) : Calls Try.prog 126 #[.int .i64 n] w fun r w' => r = .returned (.int .i64 (signI n)) ∧ w = w' := by
  by_cases h1 : n < 0
  · go_enter Try.func126, Try.ntmps126
    go_wp2
    go_ret
    exact ⟨ret_eq (by unfold signI; rw [if_pos (by omega)]), rfl⟩
  · by_cases h2 : 0 < n
    · go_enter Try.func126, Try.ntmps126
      go_wp2
      go_ret
      exact ⟨ret_eq (by unfold signI; rw [if_neg (by omega), if_pos (by omega)]), rfl⟩
    · go_enter Try.func126, Try.ntmps126
      go_wp2
      go_ret
      exact ⟨ret_eq (by unfold signI; rw [if_neg (by omega), if_neg (by omega)]), rfl⟩

theorem sign_cmp {xs ys : List Nat} {k d1 d2 : Nat} (hx : ∀ d ∈ xs, d < 1000000000) (hy : ∀ d ∈ ys, d < 1000000000) (h : ∀ j, k + 1 ≤ j → xs.getD j 0 = ys.getD j 0) (h1 : xs.getD k 0 = d1) (h2 : ys.getD k 0 = d2) (hne : d1 ≠ d2) :
    cmpI (val B9 xs) (val B9 ys) = signI ((d1 : Int) - (d2 : Int)) := by
  rcases Nat.lt_or_gt_of_ne hne with hlt | hgt
  · rw [cmpI_lt (val_lt_of_digit' B9 (by rw [B9_eq]; omega) xs ys hx k h (by rw [h1, h2]; exact hlt))]
    unfold signI
    rw [if_pos (by omega)]
  · rw [cmpI_gt (val_lt_of_digit' B9 (by rw [B9_eq]; omega) ys xs hy k (fun j hj => (h j hj).symm) (by rw [h1, h2]; exact hgt))]
    unfold signI
    rw [if_neg (by omega), if_pos (by omega)]

set_option maxRecDepth 100000 in
set_option maxHeartbeats 1000000 in
theorem bcmp_calls (w : World) (a b : Value) (x y L : Nat) (hx : IsBig w a x L) (hy : IsBig w b y L) (hL : L ≤ 1000000) :
    Calls Try.prog 118 #[a, b] w (IntPost w (cmpI x y)) := by
  obtain ⟨xs, ⟨A1, n1, c1, rfl, hc1, hc1', hl1, hr1⟩, hd1, rfl, hxl⟩ := hx
  obtain ⟨ys, ⟨A2, n2, c2, rfl, hc2, hc2', hl2, hr2⟩, hd2, rfl, hyl⟩ := hy
  rw [intsN_length, Nat.mul_one] at hl1 hl2
  subst hl1 hl2
  obtain ⟨M, hM⟩ : ∃ M : Nat, (if xs.length < ys.length then (ys.length : Int) else xs.length) = (M : Int) ∧ xs.length ≤ M ∧ ys.length ≤ M ∧ M ≤ L := by
    by_cases h : xs.length < ys.length
    · exact ⟨ys.length, by simp [h], by omega, by omega, by omega⟩
    · exact ⟨xs.length, by simp [h], by omega, by omega, by omega⟩
  obtain ⟨hM, hM1, hM2, hM3⟩ := hM
  have HD1 := Lib.hid hd1
  have HD2 := Lib.hid hd2
  have HR1 := Lib.hid hr1
  have HR2 := Lib.hid hr2
  clear hd1 hd2 hr1 hr2
  go_enter Try.func118, Try.ntmps118
  go_wp2_with fail
  clear hM
  go_loopg [5] M (fun gk i wr => ∃ m : Nat, m = gk ∧ m ≤ M ∧ i = .int .i64 ((m : Int) - 1) ∧ (∀ j, m ≤ j → xs.getD j 0 = ys.getD j 0) ∧ w = wr)
  case atStart =>
    refine ⟨M, rfl, Nat.le_refl _, rfl, fun j hj => ?_, rfl⟩
    rw [getD_ge (by omega), getD_ge (by omega)]
  case round =>
    obtain ⟨m, rfl, hm0, rfl, hz, rfl⟩ := hrel
    have HZ := Lib.hid hz
    clear hz
    rcases m with _ | k
    · go_wp2_with fail
      go_ret
      exact IntPost.of (cmpI_eq (val_eq_of_digits B9 xs ys (fun j => HZ.out j (by omega)))) (Mod.refl _ _)
    · rw [show (((k + 1 : Nat) : Int) - 1) = (k : Int) from by omega]
      have hb1 := getD_lt (B := 1000000000) (by omega) HD1.out k
      have hb2 := getD_lt (B := 1000000000) (by omega) HD2.out k
      have hq1 : k < xs.length → ∃ g off, A1 = some ⟨g, off, none⟩ ∧ w.cell? ⟨g, off + k, none⟩ = some (.int .i64 ((xs.getD k 0 : Nat) : Int)) := by
        intro h
        obtain ⟨g, off, hA, hr⟩ := HR1.out (by omega)
        exact ⟨g, off, hA, hr.cell (intsN_get xs k h)⟩
      have hq2 : k < ys.length → ∃ g off, A2 = some ⟨g, off, none⟩ ∧ w.cell? ⟨g, off + k, none⟩ = some (.int .i64 ((ys.getD k 0 : Nat) : Int)) := by
        intro h
        obtain ⟨g, off, hA, hr⟩ := HR2.out (by omega)
        exact ⟨g, off, hA, hr.cell (intsN_get ys k h)⟩
      have hz1 : xs.length ≤ k → xs.getD k 0 = 0 := fun h => getD_ge h
      have hz2 : ys.length ≤ k → ys.getD k 0 = 0 := fun h => getD_ge h
      obtain ⟨d1, h1⟩ : ∃ d, xs.getD k 0 = d := ⟨_, rfl⟩
      obtain ⟨d2, h2⟩ : ∃ d, ys.getD k 0 = d := ⟨_, rfl⟩
      rw [h1] at hb1 hq1 hz1
      rw [h2] at hb2 hq2 hz2
      have HA := Lib.hid h1
      have HB := Lib.hid h2
      clear h1 h2
      have eqs : d1 = d2 → ∀ j, k ≤ j → xs.getD j 0 = ys.getD j 0 := by
        intro e j hj
        by_cases e2 : j = k
        · subst e2; rw [HA.out, HB.out, e]
        · exact HZ.out j (by omega)
      have nes : d1 ≠ d2 → cmpI (val B9 xs) (val B9 ys) = signI ((d1 : Int) - (d2 : Int)) := fun hne => sign_cmp HD1.out HD2.out HZ.out HA.out HB.out hne
      have EQS := Lib.hid eqs
      have NES := Lib.hid nes
      clear eqs nes
      by_cases he : d1 = d2
      · have hne : ((d1 : Int) != (d2 : Int)) = false := by simp [he]
        have HE := Lib.hid he
        clear he
        by_cases h1 : k < xs.length
        · obtain ⟨g1, o1, rfl, hc1⟩ := hq1 h1
          by_cases h2 : k < ys.length
          · obtain ⟨g2, o2, rfl, hc2⟩ := hq2 h2
            clear hq1 hq2
            go_wp2_with fail
            go_roundg k
            case measure => omega
            case rel => exact ⟨k, rfl, by omega, rfl, EQS.out HE.out, rfl⟩
          · have e2 := hz2 (by omega)
            subst e2
            clear hq1 hq2
            go_wp2_with fail
            go_roundg k
            case measure => omega
            case rel => exact ⟨k, rfl, by omega, rfl, EQS.out HE.out, rfl⟩
        · have e1 := hz1 (by omega)
          subst e1
          by_cases h2 : k < ys.length
          · obtain ⟨g2, o2, rfl, hc2⟩ := hq2 h2
            clear hq1 hq2
            go_wp2_with fail
            go_roundg k
            case measure => omega
            case rel => exact ⟨k, rfl, by omega, rfl, EQS.out HE.out, rfl⟩
          · have e2 := hz2 (by omega)
            subst e2
            clear hq1 hq2
            go_wp2_with fail
            go_roundg k
            case measure => omega
            case rel => exact ⟨k, rfl, by omega, rfl, EQS.out HE.out, rfl⟩
      · have hne : ((d1 : Int) != (d2 : Int)) = true := by simp; omega
        have hen := NES.out he
        have HE := Lib.hid hen
        clear he hen
        by_cases h1 : k < xs.length
        · obtain ⟨g1, o1, rfl, hc1⟩ := hq1 h1
          by_cases h2 : k < ys.length
          · obtain ⟨g2, o2, rfl, hc2⟩ := hq2 h2
            clear hq1 hq2
            go_wp2_with fail
            refine (sign_calls _ _).mono ?_
            rintro e w' ⟨rfl, rfl⟩
            go_wp2_with fail
            go_ret
            exact IntPost.of HE.out (Mod.refl _ _)
          · have e2 := hz2 (by omega)
            subst e2
            clear hq1 hq2
            go_wp2_with fail
            refine (sign_calls _ _).mono ?_
            rintro e w' ⟨rfl, rfl⟩
            go_wp2_with fail
            go_ret
            exact IntPost.of (by rw [HE.out]; simp) (Mod.refl _ _)
        · have e1 := hz1 (by omega)
          subst e1
          by_cases h2 : k < ys.length
          · obtain ⟨g2, o2, rfl, hc2⟩ := hq2 h2
            clear hq1 hq2
            go_wp2_with fail
            refine (sign_calls _ _).mono ?_
            rintro e w' ⟨rfl, rfl⟩
            go_wp2_with fail
            go_ret
            exact IntPost.of (by rw [HE.out]; simp) (Mod.refl _ _)
          · have e2 := hz2 (by omega)
            subst e2
            simp at hne

end Go.Proofs.Ytpacmdiodnnofaa
