/- Gains, Area, Knee; slices.Equal over numbers. -/
import Derived.Test.YtpacmdiodnnofaaBoolG
import Derived.Test.YtpacmdiodnnofaaLowest
namespace Go.Proofs.Ytpacmdiodnnofaa
set_option linter.unusedVariables false
set_option linter.unusedSimpArgs false
open Go.RowKit
attribute [local go_sem ↓] Go.wp_at_zero Go.wp_at_succ

theorem Sl.len {w : World} {e : TypeId} {A : Option Addr} {n c : Nat} {xs : List Value} (h : Sl w e 1 (.slice A n c) xs) : n = xs.length ∧ n ≤ c ∧ c ≤ 9223372036854775807 := by
  obtain ⟨A', n', c', he, h1, h2, h3, _⟩ := h
  injection he with _ h4 h5
  omega
theorem Sl.row {w : World} {e : TypeId} {A : Option Addr} {n c size : Nat} {xs : List Value} (h : Sl w e size (.slice A n c) xs) (hn : 0 < n) : ∃ g off, A = some ⟨g, off, none⟩ ∧ RowAt w e g off xs := by
  obtain ⟨A', n', c', he, h1, h2, h3, h4⟩ := h
  injection he with h5 h6 h7
  subst h5 h6
  exact h4 hn
theorem own_len {w : World} {base n : Nat} {e : TypeId} {v : Value} {xs : List Value} (h : w.ownsRow base e 1 v n xs) : n = xs.length := by
  have := h.1
  omega

def GainsPost (w : World) (bs : List Bool) (e : Ending) (w' : World) : Prop :=
  (bs.length ≤ 2000 ∧ ∃ v, e = .returned (.tuple #[v, .int .i64 0]) ∧ w'.ownsRow w.heap.size 3 1 v bs.length (intsV (gainsL bs bs.length)) ∧ Pure w w') ∨ (2000 < bs.length ∧ e = .returned (.tuple #[.slice none 0 0, .int .i64 2]) ∧ Pure w w')
set_option maxRecDepth 100000 in
set_option maxHeartbeats 1000000 in
theorem Gains_calls (w : World) (v : Value) (bs : List Bool) (hv : Sl w 4 1 v (boolsV bs)) (hl : bs.length ≤ 1000000) : Calls Try.prog 52 #[v] w (GainsPost w bs) := by
  obtain ⟨A, m, c, rfl⟩ := hv.form
  obtain ⟨hm, hmc, hcc⟩ := hv.len
  rw [boolsV_len] at hm
  subst hm
  go_enter Try.func52, Try.ntmps52
  go_wp2_with fail
  refine (readError_calls _ _ _ _ (by omega)).mono ?_
  rintro e w1 ⟨rfl, hm1⟩
  have hv1 := hv.pure hm1
  by_cases h : bs.length ≤ 2000
  · rw [show readErr (bs.length : Int) = 0 from if_pos (by omega)]
    go_wp2_with fail
    refine (gains_calls _ _ bs hv1 hl).mono ?_
    rintro e w2 ⟨v2, n2, rfl, hown, hm2⟩
    have hn2 := own_len hown
    simp only [intsV, List.length_map, gainsL_len] at hn2
    subst hn2
    go_wp2_with fail
    go_ret2
    refine .inl ⟨h, _, rfl, ?_, hm1.trans hm2⟩
    obtain ⟨h1, h2⟩ := hown
    refine ⟨h1, ?_⟩
    rcases h2 with h2 | ⟨g, cap, cur, hvv, hg, r⟩
    · exact .inl h2
    · exact .inr ⟨g, cap, cur, hvv, Nat.le_trans hm1.size hg, r⟩
  · rw [show readErr (bs.length : Int) = 2 from if_neg (by omega)]
    go_wp2_with fail
    go_ret2
    exact .inr ⟨by omega, rfl, hm1⟩

def sumL : List Int → Int := fun l => l.foldl (· + ·) 0
theorem sumL_snoc (l : List Int) (x : Int) : sumL (l ++ [x]) = sumL l + x := by simp [sumL]
theorem gainsL_bound (bs : List Bool) : ∀ k, 0 ≤ sumL (gainsL bs k) ∧ sumL (gainsL bs k) ≤ (k : Int) * k
  | 0 => by simp [gainsL, sumL]
  | k + 1 => by
    have ih := gainsL_bound bs k
    have h1 := cnt_take_le bs (k + 1)
    rw [gainsL_succ, sumL_snoc]
    have e : ((k + 1 : Nat) : Int) * ((k + 1 : Nat) : Int) = (k : Int) * k + 2 * k + 1 := by
      rw [Int.natCast_add, Int.add_mul, Int.mul_add]
      simp
      omega
    rw [e]
    omega
theorem gainsL_take (bs : List Bool) {n k : Nat} (h : k ≤ n) : (gainsL bs n).take k = gainsL bs k := by
  unfold gainsL
  rw [← List.map_take, List.take_range, Nat.min_eq_left h]

def noneE (c : Nat) : Int := if c = 0 then 8 else 0
def areaE (bs : List Bool) : Int := firstErr [readErr bs.length, noneE (cnt bs)]
def AreaSpec (bs : List Bool) (x y er : Int) : Prop := (areaE bs ≠ 0 ∧ x = 0 ∧ y = 0 ∧ er = areaE bs) ∨ (areaE bs = 0 ∧ x = fracN (sumL (gainsL bs bs.length)) (bs.length * cnt bs) ∧ y = fracD (sumL (gainsL bs bs.length)) (bs.length * cnt bs) ∧ er = 0)
def AreaPost (w : World) (bs : List Bool) (e : Ending) (w' : World) : Prop := ∃ x y er : Int, AreaSpec bs x y er ∧ e = .returned (.tuple #[agg2 x y, .int .i64 er]) ∧ Pure w w'
theorem areaE_ok {bs : List Bool} (h : areaE bs = 0) : bs.length ≤ 2000 ∧ 1 ≤ cnt bs := by
  unfold areaE at h
  rw [firstErr_two] at h
  by_cases h1 : readErr (bs.length : Int) = 0
  · rw [if_pos h1] at h
    unfold readErr at h1
    unfold noneE at h
    split at h1
    · split at h
      · cases h
      · omega
    · cases h1
  · rw [if_neg h1] at h
    exact absurd h h1

set_option maxRecDepth 100000 in
set_option maxHeartbeats 2000000 in
theorem Area_calls (w : World) (v : Value) (bs : List Bool) (hv : Sl w 4 1 v (boolsV bs)) (hl : bs.length ≤ 1000000) : Calls Try.prog 53 #[v] w (AreaPost w bs) := by
  obtain ⟨A, m, c, rfl⟩ := hv.form
  obtain ⟨hm, hmc, hcc⟩ := hv.len
  rw [boolsV_len] at hm
  subst hm
  have hcl := cnt_le bs
  go_enter Try.func53, Try.ntmps53
  go_wp2_with fail
  have hrB := Blk.new w 30 #[.int .i64 0, .int .i64 0]
  have hm0 : Pure w (w.alloc (.cells #[.int .i64 0, .int .i64 0] 30)) := (Mod.refl _ _).alloc _
  have hv0 := hv.pure hm0
  generalize (w.alloc (.cells #[.int .i64 0, .int .i64 0] 30)) = W at *
  generalize hdb : w.heap.size = g2 at *
  have hle := Nat.le_of_eq hdb
  clear hdb
  refine (all_calls _ _ bs hv0).mono ?_
  rintro e w1 ⟨rfl, hm1⟩
  have hv1 := hv0.pure hm1
  have r1 := hrB.modp hm1
  have m1 : Pure w w1 := hm0.trans hm1
  clear hv0 hrB hm0 hm1
  go_wp2_with fail
  refine (readError_calls _ _ _ _ (by omega)).mono ?_
  rintro e w2 ⟨rfl, hm2⟩
  have hv2 := hv1.pure hm2
  have r2 := r1.modp hm2
  have m2 : Pure w w2 := m1.trans hm2
  clear hv1 r1 m1 hm2
  obtain ⟨z, hz2⟩ : ∃ z : Bool, decide (cnt bs = 0) = z := ⟨_, rfl⟩
  have hz : ((cnt bs : Int) == 0) = z := by
    rw [← hz2]
    by_cases h : cnt bs = 0 <;> simp [h]
  have hcall : Hid (Calls Try.prog 73 #[.bool z, .int .i64 8] w2 fun r w' => r = .returned (.int .i64 (noneE (cnt bs))) ∧ w2 = w') := by
    cases z
    · have h := of_decide_eq_false hz2
      rw [show noneE (cnt bs) = 0 from if_neg h]
      exact when_f 8 w2
    · have h := of_decide_eq_true hz2
      rw [show noneE (cnt bs) = 8 from if_pos h]
      exact when_t 8 w2
  go_wp2_with fail
  refine hcall.out.mono ?_
  rintro e w' ⟨rfl, rfl⟩
  clear hz hz2
  go_wp2_with fail
  refine (firstE_calls _ _ _ [readErr bs.length, noneE (cnt bs)] (Blk.new _ _ _).row0 (by simp)).mono ?_
  rintro e w3 ⟨rfl, hm3⟩
  rw [show firstErr [readErr (bs.length : Int), noneE (cnt bs)] = areaE bs from rfl]
  have hm3' : Pure w2 w3 := ((Mod.refl _ _).alloc _).trans hm3
  have hv3 := hv2.pure hm3'
  have r3 := r2.modp hm3'
  have m3 : Pure w w3 := m2.trans hm3'
  clear hv2 r2 m2 hm3 hm3' hcall
  by_cases h0 : areaE bs = 0
  · obtain ⟨k1, k2⟩ := areaE_ok h0
    have HE := Lib.hid h0
    rw [h0]
    clear h0
    go_wp2_with fail
    refine (gains_calls _ _ bs hv3 hl).mono ?_
    rintro e w4 ⟨v4, n4, rfl, hown, hm4⟩
    have hn4 := own_len hown
    simp only [intsV, List.length_map, gainsL_len] at hn4
    subst hn4
    have sl4 := Sl.of_own hown
    have r4 := r3.modp hm4
    have m4 : Pure w w4 := m3.trans hm4
    obtain ⟨A4, n4, c4, rfl⟩ := sl4.form
    obtain ⟨hn4, hc4, hcc4⟩ := sl4.len
    simp only [intsV, List.length_map, gainsL_len] at hn4
    subst hn4
    clear hv3 r3 m3 hm4 hown
    have HSL := Lib.hid sl4
    clear sl4
    go_wp2_with fail
    go_loopg [6, 25] bs.length (fun gk t i wr => ∃ k : Nat, bs.length - k = gk ∧ k ≤ bs.length ∧ i = .int .i64 (k : Int) ∧ t = .int .i64 (sumL (gainsL bs k)) ∧ Pure w4 wr)
    case atStart => exact ⟨0, by omega, by omega, rfl, rfl, Mod.refl _ _⟩
    case round =>
      obtain ⟨k, rfl, hk, rfl, rfl, hm⟩ := hrel
      obtain ⟨b1, b2⟩ := gainsL_bound bs k
      have b3 : (k : Int) * k ≤ 2000 * 2000 := Int.mul_le_mul (by omega) (by omega) (by omega) (by omega)
      by_cases hlt : k < bs.length
      · obtain ⟨g, off, rfl, hrow⟩ := HSL.out.row (by omega)
        have hq := (hrow.mod hm id).cell (intsV_get (gainsL bs bs.length) k (by rw [gainsL_len]; exact hlt))
        rw [gainsL_get bs hlt] at hq
        have HS : Hid (sumL (gainsL bs (k + 1)) = sumL (gainsL bs k) + (cnt (bs.take (k + 1)) : Int)) := by
          show sumL (gainsL bs (k + 1)) = _
          rw [gainsL_succ, sumL_snoc]
        have hct := cnt_take_le bs (k + 1)
        clear hrow
        generalize cnt (bs.take (k + 1)) = t1 at *
        generalize sumL (gainsL bs k) = s0 at *
        go_wp2_with fail
        go_roundg (bs.length - (k + 1))
        case measure => omega
        case rel => exact ⟨k + 1, rfl, hlt, by simp, by rw [HS.out], hm⟩
      · have hke : k = bs.length := by omega
        subst hke
        have p1 : 1 ≤ (bs.length : Int) * (cnt bs : Int) := by
          have : 1 * 1 ≤ (bs.length : Int) * (cnt bs : Int) := Int.mul_le_mul (by omega) (by omega) (by omega) (by omega)
          omega
        have p2 : (bs.length : Int) * (cnt bs : Int) ≤ 2000 * 2000 := Int.mul_le_mul (by omega) (by omega) (by omega) (by omega)
        have r5 := r4.modp hm
        have m5 : Pure w wr := m4.trans hm
        clear r4 m4 hm
        go_wp2_with fail
        refine (fraction_calls _ _ _ (by omega) (by omega) (by omega)).mono ?_
        rintro e w6 ⟨rfl, hm6⟩
        have r6 := r5.modp hm6
        have m6 : Pure w w6 := m5.trans hm6
        clear r5 m5 hm6
        generalize hfn : fracN (sumL (gainsL bs bs.length)) (bs.length * cnt bs) = fn at *
        generalize hfd : fracD (sumL (gainsL bs bs.length)) (bs.length * cnt bs) = fd at *
        have HN := Lib.hid hfn
        have HD := Lib.hid hfd
        clear hfn hfd
        have c0 := r6.cell 0; have cf0 := r6.frozen 0; have c1 := r6.cell 1; have cf1 := r6.frozen 1; simp at c0 c1
        go_wp2_with fail
        refine bodyPost_ret (v := .tuple #[agg2 fn fd, .int .i64 0]) (by simp [results, Try.results53, go_sem, c0, c1]) rfl ?_
        exact ⟨fn, fd, 0, .inr ⟨HE.out, HN.out.symm, HD.out.symm, rfl⟩, rfl, (m6.setCell (.inr (by show _ ≤ g2; omega)) _).setCell (.inr (by show _ ≤ g2; omega)) _⟩
  · have hb : (areaE bs != 0) = true := by simpa using h0
    have HR := Lib.hid h0
    clear h0
    generalize hre : areaE bs = er at *
    have HE := Lib.hid hre
    clear hre
    have c0 := r3.cell 0; have cf0 := r3.frozen 0; have c1 := r3.cell 1; have cf1 := r3.frozen 1; simp at c0 c1
    go_wp2_with fail
    refine bodyPost_ret (v := .tuple #[agg2 0 0, .int .i64 er]) (by simp [results, Try.results53, go_sem, c0, c1]) rfl ?_
    exact ⟨0, 0, er, .inl ⟨by rw [HE.out]; exact HR.out, rfl, rfl, HE.out.symm⟩, rfl, (m3.setCell (.inr (by show _ ≤ g2; omega)) _).setCell (.inr (by show _ ≤ g2; omega)) _⟩

end Go.Proofs.Ytpacmdiodnnofaa
