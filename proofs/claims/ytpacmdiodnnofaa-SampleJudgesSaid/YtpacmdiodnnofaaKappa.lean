/- Package sample: Kappa; the reference's KappaOf. -/
import Derived.Test.YtpacmdiodnnofaaJudge
namespace Go.Proofs.Ytpacmdiodnnofaa
set_option linter.unusedVariables false
set_option linter.unusedSimpArgs false
open Go.RowKit
attribute [local go_sem ↓] Go.wp_at_zero Go.wp_at_succ

def kapT (a b c d : Int) : Int := a + b + c + d
def kapE (a b c d : Int) : Int := (a + b) * (a + c) + (c + d) * (b + d)
theorem kap_bounds {a b c d : Int} (ha : cntOk a) (hb : cntOk b) (hc : cntOk c) (hd : cntOk d) :
    (0 ≤ (a + b) * (a + c) ∧ (a + b) * (a + c) ≤ 4000000000000) ∧ (0 ≤ (c + d) * (b + d) ∧ (c + d) * (b + d) ≤ 4000000000000) ∧ (0 ≤ (a + d) * (a + b + c + d) ∧ (a + d) * (a + b + c + d) ≤ 8000000000000) ∧ ((a + b) * (a + c) + (c + d) * (b + d) ≤ (a + b + c + d) * (a + b + c + d) ∧ (a + b + c + d) * (a + b + c + d) ≤ 16000000000000) := by
  unfold cntOk at ha hb hc hd
  have e1 : 0 ≤ (a + b) * (a + c) := Int.mul_nonneg (by omega) (by omega)
  have e2 : (a + b) * (a + c) ≤ 2000000 * 2000000 := Int.mul_le_mul (by omega) (by omega) (by omega) (by omega)
  have e3 : 0 ≤ (c + d) * (b + d) := Int.mul_nonneg (by omega) (by omega)
  have e4 : (c + d) * (b + d) ≤ 2000000 * 2000000 := Int.mul_le_mul (by omega) (by omega) (by omega) (by omega)
  have e5 : 0 ≤ (a + d) * (a + b + c + d) := Int.mul_nonneg (by omega) (by omega)
  have e6 : (a + d) * (a + b + c + d) ≤ 2000000 * 4000000 := Int.mul_le_mul (by omega) (by omega) (by omega) (by omega)
  have e7 : (a + b + c + d) * (a + b + c + d) ≤ 4000000 * 4000000 := Int.mul_le_mul (by omega) (by omega) (by omega) (by omega)
  have e8 : 0 ≤ (a + b) * (b + d) := Int.mul_nonneg (by omega) (by omega)
  have e9 : 0 ≤ (c + d) * (a + c) := Int.mul_nonneg (by omega) (by omega)
  have e10 : (a + b + c + d) * (a + b + c + d) = (a + b) * (a + c) + (c + d) * (b + d) + (a + b) * (b + d) + (c + d) * (a + c) := by
    have h1 : a + b + c + d = (a + b) + (c + d) := by omega
    have h2 : (a + b) + (c + d) = (a + c) + (b + d) := by omega
    calc (a + b + c + d) * (a + b + c + d) = ((a + b) + (c + d)) * ((a + c) + (b + d)) := by rw [h1, ← h2]
      _ = (a + b) * (a + c) + (c + d) * (b + d) + (a + b) * (b + d) + (c + d) * (a + c) := by rw [Int.add_mul, Int.mul_add, Int.mul_add (c + d) (a + c) (b + d)]; omega
  omega
def kapN (a b c d : Int) : Int := wN ((a + d) * (a + b + c + d) - ((a + b) * (a + c) + (c + d) * (b + d))) ((a + b + c + d) * (a + b + c + d) - ((a + b) * (a + c) + (c + d) * (b + d)))
def kapD (a b c d : Int) : Int := wD ((a + d) * (a + b + c + d) - ((a + b) * (a + c) + (c + d) * (b + d))) ((a + b + c + d) * (a + b + c + d) - ((a + b) * (a + c) + (c + d) * (b + d)))

set_option maxRecDepth 100000 in
set_option maxHeartbeats 1000000 in
theorem Kappa_err (w : World) (a b c d : Int) (hc : ¬ cntOk c) : Calls Try.prog 44 #[.int .i64 a, .int .i64 b, .int .i64 c, .int .i64 d] w (ErrPost w (agg2 0 0) 1) := by
  have HC := Lib.hid hc
  clear hc
  go_enter Try.func44, Try.ntmps44
  go_wp2_with fail
  refine (counts_calls _ _ [a, b, c, d] ⟨_, 4, 4, rfl, by omega, by omega, by simp [intsV], fun _ => ⟨_, 0, rfl, (Blk.snd w _ 3 (intsV [a, b, c, d]).toArray).row0⟩⟩).mono ?_
  rintro e w1 ⟨rfl, hm1⟩
  rw [any4_bad HC.out]
  have r1 := ((Blk.new w 30 #[.int .i64 0, .int .i64 0]).alloc _).modp hm1
  have m1 : Pure w w1 := (((Mod.refl _ w).alloc _).alloc _).trans hm1
  clear hm1
  have c0 := r1.cell 0; have cf0 := r1.frozen 0; have c1 := r1.cell 1; have cf1 := r1.frozen 1; simp at c0 c1
  go_wp2_with fail
  refine bodyPost_ret (v := .tuple #[agg2 0 0, .int .i64 1]) (by simp [results, Try.results44, go_sem, c0, c1]) rfl ?_
  exact ⟨rfl, by (repeat' (first | with_reducible assumption | with_reducible exact Mod.refl _ _ | with_reducible refine Mod.alloc ?_ _ | with_reducible refine Mod.drew ?_ | with_reducible refine Mod.drewN ?_ _ | ((with_reducible apply Mod.q_set); (dsimp only); omega) | ((with_reducible apply Mod.q_trans); (with_reducible assumption)) | ((with_reducible apply Mod.q_transp); (with_reducible assumption))))⟩

set_option maxRecDepth 100000 in
set_option maxHeartbeats 1000000 in
theorem Kappa_none (w : World) (a b c d : Int) (ha : cntOk a) (hb : cntOk b) (hc : cntOk c) (hd : cntOk d) (h0 : a + b + c + d = 0) : Calls Try.prog 44 #[.int .i64 a, .int .i64 b, .int .i64 c, .int .i64 d] w (ErrPost w (agg2 0 0) 8) := by
  have HC := Lib.hid (any4 ha hb hc hd)
  unfold cntOk at ha hb hc hd
  have ht : (a + b + c + d == 0) = true := by simpa using h0
  clear h0
  go_enter Try.func44, Try.ntmps44
  go_wp2_with fail
  refine (counts_calls _ _ [a, b, c, d] ⟨_, 4, 4, rfl, by omega, by omega, by simp [intsV], fun _ => ⟨_, 0, rfl, (Blk.snd w _ 3 (intsV [a, b, c, d]).toArray).row0⟩⟩).mono ?_
  rintro e w1 ⟨rfl, hm1⟩
  rw [HC.out]
  have r1 := ((Blk.new w 30 #[.int .i64 0, .int .i64 0]).alloc _).modp hm1
  have m1 : Pure w w1 := (((Mod.refl _ w).alloc _).alloc _).trans hm1
  clear hm1
  have c0 := r1.cell 0; have cf0 := r1.frozen 0; have c1 := r1.cell 1; have cf1 := r1.frozen 1; simp at c0 c1
  go_wp2_with fail
  refine bodyPost_ret (v := .tuple #[agg2 0 0, .int .i64 8]) (by simp [results, Try.results44, go_sem, c0, c1]) rfl ?_
  exact ⟨rfl, by (repeat' (first | with_reducible assumption | with_reducible exact Mod.refl _ _ | with_reducible refine Mod.alloc ?_ _ | with_reducible refine Mod.drew ?_ | with_reducible refine Mod.drewN ?_ _ | ((with_reducible apply Mod.q_set); (dsimp only); omega) | ((with_reducible apply Mod.q_trans); (with_reducible assumption)) | ((with_reducible apply Mod.q_transp); (with_reducible assumption))))⟩

set_option maxRecDepth 100000 in
set_option maxHeartbeats 1000000 in
theorem Kappa_ok (w : World) (a b c d : Int) (ha : cntOk a) (hb : cntOk b) (hc : cntOk c) (hd : cntOk d) (h0 : ¬ a + b + c + d = 0) : Calls Try.prog 44 #[.int .i64 a, .int .i64 b, .int .i64 c, .int .i64 d] w (ErrPost w (agg2 (kapN a b c d) (kapD a b c d)) 0) := by
  have HC := Lib.hid (any4 ha hb hc hd)
  obtain ⟨⟨k1, k2⟩, ⟨k3, k4⟩, ⟨k5, k6⟩, k7, k8⟩ := kap_bounds ha hb hc hd
  unfold cntOk at ha hb hc hd
  unfold kapN kapD
  have ht : (a + b + c + d == 0) = false := by simpa using h0
  clear h0
  go_enter Try.func44, Try.ntmps44
  go_wp2_with fail
  refine (counts_calls _ _ [a, b, c, d] ⟨_, 4, 4, rfl, by omega, by omega, by simp [intsV], fun _ => ⟨_, 0, rfl, (Blk.snd w _ 3 (intsV [a, b, c, d]).toArray).row0⟩⟩).mono ?_
  rintro e w1 ⟨rfl, hm1⟩
  rw [HC.out]
  have r1 := ((Blk.new w 30 #[.int .i64 0, .int .i64 0]).alloc _).modp hm1
  have m1 : Pure w w1 := (((Mod.refl _ w).alloc _).alloc _).trans hm1
  clear hm1
  go_wp2_with fail
  refine (whole_calls _ _ _ (by omega) (by omega) (by omega)).mono ?_
  rintro e w2 ⟨rfl, hm2⟩
  generalize wN ((a + d) * (a + b + c + d) - ((a + b) * (a + c) + (c + d) * (b + d))) ((a + b + c + d) * (a + b + c + d) - ((a + b) * (a + c) + (c + d) * (b + d))) = x1 at *
  generalize wD ((a + d) * (a + b + c + d) - ((a + b) * (a + c) + (c + d) * (b + d))) ((a + b + c + d) * (a + b + c + d) - ((a + b) * (a + c) + (c + d) * (b + d))) = y1 at *
  have r2 := r1.modp hm2
  have m2 : Pure w w2 := m1.trans hm2
  clear r1 m1 hm2
  have c0 := r2.cell 0; have cf0 := r2.frozen 0; have c1 := r2.cell 1; have cf1 := r2.frozen 1; simp at c0 c1
  go_wp2_with fail
  refine bodyPost_ret (v := .tuple #[agg2 x1 y1, .int .i64 0]) (by simp [results, Try.results44, go_sem, c0, c1]) rfl ?_
  exact ⟨rfl, by (repeat' (first | with_reducible assumption | with_reducible exact Mod.refl _ _ | with_reducible refine Mod.alloc ?_ _ | with_reducible refine Mod.drew ?_ | with_reducible refine Mod.drewN ?_ _ | ((with_reducible apply Mod.q_set); (dsimp only); omega) | ((with_reducible apply Mod.q_trans); (with_reducible assumption)) | ((with_reducible apply Mod.q_transp); (with_reducible assumption))))⟩

set_option maxRecDepth 100000 in
set_option maxHeartbeats 1000000 in
theorem KappaOf_calls (w : World) (a b c d : Int) (ha : cntOk a) (hb : cntOk b) (hc : cntOk c) (hd : cntOk d) : Calls Try.prog 46 #[.int .i64 a, .int .i64 b, .int .i64 c, .int .i64 d] w (ValPost w (agg2 (kapN a b c d) (kapD a b c d))) := by
  obtain ⟨⟨k1, k2⟩, ⟨k3, k4⟩, ⟨k5, k6⟩, k7, k8⟩ := kap_bounds ha hb hc hd
  unfold cntOk at ha hb hc hd
  unfold kapN kapD
  go_enter Try.func46, Try.ntmps46
  go_wp2_with fail
  have r1 := Blk.new w 30 #[.int .i64 0, .int .i64 0]
  refine (orOne_calls _ _ _ (by omega) (by omega) (by omega)).mono ?_
  rintro e w2 ⟨rfl, hm2⟩
  generalize wN ((a + d) * (a + b + c + d) - ((a + b) * (a + c) + (c + d) * (b + d))) ((a + b + c + d) * (a + b + c + d) - ((a + b) * (a + c) + (c + d) * (b + d))) = x1 at *
  generalize wD ((a + d) * (a + b + c + d) - ((a + b) * (a + c) + (c + d) * (b + d))) ((a + b + c + d) * (a + b + c + d) - ((a + b) * (a + c) + (c + d) * (b + d))) = y1 at *
  have r2 := r1.modp hm2
  have m2 : Pure w w2 := ((Mod.refl _ w).alloc _).trans hm2
  clear r1 hm2
  have c0 := r2.cell 0; have cf0 := r2.frozen 0; have c1 := r2.cell 1; have cf1 := r2.frozen 1; simp at c0 c1
  go_wp2_with fail
  refine bodyPost_ret (v := agg2 x1 y1) (by simp [results, Try.results46, go_sem, c0, c1]) rfl ?_
  exact ⟨rfl, by (repeat' (first | with_reducible assumption | with_reducible exact Mod.refl _ _ | with_reducible refine Mod.alloc ?_ _ | with_reducible refine Mod.drew ?_ | with_reducible refine Mod.drewN ?_ _ | ((with_reducible apply Mod.q_set); (dsimp only); omega) | ((with_reducible apply Mod.q_trans); (with_reducible assumption)) | ((with_reducible apply Mod.q_transp); (with_reducible assumption))))⟩

end Go.Proofs.Ytpacmdiodnnofaa
