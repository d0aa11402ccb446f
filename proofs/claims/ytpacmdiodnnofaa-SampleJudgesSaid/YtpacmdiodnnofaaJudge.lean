/- Package sample: whole, Judge, Kappa; the reference's orOne, JudgeOf, KappaOf. -/
import Derived.Test.YtpacmdiodnnofaaLowest
import Derived.Test.YtpacmdiodnnofaaMostB
import Derived.Test.YtpacmdiodnnofaaIdx
import Derived.Test.YtpacmdiodnnofaaRegG
namespace Go.Proofs.Ytpacmdiodnnofaa
set_option linter.unusedVariables false
set_option linter.unusedSimpArgs false
open Go.RowKit
attribute [local go_sem ↓] Go.wp_at_zero Go.wp_at_succ

def wN (n d : Int) : Int := if d = 0 then 1 else fracN n d
def wD (n d : Int) : Int := if d = 0 then 1 else fracD n d
theorem wN_ne {n d : Int} (h : ¬ d = 0) : wN n d = fracN n d := if_neg h
theorem wD_ne {n d : Int} (h : ¬ d = 0) : wD n d = fracD n d := if_neg h

set_option maxRecDepth 100000 in
set_option maxHeartbeats 1000000 in
theorem whole_calls (w : World) (n d : Int) (hn : -4611686018427387904 ≤ n ∧ n ≤ 4611686018427387904) (hd : 0 ≤ d) (hd2 : d ≤ 4611686018427387904) :
    Calls Try.prog 86 #[.int .i64 n, .int .i64 d] w (FracRes w (wN n d) (wD n d)) := by
  by_cases h0 : d = 0
  · subst h0
    go_enter Try.func86, Try.ntmps86
    go_wp2_with fail
    refine bodyPost_ret (v := agg2 1 1) (by simp [results, Try.results86, go_sem]) rfl ?_
    exact ⟨rfl, (Mod.refl _ _).alloc _⟩
  · have hne : (d == 0) = false := by simpa using h0
    have e1 : Hid (wN n d = fracN n d) := wN_ne h0
    have e2 : Hid (wD n d = fracD n d) := wD_ne h0
    have hpos : 1 ≤ d := by omega
    clear h0
    have hrB := Blk.new w 30 #[.int .i64 0, .int .i64 0]
    have hm0 : Pure w (w.alloc (.cells #[.int .i64 0, .int .i64 0] 30)) := (Mod.refl _ _).alloc _
    go_enter Try.func86, Try.ntmps86
    go_wp2_with fail
    refine (fraction_calls _ n d hn hpos hd2).mono ?_
    rintro e w1 ⟨rfl, hm1⟩
    rw [← e1.out, ← e2.out]
    generalize wN n d = x at *
    generalize wD n d = y at *
    have r1 := hrB.modp hm1
    have m1 := hm0.trans hm1
    clear hrB hm0 hm1
    have c0 := r1.cell 0; have cf0 := r1.frozen 0; have c1 := r1.cell 1; have cf1 := r1.frozen 1; simp at c0 c1
    go_wp2_with fail
    refine bodyPost_ret (v := agg2 x y) (by simp [results, Try.results86, go_sem, c0, c1]) rfl ?_
    exact ⟨rfl, (m1.setCell (.inr (Nat.le_refl _)) _).setCell (.inr (Nat.le_refl _)) _⟩

set_option maxRecDepth 100000 in
set_option maxHeartbeats 1000000 in
theorem orOne_calls (w : World) (n d : Int) (hn : -4611686018427387904 ≤ n ∧ n ≤ 4611686018427387904) (hd : 0 ≤ d) (hd2 : d ≤ 4611686018427387904) :
    Calls Try.prog 87 #[.int .i64 n, .int .i64 d] w (FracRes w (wN n d) (wD n d)) := by
  by_cases h0 : d = 0
  · subst h0
    go_enter Try.func87, Try.ntmps87
    go_wp2_with fail
    refine bodyPost_ret (v := agg2 1 1) (by simp [results, Try.results87, go_sem]) rfl ?_
    exact ⟨rfl, (Mod.refl _ _).alloc _⟩
  · have hne : (d == 0) = false := by simpa using h0
    have e1 : Hid (wN n d = fracN n d) := wN_ne h0
    have e2 : Hid (wD n d = fracD n d) := wD_ne h0
    have hpos : 1 ≤ d := by omega
    clear h0
    have hrB := Blk.new w 30 #[.int .i64 0, .int .i64 0]
    have hm0 : Pure w (w.alloc (.cells #[.int .i64 0, .int .i64 0] 30)) := (Mod.refl _ _).alloc _
    go_enter Try.func87, Try.ntmps87
    go_wp2_with fail
    refine (lowest_calls _ n d hn hpos hd2).mono ?_
    rintro e w1 ⟨rfl, hm1⟩
    rw [← e1.out, ← e2.out]
    generalize wN n d = x at *
    generalize wD n d = y at *
    have r1 := hrB.modp hm1
    have m1 := hm0.trans hm1
    clear hrB hm0 hm1
    have c0 := r1.cell 0; have cf0 := r1.frozen 0; have c1 := r1.cell 1; have cf1 := r1.frozen 1; simp at c0 c1
    go_wp2_with fail
    refine bodyPost_ret (v := agg2 x y) (by simp [results, Try.results87, go_sem, c0, c1]) rfl ?_
    exact ⟨rfl, (m1.setCell (.inr (Nat.le_refl _)) _).setCell (.inr (Nat.le_refl _)) _⟩

abbrev agg6 (a b c d e f : Int) : Value := .agg #[.int .i64 a, .int .i64 b, .int .i64 c, .int .i64 d, .int .i64 e, .int .i64 f]
def judgeV (a b c : Int) : Value := agg6 (wN a (a + b)) (wD a (a + b)) (wN a (a + c)) (wD a (a + c)) (wN (2 * a) (2 * a + b + c)) (wD (2 * a) (2 * a + b + c))
def cntOk (n : Int) : Prop := 0 ≤ n ∧ n ≤ 1000000
theorem countB_ok {n : Int} (h : cntOk n) : countB n = false := by
  unfold countB
  unfold cntOk at h
  rw [show inB n 0 1000000 = true by unfold inB; rw [decide_eq_true h]]
  rfl
theorem countB_bad {n : Int} (h : ¬ cntOk n) : countB n = true := by
  unfold countB
  unfold cntOk at h
  rw [show inB n 0 1000000 = false by unfold inB; rw [decide_eq_false h]]
  rfl
theorem any3 {a b c : Int} (ha : cntOk a) (hb : cntOk b) (hc : cntOk c) : (!([a, b, c].any countB)) = true := by simp [countB_ok ha, countB_ok hb, countB_ok hc]
theorem any3_bad {a b c : Int} (hc : ¬ cntOk c) : (!([a, b, c].any countB)) = false := by simp [countB_bad hc]
theorem any4 {a b c d : Int} (ha : cntOk a) (hb : cntOk b) (hc : cntOk c) (hd : cntOk d) : (!([a, b, c, d].any countB)) = true := by simp [countB_ok ha, countB_ok hb, countB_ok hc, countB_ok hd]
theorem any4_bad {a b c d : Int} (hc : ¬ cntOk c) : (!([a, b, c, d].any countB)) = false := by simp [countB_bad hc]

set_option maxRecDepth 100000 in
set_option maxHeartbeats 1000000 in
theorem Judge_err (w : World) (a b c : Int) (hc : ¬ cntOk c) : Calls Try.prog 43 #[.int .i64 a, .int .i64 b, .int .i64 c] w (ErrPost w (agg6 0 0 0 0 0 0) 1) := by
  have HC := Lib.hid hc
  clear hc
  go_enter Try.func43, Try.ntmps43
  go_wp2_with fail
  refine (counts_calls _ _ [a, b, c] ⟨_, 3, 3, rfl, by omega, by omega, by simp [intsV], fun _ => ⟨_, 0, rfl, (Blk.snd w _ 3 (intsV [a, b, c]).toArray).row0⟩⟩).mono ?_
  rintro e w1 ⟨rfl, hm1⟩
  rw [any3_bad HC.out]
  have r1 := ((Blk.new w 63 #[.int .i64 0, .int .i64 0, .int .i64 0, .int .i64 0, .int .i64 0, .int .i64 0]).alloc _).modp hm1
  have m1 : Pure w w1 := (((Mod.refl _ w).alloc _).alloc _).trans hm1
  clear hm1
  have c0 := r1.cell 0; have cf0 := r1.frozen 0; have c1 := r1.cell 1; have cf1 := r1.frozen 1; have c2 := r1.cell 2; have cf2 := r1.frozen 2; have c3 := r1.cell 3; have cf3 := r1.frozen 3; have c4 := r1.cell 4; have cf4 := r1.frozen 4; have c5 := r1.cell 5; have cf5 := r1.frozen 5; simp at c0 c1 c2 c3 c4 c5
  go_wp2_with fail
  refine bodyPost_ret (v := .tuple #[agg6 0 0 0 0 0 0, .int .i64 1]) (by simp [results, Try.results43, go_sem, c0, c1, c2, c3, c4, c5]) rfl ?_
  exact ⟨rfl, by (repeat' (first | with_reducible assumption | with_reducible exact Mod.refl _ _ | with_reducible refine Mod.alloc ?_ _ | with_reducible refine Mod.drew ?_ | with_reducible refine Mod.drewN ?_ _ | ((with_reducible apply Mod.q_set); (dsimp only); omega) | ((with_reducible apply Mod.q_trans); (with_reducible assumption)) | ((with_reducible apply Mod.q_transp); (with_reducible assumption))))⟩

set_option maxRecDepth 100000 in
set_option maxHeartbeats 2000000 in
theorem Judge_ok (w : World) (a b c : Int) (ha : cntOk a) (hb : cntOk b) (hc : cntOk c) : Calls Try.prog 43 #[.int .i64 a, .int .i64 b, .int .i64 c] w (ErrPost w (judgeV a b c) 0) := by
  have HC := Lib.hid (any3 ha hb hc)
  unfold cntOk at ha hb hc
  unfold judgeV
  go_enter Try.func43, Try.ntmps43
  go_wp2_with fail
  refine (counts_calls _ _ [a, b, c] ⟨_, 3, 3, rfl, by omega, by omega, by simp [intsV], fun _ => ⟨_, 0, rfl, (Blk.snd w _ 3 (intsV [a, b, c]).toArray).row0⟩⟩).mono ?_
  rintro e w1 ⟨rfl, hm1⟩
  rw [HC.out]
  have r1 := ((Blk.new w 63 #[.int .i64 0, .int .i64 0, .int .i64 0, .int .i64 0, .int .i64 0, .int .i64 0]).alloc _).modp hm1
  have m1 : Pure w w1 := (((Mod.refl _ w).alloc _).alloc _).trans hm1
  clear hm1
  go_wp2_with fail
  refine (whole_calls _ _ _ (by omega) (by omega) (by omega)).mono ?_
  rintro e w2 ⟨rfl, hm2⟩
  generalize wN a (a + b) = x1 at *
  generalize wD a (a + b) = y1 at *
  go_wp2_with fail
  refine (whole_calls _ _ _ (by omega) (by omega) (by omega)).mono ?_
  rintro e w3 ⟨rfl, hm3⟩
  generalize wN a (a + c) = x2 at *
  generalize wD a (a + c) = y2 at *
  go_wp2_with fail
  refine (whole_calls _ _ _ (by omega) (by omega) (by omega)).mono ?_
  rintro e w4 ⟨rfl, hm4⟩
  generalize wN (2 * a) (2 * a + b + c) = x3 at *
  generalize wD (2 * a) (2 * a + b + c) = y3 at *
  have r4 := ((r1.modp hm2).modp hm3).modp hm4
  have m4 : Pure w w4 := ((m1.trans hm2).trans hm3).trans hm4
  clear r1 m1 hm2 hm3 hm4
  have c0 := r4.cell 0; have cf0 := r4.frozen 0; have c1 := r4.cell 1; have cf1 := r4.frozen 1; have c2 := r4.cell 2; have cf2 := r4.frozen 2; have c3 := r4.cell 3; have cf3 := r4.frozen 3; have c4 := r4.cell 4; have cf4 := r4.frozen 4; have c5 := r4.cell 5; have cf5 := r4.frozen 5; simp at c0 c1 c2 c3 c4 c5
  go_wp2_with fail
  refine bodyPost_ret (v := .tuple #[agg6 x1 y1 x2 y2 x3 y3, .int .i64 0]) (by simp [results, Try.results43, go_sem, c0, c1, c2, c3, c4, c5]) rfl ?_
  exact ⟨rfl, by (repeat' (first | with_reducible assumption | with_reducible exact Mod.refl _ _ | with_reducible refine Mod.alloc ?_ _ | with_reducible refine Mod.drew ?_ | with_reducible refine Mod.drewN ?_ _ | ((with_reducible apply Mod.q_set); (dsimp only); omega) | ((with_reducible apply Mod.q_trans); (with_reducible assumption)) | ((with_reducible apply Mod.q_transp); (with_reducible assumption))))⟩

def ValPost (w : World) (v : Value) (e : Ending) (w' : World) : Prop := e = .returned v ∧ Pure w w'
set_option maxRecDepth 100000 in
set_option maxHeartbeats 2000000 in
theorem JudgeOf_calls (w : World) (a b c : Int) (ha : cntOk a) (hb : cntOk b) (hc : cntOk c) : Calls Try.prog 45 #[.int .i64 a, .int .i64 b, .int .i64 c] w (ValPost w (judgeV a b c)) := by
  unfold cntOk at ha hb hc
  unfold judgeV
  go_enter Try.func45, Try.ntmps45
  go_wp2_with fail
  have r1 := Blk.new w 63 #[.int .i64 0, .int .i64 0, .int .i64 0, .int .i64 0, .int .i64 0, .int .i64 0]
  refine (orOne_calls _ _ _ (by omega) (by omega) (by omega)).mono ?_
  rintro e w2 ⟨rfl, hm2⟩
  generalize wN a (a + b) = x1 at *
  generalize wD a (a + b) = y1 at *
  go_wp2_with fail
  refine (orOne_calls _ _ _ (by omega) (by omega) (by omega)).mono ?_
  rintro e w3 ⟨rfl, hm3⟩
  generalize wN a (a + c) = x2 at *
  generalize wD a (a + c) = y2 at *
  go_wp2_with fail
  refine (orOne_calls _ _ _ (by omega) (by omega) (by omega)).mono ?_
  rintro e w4 ⟨rfl, hm4⟩
  generalize wN (2 * a) (2 * a + b + c) = x3 at *
  generalize wD (2 * a) (2 * a + b + c) = y3 at *
  have r4 := ((r1.modp hm2).modp hm3).modp hm4
  have m4 : Pure w w4 := ((((Mod.refl _ w).alloc _).trans hm2).trans hm3).trans hm4
  clear r1 hm2 hm3 hm4
  have c0 := r4.cell 0; have cf0 := r4.frozen 0; have c1 := r4.cell 1; have cf1 := r4.frozen 1; have c2 := r4.cell 2; have cf2 := r4.frozen 2; have c3 := r4.cell 3; have cf3 := r4.frozen 3; have c4 := r4.cell 4; have cf4 := r4.frozen 4; have c5 := r4.cell 5; have cf5 := r4.frozen 5; simp at c0 c1 c2 c3 c4 c5
  go_wp2_with fail
  refine bodyPost_ret (v := agg6 x1 y1 x2 y2 x3 y3) (by simp [results, Try.results45, go_sem, c0, c1, c2, c3, c4, c5]) rfl ?_
  exact ⟨rfl, by (repeat' (first | with_reducible assumption | with_reducible exact Mod.refl _ _ | with_reducible refine Mod.alloc ?_ _ | with_reducible refine Mod.drew ?_ | with_reducible refine Mod.drewN ?_ _ | ((with_reducible apply Mod.q_set); (dsimp only); omega) | ((with_reducible apply Mod.q_trans); (with_reducible assumption)) | ((with_reducible apply Mod.q_transp); (with_reducible assumption))))⟩

end Go.Proofs.Ytpacmdiodnnofaa
