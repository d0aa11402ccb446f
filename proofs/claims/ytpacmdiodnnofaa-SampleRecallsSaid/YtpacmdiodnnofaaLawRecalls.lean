/- The law SampleRecalls. -/
import Derived.Test.YtpacmdiodnnofaaSure
import Derived.Test.YtpacmdiodnnofaaDrawnM
import Derived.Test.YtpacmdiodnnofaaRMost
import Derived.Test.YtpacmdiodnnofaaRCheck
import Derived.Test.YtpacmdiodnnofaaDrawn
namespace Go.Proofs.Ytpacmdiodnnofaa
set_option linter.unusedVariables false
set_option linter.unusedSimpArgs false
open Go.RowKit
attribute [local go_sem ↓] Go.wp_at_zero Go.wp_at_succ

/-- What is in memory: the sample, the level, the three answers. -/
structure RW (w : World) (g5 g6 g7 g9 g11 : Nat) (p s f nu de x1 y1 x2 y2 x3 y3 : Int) (wx : World) : Prop where
  d : Blk wx g5 27 #[.int .i64 p, .int .i64 s, .int .i64 f]
  l : Blk wx g6 30 #[.int .i64 nu, .int .i64 de]
  a : Blk wx g7 30 #[.int .i64 x1, .int .i64 y1]
  b : Blk wx g9 30 #[.int .i64 x2, .int .i64 y2]
  c : Blk wx g11 30 #[.int .i64 x3, .int .i64 y3]
  pure : Pure w wx
section
variable {w wx wy : World} {g5 g6 g7 g9 g11 : Nat} {p s f nu de x1 y1 x2 y2 x3 y3 : Int}
theorem RW.modp (h : RW w g5 g6 g7 g9 g11 p s f nu de x1 y1 x2 y2 x3 y3 wx) (hm : Pure wx wy) : RW w g5 g6 g7 g9 g11 p s f nu de x1 y1 x2 y2 x3 y3 wy :=
  ⟨h.d.modp hm, h.l.modp hm, h.a.modp hm, h.b.modp hm, h.c.modp hm, h.pure.trans hm⟩
theorem RW.set {q j : Nat} (h : RW w g5 g6 g7 g9 g11 p s f nu de x1 y1 x2 y2 x3 y3 wx) (h5 : g5 < q) (h6 : g6 < q) (h7 : g7 < q) (h9 : g9 < q) (h11 : g11 < q) (hw : w.heap.size ≤ q) (u : Value) : RW w g5 g6 g7 g9 g11 p s f nu de x1 y1 x2 y2 x3 y3 (wx.setCell ⟨q, j, none⟩ u) :=
  ⟨h.d.far (p := ⟨q, j, none⟩) (by show _ ≠ q; omega) u, h.l.far (p := ⟨q, j, none⟩) (by show _ ≠ q; omega) u, h.a.far (p := ⟨q, j, none⟩) (by show _ ≠ q; omega) u, h.b.far (p := ⟨q, j, none⟩) (by show _ ≠ q; omega) u, h.c.far (p := ⟨q, j, none⟩) (by show _ ≠ q; omega) u, h.pure.setCell (p := ⟨q, j, none⟩) (.inr hw) u⟩
end
theorem inB_f {n a b : Int} (h : ¬ (a ≤ n ∧ n ≤ b)) : inB n a b = false := by unfold inB; rw [decide_eq_false h]
theorem inB_t {n a b : Int} (h : a ≤ n ∧ n ≤ b) : inB n a b = true := by unfold inB; rw [decide_eq_true h]
/-- The wanted answers' places: three new blocks. -/
def RZ (w : World) (B : Nat) (P : World → Prop) (a b c : Value) (A1 A2 A3 : Array Value) (wx : World) : Prop :=
  ∃ g17 g18 g19 : Nat, a = .pointer (some ⟨g17, 0, none⟩) ∧ b = .pointer (some ⟨g18, 0, none⟩) ∧ c = .pointer (some ⟨g19, 0, none⟩) ∧ (B ≤ g17 ∧ B ≤ g18 ∧ B ≤ g19 ∧ g17 ≠ g18 ∧ g17 ≠ g19 ∧ g18 ≠ g19) ∧
    Blk wx g17 30 A1 ∧ Blk wx g18 30 A2 ∧ Blk wx g19 30 A3 ∧ P wx

set_option maxRecDepth 100000 in
set_option maxHeartbeats 8000000 in
theorem SampleRecalls_calls (w : World) (A : Option Addr) (n c : Nat) (hA : ArgInts w A n) :
    Calls Try.prog 7 #[.slice A n c] w (BoolPost w true) := by
  have hS0 := strm_new (c := c) hA
  have hlt0 : w.heap.size < (w.alloc (.cells #[.slice A n c, .int .i64 0] 25)).heap.size := by simp
  go_enter Try.func7, Try.ntmps7
  go_wp2_with fail
  refine (pick_calls _ _ _ _ _ [0, 0, 1, 5, 30, 2000, -1, 2001] (hS0.alloc _) (by omega) (Blk.snd _ _ _ _) (by simp) (by simp) (by simp)).mono ?_
  rintro e w1 ⟨fo, hp, rfl, hS1, hM1⟩
  clear hp
  go_wp2_with fail
  refine (drawnm_calls _ _ _ hS1 (by omega)).mono ?_
  rintro e w2 ⟨p, s, f, hb, rfl, hS2, hM2⟩
  clear hb
  go_wp2_with fail
  refine (level_calls _ _ _ hS2 (by omega)).mono ?_
  rintro e w3 ⟨nu, de, hl, rfl, hS3, hM3⟩
  clear hl
  have hm3 : Pure w w3 := (((Mod.refl _ w).alloc (.cells #[.slice A n c, .int .i64 0] 25)).trans' ((((Mod.refl _ _).alloc _).trans hM1).trans (hM2.trans hM3)) (fun i hi hlt => by omega))
  clear hM1 hM2 hM3 hS1 hS2 hS0 hS3 hlt0
  go_wp2_with fail
  have hdB := (Blk.new w3 27 #[.int .i64 p, .int .i64 s, .int .i64 f]).alloc (.cells #[.int .i64 nu, .int .i64 de] 30)
  have hlB := Blk.snd w3 (.cells #[.int .i64 p, .int .i64 s, .int .i64 f] 27) 30 #[.int .i64 nu, .int .i64 de]
  have hm4 : Pure w ((w3.alloc (.cells #[.int .i64 p, .int .i64 s, .int .i64 f] 27)).alloc (.cells #[.int .i64 nu, .int .i64 de] 30)) := (hm3.alloc _).alloc _
  have hz4 : w3.heap.size + 2 ≤ ((w3.alloc (.cells #[.int .i64 p, .int .i64 s, .int .i64 f] 27)).alloc (.cells #[.int .i64 nu, .int .i64 de] 30)).heap.size := by simp
  generalize ((w3.alloc (.cells #[.int .i64 p, .int .i64 s, .int .i64 f] 27)).alloc (.cells #[.int .i64 nu, .int .i64 de] 30)) = W at *
  have hz3 := hm3.size
  generalize w3.heap.size = dB at *
  clear hm3
  have q0 := hdB.cell 0; have q1 := hdB.cell 1; have q2 := hdB.cell 2; simp at q0 q1 q2
  refine (Recall_calls _ fo p s f).mono ?_
  rintro e w4 ⟨x1, y1, e1, hA1, rfl, hm5⟩
  have HA1 := Lib.hid hA1
  have d4 := hdB.modp hm5
  have l4 := hlB.modp hm5
  have m4 : Pure w w4 := hm4.trans hm5
  have hz5 := hm5.size
  clear hA1 q0 q1 q2 hdB hlB hm4 hm5
  have d4' := d4.alloc (.cells #[.int .i64 x1, .int .i64 y1] 30)
  have l4' := l4.alloc (.cells #[.int .i64 x1, .int .i64 y1] 30)
  have q0 := d4'.cell 0; have q1 := d4'.cell 1; have q2 := d4'.cell 2; simp at q0 q1 q2
  have r0 := l4'.cell 0; have r1 := l4'.cell 1; simp at r0 r1
  go_wp2_with fail
  refine (SureRecall_calls _ fo p s f nu de).mono ?_
  rintro e w5 ⟨x2, y2, e2, hA2, rfl, hm6⟩
  have HA2 := Lib.hid hA2
  have d5 := (d4.alloc _).modp hm6
  have l5 := (l4.alloc _).modp hm6
  have a5 := (Blk.new w4 30 #[.int .i64 x1, .int .i64 y1]).modp hm6
  have m5 : Pure w w5 := (m4.alloc _).trans hm6
  have hz6 : w4.heap.size + 1 ≤ w5.heap.size := by have := hm6.size; simpa using this
  clear hA2 q0 q1 q2 r0 r1 d4 l4 d4' l4' hm6 m4
  generalize w4.heap.size = g7 at *
  have d5' := d5.alloc (.cells #[.int .i64 x2, .int .i64 y2] 30)
  have q0 := d5'.cell 0; have q1 := d5'.cell 1; have q2 := d5'.cell 2; simp at q0 q1 q2
  go_wp2_with fail
  refine (Elusion_calls _ p s f).mono ?_
  rintro e w6 ⟨x3, y3, e3, hA3, rfl, hm7⟩
  have HA3 := Lib.hid hA3
  have d6 := (d5.alloc _).modp hm7
  have l6 := (l5.alloc _).modp hm7
  have a6 := (a5.alloc _).modp hm7
  have b6 := (Blk.new w5 30 #[.int .i64 x2, .int .i64 y2]).modp hm7
  have m6 : Pure w w6 := (m5.alloc _).trans hm7
  have hz7 : w5.heap.size + 1 ≤ w6.heap.size := by have := hm7.size; simpa using this
  clear hA3 q0 q1 q2 d5 d5' l5 a5 hm7 m5
  generalize w5.heap.size = g9 at *
  have hRW : RW w dB (dB + 1) g7 g9 w6.heap.size p s f nu de x1 y1 x2 y2 x3 y3 ((w6.alloc (.cells #[.int .i64 x3, .int .i64 y3] 30)).alloc (.cells #[.int .i64 0, .int .i64 0] 30)) :=
    ⟨(d6.alloc _).alloc _, (l6.alloc _).alloc _, (a6.alloc _).alloc _, (b6.alloc _).alloc _, (Blk.new _ _ _).alloc _, (m6.alloc _).alloc _⟩
  have hz : Blk ((w6.alloc (.cells #[.int .i64 x3, .int .i64 y3] 30)).alloc (.cells #[.int .i64 0, .int .i64 0] 30)) (w6.heap.size + 1) 30 #[.int .i64 0, .int .i64 0] := Blk.snd _ _ _ _
  clear d6 l6 a6 b6 m6
  go_upto_region 8 with (fail)
  generalize ((w6.alloc (.cells #[.int .i64 x3, .int .i64 y3] 30)).alloc (.cells #[.int .i64 0, .int .i64 0] 30)) = W6 at *
  generalize w6.heap.size = g11 at *
  have hw6 := hRW.pure.size
  go_cut [56] (fun q wx => q = .bool (!inB fo 0 2000) ∧ W6 = wx)
  case first =>
    by_cases h1 : fo < 0
    · go_wp2_with fail
      go_meet
      exact ⟨by rw [inB_f (by omega)]; rfl, rfl⟩
    · by_cases h2 : 2000 < fo
      · go_wp2_with fail
        go_meet
        exact ⟨by rw [inB_f (by omega)]; rfl, rfl⟩
      · go_wp2_with fail
        go_meet
        exact ⟨by rw [inB_t (by omega)]; simp <;> omega, rfl⟩
  case rest =>
    obtain ⟨rfl, rfl⟩ := hcut
    go_upto_if 56 with (fail)
    go_cut [14] (fun q wx => q = .int .i64 (manyErr fo) ∧ W6 = wx)
    case first =>
      cases hi : inB fo 0 2000
      · go_wp2_with fail
        go_meet
        exact ⟨by unfold manyErr; rw [if_neg (inB_false hi)], rfl⟩
      · go_wp2_with fail
        go_meet
        exact ⟨by unfold manyErr; rw [if_pos (inB_true hi)], rfl⟩
    case rest =>
      obtain ⟨rfl, rfl⟩ := hcut
      have d0 := hRW.d
      have q0 := d0.cell 0; have q1 := d0.cell 1; have q2 := d0.cell 2; simp at q0 q1 q2
      go_wp2_with fail
      refine (drawnFault_calls _ p s f).mono ?_
      rintro e w7 ⟨rfl, hm8⟩
      have R7 := hRW.modp hm8
      have z7 := hz.modp hm8
      clear hRW hz q0 q1 q2 d0 hm8
      go_wp2_with fail
      refine (wrongOr_calls _ _ _ [manyErr fo, drawnErr p s f] (Blk.new _ _ _).row0 (by simp)).mono ?_
      rintro e w8 ⟨rfl, hm9⟩
      have R8 := R7.modp (((Mod.refl _ _).alloc _).trans hm9)
      have z8 := z7.modp (((Mod.refl _ _).alloc _).trans hm9)
      clear R7 z7 hm9
      obtain ⟨E1, hE1⟩ : ∃ E1, recE fo p s f = E1 := ⟨_, rfl⟩
      rw [show firstErr [manyErr fo, drawnErr p s f] = E1 from hE1]
      have HE1 := Lib.hid hE1
      clear hE1
      have l0 := R8.l
      have q0 := l0.cell 0; have q1 := l0.cell 1; simp at q0 q1
      go_wp2_with fail
      refine (levelFault_calls _ nu de).mono ?_
      rintro e w9 ⟨rfl, hm10⟩
      have R9 := R8.modp hm10
      have z9 := z8.modp hm10
      clear R8 z8 hm10 q0 q1 l0
      go_wp2_with fail
      refine (wrongOr_calls _ _ _ [E1, levelErr nu de] (Blk.new _ _ _).row0 (by simp)).mono ?_
      rintro e w10 ⟨rfl, hm11⟩
      have R10 := R9.modp (((Mod.refl _ _).alloc _).trans hm11)
      have z10 := z9.modp (((Mod.refl _ _).alloc _).trans hm11)
      clear R9 z9 hm11
      obtain ⟨E2, hE2⟩ : ∃ E2, sureE fo p s f nu de = E2 := ⟨_, rfl⟩
      rw [show firstErr [E1, levelErr nu de] = E2 by rw [← hE2, ← HE1.out]; rfl]
      have HE2 := Lib.hid hE2
      clear hE2
      have hw10 := R10.pure.size
      have c5 := R10.d.lt
      have c11 := z10.lt
      have q0 := z10.cell 0; have q1 := z10.cell 1; simp at q0 q1
      go_wp2_with fail
      go_cut [17, 18, 19] (fun a b c wx => RZ w w10.heap.size (RW w dB (dB + 1) g7 g9 g11 p s f nu de x1 y1 x2 y2 x3 y3) a b c #[.int .i64 0, .int .i64 0] #[.int .i64 0, .int .i64 0] #[.int .i64 0, .int .i64 0] wx)
      case first =>
        go_region_held3 (fun w' => w'.cell? ⟨g11 + 1, 0, none⟩ = some (.int .i64 0) ∧ w'.cell? ⟨g11 + 1, 1, none⟩ = some (.int .i64 0)) (((try dsimp only); (repeat' (first | with_reducible assumption | with_reducible refine And.intro ?_ ?_ | with_reducible refine cell_alloc ?_ _ | with_reducible refine cell_drew ?_ | with_reducible refine cell_drewN ?_ _ | ((with_reducible apply q_far); (dsimp only); omega) | ((with_reducible apply q_keepb); (with_reducible assumption); omega) | ((with_reducible apply q_keepp); (with_reducible assumption)))))) (fail)
        all_goals
          go_wp2_with fail
          go_meet
          refine ⟨_, _, _, rfl, rfl, rfl, ?_, ?_, ?_, ?_, ?_⟩
          · (simp only [World.size_alloc, World.size_drew, ne_eq]; omega)
          · (repeat' (first | with_reducible exact Blk.new _ _ _ | with_reducible assumption | ((with_reducible refine Blk.new' ?_); (simp; done)) | with_reducible refine Blk.alloc ?_ _ | with_reducible refine Blk.drew ?_ | with_reducible refine Blk.drewN ?_ _ | ((with_reducible apply Blk.q_modp); (with_reducible assumption)) | ((with_reducible apply Blk.q_modb); (with_reducible assumption); omega) | with_reducible refine Blk.set4 ?_ | with_reducible refine Blk.set3 ?_ | with_reducible refine Blk.set2 ?_ | ((with_reducible apply Blk.q_far); (dsimp only); omega)))
          · (repeat' (first | with_reducible exact Blk.new _ _ _ | with_reducible assumption | ((with_reducible refine Blk.new' ?_); (simp; done)) | with_reducible refine Blk.alloc ?_ _ | with_reducible refine Blk.drew ?_ | with_reducible refine Blk.drewN ?_ _ | ((with_reducible apply Blk.q_modp); (with_reducible assumption)) | ((with_reducible apply Blk.q_modb); (with_reducible assumption); omega) | with_reducible refine Blk.set4 ?_ | with_reducible refine Blk.set3 ?_ | with_reducible refine Blk.set2 ?_ | ((with_reducible apply Blk.q_far); (dsimp only); omega)))
          · (repeat' (first | with_reducible exact Blk.new _ _ _ | with_reducible assumption | ((with_reducible refine Blk.new' ?_); (simp; done)) | with_reducible refine Blk.alloc ?_ _ | with_reducible refine Blk.drew ?_ | with_reducible refine Blk.drewN ?_ _ | ((with_reducible apply Blk.q_modp); (with_reducible assumption)) | ((with_reducible apply Blk.q_modb); (with_reducible assumption); omega) | with_reducible refine Blk.set4 ?_ | with_reducible refine Blk.set3 ?_ | with_reducible refine Blk.set2 ?_ | ((with_reducible apply Blk.q_far); (dsimp only); omega)))
          · exact R10.modp (((((Mod.refl _ _).drew).alloc _).alloc _).alloc _)
      case rest =>
        obtain ⟨g17, g18, g19, rfl, rfl, rfl, ⟨hb1, hb2, hb3, hb4, hb5, hb6⟩, A11, B11, C11, R11⟩ := hcut
        generalize wc = w11 at *
        clear R10 z10 q0 q1
        go_upto_if 71 with (fail)
        go_cut [15] (fun q wx => q = .int .i64 e1 ∧ Blk wx g17 30 #[.int .i64 x1, .int .i64 y1] ∧ Blk wx g18 30 #[.int .i64 0, .int .i64 0] ∧ Blk wx g19 30 #[.int .i64 0, .int .i64 0] ∧ RW w dB (dB + 1) g7 g9 g11 p s f nu de x1 y1 x2 y2 x3 y3 wx)
        case first =>
          rcases HA1.out with ⟨h0, rfl, rfl, h1⟩ | ⟨h0, hbe, rfl, rfl, rfl⟩ | ⟨h0, hbe, hx, hy, rfl⟩
          · have hne : (E1 == 0) = false := by rw [← HE1.out]; simpa using h0
            have H1 : Hid (E1 = e1) := by rw [← HE1.out]; exact h1.symm
            clear h0 h1
            go_wp2_with fail
            go_meet
            exact ⟨by rw [H1.out], A11, B11, C11, R11⟩
          · obtain rfl := HE1.out.symm.trans h0
            obtain ⟨⟨k1, k2⟩, k3, k4⟩ := rec_bounds (recE_ok h0)
            have ht : (fo * s + p * f == 0) = true := by simpa using hbe
            clear h0 hbe
            have d0 := R11.d
            have q0 := d0.cell 0; have q1 := d0.cell 1; have q2 := d0.cell 2; simp at q0 q1 q2
            go_wp2_with fail
            go_meet
            exact ⟨rfl, A11, B11, C11, R11⟩
          · obtain rfl := HE1.out.symm.trans h0
            obtain ⟨⟨k1, k2⟩, k3, k4⟩ := rec_bounds (recE_ok h0)
            have ht : (fo * s + p * f == 0) = false := by simpa using hbe
            have hpos : 1 ≤ fo * s + p * f := by omega
            have HX := Lib.hid hx
            have HY := Lib.hid hy
            clear h0 hbe hx hy
            have d0 := R11.d
            have q0 := d0.cell 0; have q1 := d0.cell 1; have q2 := d0.cell 2; simp at q0 q1 q2
            go_wp2_with fail
            refine (lowest_calls _ _ _ (by omega) (by omega) (by omega)).mono ?_
            rintro e w12 ⟨rfl, hm12⟩
            rw [← HX.out, ← HY.out]
            have A12 := A11.modp hm12
            have B12 := B11.modp hm12
            have C12 := C11.modp hm12
            have R12 := R11.modp hm12
            clear q0 q1 q2 d0 A11 B11 C11 R11 hm12
            have q0 := A12.cell 0; have qf0 := A12.frozen 0; have q1 := A12.cell 1; have qf1 := A12.frozen 1; simp at q0 q1
            go_wp2_with fail
            go_meet
            exact ⟨rfl, Blk.set2 A12, (B12.far (p := ⟨g17, 0, none⟩) (by show _ ≠ g17; omega) _).far (p := ⟨g17, 1, none⟩) (by show _ ≠ g17; omega) _, (C12.far (p := ⟨g17, 0, none⟩) (by show _ ≠ g17; omega) _).far (p := ⟨g17, 1, none⟩) (by show _ ≠ g17; omega) _, ((R12.set (q := g17) (j := 0) (by omega) (by omega) (by omega) (by omega) (by omega) (by omega) _).set (q := g17) (j := 1) (by omega) (by omega) (by omega) (by omega) (by omega) (by omega) _)⟩
        case rest =>
          obtain ⟨rfl, A12, B12, C12, R12⟩ := hcut
          generalize wc = w12 at *
          clear A11 B11 C11 R11
          go_upto_if 91 with (fail)
          go_cut [16] (fun q wx => q = .int .i64 e2 ∧ Blk wx g17 30 #[.int .i64 x1, .int .i64 y1] ∧ Blk wx g18 30 #[.int .i64 x2, .int .i64 y2] ∧ Blk wx g19 30 #[.int .i64 0, .int .i64 0] ∧ RW w dB (dB + 1) g7 g9 g11 p s f nu de x1 y1 x2 y2 x3 y3 wx)
          case first =>
            rcases HA2.out with ⟨h0, rfl, rfl, h1⟩ | ⟨h0, mo, hmo, ⟨hbe, rfl, rfl, rfl⟩ | ⟨hbe, hx, hy, rfl⟩⟩
            · have hne : (E2 == 0) = false := by rw [← HE2.out]; simpa using h0
              have H1 : Hid (E2 = e2) := by rw [← HE2.out]; exact h1.symm
              clear h0 h1
              go_wp2_with fail
              go_meet
              exact ⟨by rw [H1.out], A12, B12, C12, R12⟩
            · obtain rfl := HE2.out.symm.trans h0
              obtain ⟨hfo, p', s', f', n', d', rfl, rfl, rfl, rfl, rfl, hok⟩ := sureE_ok h0
              obtain ⟨k1, k2⟩ := isMost_bound hok hmo
              have HOK := Lib.hid hok
              have HM := Lib.hid hmo
              have ht : (fo + mo == 0) = true := by simpa using hbe
              clear h0 hbe hok hmo
              have d0 := R12.d
              have l0 := R12.l
              have q0 := d0.cell 0; have q1 := d0.cell 1; have q2 := d0.cell 2; simp at q0 q1 q2
              have r0 := l0.cell 0; have r1 := l0.cell 1; simp at r0 r1
              go_wp2_with fail
              refine (MostOf_calls _ p' s' f' n' d' HOK.out).mono ?_
              rintro e w13 ⟨mo', hmo', rfl, hm13⟩
              have hmm : mo' + 1 = mo + 1 := Least.unique hmo' HM.out
              obtain rfl : mo' = mo := by omega
              have A13 := A12.modp hm13
              have B13 := B12.modp hm13
              have C13 := C12.modp hm13
              have R13 := R12.modp hm13
              clear q0 q1 q2 r0 r1 d0 l0 hmo' hmm A12 B12 C12 R12
              go_wp2_with fail
              go_meet
              exact ⟨rfl, A13, B13, C13, R13⟩
            · obtain rfl := HE2.out.symm.trans h0
              obtain ⟨hfo, p', s', f', n', d', rfl, rfl, rfl, rfl, rfl, hok⟩ := sureE_ok h0
              obtain ⟨k1, k2⟩ := isMost_bound hok hmo
              have HOK := Lib.hid hok
              have HM := Lib.hid hmo
              have ht : (fo + mo == 0) = false := by simpa using hbe
              have hpos : 1 ≤ fo + mo := by omega
              have HX := Lib.hid hx
              have HY := Lib.hid hy
              clear h0 hbe hok hmo hx hy
              have d0 := R12.d
              have l0 := R12.l
              have q0 := d0.cell 0; have q1 := d0.cell 1; have q2 := d0.cell 2; simp at q0 q1 q2
              have r0 := l0.cell 0; have r1 := l0.cell 1; simp at r0 r1
              go_wp2_with fail
              refine (MostOf_calls _ p' s' f' n' d' HOK.out).mono ?_
              rintro e w13 ⟨mo', hmo', rfl, hm13⟩
              have hmm : mo' + 1 = mo + 1 := Least.unique hmo' HM.out
              obtain rfl : mo' = mo := by omega
              have A13 := A12.modp hm13
              have B13 := B12.modp hm13
              have C13 := C12.modp hm13
              have R13 := R12.modp hm13
              clear q0 q1 q2 r0 r1 d0 l0 hmo' hmm A12 B12 C12 R12
              go_wp2_with fail
              refine (lowest_calls _ _ _ (by omega) (by omega) (by omega)).mono ?_
              rintro e w14 ⟨rfl, hm14⟩
              rw [← HX.out, ← HY.out]
              have A14 := A13.modp hm14
              have B14 := B13.modp hm14
              have C14 := C13.modp hm14
              have R14 := R13.modp hm14
              clear A13 B13 C13 R13
              have q0 := B14.cell 0; have qf0 := B14.frozen 0; have q1 := B14.cell 1; have qf1 := B14.frozen 1; simp at q0 q1
              go_wp2_with fail
              go_meet
              exact ⟨rfl, (A14.far (p := ⟨g18, 0, none⟩) (by show _ ≠ g18; omega) _).far (p := ⟨g18, 1, none⟩) (by show _ ≠ g18; omega) _, Blk.set2 B14, (C14.far (p := ⟨g18, 0, none⟩) (by show _ ≠ g18; omega) _).far (p := ⟨g18, 1, none⟩) (by show _ ≠ g18; omega) _, ((R14.set (q := g18) (j := 0) (by omega) (by omega) (by omega) (by omega) (by omega) (by omega) _).set (q := g18) (j := 1) (by omega) (by omega) (by omega) (by omega) (by omega) (by omega) _)⟩
          case rest =>
            obtain ⟨rfl, A13, B13, C13, R13⟩ := hcut
            generalize wc = w13 at *
            clear A12 B12 C12 R12
            have d0 := R13.d
            have q0 := d0.cell 0; have q1 := d0.cell 1; have q2 := d0.cell 2; simp at q0 q1 q2
            go_upto_if 104 with (fail)
            refine (drawnFault_calls _ p s f).mono ?_
            rintro e w14 ⟨rfl, hm14⟩
            have A14 := A13.modp hm14
            have B14 := B13.modp hm14
            have C14 := C13.modp hm14
            have R14 := R13.modp hm14
            clear q0 q1 q2 d0 A13 B13 C13 R13 hm14
            generalize hde : drawnErr p s f = E3 at *
            have HE3 := Lib.hid hde
            clear hde
            go_upto_if 104 with (fail)
            go_cut [] (fun wx => Blk wx g17 30 #[.int .i64 x1, .int .i64 y1] ∧ Blk wx g18 30 #[.int .i64 x2, .int .i64 y2] ∧ Blk wx g19 30 #[.int .i64 x3, .int .i64 y3] ∧ RW w dB (dB + 1) g7 g9 g11 p s f nu de x1 y1 x2 y2 x3 y3 wx)
            case first =>
              rcases HA3.out with ⟨h0, rfl, rfl, h1⟩ | ⟨h0, hx, hy, rfl⟩
              · have hne : (E3 == 0) = false := by rw [← HE3.out]; simpa using h0
                clear h0 h1
                go_wp2_with fail
                go_meet
                exact ⟨A14, B14, C14, R14⟩
              · obtain rfl := HE3.out.symm.trans h0
                obtain ⟨k1, k2, k3⟩ := drawnErr_ok h0
                have HX := Lib.hid hx
                have HY := Lib.hid hy
                clear h0 hx hy
                have d0 := R14.d
                have q0 := d0.cell 0; have q1 := d0.cell 1; have q2 := d0.cell 2; simp at q0 q1 q2
                go_wp2_with fail
                refine (lowest_calls _ _ _ (by omega) (by omega) (by omega)).mono ?_
                rintro e w15 ⟨rfl, hm15⟩
                rw [← HX.out, ← HY.out]
                have A15 := A14.modp hm15
                have B15 := B14.modp hm15
                have C15 := C14.modp hm15
                have R15 := R14.modp hm15
                clear q0 q1 q2 d0 A14 B14 C14 R14
                have q0 := C15.cell 0; have qf0 := C15.frozen 0; have q1 := C15.cell 1; have qf1 := C15.frozen 1; simp at q0 q1
                go_wp2_with fail
                go_meet
                exact ⟨(A15.far (p := ⟨g19, 0, none⟩) (by show _ ≠ g19; omega) _).far (p := ⟨g19, 1, none⟩) (by show _ ≠ g19; omega) _, (B15.far (p := ⟨g19, 0, none⟩) (by show _ ≠ g19; omega) _).far (p := ⟨g19, 1, none⟩) (by show _ ≠ g19; omega) _, Blk.set2 C15, ((R15.set (q := g19) (j := 0) (by omega) (by omega) (by omega) (by omega) (by omega) (by omega) _).set (q := g19) (j := 1) (by omega) (by omega) (by omega) (by omega) (by omega) (by omega) _)⟩
            case rest =>
              obtain ⟨A15, B15, C15, R15⟩ := hcut
              generalize wc = w15 at *
              clear A14 B14 C14 R14
              have He3 : Hid (e3 = drawnErr p s f) := by
                rcases HA3.out with ⟨h0, _, _, h1⟩ | ⟨h0, _, _, h1⟩
                · exact h1
                · exact h1.trans h0.symm
              have t1 : (e1 == e1) = true := by simp
              have t2 : (e2 == e2) = true := by simp
              have t3 : (x1 == x1) = true := by simp
              have t4 : (y1 == y1) = true := by simp
              have t5 : (x2 == x2) = true := by simp
              have t6 : (y2 == y2) = true := by simp
              have t7 : (x3 == x3) = true := by simp
              have t8 : (y3 == y3) = true := by simp
              have t9 : (e3 == e3) = true := by simp
              have d0 := R15.d
              have a0 := R15.a
              have b0 := R15.b
              have c0 := R15.c
              have q0 := d0.cell 0; have q1 := d0.cell 1; have q2 := d0.cell 2; simp at q0 q1 q2
              have qa0 := a0.cell 0; have qa1 := a0.cell 1; simp at qa0 qa1
              have qb0 := b0.cell 0; have qb1 := b0.cell 1; simp at qb0 qb1
              have qc0 := c0.cell 0; have qc1 := c0.cell 1; simp at qc0 qc1
              have ra0 := A15.cell 0; have ra1 := A15.cell 1; simp at ra0 ra1
              have rb0 := B15.cell 0; have rb1 := B15.cell 1; simp at rb0 rb1
              have rc0 := C15.cell 0; have rc1 := C15.cell 1; simp at rc0 rc1
              go_wp2_with fail
              refine (drawnFault_calls _ p s f).mono ?_
              rintro e w16 ⟨rfl, hm16⟩
              rw [← He3.out]
              have c1 := c0.modp hm16
              have C16 := C15.modp hm16
              have R16 := R15.pure.trans hm16
              clear q0 q1 q2 qa0 qa1 qb0 qb1 qc0 qc1 ra0 ra1 rb0 rb1 rc0 rc1 d0 a0 b0 c0 A15 B15 C15 R15
              have qc0 := c1.cell 0; have qc1 := c1.cell 1; simp at qc0 qc1
              have rc0 := C16.cell 0; have rc1 := C16.cell 1; simp at rc0 rc1
              go_wp2_with fail
              refine (drawn_calls _).mono ?_
              rintro e w17 ⟨rfl, hm17⟩
              go_wp2_with fail
              go_ret
              exact BoolPost.of rfl (R16.trans hm17)

end Go.Proofs.Ytpacmdiodnnofaa
