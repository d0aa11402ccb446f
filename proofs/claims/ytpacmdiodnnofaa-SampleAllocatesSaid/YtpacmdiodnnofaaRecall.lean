/- Package sample: Recall, SureRecall, Elusion. -/
import Derived.Test.YtpacmdiodnnofaaLowest
import Derived.Test.YtpacmdiodnnofaaMostB
import Derived.Test.YtpacmdiodnnofaaRegG
namespace Go.Proofs.Ytpacmdiodnnofaa
set_option linter.unusedVariables false
set_option linter.unusedSimpArgs false
open Go.RowKit
attribute [local go_sem ↓] Go.wp_at_zero Go.wp_at_succ

def manyErr (n : Int) : Int := if 0 ≤ n ∧ n ≤ 2000 then 0 else 1
set_option maxRecDepth 100000 in
set_option maxHeartbeats 400000 in
theorem manyError_calls (w : World) (n : Int) : Calls Try.prog 101 #[.int .i64 n] w (IntPost w (manyErr n)) := by
  go_enter Try.func101, Try.ntmps101
  go_wp2_with fail
  refine (in_calls _ _ _ _).mono ?_
  rintro e w' ⟨rfl, rfl⟩
  cases h1 : inB n 0 2000
  · go_wp2_with fail
    refine (when_t _ _).mono ?_
    rintro e w' ⟨rfl, rfl⟩
    go_wp2_with fail
    go_ret
    refine IntPost.of ?_ (Mod.refl _ _)
    unfold manyErr
    have := inB_false h1
    rw [if_neg this]
  · go_wp2_with fail
    refine (when_f _ _).mono ?_
    rintro e w' ⟨rfl, rfl⟩
    go_wp2_with fail
    go_ret
    refine IntPost.of ?_ (Mod.refl _ _)
    unfold manyErr
    have := inB_true h1
    rw [if_pos this]

def recE (fo p s f : Int) : Int := firstErr [manyErr fo, drawnErr p s f]
set_option maxRecDepth 100000 in
set_option maxHeartbeats 1000000 in
theorem foundError_calls (w : World) (fo p s f : Int) : Calls Try.prog 85 #[.int .i64 fo, agg3 p s f] w (IntPost w (recE fo p s f)) := by
  go_enter Try.func85, Try.ntmps85
  go_wp2_with fail
  have hdB := Blk.new w 27 #[.int .i64 p, .int .i64 s, .int .i64 f]
  have hm0 : Pure w (w.alloc (.cells #[.int .i64 p, .int .i64 s, .int .i64 f] 27)) := (Mod.refl _ _).alloc _
  generalize (w.alloc (.cells #[.int .i64 p, .int .i64 s, .int .i64 f] 27)) = W at *
  generalize w.heap.size = dB at *
  have HGs := Lib.hid (show ∀ (D : Nat → Bool) (i : Nat) (w w' : World), (fun _ w => (fun w => Blk w dB 27 #[.int .i64 p, .int .i64 s, .int .i64 f]) w) D w → Mod (fun _ => False) w w' → (fun _ w => (fun w => Blk w dB 27 #[.int .i64 p, .int .i64 s, .int .i64 f]) w) (upd D i true) w' from by intro D i w w' h hm; (exact h.modp hm))
  refine wp_region_inv (by kernel_rfl) (by kernel_rfl) (InvF (R := Mod (fun _ => False)) [.is (.int .i64 fo),
      .is (.int .i64 (manyErr fo)),
      .is (.agg #[.int .i64 p, .int .i64 s, .int .i64 f]),
      .is (.int .i64 (drawnErr p s f)),
      ⟨fun zv zw => ∃ (g_4 : Nat), zv = .slice (some ⟨g_4, 0, none⟩) 2 2 ∧ W.heap.size ≤ g_4 ∧ Blk zw g_4 32 #[.int .i64 (manyErr fo), .int .i64 (drawnErr p s f)], (by rintro zv zw zx ⟨g_4, rfl, c0, q0⟩ hm; exact ⟨g_4, rfl, c0, (q0.modp hm)⟩), none, some 5⟩,
      .is (.int .i64 (recE fo p s f)),
      .is (.int .i64 (recE fo p s f))]
      (PB w (fun _ => False) W.heap.size (fun _ w => (fun w => Blk w dB 27 #[.int .i64 p, .int .i64 s, .int .i64 f]) w))) (InvF.start (PB.start hm0 (Nat.le_refl _) (hdB))) ?_ ?_
  · refine .cons ?_ (.cons ?_ (.cons ?_ (.cons ?_ (.cons ?_ (.cons ?_ (.cons ?_ .nil))))))
    · intro D V zw1 a hR hI K hK   -- 0: Op.move (Operand.tmp 0)
      obtain ⟨hM1, hB1, hG1⟩ := hI.1
      have ze0 := hR.frame.other (t := 0) (by kernel_rfl) rfl
      rw [if_pos (by rfl)]
      go_simp
      exact hK (.int .i64 fo) _ (hI.next hR (by kernel_rfl) (Mod.refl _ _) (PB.quiet hI.1 (Mod.refl _ _) (HGs.out D 0 zw1 zw1 (hI.1).g (Mod.refl _ _))) (upd_same V 0 _))
    · intro D V zw1 a hR hI K hK   -- 1: Op.call { callee := Callee.value (Operand.func 101), args := #[Operand
      obtain ⟨hM1, hB1, hG1⟩ := hI.1
      have zd0 := hR.pred 0 (by kernel_rfl)
      have zF0 : V 0 = .int .i64 fo := hI.2 0 zd0 rfl
      have zf0 := zF0; clear zF0
      have ze5 := hR.frame.done (t := 5) (j := 0) (by kernel_rfl) hR.ok zd0
      rw [if_pos (by rfl)]
      go_simp
      refine (manyError_calls _ _).mono ?_
      rintro e zw2 ⟨rfl, hm2⟩
      exact hK (.int .i64 (manyErr fo)) _ (hI.next hR (by kernel_rfl) hm2 (PB.quiet hI.1 hm2 (HGs.out D 1 _ _ (hI.1).g hm2)) (upd_same V 1 _))
    · intro D V zw1 a hR hI K hK   -- 2: Op.load 27 (Operand.tmp 3)
      obtain ⟨hM1, hB1, hG1⟩ := hI.1
      have ze3 := hR.frame.other (t := 3) (by kernel_rfl) rfl
      have zx0 := hG1.cell 0; have zx1 := hG1.cell 1; have zx2 := hG1.cell 2
      simp at zx0 zx1 zx2
      rw [if_pos (by rfl)]
      go_simp
      exact hK (.agg #[.int .i64 p, .int .i64 s, .int .i64 f]) _ (hI.next hR (by kernel_rfl) (Mod.refl _ _) (PB.quiet hI.1 (Mod.refl _ _) (HGs.out D 2 zw1 zw1 (hI.1).g (Mod.refl _ _))) (upd_same V 2 _))
    · intro D V zw1 a hR hI K hK   -- 3: Op.call { callee := Callee.value (Operand.func 19), args := #[Operand.
      obtain ⟨hM1, hB1, hG1⟩ := hI.1
      have zd2 := hR.pred 2 (by kernel_rfl)
      have zF2 : V 2 = .agg #[.int .i64 p, .int .i64 s, .int .i64 f] := hI.2 2 zd2 rfl
      have zf2 := zF2; clear zF2
      have ze7 := hR.frame.done (t := 7) (j := 2) (by kernel_rfl) hR.ok zd2
      rw [if_pos (by rfl)]
      go_simp
      refine (checkDrawn_calls _ _ _ _).mono ?_
      rintro e zw2 ⟨rfl, hm2⟩
      exact hK (.int .i64 (drawnErr p s f)) _ (hI.next hR (by kernel_rfl) hm2 (PB.quiet hI.1 hm2 (HGs.out D 3 _ _ (hI.1).g hm2)) (upd_same V 3 _))
    · intro D V zw1 a hR hI K hK   -- 4: Op.buildSlice 97 2 #[(0, Operand.tmp 6), (1, Operand.tmp 8)]
      obtain ⟨hM1, hB1, hG1⟩ := hI.1
      have zd1 := hR.pred 1 (by kernel_rfl)
      have zF1 : V 1 = .int .i64 (manyErr fo) := hI.2 1 zd1 rfl
      have zf1 := zF1; clear zF1
      have zd3 := hR.pred 3 (by kernel_rfl)
      have zF3 : V 3 = .int .i64 (drawnErr p s f) := hI.2 3 zd3 rfl
      have zf3 := zF3; clear zF3
      have ze6 := hR.frame.done (t := 6) (j := 1) (by kernel_rfl) hR.ok zd1
      have ze8 := hR.frame.done (t := 8) (j := 3) (by kernel_rfl) hR.ok zd3
      rw [if_pos (by rfl)]
      go_simp
      exact hK (_) _ (hI.next hR (by kernel_rfl) ((Mod.refl _ _).alloc _) (PB.quiet hI.1 (pure_alloc _ _) (HGs.out D 4 _ _ (hI.1).g ((Mod.refl _ _).alloc _))) (⟨_, upd_same V 4 _, (by omega), (Blk.new _ _ _)⟩))
    · intro D V zw1 a hR hI K hK   -- 5: Op.call { callee := Callee.value (Operand.func 79), args := #[Operand.
      obtain ⟨hM1, hB1, hG1⟩ := hI.1
      have zd4 := hR.pred 4 (by kernel_rfl)
      have zF4 : ∃ (g_4 : Nat), V 4 = .slice (some ⟨g_4, 0, none⟩) 2 2 ∧ W.heap.size ≤ g_4 ∧ Blk zw1 g_4 32 #[.int .i64 (manyErr fo), .int .i64 (drawnErr p s f)] := hI.2 4 zd4 (by show (!D 5) = true; rw [hR.not]; rfl)
      obtain ⟨g_4, zf4, c4_0, b4_0⟩ := zF4
      have ze9 := hR.frame.done (t := 9) (j := 4) (by kernel_rfl) hR.ok zd4
      rw [if_pos (by rfl)]
      go_simp
      refine (firstE_calls _ _ _ [manyErr fo, drawnErr p s f] b4_0.row0 (by simp)).mono ?_
      rintro e zw2 ⟨rfl, hm2⟩
      exact hK (.int .i64 (recE fo p s f)) _ (hI.next hR (by kernel_rfl) hm2 (PB.quiet hI.1 hm2 (HGs.out D 5 _ _ (hI.1).g hm2)) (upd_same V 5 _))
    · intro D V zw1 a hR hI K hK   -- 6: Op.assign (Operand.tmp 10)
      obtain ⟨hM1, hB1, hG1⟩ := hI.1
      have zd5 := hR.pred 5 (by kernel_rfl)
      have zF5 : V 5 = .int .i64 (recE fo p s f) := hI.2 5 zd5 rfl
      have zf5 := zF5; clear zF5
      have ze10 := hR.frame.done (t := 10) (j := 5) (by kernel_rfl) hR.ok zd5
      rw [if_pos (by rfl)]
      go_simp
      exact hK (.int .i64 (recE fo p s f)) _ (hI.next hR (by kernel_rfl) (Mod.refl _ _) (PB.quiet hI.1 (Mod.refl _ _) (HGs.out D 6 zw1 zw1 (hI.1).g (Mod.refl _ _))) (upd_same V 6 _))
  · intro D V w1 hD hI
    obtain ⟨hM1, hB1, hG1⟩ := hI.1
    have hMx := hM1
    clear hM1
    have hBx := hB1
    clear hB1
    have hGx := hG1
    clear hG1
    have zF0 : V 0 = .int .i64 fo := hI.2 0 (hD 0 (by decide)) rfl
    have zf0 := zF0; clear zF0
    have zF1 : V 1 = .int .i64 (manyErr fo) := hI.2 1 (hD 1 (by decide)) rfl
    have zf1 := zF1; clear zF1
    have zF2 : V 2 = .agg #[.int .i64 p, .int .i64 s, .int .i64 f] := hI.2 2 (hD 2 (by decide)) rfl
    have zf2 := zF2; clear zF2
    have zF3 : V 3 = .int .i64 (drawnErr p s f) := hI.2 3 (hD 3 (by decide)) rfl
    have zf3 := zF3; clear zF3
    have zF5 : V 5 = .int .i64 (recE fo p s f) := hI.2 5 (hD 5 (by decide)) rfl
    have zf5 := zF5; clear zF5
    have zF6 : V 6 = .int .i64 (recE fo p s f) := hI.2 6 (hD 6 (by decide)) rfl
    have zf6 := zF6; clear zF6
    clear hI hD HGs
    simp only [frAll, Act.put, List.setIfInBounds_toArray, List.set_cons_zero, List.set_cons_succ, Nat.zero_add, Nat.reduceAdd, zf0, zf1, zf2, zf3, zf5, zf6]
    clear zf0 zf1 zf2 zf3 zf5 zf6
    generalize V 4 = u4
    clear V D
    go_wp2_with fail
    go_ret
    exact IntPost.of rfl hMx

theorem recE_ok {fo p s f : Int} (h : recE fo p s f = 0) : (0 ≤ fo ∧ fo ≤ 2000) ∧ (1 ≤ p ∧ p ≤ 2000) ∧ (1 ≤ s ∧ s ≤ 60 ∧ s ≤ p) ∧ 0 ≤ f ∧ f ≤ s := by
  unfold recE at h
  rw [firstErr_two] at h
  by_cases h1 : manyErr fo = 0
  · rw [if_pos h1] at h
    unfold manyErr at h1
    unfold drawnErr at h
    split at h1
    · split at h
      · rename_i h2 h3
        exact ⟨h2, h3⟩
      · cases h
    · cases h1
  · rw [if_neg h1] at h
    exact absurd h h1
theorem rec_bounds {fo p s f : Int} (h : (0 ≤ fo ∧ fo ≤ 2000) ∧ (1 ≤ p ∧ p ≤ 2000) ∧ (1 ≤ s ∧ s ≤ 60 ∧ s ≤ p) ∧ 0 ≤ f ∧ f ≤ s) : (0 ≤ fo * s ∧ fo * s ≤ 120000) ∧ 0 ≤ p * f ∧ p * f ≤ 120000 := by
  obtain ⟨⟨a1, a2⟩, ⟨b1, b2⟩, ⟨c1, c2, c3⟩, d1, d2⟩ := h
  have e1 : 0 ≤ fo * s := Int.mul_nonneg a1 (by omega)
  have e2 : fo * s ≤ 2000 * 60 := Int.mul_le_mul a2 c2 (by omega) (by omega)
  have e3 : 0 ≤ p * f := Int.mul_nonneg (by omega) d1
  have e4 : p * f ≤ 2000 * 60 := Int.mul_le_mul b2 (by omega) d1 (by omega)
  omega

/-- A fraction and an error. -/
def FErr (w : World) (x y er : Int) (e : Ending) (w' : World) : Prop := e = .returned (.tuple #[agg2 x y, .int .i64 er]) ∧ Pure w w'
def RecSpec (fo p s f x y er : Int) : Prop :=
  (recE fo p s f ≠ 0 ∧ x = 0 ∧ y = 0 ∧ er = recE fo p s f) ∨ (recE fo p s f = 0 ∧ fo * s + p * f = 0 ∧ x = 0 ∧ y = 0 ∧ er = 16) ∨ (recE fo p s f = 0 ∧ fo * s + p * f ≠ 0 ∧ x = fracN (fo * s) (fo * s + p * f) ∧ y = fracD (fo * s) (fo * s + p * f) ∧ er = 0)
def RecPost (w : World) (fo p s f : Int) (e : Ending) (w' : World) : Prop := ∃ x y er : Int, RecSpec fo p s f x y er ∧ e = .returned (.tuple #[agg2 x y, .int .i64 er]) ∧ Pure w w'

set_option maxRecDepth 100000 in
set_option maxHeartbeats 1000000 in
theorem Recall_calls (w : World) (fo p s f : Int) : Calls Try.prog 37 #[.int .i64 fo, agg3 p s f] w (RecPost w fo p s f) := by
  go_enter Try.func37, Try.ntmps37
  go_wp2_with fail
  have hdB := (Blk.new w 27 #[.int .i64 p, .int .i64 s, .int .i64 f]).alloc (.cells #[.int .i64 0, .int .i64 0] 30)
  have hrB := Blk.snd w (.cells #[.int .i64 p, .int .i64 s, .int .i64 f] 27) 30 #[.int .i64 0, .int .i64 0]
  have hm0 : Pure w ((w.alloc (.cells #[.int .i64 p, .int .i64 s, .int .i64 f] 27)).alloc (.cells #[.int .i64 0, .int .i64 0] 30)) := ((Mod.refl _ _).alloc _).alloc _
  generalize ((w.alloc (.cells #[.int .i64 p, .int .i64 s, .int .i64 f] 27)).alloc (.cells #[.int .i64 0, .int .i64 0] 30)) = W at *
  generalize hdb : w.heap.size = dB at *
  have hle := Nat.le_of_eq hdb
  clear hdb
  have x0 := hdB.cell 0; have x1 := hdB.cell 1; have x2 := hdB.cell 2
  simp at x0 x1 x2
  refine (foundError_calls _ _ _ _ _).mono ?_
  rintro e w1 ⟨rfl, hm1⟩
  have d1 := hdB.modp hm1
  have r1 := hrB.modp hm1
  have m1 : Pure w w1 := hm0.trans hm1
  clear x0 x1 x2 hdB hrB hm0 hm1
  have x0 := d1.cell 0; have x1 := d1.cell 1; have x2 := d1.cell 2
  have c0 := r1.cell 0; have c1 := r1.cell 1; have g0 := r1.frozen 0; have g1 := r1.frozen 1
  simp at x0 x1 x2 c0 c1
  by_cases h0 : recE fo p s f = 0
  · obtain ⟨⟨b1, b2⟩, b3, b4⟩ := rec_bounds (recE_ok h0)
    have HR := Lib.hid h0
    rw [h0]
    clear h0
    by_cases h1 : fo * s + p * f = 0
    · have H1 := Lib.hid h1
      have ht : (fo * s + p * f == 0) = true := by simpa using h1
      clear h1
      go_wp2_with fail
      refine bodyPost_ret (v := .tuple #[agg2 0 0, .int .i64 16]) (by simp [results, Try.results37, go_sem, c0, c1]) rfl ?_
      exact ⟨0, 0, 16, .inr (.inl ⟨HR.out, H1.out, rfl, rfl, rfl⟩), rfl, (m1.setCell (.inr (by show _ ≤ dB + 1; omega)) _).setCell (.inr (by show _ ≤ dB + 1; omega)) _⟩
    · have H1 := Lib.hid h1
      have ht : (fo * s + p * f == 0) = false := by simpa using h1
      have hpos : 1 ≤ fo * s + p * f := by omega
      clear h1
      go_wp2_with fail
      refine (fraction_calls _ _ _ (by omega) (by omega) (by omega)).mono ?_
      rintro e w2 ⟨rfl, hm2⟩
      have r2 := r1.modp hm2
      have m2 : Pure w w2 := m1.trans hm2
      clear x0 x1 x2 c0 c1 g0 g1 d1 r1 m1 hm2
      have c0 := r2.cell 0; have c1 := r2.cell 1; have g0 := r2.frozen 0; have g1 := r2.frozen 1
      simp at c0 c1
      generalize hfn : fracN (fo * s) (fo * s + p * f) = fn at *
      generalize hfd : fracD (fo * s) (fo * s + p * f) = fd at *
      have HN := Lib.hid hfn
      have HD := Lib.hid hfd
      clear hfn hfd
      go_wp2_with fail
      refine bodyPost_ret (v := .tuple #[agg2 fn fd, .int .i64 0]) (by simp [results, Try.results37, go_sem, c0, c1]) rfl ?_
      exact ⟨fn, fd, 0, .inr (.inr ⟨HR.out, H1.out, HN.out.symm, HD.out.symm, rfl⟩), rfl, (m2.setCell (.inr (by show _ ≤ dB + 1; omega)) _).setCell (.inr (by show _ ≤ dB + 1; omega)) _⟩
  · have hb : (recE fo p s f != 0) = true := by simpa using h0
    have HR := Lib.hid h0
    clear h0
    generalize hre : recE fo p s f = er at *
    have HE := Lib.hid hre
    clear hre
    go_wp2_with fail
    refine bodyPost_ret (v := .tuple #[agg2 0 0, .int .i64 er]) (by simp [results, Try.results37, go_sem, c0, c1]) rfl ?_
    exact ⟨0, 0, er, .inl ⟨by rw [HE.out]; exact HR.out, rfl, rfl, HE.out.symm⟩, rfl, (m1.setCell (.inr (by show _ ≤ dB + 1; omega)) _).setCell (.inr (by show _ ≤ dB + 1; omega)) _⟩

def EluSpec (p s f x y er : Int) : Prop := (drawnErr p s f ≠ 0 ∧ x = 0 ∧ y = 0 ∧ er = drawnErr p s f) ∨ (drawnErr p s f = 0 ∧ x = fracN f s ∧ y = fracD f s ∧ er = 0)
def EluPost (w : World) (p s f : Int) (e : Ending) (w' : World) : Prop := ∃ x y er : Int, EluSpec p s f x y er ∧ e = .returned (.tuple #[agg2 x y, .int .i64 er]) ∧ Pure w w'
theorem drawnErr_ok {p s f : Int} (h : drawnErr p s f = 0) : (1 ≤ p ∧ p ≤ 2000) ∧ (1 ≤ s ∧ s ≤ 60 ∧ s ≤ p) ∧ 0 ≤ f ∧ f ≤ s := by
  unfold drawnErr at h
  split at h
  · assumption
  · cases h

set_option maxRecDepth 100000 in
set_option maxHeartbeats 1000000 in
theorem Elusion_calls (w : World) (p s f : Int) : Calls Try.prog 39 #[agg3 p s f] w (EluPost w p s f) := by
  go_enter Try.func39, Try.ntmps39
  go_wp2_with fail
  have hdB := (Blk.new w 27 #[.int .i64 p, .int .i64 s, .int .i64 f]).alloc (.cells #[.int .i64 0, .int .i64 0] 30)
  have hrB := Blk.snd w (.cells #[.int .i64 p, .int .i64 s, .int .i64 f] 27) 30 #[.int .i64 0, .int .i64 0]
  have hm0 : Pure w ((w.alloc (.cells #[.int .i64 p, .int .i64 s, .int .i64 f] 27)).alloc (.cells #[.int .i64 0, .int .i64 0] 30)) := ((Mod.refl _ _).alloc _).alloc _
  generalize ((w.alloc (.cells #[.int .i64 p, .int .i64 s, .int .i64 f] 27)).alloc (.cells #[.int .i64 0, .int .i64 0] 30)) = W at *
  generalize hdb : w.heap.size = dB at *
  have hle := Nat.le_of_eq hdb
  clear hdb
  have x0 := hdB.cell 0; have x1 := hdB.cell 1; have x2 := hdB.cell 2
  simp at x0 x1 x2
  refine (checkDrawn_calls _ _ _ _).mono ?_
  rintro e w1 ⟨rfl, hm1⟩
  have d1 := hdB.modp hm1
  have r1 := hrB.modp hm1
  have m1 : Pure w w1 := hm0.trans hm1
  clear x0 x1 x2 hdB hrB hm0 hm1
  have x0 := d1.cell 0; have x1 := d1.cell 1; have x2 := d1.cell 2
  have c0 := r1.cell 0; have c1 := r1.cell 1; have g0 := r1.frozen 0; have g1 := r1.frozen 1
  simp at x0 x1 x2 c0 c1
  by_cases h0 : drawnErr p s f = 0
  · obtain ⟨b1, b2, b3⟩ := drawnErr_ok h0
    have HR := Lib.hid h0
    rw [h0]
    clear h0
    go_wp2_with fail
    refine (fraction_calls _ _ _ (by omega) (by omega) (by omega)).mono ?_
    rintro e w2 ⟨rfl, hm2⟩
    have r2 := r1.modp hm2
    have m2 : Pure w w2 := m1.trans hm2
    clear x0 x1 x2 c0 c1 g0 g1 d1 r1 m1 hm2
    have c0 := r2.cell 0; have c1 := r2.cell 1; have g0 := r2.frozen 0; have g1 := r2.frozen 1
    simp at c0 c1
    generalize hfn : fracN f s = fn at *
    generalize hfd : fracD f s = fd at *
    have HN := Lib.hid hfn
    have HD := Lib.hid hfd
    clear hfn hfd
    go_wp2_with fail
    refine bodyPost_ret (v := .tuple #[agg2 fn fd, .int .i64 0]) (by simp [results, Try.results39, go_sem, c0, c1]) rfl ?_
    exact ⟨fn, fd, 0, .inr ⟨HR.out, HN.out.symm, HD.out.symm, rfl⟩, rfl, (m2.setCell (.inr (by show _ ≤ dB + 1; omega)) _).setCell (.inr (by show _ ≤ dB + 1; omega)) _⟩
  · have hb : (drawnErr p s f != 0) = true := by simpa using h0
    have HR := Lib.hid h0
    clear h0
    generalize hre : drawnErr p s f = er at *
    have HE := Lib.hid hre
    clear hre
    go_wp2_with fail
    refine bodyPost_ret (v := .tuple #[agg2 0 0, .int .i64 er]) (by simp [results, Try.results39, go_sem, c0, c1]) rfl ?_
    exact ⟨0, 0, er, .inl ⟨by rw [HE.out]; exact HR.out, rfl, rfl, HE.out.symm⟩, rfl, (m1.setCell (.inr (by show _ ≤ dB + 1; omega)) _).setCell (.inr (by show _ ≤ dB + 1; omega)) _⟩

end Go.Proofs.Ytpacmdiodnnofaa
