/- Package sample: SureRecall. -/
import Derived.Test.YtpacmdiodnnofaaRecall
namespace Go.Proofs.Ytpacmdiodnnofaa
set_option linter.unusedVariables false
set_option linter.unusedSimpArgs false
open Go.RowKit
attribute [local go_sem ↓] Go.wp_at_zero Go.wp_at_succ

def sureE (fo p s f n d : Int) : Int := firstErr [recE fo p s f, levelErr n d]
theorem sureE_ok {fo p s f n d : Int} (h : sureE fo p s f n d = 0) : (0 ≤ fo ∧ fo ≤ 2000) ∧ ∃ p' s' f' n' d' : Nat, p = p' ∧ s = s' ∧ f = f' ∧ n = n' ∧ d = d' ∧ DrawnOk p' s' f' n' d' := by
  unfold sureE at h
  rw [firstErr_two] at h
  by_cases h1 : recE fo p s f = 0
  · rw [if_pos h1] at h
    obtain ⟨a, b, c, d1, d2⟩ := recE_ok h1
    unfold levelErr at h
    split at h
    · refine ⟨a, p.toNat, s.toNat, f.toNat, n.toNat, d.toNat, by omega, by omega, by omega, by omega, by omega, ?_⟩
      unfold DrawnOk
      omega
    · cases h
  · rw [if_neg h1] at h
    exact absurd h h1
def IsMostI (p s f n d x : Int) : Prop := IsMost p.toNat s.toNat f.toNat n.toNat d.toNat x
def SureSpec (fo p s f n d x y er : Int) : Prop :=
  (sureE fo p s f n d ≠ 0 ∧ x = 0 ∧ y = 0 ∧ er = sureE fo p s f n d) ∨ (sureE fo p s f n d = 0 ∧ ∃ mo : Int, IsMostI p s f n d mo ∧ ((fo + mo = 0 ∧ x = 0 ∧ y = 0 ∧ er = 16) ∨ (fo + mo ≠ 0 ∧ x = fracN fo (fo + mo) ∧ y = fracD fo (fo + mo) ∧ er = 0)))
def SurePost (w : World) (fo p s f n d : Int) (e : Ending) (w' : World) : Prop := ∃ x y er : Int, SureSpec fo p s f n d x y er ∧ e = .returned (.tuple #[agg2 x y, .int .i64 er]) ∧ Pure w w'
theorem isMost_bound {p s f n d : Nat} {x : Int} (hok : DrawnOk p s f n d) (h : IsMost p s f n d x) : 0 ≤ x ∧ x ≤ 4000 := by
  obtain ⟨a1, a2, _, _⟩ := h
  unfold DrawnOk at hok
  omega

set_option maxRecDepth 100000 in
set_option maxHeartbeats 2000000 in
theorem SureRecall_calls (w : World) (fo p s f n d : Int) : Calls Try.prog 38 #[.int .i64 fo, agg3 p s f, agg2 n d] w (SurePost w fo p s f n d) := by
  go_enter Try.func38, Try.ntmps38
  go_wp2_with fail
  have hdB := ((Blk.new w 27 #[.int .i64 p, .int .i64 s, .int .i64 f]).alloc (.cells #[.int .i64 n, .int .i64 d] 30)).alloc (.cells #[.int .i64 0, .int .i64 0] 30)
  have hlB := (Blk.snd w (.cells #[.int .i64 p, .int .i64 s, .int .i64 f] 27) 30 #[.int .i64 n, .int .i64 d]).alloc (.cells #[.int .i64 0, .int .i64 0] 30)
  have hrB := Blk.thd w (.cells #[.int .i64 p, .int .i64 s, .int .i64 f] 27) (.cells #[.int .i64 n, .int .i64 d] 30) 30 #[.int .i64 0, .int .i64 0]
  have hm0 : Pure w (((w.alloc (.cells #[.int .i64 p, .int .i64 s, .int .i64 f] 27)).alloc (.cells #[.int .i64 n, .int .i64 d] 30)).alloc (.cells #[.int .i64 0, .int .i64 0] 30)) := (((Mod.refl _ _).alloc _).alloc _).alloc _
  generalize (((w.alloc (.cells #[.int .i64 p, .int .i64 s, .int .i64 f] 27)).alloc (.cells #[.int .i64 n, .int .i64 d] 30)).alloc (.cells #[.int .i64 0, .int .i64 0] 30)) = W at *
  generalize hdb : w.heap.size = dB at *
  have hle := Nat.le_of_eq hdb
  clear hdb
  have HGs := Lib.hid (show ∀ w w' : World, (fun w => Blk w dB 27 #[.int .i64 p, .int .i64 s, .int .i64 f] ∧ Blk w (dB + 1) 30 #[.int .i64 n, .int .i64 d] ∧ Blk w (dB + 1 + 1) 30 #[.int .i64 0, .int .i64 0]) w → Mod (fun _ => False) w w' → (fun w => Blk w dB 27 #[.int .i64 p, .int .i64 s, .int .i64 f] ∧ Blk w (dB + 1) 30 #[.int .i64 n, .int .i64 d] ∧ Blk w (dB + 1 + 1) 30 #[.int .i64 0, .int .i64 0]) w' from by intro w w' h hm; exact ⟨h.1.modp hm, h.2.1.modp hm, h.2.2.modp hm⟩)
  refine wp_region_inv (by kernel_rfl) (by kernel_rfl) (InvF (R := Mod (fun _ => False)) [.is (.int .i64 fo),
      .is (.agg #[.int .i64 p, .int .i64 s, .int .i64 f]),
      .is (.int .i64 (recE fo p s f)),
      .is (.agg #[.int .i64 n, .int .i64 d]),
      .is (.int .i64 (levelErr n d)),
      ⟨fun v w => ∃ (g_5 : Nat), v = .slice (some ⟨g_5, 0, none⟩) 2 2 ∧ W.heap.size ≤ g_5 ∧ Blk w g_5 32 #[.int .i64 (recE fo p s f), .int .i64 (levelErr n d)], (by rintro v w w' ⟨g_5, rfl, c0, q0⟩ hm; exact ⟨g_5, rfl, c0, (q0.modp hm)⟩), none, some 6⟩,
      .is (.int .i64 (sureE fo p s f n d)),
      .is (.int .i64 (sureE fo p s f n d))]
      (PB w (fun _ => False) W.heap.size (fun w => Blk w dB 27 #[.int .i64 p, .int .i64 s, .int .i64 f] ∧ Blk w (dB + 1) 30 #[.int .i64 n, .int .i64 d] ∧ Blk w (dB + 1 + 1) 30 #[.int .i64 0, .int .i64 0]))) (InvF.start (PB.start hm0 (Nat.le_refl _) (⟨hdB, hlB, hrB⟩))) ?_ ?_
  · refine .cons ?_ (.cons ?_ (.cons ?_ (.cons ?_ (.cons ?_ (.cons ?_ (.cons ?_ (.cons ?_ .nil)))))))
    · intro D V w1 a hR hI K hK   -- 0: Op.move (Operand.tmp 0)
      obtain ⟨hM1, hB1, hG1⟩ := hI.1
      have e0 := hR.frame.other (t := 0) (by kernel_rfl) rfl
      rw [if_pos (by rfl)]
      go_simp
      exact hK (.int .i64 fo) _ (hI.next hR (by kernel_rfl) (Mod.refl _ _) (PB.quiet hI.1 (Mod.refl _ _) (HGs.out _ _ (hI.1).g (Mod.refl _ _))) (upd_same V 0 _))
    · intro D V w1 a hR hI K hK   -- 1: Op.load 27 (Operand.tmp 4)
      obtain ⟨hM1, hB1, hG1⟩ := hI.1
      have e4 := hR.frame.other (t := 4) (by kernel_rfl) rfl
      have x0 := hG1.1.cell 0; have x1 := hG1.1.cell 1; have x2 := hG1.1.cell 2
      simp at x0 x1 x2
      rw [if_pos (by rfl)]
      go_simp
      exact hK (.agg #[.int .i64 p, .int .i64 s, .int .i64 f]) _ (hI.next hR (by kernel_rfl) (Mod.refl _ _) (PB.quiet hI.1 (Mod.refl _ _) (HGs.out _ _ (hI.1).g (Mod.refl _ _))) (upd_same V 1 _))
    · intro D V w1 a hR hI K hK   -- 2: Op.call { callee := Callee.value (Operand.func 85), args := #[Operand.
      obtain ⟨hM1, hB1, hG1⟩ := hI.1
      have d0 := hR.pred 0 (by kernel_rfl)
      have F0 : V 0 = .int .i64 fo := hI.2 0 d0 rfl
      have f0 := F0; clear F0
      have d1 := hR.pred 1 (by kernel_rfl)
      have F1 : V 1 = .agg #[.int .i64 p, .int .i64 s, .int .i64 f] := hI.2 1 d1 rfl
      have f1 := F1; clear F1
      have e10 := hR.frame.done (t := 10) (j := 0) (by kernel_rfl) hR.ok d0
      have e11 := hR.frame.done (t := 11) (j := 1) (by kernel_rfl) hR.ok d1
      rw [if_pos (by rfl)]
      go_simp
      refine (foundError_calls _ _ _ _ _).mono ?_
      rintro e w2 ⟨rfl, hm2⟩
      exact hK (.int .i64 (recE fo p s f)) _ (hI.next hR (by kernel_rfl) hm2 (PB.quiet hI.1 hm2 (HGs.out _ _ (hI.1).g hm2)) (upd_same V 2 _))
    · intro D V w1 a hR hI K hK   -- 3: Op.load 30 (Operand.tmp 5)
      obtain ⟨hM1, hB1, hG1⟩ := hI.1
      have e5 := hR.frame.other (t := 5) (by kernel_rfl) rfl
      have x0 := hG1.2.1.cell 0; have x1 := hG1.2.1.cell 1
      simp at x0 x1
      rw [if_pos (by rfl)]
      go_simp
      exact hK (.agg #[.int .i64 n, .int .i64 d]) _ (hI.next hR (by kernel_rfl) (Mod.refl _ _) (PB.quiet hI.1 (Mod.refl _ _) (HGs.out _ _ (hI.1).g (Mod.refl _ _))) (upd_same V 3 _))
    · intro D V w1 a hR hI K hK   -- 4: Op.call { callee := Callee.value (Operand.func 17), args := #[Operand.
      obtain ⟨hM1, hB1, hG1⟩ := hI.1
      have d3 := hR.pred 3 (by kernel_rfl)
      have F3 : V 3 = .agg #[.int .i64 n, .int .i64 d] := hI.2 3 d3 rfl
      have f3 := F3; clear F3
      have e13 := hR.frame.done (t := 13) (j := 3) (by kernel_rfl) hR.ok d3
      rw [if_pos (by rfl)]
      go_simp
      refine (checkLevel_calls _ _ _).mono ?_
      rintro e w2 ⟨rfl, hm2⟩
      exact hK (.int .i64 (levelErr n d)) _ (hI.next hR (by kernel_rfl) hm2 (PB.quiet hI.1 hm2 (HGs.out _ _ (hI.1).g hm2)) (upd_same V 4 _))
    · intro D V w1 a hR hI K hK   -- 5: Op.buildSlice 97 2 #[(0, Operand.tmp 12), (1, Operand.tmp 14)]
      obtain ⟨hM1, hB1, hG1⟩ := hI.1
      have d2 := hR.pred 2 (by kernel_rfl)
      have F2 : V 2 = .int .i64 (recE fo p s f) := hI.2 2 d2 rfl
      have f2 := F2; clear F2
      have d4 := hR.pred 4 (by kernel_rfl)
      have F4 : V 4 = .int .i64 (levelErr n d) := hI.2 4 d4 rfl
      have f4 := F4; clear F4
      have e12 := hR.frame.done (t := 12) (j := 2) (by kernel_rfl) hR.ok d2
      have e14 := hR.frame.done (t := 14) (j := 4) (by kernel_rfl) hR.ok d4
      rw [if_pos (by rfl)]
      go_simp
      exact hK (_) _ (hI.next hR (by kernel_rfl) ((Mod.refl _ _).alloc _) (PB.quiet hI.1 (pure_alloc _ _) (HGs.out _ _ (hI.1).g ((Mod.refl _ _).alloc _))) (⟨_, upd_same V 5 _, (by omega), (Blk.new _ _ _)⟩))
    · intro D V w1 a hR hI K hK   -- 6: Op.call { callee := Callee.value (Operand.func 79), args := #[Operand.
      obtain ⟨hM1, hB1, hG1⟩ := hI.1
      have d5 := hR.pred 5 (by kernel_rfl)
      have F5 : ∃ (g_5 : Nat), V 5 = .slice (some ⟨g_5, 0, none⟩) 2 2 ∧ W.heap.size ≤ g_5 ∧ Blk w1 g_5 32 #[.int .i64 (recE fo p s f), .int .i64 (levelErr n d)] := hI.2 5 d5 (by show (!D 6) = true; rw [hR.not]; rfl)
      obtain ⟨g_5, f5, c5_0, b5_0⟩ := F5
      have e15 := hR.frame.done (t := 15) (j := 5) (by kernel_rfl) hR.ok d5
      rw [if_pos (by rfl)]
      go_simp
      refine (firstE_calls _ _ _ [recE fo p s f, levelErr n d] b5_0.row0 (by simp)).mono ?_
      rintro e w2 ⟨rfl, hm2⟩
      exact hK (.int .i64 (sureE fo p s f n d)) _ (hI.next hR (by kernel_rfl) hm2 (PB.quiet hI.1 hm2 (HGs.out _ _ (hI.1).g hm2)) (upd_same V 6 _))
    · intro D V w1 a hR hI K hK   -- 7: Op.assign (Operand.tmp 16)
      obtain ⟨hM1, hB1, hG1⟩ := hI.1
      have d6 := hR.pred 6 (by kernel_rfl)
      have F6 : V 6 = .int .i64 (sureE fo p s f n d) := hI.2 6 d6 rfl
      have f6 := F6; clear F6
      have e16 := hR.frame.done (t := 16) (j := 6) (by kernel_rfl) hR.ok d6
      rw [if_pos (by rfl)]
      go_simp
      exact hK (.int .i64 (sureE fo p s f n d)) _ (hI.next hR (by kernel_rfl) (Mod.refl _ _) (PB.quiet hI.1 (Mod.refl _ _) (HGs.out _ _ (hI.1).g (Mod.refl _ _))) (upd_same V 7 _))
  · intro D V w1 hD hI
    obtain ⟨hM1, hB1, hG1⟩ := hI.1
    have hMx := hM1
    clear hM1
    have hBx := hB1
    clear hB1
    have hGx := hG1
    clear hG1
    have F0 : V 0 = .int .i64 fo := hI.2 0 (hD 0 (by decide)) rfl
    have f0 := F0; clear F0
    have F1 : V 1 = .agg #[.int .i64 p, .int .i64 s, .int .i64 f] := hI.2 1 (hD 1 (by decide)) rfl
    have f1 := F1; clear F1
    have F2 : V 2 = .int .i64 (recE fo p s f) := hI.2 2 (hD 2 (by decide)) rfl
    have f2 := F2; clear F2
    have F3 : V 3 = .agg #[.int .i64 n, .int .i64 d] := hI.2 3 (hD 3 (by decide)) rfl
    have f3 := F3; clear F3
    have F4 : V 4 = .int .i64 (levelErr n d) := hI.2 4 (hD 4 (by decide)) rfl
    have f4 := F4; clear F4
    have F6 : V 6 = .int .i64 (sureE fo p s f n d) := hI.2 6 (hD 6 (by decide)) rfl
    have f6 := F6; clear F6
    have F7 : V 7 = .int .i64 (sureE fo p s f n d) := hI.2 7 (hD 7 (by decide)) rfl
    have f7 := F7; clear F7
    clear hI hD HGs
    simp only [frAll, Act.put, List.setIfInBounds_toArray, List.set_cons_zero, List.set_cons_succ, Nat.zero_add, Nat.reduceAdd, f0, f1, f2, f3, f4, f6, f7]
    clear f0 f1 f2 f3 f4 f6 f7
    generalize V 5 = u5
    clear V D
    obtain ⟨d1, l1, r1⟩ := hGx
    have m1 : Pure w w1 := hMx
    clear hdB hlB hrB hm0 hMx
    have c0 := r1.cell 0; have c1 := r1.cell 1; have g0 := r1.frozen 0; have g1 := r1.frozen 1
    have x0 := d1.cell 0; have x1 := d1.cell 1; have x2 := d1.cell 2; have y0 := l1.cell 0; have y1 := l1.cell 1
    simp at x0 x1 x2 c0 c1 y0 y1
    by_cases h0 : sureE fo p s f n d = 0
    · have hok := sureE_ok h0
      have HR := Lib.hid h0
      rw [h0]
      clear h0
      obtain ⟨hfo, p', s', f', n', d', rfl, rfl, rfl, rfl, rfl, hok⟩ := hok
      have HOK := Lib.hid hok
      clear hok
      go_wp2_with fail
      refine (most_calls _ p' s' f' n' d' HOK.out).mono ?_
      rintro e w2 ⟨mo, hmo, rfl, hm2⟩
      obtain ⟨hb1, hb2⟩ := isMost_bound HOK.out hmo
      have HM : Hid (IsMostI p' s' f' n' d' mo) := hmo
      have r2 := r1.modp hm2
      have m2 : Pure w w2 := m1.trans hm2
      clear x0 x1 x2 y0 y1 c0 c1 g0 g1 d1 l1 r1 m1 hm2 hmo
      have c0 := r2.cell 0; have c1 := r2.cell 1; have g0 := r2.frozen 0; have g1 := r2.frozen 1
      simp at c0 c1
      by_cases h1 : fo + mo = 0
      · have H1 := Lib.hid h1
        have ht : (fo + mo == 0) = true := by simpa using h1
        clear h1
        go_wp2_with fail
        refine bodyPost_ret (v := .tuple #[agg2 0 0, .int .i64 16]) (by simp [results, Try.results38, go_sem, c0, c1]) rfl ?_
        exact ⟨0, 0, 16, .inr ⟨HR.out, mo, HM.out, .inl ⟨H1.out, rfl, rfl, rfl⟩⟩, rfl, (m2.setCell (.inr (by show _ ≤ dB + 1 + 1; omega)) _).setCell (.inr (by show _ ≤ dB + 1 + 1; omega)) _⟩
      · have H1 := Lib.hid h1
        have ht : (fo + mo == 0) = false := by simpa using h1
        have hpos : 1 ≤ fo + mo := by omega
        clear h1
        go_wp2_with fail
        refine (fraction_calls _ _ _ (by omega) (by omega) (by omega)).mono ?_
        rintro e w3 ⟨rfl, hm3⟩
        have r3 := r2.modp hm3
        have m3 : Pure w w3 := m2.trans hm3
        clear c0 c1 g0 g1 r2 m2 hm3
        have c0 := r3.cell 0; have c1 := r3.cell 1; have g0 := r3.frozen 0; have g1 := r3.frozen 1
        simp at c0 c1
        generalize hfn : fracN fo (fo + mo) = fn at *
        generalize hfd : fracD fo (fo + mo) = fd at *
        have HN := Lib.hid hfn
        have HD := Lib.hid hfd
        clear hfn hfd
        go_wp2_with fail
        refine bodyPost_ret (v := .tuple #[agg2 fn fd, .int .i64 0]) (by simp [results, Try.results38, go_sem, c0, c1]) rfl ?_
        exact ⟨fn, fd, 0, .inr ⟨HR.out, mo, HM.out, .inr ⟨H1.out, HN.out.symm, HD.out.symm, rfl⟩⟩, rfl, (m3.setCell (.inr (by show _ ≤ dB + 1 + 1; omega)) _).setCell (.inr (by show _ ≤ dB + 1 + 1; omega)) _⟩
    · have hb : (sureE fo p s f n d != 0) = true := by simpa using h0
      have HR := Lib.hid h0
      clear h0
      generalize hre : sureE fo p s f n d = er at *
      have HE := Lib.hid hre
      clear hre
      go_wp2_with fail
      refine bodyPost_ret (v := .tuple #[agg2 0 0, .int .i64 er]) (by simp [results, Try.results38, go_sem, c0, c1]) rfl ?_
      exact ⟨0, 0, er, .inl ⟨by rw [HE.out]; exact HR.out, rfl, rfl, HE.out.symm⟩, rfl, (m1.setCell (.inr (by show _ ≤ dB + 1 + 1; omega)) _).setCell (.inr (by show _ ≤ dB + 1 + 1; omega)) _⟩

end Go.Proofs.Ytpacmdiodnnofaa
