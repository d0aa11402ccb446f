/- The law SampleJudges. -/
import Derived.Test.YtpacmdiodnnofaaKappa
import Derived.Test.YtpacmdiodnnofaaDrawn
namespace Go.Proofs.Ytpacmdiodnnofaa
set_option linter.unusedVariables false
set_option linter.unusedSimpArgs false
open Go.RowKit
attribute [local go_sem ↓] Go.wp_at_zero Go.wp_at_succ

def CntPost (w : World) (b N : Nat) (e : Ending) (w' : World) : Prop := ∃ k : Int, (0 ≤ k ∧ k ≤ 1000000) ∧ e = .returned (.int .i64 k) ∧ Strm w' b (N + 2) ∧ Mod (· = b) w w'
set_option maxRecDepth 100000 in
set_option maxHeartbeats 1000000 in
theorem judges1_calls (w : World) (b N g : Nat) (hS : Strm w b N) (hN : N ≤ 900000000) (hgb : g ≠ b) (hg : w.cell? ⟨g, 0, none⟩ = some (.pointer (some ⟨b, 0, none⟩))) :
    Calls Try.prog 41 #[.pointer (some ⟨g, 0, none⟩)] w (CntPost w b N) := by
  have hbW := hS.lt
  go_enter Try.func41, Try.ntmps41
  go_wp2_with fail
  have HGs := Lib.hid (show ∀ w w' : World, (fun w => w.cell? ⟨g, 0, none⟩ = some (.pointer (some ⟨b, 0, none⟩))) w → Mod (· = b) w w' → (fun w => w.cell? ⟨g, 0, none⟩ = some (.pointer (some ⟨b, 0, none⟩))) w' from by intro w w' h hm; exact hm.keep h hgb)
  refine wp_region_inv (by kernel_rfl) (by kernel_rfl) (InvF (R := Mod (· = b)) [.is (.pointer (some ⟨b, 0, none⟩)),
      .is (.pointer (some ⟨b, 0, none⟩)),
      .val (fun zv => ∃ (k_2 : Int), zv = .int .i64 k_2 ∧ 0 ≤ k_2 ∧ k_2 ≤ 50),
      ⟨fun zv zw => ∃ (k_3 : Int) (g_3 : Nat), zv = .slice (some ⟨g_3, 0, none⟩) 9 9 ∧ 0 ≤ k_3 ∧ k_3 ≤ 50 ∧ w.heap.size ≤ g_3 ∧ Blk zw g_3 3 #[(.int .i64 0), (.int .i64 0), (.int .i64 1), (.int .i64 2), (.int .i64 5), (.int .i64 8), (.int .i64 20), (.int .i64 1000000), .int .i64 k_3], (by rintro zv zw zx ⟨k_3, g_3, rfl, c0, c1, c2, q0⟩ hm; exact ⟨k_3, g_3, rfl, c0, c1, c2, (q0.modb hm (by omega))⟩), none, some 4⟩,
      .val (fun zv => ∃ (k_4 : Int), zv = .int .i64 k_4 ∧ 0 ≤ k_4 ∧ k_4 ≤ 1000000),
      .val (fun zv => ∃ (k_5 : Int), zv = .int .i64 k_5 ∧ 0 ≤ k_5 ∧ k_5 ≤ 1000000)]
      (GB w (· = b) w.heap.size b (N) (fun D => (D 2).toNat + (D 4).toNat) (fun w => w.cell? ⟨g, 0, none⟩ = some (.pointer (some ⟨b, 0, none⟩))))) (InvF.start (GB.start hS (Mod.refl _ _) (Nat.le_refl _) (hg))) ?_ ?_
  · refine .cons ?_ (.cons ?_ (.cons ?_ (.cons ?_ (.cons ?_ (.cons ?_ .nil)))))
    · intro D V w1 a hR hI K hK   -- 0: Op.load 23 (Operand.tmp 0)
      obtain ⟨hS1, hM1, hB1, hG1⟩ := hI.1
      have ze0 := hR.frame.other (t := 0) (by kernel_rfl) rfl
      rw [if_pos (by rfl)]
      go_simp
      exact hK (.pointer (some ⟨b, 0, none⟩)) _ (hI.next hR (by kernel_rfl) (Mod.refl _ _) (GB.quiet hI.1 (Mod.refl _ _) (by have hn := hR.not; simp [upd, hn] <;> omega) (HGs.out _ _ (hI.1).g (Mod.refl _ _))) (upd_same V 0 _))
    · intro D V w1 a hR hI K hK   -- 1: Op.load 23 (Operand.tmp 0)
      obtain ⟨hS1, hM1, hB1, hG1⟩ := hI.1
      have ze0 := hR.frame.other (t := 0) (by kernel_rfl) rfl
      rw [if_pos (by rfl)]
      go_simp
      exact hK (.pointer (some ⟨b, 0, none⟩)) _ (hI.next hR (by kernel_rfl) (Mod.refl _ _) (GB.quiet hI.1 (Mod.refl _ _) (by have hn := hR.not; simp [upd, hn] <;> omega) (HGs.out _ _ (hI.1).g (Mod.refl _ _))) (upd_same V 1 _))
    · intro D V w1 a hR hI K hK   -- 2: Op.call { callee := Callee.value (Operand.func 42), args := #[Operand.
      obtain ⟨hS1, hM1, hB1, hG1⟩ := hI.1
      have zd1 := hR.pred 1 (by kernel_rfl)
      have zF1 : V 1 = .pointer (some ⟨b, 0, none⟩) := hI.2 1 zd1 rfl
      have zf1 := zF1; clear zF1
      have ze3 := hR.frame.done (t := 3) (j := 1) (by kernel_rfl) hR.ok zd1
      rw [if_pos (by rfl)]
      have := Bool.toNat_le (D 2)
      have := Bool.toNat_le (D 4)
      have hNB : N + ((D 2).toNat + (D 4).toNat) ≤ 1000000000 := by omega
      skip
      go_simp
      refine (range_calls _ _ _ _ _ hS1 hNB (by omega) (by omega) (by omega)).mono ?_
      rintro e w2 ⟨k_0, hk1, hk2, rfl, hS2, hm2⟩
      exact hK (.int .i64 k_0) _ (hI.next hR (by kernel_rfl) hm2 (GB.asks hI.1 (fun _ h _ => h) hS2 hm2 (by have hn := hR.not; simp [upd, hn] <;> omega) (HGs.out _ _ (hI.1).g hm2)) (⟨k_0, upd_same V 2 _, hk1, hk2⟩))
    · intro D V w1 a hR hI K hK   -- 3: Op.buildSlice 22 9 #[(0, Operand.const (Value.int IntKind.i64 0)), (1,
      obtain ⟨hS1, hM1, hB1, hG1⟩ := hI.1
      have zd2 := hR.pred 2 (by kernel_rfl)
      have zF2 : ∃ (k_2 : Int), V 2 = .int .i64 k_2 ∧ 0 ≤ k_2 ∧ k_2 ≤ 50 := hI.2 2 zd2 rfl
      obtain ⟨k_2, zf2, c2_0, c2_1⟩ := zF2
      have ze4 := hR.frame.done (t := 4) (j := 2) (by kernel_rfl) hR.ok zd2
      rw [if_pos (by rfl)]
      go_simp
      exact hK (_) _ (hI.next hR (by kernel_rfl) ((Mod.refl _ _).alloc _) (GB.quiet hI.1 (pure_alloc _ _) (by have hn := hR.not; simp [upd, hn] <;> omega) (HGs.out _ _ (hI.1).g ((Mod.refl _ _).alloc _))) (⟨k_2, _, upd_same V 3 _, (by first | assumption | omega), (by first | assumption | omega), (by omega), (Blk.new _ _ _)⟩))
    · intro D V w1 a hR hI K hK   -- 4: Op.call { callee := Callee.value (Operand.func 25), args := #[Operand.
      obtain ⟨hS1, hM1, hB1, hG1⟩ := hI.1
      have zd0 := hR.pred 0 (by kernel_rfl)
      have zF0 : V 0 = .pointer (some ⟨b, 0, none⟩) := hI.2 0 zd0 rfl
      have zf0 := zF0; clear zF0
      have zd3 := hR.pred 3 (by kernel_rfl)
      have zF3 : ∃ (k_3 : Int) (g_3 : Nat), V 3 = .slice (some ⟨g_3, 0, none⟩) 9 9 ∧ 0 ≤ k_3 ∧ k_3 ≤ 50 ∧ w.heap.size ≤ g_3 ∧ Blk w1 g_3 3 #[(.int .i64 0), (.int .i64 0), (.int .i64 1), (.int .i64 2), (.int .i64 5), (.int .i64 8), (.int .i64 20), (.int .i64 1000000), .int .i64 k_3] := hI.2 3 zd3 (by show (!D 4) = true; rw [hR.not]; rfl)
      obtain ⟨k_3, g_3, zf3, c3_0, c3_1, c3_2, b3_0⟩ := zF3
      have ze2 := hR.frame.done (t := 2) (j := 0) (by kernel_rfl) hR.ok zd0
      have ze5 := hR.frame.done (t := 5) (j := 3) (by kernel_rfl) hR.ok zd3
      rw [if_pos (by rfl)]
      have := Bool.toNat_le (D 2)
      have := Bool.toNat_le (D 4)
      have hNB : N + ((D 2).toNat + (D 4).toNat) ≤ 1000000000 := by omega
      skip
      go_simp
      refine (pickv_calls _ _ _ _ 9 9 #[(.int .i64 0), (.int .i64 0), (.int .i64 1), (.int .i64 2), (.int .i64 5), (.int .i64 8), (.int .i64 20), (.int .i64 1000000), .int .i64 k_3] hS1 b3_0 hNB (by omega) rfl (by omega) (by omega) rfl).mono ?_
      rintro e w2 ⟨k_0, hk, rfl, hS2, hm2⟩
      have hk2 : 0 ≤ k_0 ∧ k_0 ≤ 1000000 := by simp [intsOf, intOf] at hk; omega
      exact hK (.int .i64 k_0) _ (hI.next hR (by kernel_rfl) hm2 (GB.asks hI.1 (fun _ h _ => h) hS2 hm2 (by have hn := hR.not; simp [upd, hn] <;> omega) (HGs.out _ _ (hI.1).g hm2)) (⟨k_0, upd_same V 4 _, hk2.1, hk2.2⟩))
    · intro D V w1 a hR hI K hK   -- 5: Op.assign (Operand.tmp 6)
      obtain ⟨hS1, hM1, hB1, hG1⟩ := hI.1
      have zd4 := hR.pred 4 (by kernel_rfl)
      have zF4 : ∃ (k_4 : Int), V 4 = .int .i64 k_4 ∧ 0 ≤ k_4 ∧ k_4 ≤ 1000000 := hI.2 4 zd4 rfl
      obtain ⟨k_4, zf4, c4_0, c4_1⟩ := zF4
      have ze6 := hR.frame.done (t := 6) (j := 4) (by kernel_rfl) hR.ok zd4
      rw [if_pos (by rfl)]
      go_simp
      exact hK (.int .i64 k_4) _ (hI.next hR (by kernel_rfl) (Mod.refl _ _) (GB.quiet hI.1 (Mod.refl _ _) (by have hn := hR.not; simp [upd, hn] <;> omega) (HGs.out _ _ (hI.1).g (Mod.refl _ _))) (⟨k_4, upd_same V 5 _, (by first | assumption | omega), (by first | assumption | omega)⟩))
  · intro D V w1 hD hI
    obtain ⟨hS1, hM1, hB1, hG1⟩ := hI.1
    have hSx : Strm w1 b (N + 2) := hS1.more (by show _ ≤ _; have := Bool.toNat_le (D 2); have := Bool.toNat_le (D 4); omega)
    clear hS1
    have hMx := hM1
    clear hM1
    have hBx := hB1
    clear hB1
    have hGx := hG1
    clear hG1
    have zF0 : V 0 = .pointer (some ⟨b, 0, none⟩) := hI.2 0 (hD 0 (by decide)) rfl
    have zf0 := zF0; clear zF0
    have zF1 : V 1 = .pointer (some ⟨b, 0, none⟩) := hI.2 1 (hD 1 (by decide)) rfl
    have zf1 := zF1; clear zF1
    have zF2 : ∃ (k_2 : Int), V 2 = .int .i64 k_2 ∧ 0 ≤ k_2 ∧ k_2 ≤ 50 := hI.2 2 (hD 2 (by decide)) rfl
    obtain ⟨k_2, zf2, c2_0, c2_1⟩ := zF2
    have zF4 : ∃ (k_4 : Int), V 4 = .int .i64 k_4 ∧ 0 ≤ k_4 ∧ k_4 ≤ 1000000 := hI.2 4 (hD 4 (by decide)) rfl
    obtain ⟨k_4, zf4, c4_0, c4_1⟩ := zF4
    have zF5 : ∃ (k_5 : Int), V 5 = .int .i64 k_5 ∧ 0 ≤ k_5 ∧ k_5 ≤ 1000000 := hI.2 5 (hD 5 (by decide)) rfl
    obtain ⟨k_5, zf5, c5_0, c5_1⟩ := zF5
    clear hI hD HGs
    simp only [frAll, Act.put, List.setIfInBounds_toArray, List.set_cons_zero, List.set_cons_succ, Nat.zero_add, Nat.reduceAdd, zf0, zf1, zf2, zf4, zf5]
    clear zf0 zf1 zf2 zf4 zf5
    generalize V 3 = u3
    clear V D
    go_wp2_with fail
    go_ret
    exact ⟨_, ⟨by assumption, by assumption⟩, rfl, hSx, hMx⟩

def KapSpec (a b c d x y er : Int) : Prop := (a + b + c + d = 0 ∧ x = 0 ∧ y = 0 ∧ er = 8) ∨ (¬ a + b + c + d = 0 ∧ x = kapN a b c d ∧ y = kapD a b c d ∧ er = 0)
def KapPost (w : World) (a b c d : Int) (e : Ending) (w' : World) : Prop := ∃ x y er : Int, KapSpec a b c d x y er ∧ e = .returned (.tuple #[agg2 x y, .int .i64 er]) ∧ Pure w w'
theorem Kappa_any (w : World) (a b c d : Int) (ha : cntOk a) (hb : cntOk b) (hc : cntOk c) (hd : cntOk d) : Calls Try.prog 44 #[.int .i64 a, .int .i64 b, .int .i64 c, .int .i64 d] w (KapPost w a b c d) := by
  by_cases h0 : a + b + c + d = 0
  · exact (Kappa_none w a b c d ha hb hc hd h0).mono fun e w' h => ⟨0, 0, 8, .inl ⟨h0, rfl, rfl, rfl⟩, h.1, h.2⟩
  · exact (Kappa_ok w a b c d ha hb hc hd h0).mono fun e w' h => ⟨_, _, 0, .inr ⟨h0, rfl, rfl, rfl⟩, h.1, h.2⟩

def JInv (w : World) (q : Value) (wx : World) : Prop := ∃ c : Int, q = .int .i64 c ∧ Pure w wx

set_option maxRecDepth 100000 in
set_option maxHeartbeats 8000000 in
theorem SampleJudges_calls (w : World) (A : Option Addr) (n c : Nat) (hA : ArgInts w A n) :
    Calls Try.prog 8 #[.slice A n c] w (BoolPost w true) := by
  have hS0 := (strm_new (c := c) hA).alloc (.cells #[.pointer (some ⟨w.heap.size, 0, none⟩)] 23)
  have hgB := Blk.snd w (.cells #[.slice A n c, .int .i64 0] 25) 23 #[.pointer (some ⟨w.heap.size, 0, none⟩)]
  have hm0 : Pure w ((w.alloc (.cells #[.slice A n c, .int .i64 0] 25)).alloc (.cells #[.pointer (some ⟨w.heap.size, 0, none⟩)] 23)) := ((Mod.refl _ _).alloc _).alloc _
  go_enter Try.func8, Try.ntmps8
  go_wp2_with fail
  generalize ((w.alloc (.cells #[.slice A n c, .int .i64 0] 25)).alloc (.cells #[.pointer (some ⟨w.heap.size, 0, none⟩)] 23)) = W at *
  have g0 := hgB.cell 0
  simp at g0
  clear hgB
  generalize hb : w.heap.size = b at *
  have hwb := Nat.le_of_eq hb
  clear hb
  refine (judges1_calls _ b _ _ hS0 (by omega) (by omega) g0).mono ?_
  rintro e w1 ⟨na, ha, rfl, hS1, hM1⟩
  have g1 := hM1.keep g0 (by show ¬ b + 1 = b; omega)
  have m1 : Pure w w1 := hm0.trans' hM1 (fun i hi hlt => by omega)
  clear hS0 g0 hm0 hM1
  go_wp2_with fail
  refine (judges1_calls _ b _ _ hS1 (by omega) (by omega) g1).mono ?_
  rintro e w2 ⟨nb, hb, rfl, hS2, hM2⟩
  have g2 := hM2.keep g1 (by show ¬ b + 1 = b; omega)
  have m2 : Pure w w2 := m1.trans' hM2 (fun i hi hlt => by omega)
  clear hS1 g1 m1 hM2
  go_wp2_with fail
  refine (judges1_calls _ b _ _ hS2 (by omega) (by omega) g2).mono ?_
  rintro e w3 ⟨nc0, hc0, rfl, hS3, hM3⟩
  have g3 := hM3.keep g2 (by show ¬ b + 1 = b; omega)
  have m3 : Pure w w3 := m2.trans' hM3 (fun i hi hlt => by omega)
  clear hS2 g2 m2 hM3
  go_wp2_with fail
  refine (judges1_calls _ b _ _ hS3 (by omega) (by omega) g3).mono ?_
  rintro e w4 ⟨nd, hd, rfl, hS4, hM4⟩
  have g4 := hM4.keep g3 (by show ¬ b + 1 = b; omega)
  have m4 : Pure w w4 := m3.trans' hM4 (fun i hi hlt => by omega)
  clear hS3 g3 m3 hM4
  go_upto_if 26 with (fail)
  refine (flip_calls _ _ _ _ hS4 (by omega) (by omega) (by omega)).mono ?_
  rintro e w5 ⟨fl, rfl, hS5, hM5⟩
  have g5 := hM5.keep g4 (by show ¬ b + 1 = b; omega)
  have m5 : Pure w w5 := m4.trans' hM5 (fun i hi hlt => by omega)
  have hlt5 := hS5.lt
  clear hS4 g4 m4 hM5
  go_upto_if 26 with (fail)
  go_cut [7] (fun q wx => JInv w q wx)
  case first =>
    cases fl
    · go_wp2_with fail
      go_meet
      exact ⟨_, rfl, m5⟩
    · go_wp2_with fail
      refine (pick_calls _ _ _ _ _ [-1, 1000001] (hS5.alloc _) (by omega) (Blk.new _ _ _) (by omega) (by simp) (by simp)).mono ?_
      rintro e w6 ⟨k, hk, rfl, hS6, hM6⟩
      clear hk
      go_wp2_with fail
      go_meet
      exact ⟨_, rfl, (m5.alloc _).trans' hM6 (fun i hi hlt => by omega)⟩
  case rest =>
    obtain ⟨nc, rfl, m6⟩ := hcut
    generalize wc = w6 at *
    clear hS5 g5 m5 hc0
    by_cases hc : cntOk nc
    · have HC := Lib.hid hc
      obtain ⟨c1, c2⟩ := hc
      obtain ⟨a1, a2⟩ := ha
      obtain ⟨b1, b2⟩ := hb
      obtain ⟨d1, d2⟩ := hd
      obtain ⟨x1, y1, x2, y2, x3, y3, hj⟩ : ∃ x1 y1 x2 y2 x3 y3 : Int, judgeV na nb nc = agg6 x1 y1 x2 y2 x3 y3 := ⟨_, _, _, _, _, _, rfl⟩
      have HJ := Lib.hid hj
      have t1 : (x1 == x1) = true := by simp
      have t2 : (y1 == y1) = true := by simp
      have t3 : (x2 == x2) = true := by simp
      have t4 : (y2 == y2) = true := by simp
      have t5 : (x3 == x3) = true := by simp
      have t6 : (y3 == y3) = true := by simp
      clear hj
      go_wp2_with fail
      refine (Judge_ok _ na nb nc ⟨a1, a2⟩ ⟨b1, b2⟩ HC.out).mono ?_
      rintro e w7 ⟨he, hm7⟩
      rw [HJ.out] at he
      subst he
      have m7 : Pure w w7 := m6.trans hm7
      clear hm7 m6
      go_wp2_with fail
      refine (Kappa_any _ na nb nc nd ⟨a1, a2⟩ ⟨b1, b2⟩ HC.out ⟨d1, d2⟩).mono ?_
      rintro e w8 ⟨kn, kd, ke, hks, rfl, hm8⟩
      have HK := Lib.hid hks
      have t7 : (kn == kn) = true := by simp
      have t8 : (kd == kd) = true := by simp
      have M8 := ((Blk.new w7 63 #[.int .i64 x1, .int .i64 y1, .int .i64 x2, .int .i64 y2, .int .i64 x3, .int .i64 y3]).modp hm8).alloc (.cells #[.int .i64 kn, .int .i64 kd] 30)
      have K8 := Blk.new w8 30 #[.int .i64 kn, .int .i64 kd]
      have m8 : Pure w (w8.alloc (.cells #[.int .i64 kn, .int .i64 kd] 30)) := ((m7.alloc _).trans hm8).alloc _
      clear hm8 m7 hks
      go_upto_region 10 with (fail)
      generalize (w8.alloc (.cells #[.int .i64 kn, .int .i64 kd] 30)) = W8 at *
      generalize w7.heap.size = g9 at *
      generalize w8.heap.size = g11 at *
      have HGs := Lib.hid (show ∀ w w' : World, (fun w => Blk w g9 63 #[.int .i64 x1, .int .i64 y1, .int .i64 x2, .int .i64 y2, .int .i64 x3, .int .i64 y3] ∧ Blk w g11 30 #[.int .i64 kn, .int .i64 kd]) w → Mod (fun _ => False) w w' → (fun w => Blk w g9 63 #[.int .i64 x1, .int .i64 y1, .int .i64 x2, .int .i64 y2, .int .i64 x3, .int .i64 y3] ∧ Blk w g11 30 #[.int .i64 kn, .int .i64 kd]) w' from by intro w w' h hm; exact ⟨h.1.modp hm, h.2.modp hm⟩)
      refine wp_region_inv (by kernel_rfl) (by kernel_rfl) (InvF (R := Mod (fun _ => False)) [.is (.int .i64 0),
          .is (.bool false),
          .is (.bool false),
          .is (.agg #[.int .i64 x1, .int .i64 y1, .int .i64 x2, .int .i64 y2, .int .i64 x3, .int .i64 y3]),
          .is (.int .i64 na),
          .is (.int .i64 nb),
          .is (.int .i64 nc),
          .is (.agg #[.int .i64 x1, .int .i64 y1, .int .i64 x2, .int .i64 y2, .int .i64 x3, .int .i64 y3]),
          .is (.bool false),
          .is (.bool false)]
          (PB w (fun _ => False) W8.heap.size (fun w => Blk w g9 63 #[.int .i64 x1, .int .i64 y1, .int .i64 x2, .int .i64 y2, .int .i64 x3, .int .i64 y3] ∧ Blk w g11 30 #[.int .i64 kn, .int .i64 kd]))) (InvF.start (PB.start m8 (Nat.le_refl _) (⟨M8, K8⟩))) ?_ ?_
      · refine .cons ?_ (.cons ?_ (.cons ?_ (.cons ?_ (.cons ?_ (.cons ?_ (.cons ?_ (.cons ?_ (.cons ?_ (.cons ?_ .nil)))))))))
        · intro D V w1 a hR hI K hK   -- 0: Op.move (Operand.tmp 10)
          obtain ⟨hM1, hB1, hG1⟩ := hI.1
          have ze10 := hR.frame.other (t := 10) (by kernel_rfl) rfl
          rw [if_pos (by rfl)]
          go_simp
          exact hK (.int .i64 0) _ (hI.next hR (by kernel_rfl) (Mod.refl _ _) (PB.quiet hI.1 (Mod.refl _ _) (HGs.out _ _ (hI.1).g (Mod.refl _ _))) (upd_same V 0 _))
        · intro D V w1 a hR hI K hK   -- 1: Op.binOp BinOp.neq 32 (Operand.tmp 70) (Operand.const (Value.int IntKi
          obtain ⟨hM1, hB1, hG1⟩ := hI.1
          have zd0 := hR.pred 0 (by kernel_rfl)
          have zF0 : V 0 = .int .i64 0 := hI.2 0 zd0 rfl
          have zf0 := zF0; clear zF0
          have ze70 := hR.frame.done (t := 70) (j := 0) (by kernel_rfl) hR.ok zd0
          rw [if_pos (by rfl)]
          go_simp
          exact hK (.bool false) _ (hI.next hR (by kernel_rfl) (Mod.refl _ _) (PB.quiet hI.1 (Mod.refl _ _) (HGs.out _ _ (hI.1).g (Mod.refl _ _))) (upd_same V 1 _))
        · intro D V w1 a hR hI K hK   -- 2: Op.move (Operand.tmp 71)
          obtain ⟨hM1, hB1, hG1⟩ := hI.1
          have zd1 := hR.pred 1 (by kernel_rfl)
          have zF1 : V 1 = .bool false := hI.2 1 zd1 rfl
          have zf1 := zF1; clear zF1
          have ze71 := hR.frame.done (t := 71) (j := 1) (by kernel_rfl) hR.ok zd1
          rw [if_pos (by rfl)]
          go_simp
          exact hK (.bool false) _ (hI.next hR (by kernel_rfl) (Mod.refl _ _) (PB.quiet hI.1 (Mod.refl _ _) (HGs.out _ _ (hI.1).g (Mod.refl _ _))) (upd_same V 2 _))
        · intro D V w1 a hR hI K hK   -- 3: Op.load 63 (Operand.tmp 9)
          obtain ⟨hM1, hB1, hG1⟩ := hI.1
          have zd2 := hR.pred 2 (by kernel_rfl)
          have zF2 : V 2 = .bool false := hI.2 2 zd2 rfl
          have zf2 := zF2; clear zF2
          have ze9 := hR.frame.other (t := 9) (by kernel_rfl) rfl
          have zx0 := hG1.1.cell 0; have zx1 := hG1.1.cell 1; have zx2 := hG1.1.cell 2; have zx3 := hG1.1.cell 3; have zx4 := hG1.1.cell 4; have zx5 := hG1.1.cell 5
          simp at zx0 zx1 zx2 zx3 zx4 zx5
          have ze72 := hR.frame.done (t := 72) (j := 2) (by kernel_rfl) hR.ok zd2
          rw [if_pos (by simp [Region.wanted, yielded, ze72, zf2])]
          go_simp
          exact hK (.agg #[.int .i64 x1, .int .i64 y1, .int .i64 x2, .int .i64 y2, .int .i64 x3, .int .i64 y3]) _ (hI.next hR (by kernel_rfl) (Mod.refl _ _) (PB.quiet hI.1 (Mod.refl _ _) (HGs.out _ _ (hI.1).g (Mod.refl _ _))) (upd_same V 3 _))
        · intro D V w1 a hR hI K hK   -- 4: Op.move (Operand.tmp 5)
          obtain ⟨hM1, hB1, hG1⟩ := hI.1
          have zd2 := hR.pred 2 (by kernel_rfl)
          have zF2 : V 2 = .bool false := hI.2 2 zd2 rfl
          have zf2 := zF2; clear zF2
          have ze5 := hR.frame.other (t := 5) (by kernel_rfl) rfl
          have ze72 := hR.frame.done (t := 72) (j := 2) (by kernel_rfl) hR.ok zd2
          rw [if_pos (by simp [Region.wanted, yielded, ze72, zf2])]
          go_simp
          exact hK (.int .i64 na) _ (hI.next hR (by kernel_rfl) (Mod.refl _ _) (PB.quiet hI.1 (Mod.refl _ _) (HGs.out _ _ (hI.1).g (Mod.refl _ _))) (upd_same V 4 _))
        · intro D V w1 a hR hI K hK   -- 5: Op.move (Operand.tmp 6)
          obtain ⟨hM1, hB1, hG1⟩ := hI.1
          have zd2 := hR.pred 2 (by kernel_rfl)
          have zF2 : V 2 = .bool false := hI.2 2 zd2 rfl
          have zf2 := zF2; clear zF2
          have ze6 := hR.frame.other (t := 6) (by kernel_rfl) rfl
          have ze72 := hR.frame.done (t := 72) (j := 2) (by kernel_rfl) hR.ok zd2
          rw [if_pos (by simp [Region.wanted, yielded, ze72, zf2])]
          go_simp
          exact hK (.int .i64 nb) _ (hI.next hR (by kernel_rfl) (Mod.refl _ _) (PB.quiet hI.1 (Mod.refl _ _) (HGs.out _ _ (hI.1).g (Mod.refl _ _))) (upd_same V 5 _))
        · intro D V w1 a hR hI K hK   -- 6: Op.move (Operand.tmp 7)
          obtain ⟨hM1, hB1, hG1⟩ := hI.1
          have zd2 := hR.pred 2 (by kernel_rfl)
          have zF2 : V 2 = .bool false := hI.2 2 zd2 rfl
          have zf2 := zF2; clear zF2
          have ze7 := hR.frame.other (t := 7) (by kernel_rfl) rfl
          have ze72 := hR.frame.done (t := 72) (j := 2) (by kernel_rfl) hR.ok zd2
          rw [if_pos (by simp [Region.wanted, yielded, ze72, zf2])]
          go_simp
          exact hK (.int .i64 nc) _ (hI.next hR (by kernel_rfl) (Mod.refl _ _) (PB.quiet hI.1 (Mod.refl _ _) (HGs.out _ _ (hI.1).g (Mod.refl _ _))) (upd_same V 6 _))
        · intro D V w1 a hR hI K hK   -- 7: Op.call { callee := Callee.value (Operand.func 45), args := #[Operand.
          obtain ⟨hM1, hB1, hG1⟩ := hI.1
          have zd4 := hR.pred 4 (by kernel_rfl)
          have zF4 : V 4 = .int .i64 na := hI.2 4 zd4 rfl
          have zf4 := zF4; clear zF4
          have zd5 := hR.pred 5 (by kernel_rfl)
          have zF5 : V 5 = .int .i64 nb := hI.2 5 zd5 rfl
          have zf5 := zF5; clear zF5
          have zd6 := hR.pred 6 (by kernel_rfl)
          have zF6 : V 6 = .int .i64 nc := hI.2 6 zd6 rfl
          have zf6 := zF6; clear zF6
          have zd2 := hR.pred 2 (by kernel_rfl)
          have zF2 : V 2 = .bool false := hI.2 2 zd2 rfl
          have zf2 := zF2; clear zF2
          have ze74 := hR.frame.done (t := 74) (j := 4) (by kernel_rfl) hR.ok zd4
          have ze75 := hR.frame.done (t := 75) (j := 5) (by kernel_rfl) hR.ok zd5
          have ze76 := hR.frame.done (t := 76) (j := 6) (by kernel_rfl) hR.ok zd6
          have ze72 := hR.frame.done (t := 72) (j := 2) (by kernel_rfl) hR.ok zd2
          rw [if_pos (by simp [Region.wanted, yielded, ze72, zf2])]
          go_simp
          refine (JudgeOf_calls _ na nb nc ⟨a1, a2⟩ ⟨b1, b2⟩ HC.out).mono ?_
          rintro e w2 ⟨he, hm2⟩
          rw [HJ.out] at he
          subst he
          exact hK (.agg #[.int .i64 x1, .int .i64 y1, .int .i64 x2, .int .i64 y2, .int .i64 x3, .int .i64 y3]) _ (hI.next hR (by kernel_rfl) hm2 (PB.quiet hI.1 hm2 (HGs.out _ _ (hI.1).g hm2)) (upd_same V 7 _))
        · intro D V w1 a hR hI K hK   -- 8: Op.binOp BinOp.neq 63 (Operand.tmp 73) (Operand.tmp 77) 63
          obtain ⟨hM1, hB1, hG1⟩ := hI.1
          have zd3 := hR.pred 3 (by kernel_rfl)
          have zF3 : V 3 = .agg #[.int .i64 x1, .int .i64 y1, .int .i64 x2, .int .i64 y2, .int .i64 x3, .int .i64 y3] := hI.2 3 zd3 rfl
          have zf3 := zF3; clear zF3
          have zd7 := hR.pred 7 (by kernel_rfl)
          have zF7 : V 7 = .agg #[.int .i64 x1, .int .i64 y1, .int .i64 x2, .int .i64 y2, .int .i64 x3, .int .i64 y3] := hI.2 7 zd7 rfl
          have zf7 := zF7; clear zF7
          have zd2 := hR.pred 2 (by kernel_rfl)
          have zF2 : V 2 = .bool false := hI.2 2 zd2 rfl
          have zf2 := zF2; clear zF2
          have ze73 := hR.frame.done (t := 73) (j := 3) (by kernel_rfl) hR.ok zd3
          have ze77 := hR.frame.done (t := 77) (j := 7) (by kernel_rfl) hR.ok zd7
          have ze72 := hR.frame.done (t := 72) (j := 2) (by kernel_rfl) hR.ok zd2
          rw [if_pos (by simp [Region.wanted, yielded, ze72, zf2])]
          go_simp
          exact hK (.bool false) _ (hI.next hR (by kernel_rfl) (Mod.refl _ _) (PB.quiet hI.1 (Mod.refl _ _) (HGs.out _ _ (hI.1).g (Mod.refl _ _))) (upd_same V 8 _))
        · intro D V w1 a hR hI K hK   -- 9: Op.pick (Operand.tmp 72) (Operand.const (Value.bool true)) (Operand.tm
          obtain ⟨hM1, hB1, hG1⟩ := hI.1
          have zd2 := hR.pred 2 (by kernel_rfl)
          have zF2 : V 2 = .bool false := hI.2 2 zd2 rfl
          have zf2 := zF2; clear zF2
          have zd8 := hR.pred 8 (by kernel_rfl)
          have zF8 : V 8 = .bool false := hI.2 8 zd8 rfl
          have zf8 := zF8; clear zF8
          have ze72 := hR.frame.done (t := 72) (j := 2) (by kernel_rfl) hR.ok zd2
          have ze78 := hR.frame.done (t := 78) (j := 8) (by kernel_rfl) hR.ok zd8
          rw [if_pos (by rfl)]
          go_simp
          exact hK (.bool false) _ (hI.next hR (by kernel_rfl) (Mod.refl _ _) (PB.quiet hI.1 (Mod.refl _ _) (HGs.out _ _ (hI.1).g (Mod.refl _ _))) (upd_same V 9 _))
      · intro D V w9 hD hI
        obtain ⟨hM1, hB1, hG1⟩ := hI.1
        have hMx := hM1
        clear hM1
        have hBx := hB1
        clear hB1
        have hGx := hG1
        clear hG1
        have zF0 : V 0 = .int .i64 0 := hI.2 0 (hD 0 (by decide)) rfl
        have zf0 := zF0; clear zF0
        have zF1 : V 1 = .bool false := hI.2 1 (hD 1 (by decide)) rfl
        have zf1 := zF1; clear zF1
        have zF2 : V 2 = .bool false := hI.2 2 (hD 2 (by decide)) rfl
        have zf2 := zF2; clear zF2
        have zF3 : V 3 = .agg #[.int .i64 x1, .int .i64 y1, .int .i64 x2, .int .i64 y2, .int .i64 x3, .int .i64 y3] := hI.2 3 (hD 3 (by decide)) rfl
        have zf3 := zF3; clear zF3
        have zF4 : V 4 = .int .i64 na := hI.2 4 (hD 4 (by decide)) rfl
        have zf4 := zF4; clear zF4
        have zF5 : V 5 = .int .i64 nb := hI.2 5 (hD 5 (by decide)) rfl
        have zf5 := zF5; clear zF5
        have zF6 : V 6 = .int .i64 nc := hI.2 6 (hD 6 (by decide)) rfl
        have zf6 := zF6; clear zF6
        have zF7 : V 7 = .agg #[.int .i64 x1, .int .i64 y1, .int .i64 x2, .int .i64 y2, .int .i64 x3, .int .i64 y3] := hI.2 7 (hD 7 (by decide)) rfl
        have zf7 := zF7; clear zF7
        have zF8 : V 8 = .bool false := hI.2 8 (hD 8 (by decide)) rfl
        have zf8 := zF8; clear zF8
        have zF9 : V 9 = .bool false := hI.2 9 (hD 9 (by decide)) rfl
        have zf9 := zF9; clear zF9
        clear hI hD HGs
        simp only [frAll, Act.put, List.setIfInBounds_toArray, List.set_cons_zero, List.set_cons_succ, Nat.zero_add, Nat.reduceAdd, zf0, zf1, zf2, zf3, zf4, zf5, zf6, zf7, zf8, zf9]
        clear zf0 zf1 zf2 zf3 zf4 zf5 zf6 zf7 zf8 zf9
        clear V D
        have K9 := hGx.2
        have m9 : Pure w w9 := hMx
        clear hGx hMx M8 K8 m8
        rcases HK.out with ⟨h0, rfl, rfl, rfl⟩ | ⟨h0, hx, hy, rfl⟩
        · have ht : (na + nb + nc + nd == 0) = true := by simpa using h0
          clear h0
          have q0 := K9.cell 0; have q1 := K9.cell 1; simp at q0 q1
          go_wp2_with fail
          refine (drawn_calls _).mono ?_
          rintro e w10 ⟨rfl, hm10⟩
          go_wp2_with fail
          go_ret
          exact BoolPost.of rfl (m9.trans hm10)
        · have ht : (na + nb + nc + nd == 0) = false := by simpa using h0
          have HX := Lib.hid hx
          have HY := Lib.hid hy
          clear h0 hx hy
          go_wp2_with fail
          have HGs := Lib.hid (show ∀ w w' : World, (fun w => Blk w g11 30 #[.int .i64 kn, .int .i64 kd]) w → Mod (fun _ => False) w w' → (fun w => Blk w g11 30 #[.int .i64 kn, .int .i64 kd]) w' from by intro w w' h hm; exact h.modp hm)
          refine wp_region_inv (by kernel_rfl) (by kernel_rfl) (InvF (R := Mod (fun _ => False)) [.is (.int .i64 0),
              .is (.bool true),
              .is (.bool true),
              .is (.agg #[.int .i64 kn, .int .i64 kd]),
              .is (.int .i64 na),
              .is (.int .i64 nb),
              .is (.int .i64 nc),
              .is (.int .i64 nd),
              .is (.agg #[.int .i64 kn, .int .i64 kd]),
              .is (.bool true),
              .is (.bool true),
              .is (.bool true),
              .is (.bool true),
              .is (.bool true),
              .is (.bool true)]
              (PB w (fun _ => False) w9.heap.size (fun w => Blk w g11 30 #[.int .i64 kn, .int .i64 kd]))) (InvF.start (PB.start m9 (Nat.le_refl _) (K9))) ?_ ?_
          · refine .cons ?_ (.cons ?_ (.cons ?_ (.cons ?_ (.cons ?_ (.cons ?_ (.cons ?_ (.cons ?_ (.cons ?_ (.cons ?_ (.cons ?_ (.cons ?_ (.cons ?_ (.cons ?_ (.cons ?_ .nil))))))))))))))
            · intro D V w1 a hR hI K hK   -- 0: Op.move (Operand.tmp 12)
              obtain ⟨hM1, hB1, hG1⟩ := hI.1
              have ze12 := hR.frame.other (t := 12) (by kernel_rfl) rfl
              rw [if_pos (by rfl)]
              go_simp
              exact hK (.int .i64 0) _ (hI.next hR (by kernel_rfl) (Mod.refl _ _) (PB.quiet hI.1 (Mod.refl _ _) (HGs.out _ _ (hI.1).g (Mod.refl _ _))) (upd_same V 0 _))
            · intro D V w1 a hR hI K hK   -- 1: Op.binOp BinOp.eql 32 (Operand.tmp 98) (Operand.const (Value.int IntKi
              obtain ⟨hM1, hB1, hG1⟩ := hI.1
              have zd0 := hR.pred 0 (by kernel_rfl)
              have zF0 : V 0 = .int .i64 0 := hI.2 0 zd0 rfl
              have zf0 := zF0; clear zF0
              have ze98 := hR.frame.done (t := 98) (j := 0) (by kernel_rfl) hR.ok zd0
              rw [if_pos (by rfl)]
              go_simp
              exact hK (.bool true) _ (hI.next hR (by kernel_rfl) (Mod.refl _ _) (PB.quiet hI.1 (Mod.refl _ _) (HGs.out _ _ (hI.1).g (Mod.refl _ _))) (upd_same V 1 _))
            · intro D V w1 a hR hI K hK   -- 2: Op.move (Operand.tmp 99)
              obtain ⟨hM1, hB1, hG1⟩ := hI.1
              have zd1 := hR.pred 1 (by kernel_rfl)
              have zF1 : V 1 = .bool true := hI.2 1 zd1 rfl
              have zf1 := zF1; clear zF1
              have ze99 := hR.frame.done (t := 99) (j := 1) (by kernel_rfl) hR.ok zd1
              rw [if_pos (by rfl)]
              go_simp
              exact hK (.bool true) _ (hI.next hR (by kernel_rfl) (Mod.refl _ _) (PB.quiet hI.1 (Mod.refl _ _) (HGs.out _ _ (hI.1).g (Mod.refl _ _))) (upd_same V 2 _))
            · intro D V w1 a hR hI K hK   -- 3: Op.load 30 (Operand.tmp 11)
              obtain ⟨hM1, hB1, hG1⟩ := hI.1
              have zd2 := hR.pred 2 (by kernel_rfl)
              have zF2 : V 2 = .bool true := hI.2 2 zd2 rfl
              have zf2 := zF2; clear zF2
              have ze11 := hR.frame.other (t := 11) (by kernel_rfl) rfl
              have zx0 := hG1.cell 0; have zx1 := hG1.cell 1
              simp at zx0 zx1
              have ze100 := hR.frame.done (t := 100) (j := 2) (by kernel_rfl) hR.ok zd2
              rw [if_pos (by simp [Region.wanted, yielded, ze100, zf2])]
              go_simp
              exact hK (.agg #[.int .i64 kn, .int .i64 kd]) _ (hI.next hR (by kernel_rfl) (Mod.refl _ _) (PB.quiet hI.1 (Mod.refl _ _) (HGs.out _ _ (hI.1).g (Mod.refl _ _))) (upd_same V 3 _))
            · intro D V w1 a hR hI K hK   -- 4: Op.move (Operand.tmp 5)
              obtain ⟨hM1, hB1, hG1⟩ := hI.1
              have zd2 := hR.pred 2 (by kernel_rfl)
              have zF2 : V 2 = .bool true := hI.2 2 zd2 rfl
              have zf2 := zF2; clear zF2
              have ze5 := hR.frame.other (t := 5) (by kernel_rfl) rfl
              have ze100 := hR.frame.done (t := 100) (j := 2) (by kernel_rfl) hR.ok zd2
              rw [if_pos (by simp [Region.wanted, yielded, ze100, zf2])]
              go_simp
              exact hK (.int .i64 na) _ (hI.next hR (by kernel_rfl) (Mod.refl _ _) (PB.quiet hI.1 (Mod.refl _ _) (HGs.out _ _ (hI.1).g (Mod.refl _ _))) (upd_same V 4 _))
            · intro D V w1 a hR hI K hK   -- 5: Op.move (Operand.tmp 6)
              obtain ⟨hM1, hB1, hG1⟩ := hI.1
              have zd2 := hR.pred 2 (by kernel_rfl)
              have zF2 : V 2 = .bool true := hI.2 2 zd2 rfl
              have zf2 := zF2; clear zF2
              have ze6 := hR.frame.other (t := 6) (by kernel_rfl) rfl
              have ze100 := hR.frame.done (t := 100) (j := 2) (by kernel_rfl) hR.ok zd2
              rw [if_pos (by simp [Region.wanted, yielded, ze100, zf2])]
              go_simp
              exact hK (.int .i64 nb) _ (hI.next hR (by kernel_rfl) (Mod.refl _ _) (PB.quiet hI.1 (Mod.refl _ _) (HGs.out _ _ (hI.1).g (Mod.refl _ _))) (upd_same V 5 _))
            · intro D V w1 a hR hI K hK   -- 6: Op.move (Operand.tmp 7)
              obtain ⟨hM1, hB1, hG1⟩ := hI.1
              have zd2 := hR.pred 2 (by kernel_rfl)
              have zF2 : V 2 = .bool true := hI.2 2 zd2 rfl
              have zf2 := zF2; clear zF2
              have ze7 := hR.frame.other (t := 7) (by kernel_rfl) rfl
              have ze100 := hR.frame.done (t := 100) (j := 2) (by kernel_rfl) hR.ok zd2
              rw [if_pos (by simp [Region.wanted, yielded, ze100, zf2])]
              go_simp
              exact hK (.int .i64 nc) _ (hI.next hR (by kernel_rfl) (Mod.refl _ _) (PB.quiet hI.1 (Mod.refl _ _) (HGs.out _ _ (hI.1).g (Mod.refl _ _))) (upd_same V 6 _))
            · intro D V w1 a hR hI K hK   -- 7: Op.move (Operand.tmp 8)
              obtain ⟨hM1, hB1, hG1⟩ := hI.1
              have zd2 := hR.pred 2 (by kernel_rfl)
              have zF2 : V 2 = .bool true := hI.2 2 zd2 rfl
              have zf2 := zF2; clear zF2
              have ze8 := hR.frame.other (t := 8) (by kernel_rfl) rfl
              have ze100 := hR.frame.done (t := 100) (j := 2) (by kernel_rfl) hR.ok zd2
              rw [if_pos (by simp [Region.wanted, yielded, ze100, zf2])]
              go_simp
              exact hK (.int .i64 nd) _ (hI.next hR (by kernel_rfl) (Mod.refl _ _) (PB.quiet hI.1 (Mod.refl _ _) (HGs.out _ _ (hI.1).g (Mod.refl _ _))) (upd_same V 7 _))
            · intro D V w1 a hR hI K hK   -- 8: Op.call { callee := Callee.value (Operand.func 46), args := #[Operand.
              obtain ⟨hM1, hB1, hG1⟩ := hI.1
              have zd4 := hR.pred 4 (by kernel_rfl)
              have zF4 : V 4 = .int .i64 na := hI.2 4 zd4 rfl
              have zf4 := zF4; clear zF4
              have zd5 := hR.pred 5 (by kernel_rfl)
              have zF5 : V 5 = .int .i64 nb := hI.2 5 zd5 rfl
              have zf5 := zF5; clear zF5
              have zd6 := hR.pred 6 (by kernel_rfl)
              have zF6 : V 6 = .int .i64 nc := hI.2 6 zd6 rfl
              have zf6 := zF6; clear zF6
              have zd7 := hR.pred 7 (by kernel_rfl)
              have zF7 : V 7 = .int .i64 nd := hI.2 7 zd7 rfl
              have zf7 := zF7; clear zF7
              have zd2 := hR.pred 2 (by kernel_rfl)
              have zF2 : V 2 = .bool true := hI.2 2 zd2 rfl
              have zf2 := zF2; clear zF2
              have ze102 := hR.frame.done (t := 102) (j := 4) (by kernel_rfl) hR.ok zd4
              have ze103 := hR.frame.done (t := 103) (j := 5) (by kernel_rfl) hR.ok zd5
              have ze104 := hR.frame.done (t := 104) (j := 6) (by kernel_rfl) hR.ok zd6
              have ze105 := hR.frame.done (t := 105) (j := 7) (by kernel_rfl) hR.ok zd7
              have ze100 := hR.frame.done (t := 100) (j := 2) (by kernel_rfl) hR.ok zd2
              rw [if_pos (by simp [Region.wanted, yielded, ze100, zf2])]
              go_simp
              refine (KappaOf_calls _ na nb nc nd ⟨a1, a2⟩ ⟨b1, b2⟩ HC.out ⟨d1, d2⟩).mono ?_
              rintro e w2 ⟨he, hm2⟩
              rw [← HX.out, ← HY.out] at he
              subst he
              exact hK (.agg #[.int .i64 kn, .int .i64 kd]) _ (hI.next hR (by kernel_rfl) hm2 (PB.quiet hI.1 hm2 (HGs.out _ _ (hI.1).g hm2)) (upd_same V 8 _))
            · intro D V w1 a hR hI K hK   -- 9: Op.binOp BinOp.eql 30 (Operand.tmp 101) (Operand.tmp 106) 30
              obtain ⟨hM1, hB1, hG1⟩ := hI.1
              have zd3 := hR.pred 3 (by kernel_rfl)
              have zF3 : V 3 = .agg #[.int .i64 kn, .int .i64 kd] := hI.2 3 zd3 rfl
              have zf3 := zF3; clear zF3
              have zd8 := hR.pred 8 (by kernel_rfl)
              have zF8 : V 8 = .agg #[.int .i64 kn, .int .i64 kd] := hI.2 8 zd8 rfl
              have zf8 := zF8; clear zF8
              have zd2 := hR.pred 2 (by kernel_rfl)
              have zF2 : V 2 = .bool true := hI.2 2 zd2 rfl
              have zf2 := zF2; clear zF2
              have ze101 := hR.frame.done (t := 101) (j := 3) (by kernel_rfl) hR.ok zd3
              have ze106 := hR.frame.done (t := 106) (j := 8) (by kernel_rfl) hR.ok zd8
              have ze100 := hR.frame.done (t := 100) (j := 2) (by kernel_rfl) hR.ok zd2
              rw [if_pos (by simp [Region.wanted, yielded, ze100, zf2])]
              go_simp
              exact hK (.bool true) _ (hI.next hR (by kernel_rfl) (Mod.refl _ _) (PB.quiet hI.1 (Mod.refl _ _) (HGs.out _ _ (hI.1).g (Mod.refl _ _))) (upd_same V 9 _))
            · intro D V w1 a hR hI K hK   -- 10: Op.pick (Operand.tmp 100) (Operand.tmp 107) (Operand.const (Value.bool
              obtain ⟨hM1, hB1, hG1⟩ := hI.1
              have zd2 := hR.pred 2 (by kernel_rfl)
              have zF2 : V 2 = .bool true := hI.2 2 zd2 rfl
              have zf2 := zF2; clear zF2
              have zd9 := hR.pred 9 (by kernel_rfl)
              have zF9 : V 9 = .bool true := hI.2 9 zd9 rfl
              have zf9 := zF9; clear zF9
              have ze100 := hR.frame.done (t := 100) (j := 2) (by kernel_rfl) hR.ok zd2
              have ze107 := hR.frame.done (t := 107) (j := 9) (by kernel_rfl) hR.ok zd9
              rw [if_pos (by rfl)]
              go_simp
              exact hK (.bool true) _ (hI.next hR (by kernel_rfl) (Mod.refl _ _) (PB.quiet hI.1 (Mod.refl _ _) (HGs.out _ _ (hI.1).g (Mod.refl _ _))) (upd_same V 10 _))
            · intro D V w1 a hR hI K hK   -- 11: Op.move (Operand.tmp 108)
              obtain ⟨hM1, hB1, hG1⟩ := hI.1
              have zd10 := hR.pred 10 (by kernel_rfl)
              have zF10 : V 10 = .bool true := hI.2 10 zd10 rfl
              have zf10 := zF10; clear zF10
              have ze108 := hR.frame.done (t := 108) (j := 10) (by kernel_rfl) hR.ok zd10
              rw [if_pos (by rfl)]
              go_simp
              exact hK (.bool true) _ (hI.next hR (by kernel_rfl) (Mod.refl _ _) (PB.quiet hI.1 (Mod.refl _ _) (HGs.out _ _ (hI.1).g (Mod.refl _ _))) (upd_same V 11 _))
            · intro D V w1 a hR hI K hK   -- 12: Op.call { callee := Callee.value (Operand.func 22), args := #[], argTy
              obtain ⟨hM1, hB1, hG1⟩ := hI.1
              have zd11 := hR.pred 11 (by kernel_rfl)
              have zF11 : V 11 = .bool true := hI.2 11 zd11 rfl
              have zf11 := zF11; clear zF11
              have ze109 := hR.frame.done (t := 109) (j := 11) (by kernel_rfl) hR.ok zd11
              rw [if_pos (by simp [Region.wanted, yielded, ze109, zf11])]
              go_simp
              refine (drawn_calls _).mono ?_
              rintro e w2 ⟨rfl, hm2⟩
              exact hK (.bool true) _ (hI.next hR (by kernel_rfl) hm2 (PB.quiet hI.1 hm2 (HGs.out _ _ (hI.1).g hm2)) (upd_same V 12 _))
            · intro D V w1 a hR hI K hK   -- 13: Op.pick (Operand.tmp 109) (Operand.tmp 110) (Operand.const (Value.bool
              obtain ⟨hM1, hB1, hG1⟩ := hI.1
              have zd11 := hR.pred 11 (by kernel_rfl)
              have zF11 : V 11 = .bool true := hI.2 11 zd11 rfl
              have zf11 := zF11; clear zF11
              have zd12 := hR.pred 12 (by kernel_rfl)
              have zF12 : V 12 = .bool true := hI.2 12 zd12 rfl
              have zf12 := zF12; clear zF12
              have ze109 := hR.frame.done (t := 109) (j := 11) (by kernel_rfl) hR.ok zd11
              have ze110 := hR.frame.done (t := 110) (j := 12) (by kernel_rfl) hR.ok zd12
              rw [if_pos (by rfl)]
              go_simp
              exact hK (.bool true) _ (hI.next hR (by kernel_rfl) (Mod.refl _ _) (PB.quiet hI.1 (Mod.refl _ _) (HGs.out _ _ (hI.1).g (Mod.refl _ _))) (upd_same V 13 _))
            · intro D V w1 a hR hI K hK   -- 14: Op.assign (Operand.tmp 111)
              obtain ⟨hM1, hB1, hG1⟩ := hI.1
              have zd13 := hR.pred 13 (by kernel_rfl)
              have zF13 : V 13 = .bool true := hI.2 13 zd13 rfl
              have zf13 := zF13; clear zF13
              have ze111 := hR.frame.done (t := 111) (j := 13) (by kernel_rfl) hR.ok zd13
              rw [if_pos (by rfl)]
              go_simp
              exact hK (.bool true) _ (hI.next hR (by kernel_rfl) (Mod.refl _ _) (PB.quiet hI.1 (Mod.refl _ _) (HGs.out _ _ (hI.1).g (Mod.refl _ _))) (upd_same V 14 _))
          · intro D V w10 hD hI
            obtain ⟨hM1, hB1, hG1⟩ := hI.1
            have hMx := hM1
            clear hM1
            have hBx := hB1
            clear hB1
            have hGx := hG1
            clear hG1
            have zF0 : V 0 = .int .i64 0 := hI.2 0 (hD 0 (by decide)) rfl
            have zf0 := zF0; clear zF0
            have zF1 : V 1 = .bool true := hI.2 1 (hD 1 (by decide)) rfl
            have zf1 := zF1; clear zF1
            have zF2 : V 2 = .bool true := hI.2 2 (hD 2 (by decide)) rfl
            have zf2 := zF2; clear zF2
            have zF3 : V 3 = .agg #[.int .i64 kn, .int .i64 kd] := hI.2 3 (hD 3 (by decide)) rfl
            have zf3 := zF3; clear zF3
            have zF4 : V 4 = .int .i64 na := hI.2 4 (hD 4 (by decide)) rfl
            have zf4 := zF4; clear zF4
            have zF5 : V 5 = .int .i64 nb := hI.2 5 (hD 5 (by decide)) rfl
            have zf5 := zF5; clear zF5
            have zF6 : V 6 = .int .i64 nc := hI.2 6 (hD 6 (by decide)) rfl
            have zf6 := zF6; clear zF6
            have zF7 : V 7 = .int .i64 nd := hI.2 7 (hD 7 (by decide)) rfl
            have zf7 := zF7; clear zF7
            have zF8 : V 8 = .agg #[.int .i64 kn, .int .i64 kd] := hI.2 8 (hD 8 (by decide)) rfl
            have zf8 := zF8; clear zF8
            have zF9 : V 9 = .bool true := hI.2 9 (hD 9 (by decide)) rfl
            have zf9 := zF9; clear zF9
            have zF10 : V 10 = .bool true := hI.2 10 (hD 10 (by decide)) rfl
            have zf10 := zF10; clear zF10
            have zF11 : V 11 = .bool true := hI.2 11 (hD 11 (by decide)) rfl
            have zf11 := zF11; clear zF11
            have zF12 : V 12 = .bool true := hI.2 12 (hD 12 (by decide)) rfl
            have zf12 := zF12; clear zF12
            have zF13 : V 13 = .bool true := hI.2 13 (hD 13 (by decide)) rfl
            have zf13 := zF13; clear zF13
            have zF14 : V 14 = .bool true := hI.2 14 (hD 14 (by decide)) rfl
            have zf14 := zF14; clear zF14
            clear hI hD HGs
            simp only [frAll, Act.put, List.setIfInBounds_toArray, List.set_cons_zero, List.set_cons_succ, Nat.zero_add, Nat.reduceAdd, zf0, zf1, zf2, zf3, zf4, zf5, zf6, zf7, zf8, zf9, zf10, zf11, zf12, zf13, zf14]
            clear zf0 zf1 zf2 zf3 zf4 zf5 zf6 zf7 zf8 zf9 zf10 zf11 zf12 zf13 zf14
            clear V D
            go_wp2_with fail
            go_ret
            exact BoolPost.of rfl hMx
    · have HC := Lib.hid hc
      have hcc : nc < 0 ∨ 1000000 < nc := by unfold cntOk at hc; omega
      clear hc
      go_wp2_with fail
      refine (Judge_err _ na nb nc HC.out).mono ?_
      rintro e w7 ⟨rfl, hm7⟩
      have m7 : Pure w w7 := m6.trans hm7
      clear hm7 m6
      go_wp2_with fail
      refine (Kappa_err _ na nb nc nd HC.out).mono ?_
      rintro e w8 ⟨rfl, hm8⟩
      have M8 := ((Blk.new w7 63 #[.int .i64 0, .int .i64 0, .int .i64 0, .int .i64 0, .int .i64 0, .int .i64 0]).modp hm8).alloc (.cells #[.int .i64 0, .int .i64 0] 30)
      have K8 := Blk.new w8 30 #[.int .i64 0, .int .i64 0]
      have m8 : Pure w (w8.alloc (.cells #[.int .i64 0, .int .i64 0] 30)) := ((m7.alloc _).trans hm8).alloc _
      clear hm8 m7
      have q0 := M8.cell 0; have q1 := M8.cell 1; have q2 := M8.cell 2; have q3 := M8.cell 3; have q4 := M8.cell 4; have q5 := M8.cell 5; simp at q0 q1 q2 q3 q4 q5
      have r0 := K8.cell 0; have r1 := K8.cell 1; simp at r0 r1
      rcases hcc with hcc | hcc
      all_goals
        go_wp2_with fail
        refine (drawn_calls _).mono ?_
        rintro e w10 ⟨rfl, hm10⟩
        go_wp2_with fail
        go_ret
        exact BoolPost.of rfl (m8.trans hm10)

end Go.Proofs.Ytpacmdiodnnofaa
