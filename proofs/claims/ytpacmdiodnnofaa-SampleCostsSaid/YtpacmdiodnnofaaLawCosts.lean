/- The law SampleCosts. -/
import Derived.Test.YtpacmdiodnnofaaCostC
import Derived.Test.YtpacmdiodnnofaaDrawn
import Derived.Test.YtpacmdiodnnofaaRegG
namespace Go.Proofs.Ytpacmdiodnnofaa
set_option linter.unusedVariables false
set_option linter.unusedSimpArgs false
open Go.RowKit
attribute [local go_sem ↓] Go.wp_at_zero Go.wp_at_succ

set_option maxRecDepth 100000 in
set_option maxHeartbeats 1000000 in
theorem costs1_calls (w : World) (b N g : Nat) (hS : Strm w b N) (hN : N ≤ 1000000000) (hg : w.cell? ⟨g, 0, none⟩ = some (.pointer (some ⟨b, 0, none⟩))) :
    Calls Try.prog 30 #[.pointer (some ⟨g, 0, none⟩)] w (PickPost w b N [0, 1, 10, 250, 1000000000]) := by
  have hlt := hS.lt
  go_enter Try.func30, Try.ntmps30
  go_wp2_with fail
  refine (pick_calls _ b N _ _ [0, 1, 10, 250, 1000000000] (hS.alloc _) hN (Blk.new _ _ _) (by omega) (by simp) (by simp)).mono ?_
  rintro e w1 ⟨k, hk, rfl, hS1, hM1⟩
  have HK := Lib.hid hk
  clear hk
  go_wp2_with fail
  go_ret
  exact ⟨k, HK.out, rfl, hS1, ((Mod.refl _ _).alloc _).trans hM1⟩

/-- The world behind the making of the rules. -/
def CInv (w : World) (b dB N : Nat) (wx : World) : Prop :=
  ∃ (o r s v : Int), Strm wx b N ∧ wx.cell? ⟨b + 1, 0, none⟩ = some (.pointer (some ⟨b, 0, none⟩)) ∧ Blk wx dB 51 #[.int .i64 o, .int .i64 r, .int .i64 s, .int .i64 v] ∧ Pure w wx
/-- The world behind the drawing of the numbers. -/
def CInv2 (w : World) (dB : Nat) (i c : Value) (wx : World) : Prop :=
  ∃ (o r s v x y : Int), i = .int .i64 x ∧ c = .int .i64 y ∧ Blk wx dB 51 #[.int .i64 o, .int .i64 r, .int .i64 s, .int .i64 v] ∧ Pure w wx
def twoE (e2 : Int) : Int := if e2 = 1 then 1 else 0

set_option maxRecDepth 100000 in
set_option maxHeartbeats 8000000 in
theorem SampleCosts_calls (w : World) (A : Option Addr) (n c : Nat) (hA : ArgInts w A n) :
    Calls Try.prog 6 #[.slice A n c] w (BoolPost w true) := by
  have hS0 := (strm_new (c := c) hA).alloc (.cells #[.pointer (some ⟨w.heap.size, 0, none⟩)] 23)
  have hgB := Blk.new2 w (.cells #[.slice A n c, .int .i64 0] 25) 23 #[.pointer (some ⟨w.heap.size, 0, none⟩)]
  have hm0 : Pure w ((w.alloc (.cells #[.slice A n c, .int .i64 0] 25)).alloc (.cells #[.pointer (some ⟨w.heap.size, 0, none⟩)] 23)) := ((Mod.refl _ _).alloc _).alloc _
  have hsz : w.heap.size + 2 ≤ ((w.alloc (.cells #[.slice A n c, .int .i64 0] 25)).alloc (.cells #[.pointer (some ⟨w.heap.size, 0, none⟩)] 23)).heap.size := by simp
  go_enter Try.func6, Try.ntmps6
  go_wp2_with fail
  generalize ((w.alloc (.cells #[.slice A n c, .int .i64 0] 25)).alloc (.cells #[.pointer (some ⟨w.heap.size, 0, none⟩)] 23)) = W at *
  have g0 := hgB.cell 0
  simp at g0
  clear hgB
  generalize hb : w.heap.size = b at *
  have hwb := Nat.le_of_eq hb
  clear hb
  have hbW : b + 1 < W.heap.size := by omega
  have HGs := Lib.hid (show ∀ w w' : World, (fun w => w.cell? ⟨b + 1, 0, none⟩ = some (.pointer (some ⟨b, 0, none⟩))) w → Mod (· = b) w w' → (fun w => w.cell? ⟨b + 1, 0, none⟩ = some (.pointer (some ⟨b, 0, none⟩))) w' from by intro w w' h hm; exact hm.keep h (by dsimp only; omega))
  refine wp_region_inv (by kernel_rfl) (by kernel_rfl) (InvF (R := Mod (· = b)) [.is (.func (.func 30) #[] #[.pointer (some ⟨b + 1, 0, none⟩)]),
      .val (fun v => ∃ (k_1 : Int), v = .int .i64 k_1),
      .is (.func (.func 30) #[] #[.pointer (some ⟨b + 1, 0, none⟩)]),
      .val (fun v => ∃ (k_3 : Int), v = .int .i64 k_3),
      .is (.func (.func 30) #[] #[.pointer (some ⟨b + 1, 0, none⟩)]),
      .val (fun v => ∃ (k_5 : Int), v = .int .i64 k_5),
      .is (.pointer (some ⟨b, 0, none⟩)),
      ⟨fun v w => ∃ (g_7 : Nat), v = .slice (some ⟨g_7, 0, none⟩) 5 5 ∧ W.heap.size ≤ g_7 ∧ Blk w g_7 3 #[(.int .i64 0), (.int .i64 1), (.int .i64 4), (.int .i64 10), (.int .i64 1000000)], (by rintro v w w' ⟨g_7, rfl, c0, q0⟩ hm; exact ⟨g_7, rfl, c0, (q0.modb hm (by omega))⟩), none, some 8⟩,
      .val (fun v => ∃ (k_8 : Int), v = .int .i64 k_8 ∧ 0 ≤ k_8 ∧ k_8 ≤ 1000000),
      .val (fun v => ∃ (k_9 : Int) (ka_9 : Int) (kb_9 : Int) (kc_9 : Int), v = .agg #[.int .i64 k_9, .int .i64 ka_9, .int .i64 kb_9, .int .i64 kc_9] ∧ 0 ≤ kc_9 ∧ kc_9 ≤ 1000000),
      ⟨fun v w => ∃ (g_10 : Nat), v = .pointer (some ⟨g_10, 0, none⟩) ∧ W.heap.size ≤ g_10 ∧ Blk w g_10 51 #[.int .i64 0, .int .i64 0, .int .i64 0, .int .i64 0], (by rintro v w w' ⟨g_10, rfl, c0, q0⟩ hm; exact ⟨g_10, rfl, c0, (q0.modb hm (by omega))⟩), none, some 11⟩,
      ⟨fun v w => ∃ (g_11 : Nat) (k_11 : Int) (ka_11 : Int) (kb_11 : Int) (kc_11 : Int), v = .pointer (some ⟨g_11, 0, none⟩) ∧ W.heap.size ≤ g_11 ∧ 0 ≤ kc_11 ∧ kc_11 ≤ 1000000 ∧ Blk w g_11 51 #[.int .i64 k_11, .int .i64 ka_11, .int .i64 kb_11, .int .i64 kc_11], (by rintro v w w' ⟨g_11, k_11, ka_11, kb_11, kc_11, rfl, c0, c1, c2, q0⟩ hm; exact ⟨g_11, k_11, ka_11, kb_11, kc_11, rfl, c0, c1, c2, (q0.modb hm (by omega))⟩), some 10, none⟩]
      (GB w (fun _ => False) W.heap.size b (0) (fun D => (D 1).toNat + (D 3).toNat + (D 5).toNat + (D 8).toNat) (fun w => w.cell? ⟨b + 1, 0, none⟩ = some (.pointer (some ⟨b, 0, none⟩))))) (InvF.start (GB.start hS0 hm0 (Nat.le_refl _) (g0))) ?_ ?_
  · refine .cons ?_ (.cons ?_ (.cons ?_ (.cons ?_ (.cons ?_ (.cons ?_ (.cons ?_ (.cons ?_ (.cons ?_ (.cons ?_ (.cons ?_ (.cons ?_ .nil)))))))))))
    · intro D V w1 a hR hI K hK   -- 0: Op.move (Operand.tmp 4)
      obtain ⟨hS1, hM1, hB1, hG1⟩ := hI.1
      have e4 := hR.frame.other (t := 4) (by kernel_rfl) rfl
      rw [if_pos (by rfl)]
      go_simp
      exact hK (.func (.func 30) #[] #[.pointer (some ⟨b + 1, 0, none⟩)]) _ (hI.next hR (by kernel_rfl) (Mod.refl _ _) (GB.quiet hI.1 (Mod.refl _ _) (by have hn := hR.not; simp [upd, hn] <;> omega) (HGs.out _ _ (hI.1).g (Mod.refl _ _))) (upd_same V 0 _))
    · intro D V w1 a hR hI K hK   -- 1: Op.call { callee := Callee.value (Operand.tmp 22), args := #[], argTyp
      obtain ⟨hS1, hM1, hB1, hG1⟩ := hI.1
      have d0 := hR.pred 0 (by kernel_rfl)
      have F0 : V 0 = .func (.func 30) #[] #[.pointer (some ⟨b + 1, 0, none⟩)] := hI.2 0 d0 rfl
      have f0 := F0; clear F0
      have e22 := hR.frame.done (t := 22) (j := 0) (by kernel_rfl) hR.ok d0
      rw [if_pos (by rfl)]
      have := Bool.toNat_le (D 1)
      have := Bool.toNat_le (D 3)
      have := Bool.toNat_le (D 5)
      have := Bool.toNat_le (D 8)
      have hNB : 0 + ((D 1).toNat + (D 3).toNat + (D 5).toNat + (D 8).toNat) ≤ 1000000000 := by omega
      skip
      go_simp
      refine (costs1_calls _ _ _ _ hS1 hNB hG1).mono ?_
      rintro e w2 ⟨k_0, hk, rfl, hS2, hm2⟩
      exact hK (.int .i64 k_0) _ (hI.next hR (by kernel_rfl) hm2 (GB.asks hI.1 (fun j hj hlt => by omega) hS2 hm2 (by have hn := hR.not; simp [upd, hn] <;> omega) (HGs.out _ _ (hI.1).g hm2)) (⟨k_0, upd_same V 1 _⟩))
    · intro D V w1 a hR hI K hK   -- 2: Op.move (Operand.tmp 4)
      obtain ⟨hS1, hM1, hB1, hG1⟩ := hI.1
      have e4 := hR.frame.other (t := 4) (by kernel_rfl) rfl
      rw [if_pos (by rfl)]
      go_simp
      exact hK (.func (.func 30) #[] #[.pointer (some ⟨b + 1, 0, none⟩)]) _ (hI.next hR (by kernel_rfl) (Mod.refl _ _) (GB.quiet hI.1 (Mod.refl _ _) (by have hn := hR.not; simp [upd, hn] <;> omega) (HGs.out _ _ (hI.1).g (Mod.refl _ _))) (upd_same V 2 _))
    · intro D V w1 a hR hI K hK   -- 3: Op.call { callee := Callee.value (Operand.tmp 24), args := #[], argTyp
      obtain ⟨hS1, hM1, hB1, hG1⟩ := hI.1
      have d2 := hR.pred 2 (by kernel_rfl)
      have F2 : V 2 = .func (.func 30) #[] #[.pointer (some ⟨b + 1, 0, none⟩)] := hI.2 2 d2 rfl
      have f2 := F2; clear F2
      have e24 := hR.frame.done (t := 24) (j := 2) (by kernel_rfl) hR.ok d2
      rw [if_pos (by rfl)]
      have := Bool.toNat_le (D 1)
      have := Bool.toNat_le (D 3)
      have := Bool.toNat_le (D 5)
      have := Bool.toNat_le (D 8)
      have hNB : 0 + ((D 1).toNat + (D 3).toNat + (D 5).toNat + (D 8).toNat) ≤ 1000000000 := by omega
      skip
      go_simp
      refine (costs1_calls _ _ _ _ hS1 hNB hG1).mono ?_
      rintro e w2 ⟨k_0, hk, rfl, hS2, hm2⟩
      exact hK (.int .i64 k_0) _ (hI.next hR (by kernel_rfl) hm2 (GB.asks hI.1 (fun j hj hlt => by omega) hS2 hm2 (by have hn := hR.not; simp [upd, hn] <;> omega) (HGs.out _ _ (hI.1).g hm2)) (⟨k_0, upd_same V 3 _⟩))
    · intro D V w1 a hR hI K hK   -- 4: Op.move (Operand.tmp 4)
      obtain ⟨hS1, hM1, hB1, hG1⟩ := hI.1
      have e4 := hR.frame.other (t := 4) (by kernel_rfl) rfl
      rw [if_pos (by rfl)]
      go_simp
      exact hK (.func (.func 30) #[] #[.pointer (some ⟨b + 1, 0, none⟩)]) _ (hI.next hR (by kernel_rfl) (Mod.refl _ _) (GB.quiet hI.1 (Mod.refl _ _) (by have hn := hR.not; simp [upd, hn] <;> omega) (HGs.out _ _ (hI.1).g (Mod.refl _ _))) (upd_same V 4 _))
    · intro D V w1 a hR hI K hK   -- 5: Op.call { callee := Callee.value (Operand.tmp 26), args := #[], argTyp
      obtain ⟨hS1, hM1, hB1, hG1⟩ := hI.1
      have d4 := hR.pred 4 (by kernel_rfl)
      have F4 : V 4 = .func (.func 30) #[] #[.pointer (some ⟨b + 1, 0, none⟩)] := hI.2 4 d4 rfl
      have f4 := F4; clear F4
      have e26 := hR.frame.done (t := 26) (j := 4) (by kernel_rfl) hR.ok d4
      rw [if_pos (by rfl)]
      have := Bool.toNat_le (D 1)
      have := Bool.toNat_le (D 3)
      have := Bool.toNat_le (D 5)
      have := Bool.toNat_le (D 8)
      have hNB : 0 + ((D 1).toNat + (D 3).toNat + (D 5).toNat + (D 8).toNat) ≤ 1000000000 := by omega
      skip
      go_simp
      refine (costs1_calls _ _ _ _ hS1 hNB hG1).mono ?_
      rintro e w2 ⟨k_0, hk, rfl, hS2, hm2⟩
      exact hK (.int .i64 k_0) _ (hI.next hR (by kernel_rfl) hm2 (GB.asks hI.1 (fun j hj hlt => by omega) hS2 hm2 (by have hn := hR.not; simp [upd, hn] <;> omega) (HGs.out _ _ (hI.1).g hm2)) (⟨k_0, upd_same V 5 _⟩))
    · intro D V w1 a hR hI K hK   -- 6: Op.load 23 (Operand.tmp 3)
      obtain ⟨hS1, hM1, hB1, hG1⟩ := hI.1
      have e3 := hR.frame.other (t := 3) (by kernel_rfl) rfl
      rw [if_pos (by rfl)]
      go_simp
      exact hK (.pointer (some ⟨b, 0, none⟩)) _ (hI.next hR (by kernel_rfl) (Mod.refl _ _) (GB.quiet hI.1 (Mod.refl _ _) (by have hn := hR.not; simp [upd, hn] <;> omega) (HGs.out _ _ (hI.1).g (Mod.refl _ _))) (upd_same V 6 _))
    · intro D V w1 a hR hI K hK   -- 7: Op.buildSlice 22 5 #[(0, Operand.const (Value.int IntKind.i64 0)), (1,
      obtain ⟨hS1, hM1, hB1, hG1⟩ := hI.1
      rw [if_pos (by rfl)]
      go_simp
      exact hK (_) _ (hI.next hR (by kernel_rfl) ((Mod.refl _ _).alloc _) (GB.quiet hI.1 (pure_alloc _ _) (by have hn := hR.not; simp [upd, hn] <;> omega) (HGs.out _ _ (hI.1).g ((Mod.refl _ _).alloc _))) (⟨_, upd_same V 7 _, (by omega), (Blk.new _ _ _)⟩))
    · intro D V w1 a hR hI K hK   -- 8: Op.call { callee := Callee.value (Operand.func 25), args := #[Operand.
      obtain ⟨hS1, hM1, hB1, hG1⟩ := hI.1
      have d6 := hR.pred 6 (by kernel_rfl)
      have F6 : V 6 = .pointer (some ⟨b, 0, none⟩) := hI.2 6 d6 rfl
      have f6 := F6; clear F6
      have d7 := hR.pred 7 (by kernel_rfl)
      have F7 : ∃ (g_7 : Nat), V 7 = .slice (some ⟨g_7, 0, none⟩) 5 5 ∧ W.heap.size ≤ g_7 ∧ Blk w1 g_7 3 #[(.int .i64 0), (.int .i64 1), (.int .i64 4), (.int .i64 10), (.int .i64 1000000)] := hI.2 7 d7 (by show (!D 8) = true; rw [hR.not]; rfl)
      obtain ⟨g_7, f7, c7_0, b7_0⟩ := F7
      have e28 := hR.frame.done (t := 28) (j := 6) (by kernel_rfl) hR.ok d6
      have e29 := hR.frame.done (t := 29) (j := 7) (by kernel_rfl) hR.ok d7
      rw [if_pos (by rfl)]
      have := Bool.toNat_le (D 1)
      have := Bool.toNat_le (D 3)
      have := Bool.toNat_le (D 5)
      have := Bool.toNat_le (D 8)
      have hNB : 0 + ((D 1).toNat + (D 3).toNat + (D 5).toNat + (D 8).toNat) ≤ 1000000000 := by omega
      skip
      go_simp
      refine (pickv_calls _ _ _ _ 5 5 #[(.int .i64 0), (.int .i64 1), (.int .i64 4), (.int .i64 10), (.int .i64 1000000)] hS1 b7_0 hNB (by omega) rfl (by omega) (by omega) rfl).mono ?_
      rintro e w2 ⟨k_0, hk, rfl, hS2, hm2⟩
      have hk2 : 0 ≤ k_0 ∧ k_0 ≤ 1000000 := by simp [intsOf, intOf] at hk; omega
      exact hK (.int .i64 k_0) _ (hI.next hR (by kernel_rfl) hm2 (GB.asks hI.1 (fun j hj hlt => by omega) hS2 hm2 (by have hn := hR.not; simp [upd, hn] <;> omega) (HGs.out _ _ (hI.1).g hm2)) (⟨k_0, upd_same V 8 _, hk2.1, hk2.2⟩))
    · intro D V w1 a hR hI K hK   -- 9: Op.build 51 #[(0, Operand.tmp 23), (1, Operand.tmp 25), (2, Operand.tm
      obtain ⟨hS1, hM1, hB1, hG1⟩ := hI.1
      have d1 := hR.pred 1 (by kernel_rfl)
      have F1 : ∃ (k_1 : Int), V 1 = .int .i64 k_1 := hI.2 1 d1 rfl
      obtain ⟨k_1, f1⟩ := F1
      have d3 := hR.pred 3 (by kernel_rfl)
      have F3 : ∃ (k_3 : Int), V 3 = .int .i64 k_3 := hI.2 3 d3 rfl
      obtain ⟨k_3, f3⟩ := F3
      have d5 := hR.pred 5 (by kernel_rfl)
      have F5 : ∃ (k_5 : Int), V 5 = .int .i64 k_5 := hI.2 5 d5 rfl
      obtain ⟨k_5, f5⟩ := F5
      have d8 := hR.pred 8 (by kernel_rfl)
      have F8 : ∃ (k_8 : Int), V 8 = .int .i64 k_8 ∧ 0 ≤ k_8 ∧ k_8 ≤ 1000000 := hI.2 8 d8 rfl
      obtain ⟨k_8, f8, c8_0, c8_1⟩ := F8
      have e23 := hR.frame.done (t := 23) (j := 1) (by kernel_rfl) hR.ok d1
      have e25 := hR.frame.done (t := 25) (j := 3) (by kernel_rfl) hR.ok d3
      have e27 := hR.frame.done (t := 27) (j := 5) (by kernel_rfl) hR.ok d5
      have e30 := hR.frame.done (t := 30) (j := 8) (by kernel_rfl) hR.ok d8
      rw [if_pos (by rfl)]
      go_simp
      exact hK (_) _ (hI.next hR (by kernel_rfl) (Mod.refl _ _) (GB.quiet hI.1 (Mod.refl _ _) (by have hn := hR.not; simp [upd, hn] <;> omega) (HGs.out _ _ (hI.1).g (Mod.refl _ _))) (⟨k_1, k_3, k_5, k_8, upd_same V 9 _, (by first | assumption | omega), (by first | assumption | omega)⟩))
    · intro D V w1 a hR hI K hK   -- 10: Op.alloc 51
      obtain ⟨hS1, hM1, hB1, hG1⟩ := hI.1
      rw [if_pos (by rfl)]
      go_simp
      exact hK (_) _ (hI.next hR (by kernel_rfl) ((Mod.refl _ _).alloc _) (GB.quiet hI.1 (pure_alloc _ _) (by have hn := hR.not; simp [upd, hn] <;> omega) (HGs.out _ _ (hI.1).g ((Mod.refl _ _).alloc _))) (⟨_, upd_same V 10 _, (by omega), (Blk.new _ _ _)⟩))
    · intro D V w1 a hR hI K hK   -- 11: Op.store 51 (Operand.tmp 5) (Operand.tmp 31)
      obtain ⟨hS1, hM1, hB1, hG1⟩ := hI.1
      have d10 := hR.pred 10 (by kernel_rfl)
      have F10 : ∃ (g_10 : Nat), V 10 = .pointer (some ⟨g_10, 0, none⟩) ∧ W.heap.size ≤ g_10 ∧ Blk w1 g_10 51 #[.int .i64 0, .int .i64 0, .int .i64 0, .int .i64 0] := hI.2 10 d10 (by show (!D 11) = true; rw [hR.not]; rfl)
      obtain ⟨g_10, f10, c10_0, b10_0⟩ := F10
      have d9 := hR.pred 9 (by kernel_rfl)
      have F9 : ∃ (k_9 : Int) (ka_9 : Int) (kb_9 : Int) (kc_9 : Int), V 9 = .agg #[.int .i64 k_9, .int .i64 ka_9, .int .i64 kb_9, .int .i64 kc_9] ∧ 0 ≤ kc_9 ∧ kc_9 ≤ 1000000 := hI.2 9 d9 rfl
      obtain ⟨k_9, ka_9, kb_9, kc_9, f9, c9_0, c9_1⟩ := F9
      have e5 := hR.frame.done (t := 5) (j := 10) (by kernel_rfl) hR.ok d10
      have e31 := hR.frame.done (t := 31) (j := 9) (by kernel_rfl) hR.ok d9
      rw [if_pos (by rfl)]
      have x0 := b10_0.cell 0; have y0 := b10_0.frozen 0
      have x1 := b10_0.cell 1; have y1 := b10_0.frozen 1
      have x2 := b10_0.cell 2; have y2 := b10_0.frozen 2
      have x3 := b10_0.cell 3; have y3 := b10_0.frozen 3
      simp at x0 y0 x1 y1 x2 y2 x3 y3
      go_simp
      refine hK undef _ (InvF.last ?_ ?_ ?_)
      · exact ⟨((((hS1.setCell (by show _ < g_10; omega) _).setCell (by show _ < g_10; omega) _).setCell (by show _ < g_10; omega) _).setCell (by show _ < g_10; omega) _).more (by have hn := hR.not; simp [upd, hn] <;> omega), ((((hM1.setCell (.inr (by show _ ≤ g_10; omega)) _).setCell (.inr (by show _ ≤ g_10; omega)) _).setCell (.inr (by show _ ≤ g_10; omega)) _).setCell (.inr (by show _ ≤ g_10; omega)) _), (by simpa using hB1), (q_farc (by omega) (q_farc (by omega) (q_farc (by omega) (q_farc (by omega) hG1))))⟩
      · exact ⟨g_10, k_9, ka_9, kb_9, kc_9, (upd_ne V (i := 11) (k := 10) undef (by omega)).trans f10, (by first | assumption | omega), (by first | assumption | omega), (by first | assumption | omega), (by have hset := ((((b10_0.set 0 (.int .i64 k_9)).set 1 (.int .i64 ka_9)).set 2 (.int .i64 kb_9)).set 3 (.int .i64 kc_9)); simpa using hset)⟩
      · intro k hk hDk hlv
        have hkl := hR.lt k hDk
        have hv := hI.2 k hDk (liveB_of hlv)
        match k, hk, hDk, hlv, hkl, hv with
        | 0, _, _, _, _, hv => exact hv
        | 1, _, _, _, _, hv => exact hv
        | 2, _, _, _, _, hv => exact hv
        | 3, _, _, _, _, hv => exact hv
        | 4, _, _, _, _, hv => exact hv
        | 5, _, _, _, _, hv => exact hv
        | 6, _, _, _, _, hv => exact hv
        | 7, _, _, hlv, _, _ => exact absurd hlv (by show ¬ (!upd D 11 true 8) = true; rw [upd_ne _ _ (by omega), hR.pred 8 (by kernel_rfl)]; decide)
        | 8, _, _, _, _, hv => exact hv
        | 9, _, _, _, _, hv => exact hv
        | 10, _, _, hlv, _, _ => exact absurd hlv (by show ¬ (!upd D 11 true 11) = true; rw [upd_same]; decide)
        | 11, hk, _, _, _, _ => exact absurd rfl hk
        | k + 12, _, _, _, hkl, _ => exact absurd hkl (by simp)
  · intro D V w1 hD hI
    obtain ⟨hS1, hM1, hB1, hG1⟩ := hI.1
    have hSx : Strm w1 b (0 + 4) := hS1.more (by show _ ≤ _; have := Bool.toNat_le (D 1); have := Bool.toNat_le (D 3); have := Bool.toNat_le (D 5); have := Bool.toNat_le (D 8); omega)
    clear hS1
    have hMx := hM1
    clear hM1
    have hBx := hB1
    clear hB1
    have hGx := hG1
    clear hG1
    have F0 : V 0 = .func (.func 30) #[] #[.pointer (some ⟨b + 1, 0, none⟩)] := hI.2 0 (hD 0 (by decide)) rfl
    have f0 := F0; clear F0
    have F1 : ∃ (k_1 : Int), V 1 = .int .i64 k_1 := hI.2 1 (hD 1 (by decide)) rfl
    obtain ⟨k_1, f1⟩ := F1
    have F2 : V 2 = .func (.func 30) #[] #[.pointer (some ⟨b + 1, 0, none⟩)] := hI.2 2 (hD 2 (by decide)) rfl
    have f2 := F2; clear F2
    have F3 : ∃ (k_3 : Int), V 3 = .int .i64 k_3 := hI.2 3 (hD 3 (by decide)) rfl
    obtain ⟨k_3, f3⟩ := F3
    have F4 : V 4 = .func (.func 30) #[] #[.pointer (some ⟨b + 1, 0, none⟩)] := hI.2 4 (hD 4 (by decide)) rfl
    have f4 := F4; clear F4
    have F5 : ∃ (k_5 : Int), V 5 = .int .i64 k_5 := hI.2 5 (hD 5 (by decide)) rfl
    obtain ⟨k_5, f5⟩ := F5
    have F6 : V 6 = .pointer (some ⟨b, 0, none⟩) := hI.2 6 (hD 6 (by decide)) rfl
    have f6 := F6; clear F6
    have F8 : ∃ (k_8 : Int), V 8 = .int .i64 k_8 ∧ 0 ≤ k_8 ∧ k_8 ≤ 1000000 := hI.2 8 (hD 8 (by decide)) rfl
    obtain ⟨k_8, f8, c8_0, c8_1⟩ := F8
    have F9 : ∃ (k_9 : Int) (ka_9 : Int) (kb_9 : Int) (kc_9 : Int), V 9 = .agg #[.int .i64 k_9, .int .i64 ka_9, .int .i64 kb_9, .int .i64 kc_9] ∧ 0 ≤ kc_9 ∧ kc_9 ≤ 1000000 := hI.2 9 (hD 9 (by decide)) rfl
    obtain ⟨k_9, ka_9, kb_9, kc_9, f9, c9_0, c9_1⟩ := F9
    have F11 : ∃ (g_11 : Nat) (k_11 : Int) (ka_11 : Int) (kb_11 : Int) (kc_11 : Int), V 10 = .pointer (some ⟨g_11, 0, none⟩) ∧ W.heap.size ≤ g_11 ∧ 0 ≤ kc_11 ∧ kc_11 ≤ 1000000 ∧ Blk w1 g_11 51 #[.int .i64 k_11, .int .i64 ka_11, .int .i64 kb_11, .int .i64 kc_11] := hI.2 11 (hD 11 (by decide)) rfl
    obtain ⟨g_11, k_11, ka_11, kb_11, kc_11, f11, c11_0, c11_1, c11_2, b11_0⟩ := F11
    clear hI hD HGs
    simp only [frAll, Act.put, List.setIfInBounds_toArray, List.set_cons_zero, List.set_cons_succ, Nat.zero_add, Nat.reduceAdd, f0, f1, f2, f3, f4, f5, f6, f8, f9, f11]
    clear f0 f1 f2 f3 f4 f5 f6 f8 f9 f11
    generalize V 7 = u7
    clear V D
    clear g0 hS0 hm0
    go_upto_if 33 with (fail)
    refine (flip_calls _ _ _ _ hSx (by omega) (by omega) (by omega)).mono ?_
    rintro e w2 ⟨fl, rfl, hS2, hM2⟩
    have g2 := hM2.keep hGx (by dsimp only; omega)
    have d2 := b11_0.modb hM2 (by omega)
    have m2 : Pure w w2 := hMx.trans' hM2 (fun i hi hlt => by omega)
    have hz2 := hM2.size
    clear hSx hGx b11_0 hMx hM2
    go_upto_if 33 with (fail)
    go_cut [] (fun wx => CInv w b g_11 7 wx)
    case first =>
      cases fl
      · go_wp2_with fail
        go_meet
        exact ⟨_, _, _, _, hS2.more (by omega), g2, d2, m2⟩
      · go_wp2_with fail
        have HGs := Lib.hid (show ∀ w w' : World, (fun w => w.cell? ⟨b + 1, 0, none⟩ = some (.pointer (some ⟨b, 0, none⟩)) ∧ ∃ x y z u : Int, Blk w g_11 51 #[.int .i64 x, .int .i64 y, .int .i64 z, .int .i64 u]) w → Mod (· = b) w w' → (fun w => w.cell? ⟨b + 1, 0, none⟩ = some (.pointer (some ⟨b, 0, none⟩)) ∧ ∃ x y z u : Int, Blk w g_11 51 #[.int .i64 x, .int .i64 y, .int .i64 z, .int .i64 u]) w' from by intro w w' h hm; obtain ⟨h1, x, y, z, u, h2⟩ := h; exact ⟨hm.keep h1 (by dsimp only; omega), x, y, z, u, h2.modb hm (by omega)⟩)
        refine wp_region_inv (by kernel_rfl) (by kernel_rfl) (InvF (R := Mod (· = b)) [.is (.pointer (some ⟨b, 0, none⟩)),
            ⟨fun v w => ∃ (g_1 : Nat), v = .slice (some ⟨g_1, 0, none⟩) 3 3 ∧ w2.heap.size ≤ g_1 ∧ Blk w g_1 3 #[(.int .i64 (-1)), (.int .i64 1000000001), (.int .i64 5)], (by rintro v w w' ⟨g_1, rfl, c0, q0⟩ hm; exact ⟨g_1, rfl, c0, (q0.modb hm (by omega))⟩), none, some 2⟩,
            .val (fun v => ∃ (k_2 : Int), v = .int .i64 k_2),
            .is (.pointer (some ⟨b, 0, none⟩)),
            ⟨fun v w => ∃ (g_4 : Nat), v = .slice (some ⟨g_4, 0, none⟩) 3 3 ∧ w2.heap.size ≤ g_4 ∧ Blk w g_4 3 #[(.int .i64 (-1)), (.int .i64 1000001), (.int .i64 3)], (by rintro v w w' ⟨g_4, rfl, c0, q0⟩ hm; exact ⟨g_4, rfl, c0, (q0.modb hm (by omega))⟩), none, some 5⟩,
            .val (fun v => ∃ (k_5 : Int), v = .int .i64 k_5),
            .is (.pointer (some ⟨g_11, 1, none⟩)),
            .any,
            .is (.pointer (some ⟨g_11, 3, none⟩)),
            .any]
            (GB w (fun _ => False) w2.heap.size b (0 + 4 + 1) (fun D => (D 2).toNat + (D 5).toNat) (fun w => w.cell? ⟨b + 1, 0, none⟩ = some (.pointer (some ⟨b, 0, none⟩)) ∧ ∃ x y z u : Int, Blk w g_11 51 #[.int .i64 x, .int .i64 y, .int .i64 z, .int .i64 u]))) (InvF.start (GB.start hS2 m2 (Nat.le_refl _) (⟨g2, _, _, _, _, d2⟩))) ?_ ?_
        · refine .cons ?_ (.cons ?_ (.cons ?_ (.cons ?_ (.cons ?_ (.cons ?_ (.cons ?_ (.cons ?_ (.cons ?_ (.cons ?_ .nil)))))))))
          · intro D V w1 a hR hI K hK   -- 0: Op.load 23 (Operand.tmp 3)
            obtain ⟨hS1, hM1, hB1, hG1⟩ := hI.1
            obtain ⟨hG1c, x, y, z, u, hG1d⟩ := hG1
            have e3 := hR.frame.other (t := 3) (by kernel_rfl) rfl
            rw [if_pos (by rfl)]
            go_simp
            exact hK (.pointer (some ⟨b, 0, none⟩)) _ (hI.next hR (by kernel_rfl) (Mod.refl _ _) (GB.quiet hI.1 (Mod.refl _ _) (by have hn := hR.not; simp [upd, hn] <;> omega) (HGs.out _ _ (hI.1).g (Mod.refl _ _))) (upd_same V 0 _))
          · intro D V w1 a hR hI K hK   -- 1: Op.buildSlice 22 3 #[(0, Operand.const (Value.int IntKind.i64 (-1))), 
            obtain ⟨hS1, hM1, hB1, hG1⟩ := hI.1
            obtain ⟨hG1c, x, y, z, u, hG1d⟩ := hG1
            rw [if_pos (by rfl)]
            go_simp
            exact hK (_) _ (hI.next hR (by kernel_rfl) ((Mod.refl _ _).alloc _) (GB.quiet hI.1 (pure_alloc _ _) (by have hn := hR.not; simp [upd, hn] <;> omega) (HGs.out _ _ (hI.1).g ((Mod.refl _ _).alloc _))) (⟨_, upd_same V 1 _, (by omega), (Blk.new _ _ _)⟩))
          · intro D V w1 a hR hI K hK   -- 2: Op.call { callee := Callee.value (Operand.func 25), args := #[Operand.
            obtain ⟨hS1, hM1, hB1, hG1⟩ := hI.1
            obtain ⟨hG1c, x, y, z, u, hG1d⟩ := hG1
            have d0 := hR.pred 0 (by kernel_rfl)
            have F0 : V 0 = .pointer (some ⟨b, 0, none⟩) := hI.2 0 d0 rfl
            have f0 := F0; clear F0
            have d1 := hR.pred 1 (by kernel_rfl)
            have F1 : ∃ (g_1 : Nat), V 1 = .slice (some ⟨g_1, 0, none⟩) 3 3 ∧ w2.heap.size ≤ g_1 ∧ Blk w1 g_1 3 #[(.int .i64 (-1)), (.int .i64 1000000001), (.int .i64 5)] := hI.2 1 d1 (by show (!D 2) = true; rw [hR.not]; rfl)
            obtain ⟨g_1, f1, c1_0, b1_0⟩ := F1
            have e34 := hR.frame.done (t := 34) (j := 0) (by kernel_rfl) hR.ok d0
            have e35 := hR.frame.done (t := 35) (j := 1) (by kernel_rfl) hR.ok d1
            rw [if_pos (by rfl)]
            have := Bool.toNat_le (D 2)
            have := Bool.toNat_le (D 5)
            have hNB : 0 + 4 + 1 + ((D 2).toNat + (D 5).toNat) ≤ 1000000000 := by omega
            skip
            go_simp
            refine (pickv_calls _ _ _ _ 3 3 #[(.int .i64 (-1)), (.int .i64 1000000001), (.int .i64 5)] hS1 b1_0 hNB (by omega) rfl (by omega) (by omega) rfl).mono ?_
            rintro e w2 ⟨k_0, hk, rfl, hS2, hm2⟩
            exact hK (.int .i64 k_0) _ (hI.next hR (by kernel_rfl) hm2 (GB.asks hI.1 (fun j hj hlt => by omega) hS2 hm2 (by have hn := hR.not; simp [upd, hn] <;> omega) (HGs.out _ _ (hI.1).g hm2)) (⟨k_0, upd_same V 2 _⟩))
          · intro D V w1 a hR hI K hK   -- 3: Op.load 23 (Operand.tmp 3)
            obtain ⟨hS1, hM1, hB1, hG1⟩ := hI.1
            obtain ⟨hG1c, x, y, z, u, hG1d⟩ := hG1
            have e3 := hR.frame.other (t := 3) (by kernel_rfl) rfl
            rw [if_pos (by rfl)]
            go_simp
            exact hK (.pointer (some ⟨b, 0, none⟩)) _ (hI.next hR (by kernel_rfl) (Mod.refl _ _) (GB.quiet hI.1 (Mod.refl _ _) (by have hn := hR.not; simp [upd, hn] <;> omega) (HGs.out _ _ (hI.1).g (Mod.refl _ _))) (upd_same V 3 _))
          · intro D V w1 a hR hI K hK   -- 4: Op.buildSlice 22 3 #[(0, Operand.const (Value.int IntKind.i64 (-1))), 
            obtain ⟨hS1, hM1, hB1, hG1⟩ := hI.1
            obtain ⟨hG1c, x, y, z, u, hG1d⟩ := hG1
            rw [if_pos (by rfl)]
            go_simp
            exact hK (_) _ (hI.next hR (by kernel_rfl) ((Mod.refl _ _).alloc _) (GB.quiet hI.1 (pure_alloc _ _) (by have hn := hR.not; simp [upd, hn] <;> omega) (HGs.out _ _ (hI.1).g ((Mod.refl _ _).alloc _))) (⟨_, upd_same V 4 _, (by omega), (Blk.new _ _ _)⟩))
          · intro D V w1 a hR hI K hK   -- 5: Op.call { callee := Callee.value (Operand.func 25), args := #[Operand.
            obtain ⟨hS1, hM1, hB1, hG1⟩ := hI.1
            obtain ⟨hG1c, x, y, z, u, hG1d⟩ := hG1
            have d3 := hR.pred 3 (by kernel_rfl)
            have F3 : V 3 = .pointer (some ⟨b, 0, none⟩) := hI.2 3 d3 rfl
            have f3 := F3; clear F3
            have d4 := hR.pred 4 (by kernel_rfl)
            have F4 : ∃ (g_4 : Nat), V 4 = .slice (some ⟨g_4, 0, none⟩) 3 3 ∧ w2.heap.size ≤ g_4 ∧ Blk w1 g_4 3 #[(.int .i64 (-1)), (.int .i64 1000001), (.int .i64 3)] := hI.2 4 d4 (by show (!D 5) = true; rw [hR.not]; rfl)
            obtain ⟨g_4, f4, c4_0, b4_0⟩ := F4
            have e37 := hR.frame.done (t := 37) (j := 3) (by kernel_rfl) hR.ok d3
            have e38 := hR.frame.done (t := 38) (j := 4) (by kernel_rfl) hR.ok d4
            rw [if_pos (by rfl)]
            have := Bool.toNat_le (D 2)
            have := Bool.toNat_le (D 5)
            have hNB : 0 + 4 + 1 + ((D 2).toNat + (D 5).toNat) ≤ 1000000000 := by omega
            skip
            go_simp
            refine (pickv_calls _ _ _ _ 3 3 #[(.int .i64 (-1)), (.int .i64 1000001), (.int .i64 3)] hS1 b4_0 hNB (by omega) rfl (by omega) (by omega) rfl).mono ?_
            rintro e w2 ⟨k_0, hk, rfl, hS2, hm2⟩
            exact hK (.int .i64 k_0) _ (hI.next hR (by kernel_rfl) hm2 (GB.asks hI.1 (fun j hj hlt => by omega) hS2 hm2 (by have hn := hR.not; simp [upd, hn] <;> omega) (HGs.out _ _ (hI.1).g hm2)) (⟨k_0, upd_same V 5 _⟩))
          · intro D V w1 a hR hI K hK   -- 6: Op.fieldAddr 51 (Operand.tmp 5) 1
            obtain ⟨hS1, hM1, hB1, hG1⟩ := hI.1
            obtain ⟨hG1c, x, y, z, u, hG1d⟩ := hG1
            have e5 := hR.frame.other (t := 5) (by kernel_rfl) rfl
            rw [if_pos (by rfl)]
            go_simp
            exact hK (.pointer (some ⟨g_11, 1, none⟩)) _ (hI.next hR (by kernel_rfl) (Mod.refl _ _) (GB.quiet hI.1 (Mod.refl _ _) (by have hn := hR.not; simp [upd, hn] <;> omega) (HGs.out _ _ (hI.1).g (Mod.refl _ _))) (upd_same V 6 _))
          · intro D V w1 a hR hI K hK   -- 7: Op.store 3 (Operand.tmp 40) (Operand.tmp 36)
            obtain ⟨hS1, hM1, hB1, hG1⟩ := hI.1
            obtain ⟨hG1c, x, y, z, u, hG1d⟩ := hG1
            have d6 := hR.pred 6 (by kernel_rfl)
            have F6 : V 6 = .pointer (some ⟨g_11, 1, none⟩) := hI.2 6 d6 rfl
            have f6 := F6; clear F6
            have d2 := hR.pred 2 (by kernel_rfl)
            have F2 : ∃ (k_2 : Int), V 2 = .int .i64 k_2 := hI.2 2 d2 rfl
            obtain ⟨k_2, f2⟩ := F2
            have e40 := hR.frame.done (t := 40) (j := 6) (by kernel_rfl) hR.ok d6
            have e36 := hR.frame.done (t := 36) (j := 2) (by kernel_rfl) hR.ok d2
            rw [if_pos (by rfl)]
            have x0 := hG1d.cell 1; have y0 := hG1d.frozen 1
            simp at x0 y0
            go_simp
            refine hK undef _ (InvF.last ⟨(hS1.setCell (by show _ < g_11; omega) _).more (by have hn := hR.not; simp [upd, hn] <;> omega), hM1.setCell (.inr (by show _ ≤ g_11; omega)) _, (by simpa using hB1), q_farc (by omega) hG1c, x, _, z, u, (by have hset := hG1d.set 1 (.int .i64 k_2); simpa using hset)⟩ trivial ?_)
            intro k hk hDk hlv
            have hkl := hR.lt k hDk
            have hv := hI.2 k hDk (liveB_of hlv)
            match k, hk, hDk, hlv, hkl, hv with
            | 0, _, _, _, _, hv => exact hv
            | 1, _, _, hlv, _, _ => exact absurd hlv (by show ¬ (!upd D 7 true 2) = true; rw [upd_ne _ _ (by omega), hR.pred 2 (by kernel_rfl)]; decide)
            | 2, _, _, _, _, hv => exact hv
            | 3, _, _, _, _, hv => exact hv
            | 4, _, _, hlv, _, _ => exact absurd hlv (by show ¬ (!upd D 7 true 5) = true; rw [upd_ne _ _ (by omega), hR.pred 5 (by kernel_rfl)]; decide)
            | 5, _, _, _, _, hv => exact hv
            | 6, _, _, _, _, hv => exact hv
            | 7, hk, _, _, _, _ => exact absurd rfl hk
            | 8, _, _, _, _, hv => exact hv
            | 9, _, _, _, _, hv => exact hv
            | k + 10, _, _, _, hkl, _ => exact absurd hkl (by simp)
          · intro D V w1 a hR hI K hK   -- 8: Op.fieldAddr 51 (Operand.tmp 5) 3
            obtain ⟨hS1, hM1, hB1, hG1⟩ := hI.1
            obtain ⟨hG1c, x, y, z, u, hG1d⟩ := hG1
            have e5 := hR.frame.other (t := 5) (by kernel_rfl) rfl
            rw [if_pos (by rfl)]
            go_simp
            exact hK (.pointer (some ⟨g_11, 3, none⟩)) _ (hI.next hR (by kernel_rfl) (Mod.refl _ _) (GB.quiet hI.1 (Mod.refl _ _) (by have hn := hR.not; simp [upd, hn] <;> omega) (HGs.out _ _ (hI.1).g (Mod.refl _ _))) (upd_same V 8 _))
          · intro D V w1 a hR hI K hK   -- 9: Op.store 3 (Operand.tmp 41) (Operand.tmp 39)
            obtain ⟨hS1, hM1, hB1, hG1⟩ := hI.1
            obtain ⟨hG1c, x, y, z, u, hG1d⟩ := hG1
            have d8 := hR.pred 8 (by kernel_rfl)
            have F8 : V 8 = .pointer (some ⟨g_11, 3, none⟩) := hI.2 8 d8 rfl
            have f8 := F8; clear F8
            have d5 := hR.pred 5 (by kernel_rfl)
            have F5 : ∃ (k_5 : Int), V 5 = .int .i64 k_5 := hI.2 5 d5 rfl
            obtain ⟨k_5, f5⟩ := F5
            have e41 := hR.frame.done (t := 41) (j := 8) (by kernel_rfl) hR.ok d8
            have e39 := hR.frame.done (t := 39) (j := 5) (by kernel_rfl) hR.ok d5
            rw [if_pos (by rfl)]
            have x0 := hG1d.cell 3; have y0 := hG1d.frozen 3
            simp at x0 y0
            go_simp
            refine hK undef _ (InvF.last ⟨(hS1.setCell (by show _ < g_11; omega) _).more (by have hn := hR.not; simp [upd, hn] <;> omega), hM1.setCell (.inr (by show _ ≤ g_11; omega)) _, (by simpa using hB1), q_farc (by omega) hG1c, x, y, z, _, (by have hset := hG1d.set 3 (.int .i64 k_5); simpa using hset)⟩ trivial ?_)
            intro k hk hDk hlv
            have hkl := hR.lt k hDk
            have hv := hI.2 k hDk (liveB_of hlv)
            match k, hk, hDk, hlv, hkl, hv with
            | 0, _, _, _, _, hv => exact hv
            | 1, _, _, hlv, _, _ => exact absurd hlv (by show ¬ (!upd D 9 true 2) = true; rw [upd_ne _ _ (by omega), hR.pred 2 (by kernel_rfl)]; decide)
            | 2, _, _, _, _, hv => exact hv
            | 3, _, _, _, _, hv => exact hv
            | 4, _, _, hlv, _, _ => exact absurd hlv (by show ¬ (!upd D 9 true 5) = true; rw [upd_ne _ _ (by omega), hR.pred 5 (by kernel_rfl)]; decide)
            | 5, _, _, _, _, hv => exact hv
            | 6, _, _, _, _, hv => exact hv
            | 7, _, _, _, _, hv => exact hv
            | 8, _, _, _, _, hv => exact hv
            | 9, hk, _, _, _, _ => exact absurd rfl hk
            | k + 10, _, _, _, hkl, _ => exact absurd hkl (by simp)
        · intro D V w3 hD hI
          obtain ⟨hS1, hM1, hB1, hG1⟩ := hI.1
          have hSx : Strm w3 b (0 + 4 + 1 + 2) := hS1.more (by show _ ≤ _; have := Bool.toNat_le (D 2); have := Bool.toNat_le (D 5); omega)
          clear hS1
          have hMx := hM1
          clear hM1
          have hBx := hB1
          clear hB1
          have hGx := hG1
          clear hG1
          have F0 : V 0 = .pointer (some ⟨b, 0, none⟩) := hI.2 0 (hD 0 (by decide)) rfl
          have f0 := F0; clear F0
          have F2 : ∃ (k_2 : Int), V 2 = .int .i64 k_2 := hI.2 2 (hD 2 (by decide)) rfl
          obtain ⟨k_2, f2⟩ := F2
          have F3 : V 3 = .pointer (some ⟨b, 0, none⟩) := hI.2 3 (hD 3 (by decide)) rfl
          have f3 := F3; clear F3
          have F5 : ∃ (k_5 : Int), V 5 = .int .i64 k_5 := hI.2 5 (hD 5 (by decide)) rfl
          obtain ⟨k_5, f5⟩ := F5
          have F6 : V 6 = .pointer (some ⟨g_11, 1, none⟩) := hI.2 6 (hD 6 (by decide)) rfl
          have f6 := F6; clear F6
          have F8 : V 8 = .pointer (some ⟨g_11, 3, none⟩) := hI.2 8 (hD 8 (by decide)) rfl
          have f8 := F8; clear F8
          clear hI hD HGs
          simp only [frAll, Act.put, List.setIfInBounds_toArray, List.set_cons_zero, List.set_cons_succ, Nat.zero_add, Nat.reduceAdd, f0, f2, f3, f5, f6, f8]
          clear f0 f2 f3 f5 f6 f8
          generalize V 1 = u1
          generalize V 4 = u4
          clear V D
          obtain ⟨h1, x, y, z, u, h2⟩ := hGx
          go_wp2_with fail
          go_meet
          exact ⟨_, _, _, _, hSx, h1, h2, hMx⟩
    case rest =>
      obtain ⟨o, r, s, v, hS3, g3, d3, m3⟩ := hcut
      clear g2 d2 m2 hS2
      generalize wc = w3 at *
      have hz3 := d3.lt
      go_wp2_with fail
      have HGs := Lib.hid (show ∀ w w' : World, (fun w => w.cell? ⟨b + 1, 0, none⟩ = some (.pointer (some ⟨b, 0, none⟩)) ∧ Blk w g_11 51 #[.int .i64 o, .int .i64 r, .int .i64 s, .int .i64 v]) w → Mod (· = b) w w' → (fun w => w.cell? ⟨b + 1, 0, none⟩ = some (.pointer (some ⟨b, 0, none⟩)) ∧ Blk w g_11 51 #[.int .i64 o, .int .i64 r, .int .i64 s, .int .i64 v]) w' from by intro w w' h hm; exact ⟨hm.keep h.1 (by dsimp only; omega), h.2.modb hm (by omega)⟩)
      refine wp_region_inv (by kernel_rfl) (by kernel_rfl) (InvF (R := Mod (· = b)) [.is (.pointer (some ⟨b, 0, none⟩)),
          ⟨fun v w => ∃ (g_1 : Nat), v = .slice (some ⟨g_1, 0, none⟩) 7 7 ∧ w3.heap.size ≤ g_1 ∧ Blk w g_1 3 #[(.int .i64 0), (.int .i64 1), (.int .i64 9), (.int .i64 100), (.int .i64 1000000), (.int .i64 (-1)), (.int .i64 1000001)], (by rintro v w w' ⟨g_1, rfl, c0, q0⟩ hm; exact ⟨g_1, rfl, c0, (q0.modb hm (by omega))⟩), none, some 2⟩,
          .val (fun v => ∃ (k_2 : Int), v = .int .i64 k_2),
          .is (.pointer (some ⟨b, 0, none⟩)),
          ⟨fun v w => ∃ (g_4 : Nat), v = .slice (some ⟨g_4, 0, none⟩) 9 9 ∧ w3.heap.size ≤ g_4 ∧ Blk w g_4 3 #[(.int .i64 0), (.int .i64 10), (.int .i64 999), (.int .i64 5000), (.int .i64 123456), (.int .i64 1000000000), (.int .i64 10000000000000000), (.int .i64 (-1)), (.int .i64 10000000000000001)], (by rintro v w w' ⟨g_4, rfl, c0, q0⟩ hm; exact ⟨g_4, rfl, c0, (q0.modb hm (by omega))⟩), none, some 5⟩,
          .val (fun v => ∃ (k_5 : Int), v = .int .i64 k_5),
          .val (fun v => ∃ (k_6 : Int), v = .int .i64 k_6),
          .val (fun v => ∃ (k_7 : Int), v = .int .i64 k_7)]
          (GB w (fun _ => False) w3.heap.size b (7) (fun D => (D 2).toNat + (D 5).toNat) (fun w => w.cell? ⟨b + 1, 0, none⟩ = some (.pointer (some ⟨b, 0, none⟩)) ∧ Blk w g_11 51 #[.int .i64 o, .int .i64 r, .int .i64 s, .int .i64 v]))) (InvF.start (GB.start hS3 m3 (Nat.le_refl _) (⟨g3, d3⟩))) ?_ ?_
      · refine .cons ?_ (.cons ?_ (.cons ?_ (.cons ?_ (.cons ?_ (.cons ?_ (.cons ?_ (.cons ?_ .nil)))))))
        · intro D V w1 a hR hI K hK   -- 0: Op.load 23 (Operand.tmp 3)
          obtain ⟨hS1, hM1, hB1, hG1⟩ := hI.1
          obtain ⟨hG1c, hG1d⟩ := hG1
          have e3 := hR.frame.other (t := 3) (by kernel_rfl) rfl
          rw [if_pos (by rfl)]
          go_simp
          exact hK (.pointer (some ⟨b, 0, none⟩)) _ (hI.next hR (by kernel_rfl) (Mod.refl _ _) (GB.quiet hI.1 (Mod.refl _ _) (by have hn := hR.not; simp [upd, hn] <;> omega) (HGs.out _ _ (hI.1).g (Mod.refl _ _))) (upd_same V 0 _))
        · intro D V w1 a hR hI K hK   -- 1: Op.buildSlice 22 7 #[(0, Operand.const (Value.int IntKind.i64 0)), (1,
          obtain ⟨hS1, hM1, hB1, hG1⟩ := hI.1
          obtain ⟨hG1c, hG1d⟩ := hG1
          rw [if_pos (by rfl)]
          go_simp
          exact hK (_) _ (hI.next hR (by kernel_rfl) ((Mod.refl _ _).alloc _) (GB.quiet hI.1 (pure_alloc _ _) (by have hn := hR.not; simp [upd, hn] <;> omega) (HGs.out _ _ (hI.1).g ((Mod.refl _ _).alloc _))) (⟨_, upd_same V 1 _, (by omega), (Blk.new _ _ _)⟩))
        · intro D V w1 a hR hI K hK   -- 2: Op.call { callee := Callee.value (Operand.func 25), args := #[Operand.
          obtain ⟨hS1, hM1, hB1, hG1⟩ := hI.1
          obtain ⟨hG1c, hG1d⟩ := hG1
          have d0 := hR.pred 0 (by kernel_rfl)
          have F0 : V 0 = .pointer (some ⟨b, 0, none⟩) := hI.2 0 d0 rfl
          have f0 := F0; clear F0
          have d1 := hR.pred 1 (by kernel_rfl)
          have F1 : ∃ (g_1 : Nat), V 1 = .slice (some ⟨g_1, 0, none⟩) 7 7 ∧ w3.heap.size ≤ g_1 ∧ Blk w1 g_1 3 #[(.int .i64 0), (.int .i64 1), (.int .i64 9), (.int .i64 100), (.int .i64 1000000), (.int .i64 (-1)), (.int .i64 1000001)] := hI.2 1 d1 (by show (!D 2) = true; rw [hR.not]; rfl)
          obtain ⟨g_1, f1, c1_0, b1_0⟩ := F1
          have e42 := hR.frame.done (t := 42) (j := 0) (by kernel_rfl) hR.ok d0
          have e43 := hR.frame.done (t := 43) (j := 1) (by kernel_rfl) hR.ok d1
          rw [if_pos (by rfl)]
          have := Bool.toNat_le (D 2)
          have := Bool.toNat_le (D 5)
          have hNB : 7 + ((D 2).toNat + (D 5).toNat) ≤ 1000000000 := by omega
          skip
          go_simp
          refine (pickv_calls _ _ _ _ 7 7 #[(.int .i64 0), (.int .i64 1), (.int .i64 9), (.int .i64 100), (.int .i64 1000000), (.int .i64 (-1)), (.int .i64 1000001)] hS1 b1_0 hNB (by omega) rfl (by omega) (by omega) rfl).mono ?_
          rintro e w2 ⟨k_0, hk, rfl, hS2, hm2⟩
          exact hK (.int .i64 k_0) _ (hI.next hR (by kernel_rfl) hm2 (GB.asks hI.1 (fun j hj hlt => by omega) hS2 hm2 (by have hn := hR.not; simp [upd, hn] <;> omega) (HGs.out _ _ (hI.1).g hm2)) (⟨k_0, upd_same V 2 _⟩))
        · intro D V w1 a hR hI K hK   -- 3: Op.load 23 (Operand.tmp 3)
          obtain ⟨hS1, hM1, hB1, hG1⟩ := hI.1
          obtain ⟨hG1c, hG1d⟩ := hG1
          have e3 := hR.frame.other (t := 3) (by kernel_rfl) rfl
          rw [if_pos (by rfl)]
          go_simp
          exact hK (.pointer (some ⟨b, 0, none⟩)) _ (hI.next hR (by kernel_rfl) (Mod.refl _ _) (GB.quiet hI.1 (Mod.refl _ _) (by have hn := hR.not; simp [upd, hn] <;> omega) (HGs.out _ _ (hI.1).g (Mod.refl _ _))) (upd_same V 3 _))
        · intro D V w1 a hR hI K hK   -- 4: Op.buildSlice 22 9 #[(0, Operand.const (Value.int IntKind.i64 0)), (1,
          obtain ⟨hS1, hM1, hB1, hG1⟩ := hI.1
          obtain ⟨hG1c, hG1d⟩ := hG1
          rw [if_pos (by rfl)]
          go_simp
          exact hK (_) _ (hI.next hR (by kernel_rfl) ((Mod.refl _ _).alloc _) (GB.quiet hI.1 (pure_alloc _ _) (by have hn := hR.not; simp [upd, hn] <;> omega) (HGs.out _ _ (hI.1).g ((Mod.refl _ _).alloc _))) (⟨_, upd_same V 4 _, (by omega), (Blk.new _ _ _)⟩))
        · intro D V w1 a hR hI K hK   -- 5: Op.call { callee := Callee.value (Operand.func 25), args := #[Operand.
          obtain ⟨hS1, hM1, hB1, hG1⟩ := hI.1
          obtain ⟨hG1c, hG1d⟩ := hG1
          have d3 := hR.pred 3 (by kernel_rfl)
          have F3 : V 3 = .pointer (some ⟨b, 0, none⟩) := hI.2 3 d3 rfl
          have f3 := F3; clear F3
          have d4 := hR.pred 4 (by kernel_rfl)
          have F4 : ∃ (g_4 : Nat), V 4 = .slice (some ⟨g_4, 0, none⟩) 9 9 ∧ w3.heap.size ≤ g_4 ∧ Blk w1 g_4 3 #[(.int .i64 0), (.int .i64 10), (.int .i64 999), (.int .i64 5000), (.int .i64 123456), (.int .i64 1000000000), (.int .i64 10000000000000000), (.int .i64 (-1)), (.int .i64 10000000000000001)] := hI.2 4 d4 (by show (!D 5) = true; rw [hR.not]; rfl)
          obtain ⟨g_4, f4, c4_0, b4_0⟩ := F4
          have e45 := hR.frame.done (t := 45) (j := 3) (by kernel_rfl) hR.ok d3
          have e46 := hR.frame.done (t := 46) (j := 4) (by kernel_rfl) hR.ok d4
          rw [if_pos (by rfl)]
          have := Bool.toNat_le (D 2)
          have := Bool.toNat_le (D 5)
          have hNB : 7 + ((D 2).toNat + (D 5).toNat) ≤ 1000000000 := by omega
          skip
          go_simp
          refine (pickv_calls _ _ _ _ 9 9 #[(.int .i64 0), (.int .i64 10), (.int .i64 999), (.int .i64 5000), (.int .i64 123456), (.int .i64 1000000000), (.int .i64 10000000000000000), (.int .i64 (-1)), (.int .i64 10000000000000001)] hS1 b4_0 hNB (by omega) rfl (by omega) (by omega) rfl).mono ?_
          rintro e w2 ⟨k_0, hk, rfl, hS2, hm2⟩
          exact hK (.int .i64 k_0) _ (hI.next hR (by kernel_rfl) hm2 (GB.asks hI.1 (fun j hj hlt => by omega) hS2 hm2 (by have hn := hR.not; simp [upd, hn] <;> omega) (HGs.out _ _ (hI.1).g hm2)) (⟨k_0, upd_same V 5 _⟩))
        · intro D V w1 a hR hI K hK   -- 6: Op.assign (Operand.tmp 44)
          obtain ⟨hS1, hM1, hB1, hG1⟩ := hI.1
          obtain ⟨hG1c, hG1d⟩ := hG1
          have d2 := hR.pred 2 (by kernel_rfl)
          have F2 : ∃ (k_2 : Int), V 2 = .int .i64 k_2 := hI.2 2 d2 rfl
          obtain ⟨k_2, f2⟩ := F2
          have e44 := hR.frame.done (t := 44) (j := 2) (by kernel_rfl) hR.ok d2
          rw [if_pos (by rfl)]
          go_simp
          exact hK (.int .i64 k_2) _ (hI.next hR (by kernel_rfl) (Mod.refl _ _) (GB.quiet hI.1 (Mod.refl _ _) (by have hn := hR.not; simp [upd, hn] <;> omega) (HGs.out _ _ (hI.1).g (Mod.refl _ _))) (⟨k_2, upd_same V 6 _⟩))
        · intro D V w1 a hR hI K hK   -- 7: Op.assign (Operand.tmp 47)
          obtain ⟨hS1, hM1, hB1, hG1⟩ := hI.1
          obtain ⟨hG1c, hG1d⟩ := hG1
          have d5 := hR.pred 5 (by kernel_rfl)
          have F5 : ∃ (k_5 : Int), V 5 = .int .i64 k_5 := hI.2 5 d5 rfl
          obtain ⟨k_5, f5⟩ := F5
          have e47 := hR.frame.done (t := 47) (j := 5) (by kernel_rfl) hR.ok d5
          rw [if_pos (by rfl)]
          go_simp
          exact hK (.int .i64 k_5) _ (hI.next hR (by kernel_rfl) (Mod.refl _ _) (GB.quiet hI.1 (Mod.refl _ _) (by have hn := hR.not; simp [upd, hn] <;> omega) (HGs.out _ _ (hI.1).g (Mod.refl _ _))) (⟨k_5, upd_same V 7 _⟩))
      · intro D V w4 hD hI
        obtain ⟨hS1, hM1, hB1, hG1⟩ := hI.1
        have hSx : Strm w4 b (7 + 2) := hS1.more (by show _ ≤ _; have := Bool.toNat_le (D 2); have := Bool.toNat_le (D 5); omega)
        clear hS1
        have hMx := hM1
        clear hM1
        have hBx := hB1
        clear hB1
        have hGx := hG1
        clear hG1
        have F0 : V 0 = .pointer (some ⟨b, 0, none⟩) := hI.2 0 (hD 0 (by decide)) rfl
        have f0 := F0; clear F0
        have F2 : ∃ (k_2 : Int), V 2 = .int .i64 k_2 := hI.2 2 (hD 2 (by decide)) rfl
        obtain ⟨k_2, f2⟩ := F2
        have F3 : V 3 = .pointer (some ⟨b, 0, none⟩) := hI.2 3 (hD 3 (by decide)) rfl
        have f3 := F3; clear F3
        have F5 : ∃ (k_5 : Int), V 5 = .int .i64 k_5 := hI.2 5 (hD 5 (by decide)) rfl
        obtain ⟨k_5, f5⟩ := F5
        have F6 : ∃ (k_6 : Int), V 6 = .int .i64 k_6 := hI.2 6 (hD 6 (by decide)) rfl
        obtain ⟨k_6, f6⟩ := F6
        have F7 : ∃ (k_7 : Int), V 7 = .int .i64 k_7 := hI.2 7 (hD 7 (by decide)) rfl
        obtain ⟨k_7, f7⟩ := F7
        clear hI hD HGs
        simp only [frAll, Act.put, List.setIfInBounds_toArray, List.set_cons_zero, List.set_cons_succ, Nat.zero_add, Nat.reduceAdd, f0, f2, f3, f5, f6, f7]
        clear f0 f2 f3 f5 f6 f7
        generalize V 1 = u1
        generalize V 4 = u4
        clear V D
        have d4 := hGx.2
        clear hGx hSx g3 d3 hS3 m3
        have x0 := d4.cell 0; have x1 := d4.cell 1; have x2 := d4.cell 2; have x3 := d4.cell 3
        simp at x0 x1 x2 x3
        go_wp2_with fail
        refine (Cost_any _ o r s v k_6).mono ?_
        rintro e w5 ⟨a1, e1, hC, rfl, hm5⟩
        have HC := Lib.hid hC
        have d5 := d4.modp hm5
        have m5 : Pure w w5 := hMx.trans hm5
        clear hC d4 hMx hm5 x0 x1 x2 x3
        have x0 := d5.cell 0; have x1 := d5.cell 1; have x2 := d5.cell 2; have x3 := d5.cell 3
        simp at x0 x1 x2 x3
        go_wp2_with fail
        refine (Afford_any _ o r s v k_7).mono ?_
        rintro e w6 ⟨a2, e2, hF, rfl, hm6⟩
        have HF := Lib.hid hF
        have d6 := d5.modp hm6
        have m6 : Pure w w6 := m5.trans hm6
        clear hF d5 m5 hm6 x0 x1 x2 x3
        go_wp2_with fail
        have HGs := Lib.hid (show ∀ w w' : World, (fun w => Blk w g_11 51 #[.int .i64 o, .int .i64 r, .int .i64 s, .int .i64 v]) w → Mod (fun _ => False) w w' → (fun w => Blk w g_11 51 #[.int .i64 o, .int .i64 r, .int .i64 s, .int .i64 v]) w' from by intro w w' h hm; exact h.modp hm)
        refine wp_region_inv (by kernel_rfl) (by kernel_rfl) (InvF (R := Mod (fun _ => False)) [.is (.agg #[.int .i64 o, .int .i64 r, .int .i64 s, .int .i64 v]),
            .is (.int .i64 (costErr o r s v)),
            .is (.agg #[.int .i64 o, .int .i64 r, .int .i64 s, .int .i64 v]),
            .is (.int .i64 (costErr o r s v)),
            .is (.int .i64 (costErr o r s v)),
            .is (.int .i64 (costErr o r s v))]
            (PB w (fun _ => False) w6.heap.size (fun w => Blk w g_11 51 #[.int .i64 o, .int .i64 r, .int .i64 s, .int .i64 v]))) (InvF.start (PB.start m6 (Nat.le_refl _) (d6))) ?_ ?_
        · refine .cons ?_ (.cons ?_ (.cons ?_ (.cons ?_ (.cons ?_ (.cons ?_ .nil)))))
          · intro D V w1 a hR hI K hK   -- 0: Op.load 51 (Operand.tmp 5)
            obtain ⟨hM1, hB1, hG1⟩ := hI.1
            have e5 := hR.frame.other (t := 5) (by kernel_rfl) rfl
            have x0 := hG1.cell 0; have x1 := hG1.cell 1; have x2 := hG1.cell 2; have x3 := hG1.cell 3
            simp at x0 x1 x2 x3
            rw [if_pos (by rfl)]
            go_simp
            exact hK (.agg #[.int .i64 o, .int .i64 r, .int .i64 s, .int .i64 v]) _ (hI.next hR (by kernel_rfl) (Mod.refl _ _) (PB.quiet hI.1 (Mod.refl _ _) (HGs.out _ _ (hI.1).g (Mod.refl _ _))) (upd_same V 0 _))
          · intro D V w1 a hR hI K hK   -- 1: Op.call { callee := Callee.value (Operand.func 34), args := #[Operand.
            obtain ⟨hM1, hB1, hG1⟩ := hI.1
            have d0 := hR.pred 0 (by kernel_rfl)
            have F0 : V 0 = .agg #[.int .i64 o, .int .i64 r, .int .i64 s, .int .i64 v] := hI.2 0 d0 rfl
            have f0 := F0; clear F0
            have e60 := hR.frame.done (t := 60) (j := 0) (by kernel_rfl) hR.ok d0
            rw [if_pos (by rfl)]
            go_simp
            refine (costsFault_calls _ o r s v).mono ?_
            rintro e w2 ⟨rfl, hm2⟩
            exact hK (.int .i64 (costErr o r s v)) _ (hI.next hR (by kernel_rfl) hm2 (PB.quiet hI.1 hm2 (HGs.out _ _ (hI.1).g hm2)) (upd_same V 1 _))
          · intro D V w1 a hR hI K hK   -- 2: Op.load 51 (Operand.tmp 5)
            obtain ⟨hM1, hB1, hG1⟩ := hI.1
            have e5 := hR.frame.other (t := 5) (by kernel_rfl) rfl
            have x0 := hG1.cell 0; have x1 := hG1.cell 1; have x2 := hG1.cell 2; have x3 := hG1.cell 3
            simp at x0 x1 x2 x3
            rw [if_pos (by rfl)]
            go_simp
            exact hK (.agg #[.int .i64 o, .int .i64 r, .int .i64 s, .int .i64 v]) _ (hI.next hR (by kernel_rfl) (Mod.refl _ _) (PB.quiet hI.1 (Mod.refl _ _) (HGs.out _ _ (hI.1).g (Mod.refl _ _))) (upd_same V 2 _))
          · intro D V w1 a hR hI K hK   -- 3: Op.call { callee := Callee.value (Operand.func 34), args := #[Operand.
            obtain ⟨hM1, hB1, hG1⟩ := hI.1
            have d2 := hR.pred 2 (by kernel_rfl)
            have F2 : V 2 = .agg #[.int .i64 o, .int .i64 r, .int .i64 s, .int .i64 v] := hI.2 2 d2 rfl
            have f2 := F2; clear F2
            have e62 := hR.frame.done (t := 62) (j := 2) (by kernel_rfl) hR.ok d2
            rw [if_pos (by rfl)]
            go_simp
            refine (costsFault_calls _ o r s v).mono ?_
            rintro e w2 ⟨rfl, hm2⟩
            exact hK (.int .i64 (costErr o r s v)) _ (hI.next hR (by kernel_rfl) hm2 (PB.quiet hI.1 hm2 (HGs.out _ _ (hI.1).g hm2)) (upd_same V 3 _))
          · intro D V w1 a hR hI K hK   -- 4: Op.assign (Operand.tmp 61)
            obtain ⟨hM1, hB1, hG1⟩ := hI.1
            have d1 := hR.pred 1 (by kernel_rfl)
            have F1 : V 1 = .int .i64 (costErr o r s v) := hI.2 1 d1 rfl
            have f1 := F1; clear F1
            have e61 := hR.frame.done (t := 61) (j := 1) (by kernel_rfl) hR.ok d1
            rw [if_pos (by rfl)]
            go_simp
            exact hK (.int .i64 (costErr o r s v)) _ (hI.next hR (by kernel_rfl) (Mod.refl _ _) (PB.quiet hI.1 (Mod.refl _ _) (HGs.out _ _ (hI.1).g (Mod.refl _ _))) (upd_same V 4 _))
          · intro D V w1 a hR hI K hK   -- 5: Op.assign (Operand.tmp 63)
            obtain ⟨hM1, hB1, hG1⟩ := hI.1
            have d3 := hR.pred 3 (by kernel_rfl)
            have F3 : V 3 = .int .i64 (costErr o r s v) := hI.2 3 d3 rfl
            have f3 := F3; clear F3
            have e63 := hR.frame.done (t := 63) (j := 3) (by kernel_rfl) hR.ok d3
            rw [if_pos (by rfl)]
            go_simp
            exact hK (.int .i64 (costErr o r s v)) _ (hI.next hR (by kernel_rfl) (Mod.refl _ _) (PB.quiet hI.1 (Mod.refl _ _) (HGs.out _ _ (hI.1).g (Mod.refl _ _))) (upd_same V 5 _))
        · intro D V w7 hD hI
          obtain ⟨hM1, hB1, hG1⟩ := hI.1
          have hMx := hM1
          clear hM1
          have hBx := hB1
          clear hB1
          have hGx := hG1
          clear hG1
          have F0 : V 0 = .agg #[.int .i64 o, .int .i64 r, .int .i64 s, .int .i64 v] := hI.2 0 (hD 0 (by decide)) rfl
          have f0 := F0; clear F0
          have F1 : V 1 = .int .i64 (costErr o r s v) := hI.2 1 (hD 1 (by decide)) rfl
          have f1 := F1; clear F1
          have F2 : V 2 = .agg #[.int .i64 o, .int .i64 r, .int .i64 s, .int .i64 v] := hI.2 2 (hD 2 (by decide)) rfl
          have f2 := F2; clear F2
          have F3 : V 3 = .int .i64 (costErr o r s v) := hI.2 3 (hD 3 (by decide)) rfl
          have f3 := F3; clear F3
          have F4 : V 4 = .int .i64 (costErr o r s v) := hI.2 4 (hD 4 (by decide)) rfl
          have f4 := F4; clear F4
          have F5 : V 5 = .int .i64 (costErr o r s v) := hI.2 5 (hD 5 (by decide)) rfl
          have f5 := F5; clear F5
          clear hI hD HGs
          simp only [frAll, Act.put, List.setIfInBounds_toArray, List.set_cons_zero, List.set_cons_succ, Nat.zero_add, Nat.reduceAdd, f0, f1, f2, f3, f4, f5]
          clear f0 f1 f2 f3 f4 f5
          clear V D
          clear d6 m6
          have d7 := hGx
          have m7 : Pure w w7 := hMx
          clear hGx hMx
          generalize hce : costErr o r s v = ce at *
          have HCE := Lib.hid hce
          clear hce
          go_upto_region 10 with (fail)
          go_cut [73] (fun q wx => q = .bool (decide (ce = 0 ∧ e1 = 1)) ∧ w7 = wx)
          case first =>
            rcases HC.out with ⟨h, rfl, rfl⟩ | ⟨h, h1, rfl, rfl⟩ | ⟨h, h1, h2, rfl, rfl⟩ | ⟨h, h1, h2, ha, rfl⟩
            · obtain rfl := HCE.out.symm.trans h
              go_wp2_with fail
              go_meet
              exact ⟨by simp, rfl⟩
            · obtain rfl := HCE.out.symm.trans h
              go_wp2_with fail
              go_meet
              exact ⟨by simp, rfl⟩
            · obtain rfl := HCE.out.symm.trans h
              go_wp2_with fail
              go_meet
              exact ⟨by simp, rfl⟩
            · clear ha
              obtain rfl := HCE.out.symm.trans h
              go_wp2_with fail
              go_meet
              exact ⟨by simp <;> omega, rfl⟩
          case rest =>
            obtain ⟨rfl, rfl⟩ := hcut
            go_upto_if 73 with (fail)
            go_cut [12] (fun q wx => q = .int .i64 e1 ∧ w7 = wx)
            case first =>
              by_cases hq : ce = 0 ∧ e1 = 1
              · rw [decide_eq_true hq]
                have HQ := Lib.hid hq
                clear hq
                go_wp2_with fail
                go_meet
                exact ⟨by rw [HQ.out.2], rfl⟩
              · rw [decide_eq_false hq]
                have he : Hid (ce = e1) := by
                  rcases HC.out with ⟨h, h1, h2⟩ | ⟨h, h1, h2, h3⟩ | ⟨h, h1, h2, h3, h4⟩ | ⟨h, h1, h2, h3, h4⟩
                  · exact HCE.out.symm.trans (h.trans h2.symm)
                  · exact absurd ⟨HCE.out.symm.trans h, h3⟩ hq
                  · exact absurd ⟨HCE.out.symm.trans h, h4⟩ hq
                  · exact HCE.out.symm.trans (h.trans h4.symm)
                clear hq
                go_wp2_with fail
                go_meet
                exact ⟨by rw [he.out], rfl⟩
            case rest =>
              obtain ⟨rfl, rfl⟩ := hcut
              go_upto_region 12 with (fail)
              go_cut [83] (fun q wx => q = .bool (decide (ce = 0 ∧ e2 = 1)) ∧ w7 = wx)
              case first =>
                rcases HF.out with ⟨h, h0, rfl⟩ | ⟨h, h1, h0, rfl⟩ | ⟨h, h1, h2, h0, rfl⟩ | ⟨h, h1, h2, h3, h0, rfl⟩ | ⟨h, h1, h2, h3, rfl, h0⟩
                · clear h0
                  obtain rfl := HCE.out.symm.trans h
                  go_wp2_with fail
                  go_meet
                  exact ⟨by simp, rfl⟩
                · clear h0
                  obtain rfl := HCE.out.symm.trans h
                  go_wp2_with fail
                  go_meet
                  exact ⟨by simp, rfl⟩
                · clear h0
                  obtain rfl := HCE.out.symm.trans h
                  go_wp2_with fail
                  go_meet
                  exact ⟨by simp, rfl⟩
                · clear h0
                  obtain rfl := HCE.out.symm.trans h
                  go_wp2_with fail
                  go_meet
                  exact ⟨by simp <;> omega, rfl⟩
                · clear h0
                  obtain rfl := HCE.out.symm.trans h
                  go_wp2_with fail
                  go_meet
                  exact ⟨by simp <;> omega, rfl⟩
              case rest =>
                obtain ⟨rfl, rfl⟩ := hcut
                go_upto_if 83 with (fail)
                go_cut [13] (fun q wx => q = .int .i64 (twoE e2) ∧ w7 = wx)
                case first =>
                  by_cases hq : ce = 0 ∧ e2 = 1
                  · rw [decide_eq_true hq]
                    have HQ := Lib.hid hq
                    clear hq
                    go_wp2_with fail
                    go_meet
                    exact ⟨by rw [HQ.out.2]; rfl, rfl⟩
                  · rw [decide_eq_false hq]
                    have he : Hid (ce = twoE e2) := by
                      rcases HF.out with ⟨h, h0, rfl⟩ | ⟨h, h1, h0, h3⟩ | ⟨h, h1, h2, h0, h4⟩ | ⟨h, h1, h2, h3, h0, rfl⟩ | ⟨h, h1, h2, h3, rfl, h0⟩
                      · exact HCE.out.symm.trans h
                      · exact absurd ⟨HCE.out.symm.trans h, h3⟩ hq
                      · exact absurd ⟨HCE.out.symm.trans h, h4⟩ hq
                      · exact HCE.out.symm.trans h
                      · exact HCE.out.symm.trans h
                    clear hq
                    go_wp2_with fail
                    go_meet
                    exact ⟨by rw [he.out], rfl⟩
                case rest =>
                  obtain ⟨rfl, rfl⟩ := hcut
                  go_upto_if 85 with (fail)
                  go_cut [14] (fun q wx => q = .int .i64 a1 ∧ Pure w7 wx)
                  case first =>
                    have x0 := d7.cell 0; have x1 := d7.cell 1; have x2 := d7.cell 2; have x3 := d7.cell 3
                    simp at x0 x1 x2 x3
                    rcases HC.out with ⟨h, rfl, rfl⟩ | ⟨h, h1, rfl, rfl⟩ | ⟨h, h1, h2, rfl, rfl⟩ | ⟨h, h1, h2, ha, rfl⟩
                    · clear h
                      go_wp2_with fail
                      go_meet
                      exact ⟨rfl, Mod.refl _ _⟩
                    · clear h
                      go_wp2_with fail
                      go_meet
                      exact ⟨rfl, Mod.refl _ _⟩
                    · clear h
                      go_wp2_with fail
                      go_meet
                      exact ⟨rfl, Mod.refl _ _⟩
                    · have HA := Lib.hid ha
                      clear ha
                      go_wp2_with fail
                      refine (CostOf_calls _ o r s v k_6 (costErr_inv h) (by omega)).mono ?_
                      rintro e w8 ⟨rfl, hm8⟩
                      go_wp2_with fail
                      go_meet
                      exact ⟨by rw [HA.out], hm8⟩
                  case rest =>
                    obtain ⟨rfl, hm8⟩ := hcut
                    generalize wc = w8 at *
                    have d8 := d7.modp hm8
                    have m8 : Pure w w8 := m7.trans hm8
                    clear hm8 d7 m7
                    go_upto_if 90 with (fail)
                    go_cut [13, 15] (fun q u wx => q = .int .i64 e2 ∧ u = .int .i64 a2 ∧ Pure w8 wx)
                    case first =>
                      have x0 := d8.cell 0; have x1 := d8.cell 1; have x2 := d8.cell 2; have x3 := d8.cell 3
                      simp at x0 x1 x2 x3
                      rcases HF.out with ⟨h, rfl, rfl⟩ | ⟨h, h1, rfl, rfl⟩ | ⟨h, h1, h2, rfl, rfl⟩ | ⟨h, h1, h2, h3, rfl, rfl⟩ | ⟨h, h1, h2, h3, rfl, h0⟩
                      · have ht : twoE 1 = 1 := rfl
                        go_wp2_with fail
                        go_meet
                        exact ⟨rfl, rfl, Mod.refl _ _⟩
                      · have ht : twoE 1 = 1 := rfl
                        go_wp2_with fail
                        go_meet
                        exact ⟨rfl, rfl, Mod.refl _ _⟩
                      · have ht : twoE 1 = 1 := rfl
                        go_wp2_with fail
                        go_meet
                        exact ⟨rfl, rfl, Mod.refl _ _⟩
                      · have ht : twoE 16 = 0 := rfl
                        go_wp2_with fail
                        refine (AffordOf_no _ o r s v k_7 (costErr_inv h) h3).mono ?_
                        rintro e w9 ⟨rfl, hm9⟩
                        go_wp2_with fail
                        go_meet
                        exact ⟨rfl, rfl, hm9⟩
                      · have ht : twoE 0 = 0 := rfl
                        have H0 := Lib.hid h0
                        clear h0
                        go_wp2_with fail
                        refine (AffordOf_ok _ o r s v k_7 (costErr_inv h) h3).mono ?_
                        rintro e w9 ⟨x, hx, rfl, hm9⟩
                        have hxx : a2 = x := by have := Least.unique H0.out hx; omega
                        subst hxx
                        clear hx
                        go_wp2_with fail
                        go_meet
                        exact ⟨rfl, rfl, hm9⟩
                    case rest =>
                      obtain ⟨rfl, rfl, hm9⟩ := hcut
                      generalize wc = w9 at *
                      have m9 : Pure w w9 := m8.trans hm9
                      clear hm9 d8 m8
                      have t1 : (e1 == e1) = true := by simp
                      have t2 : (a1 == a1) = true := by simp
                      have t3 : (e2 == e2) = true := by simp
                      have t4 : (a2 == a2) = true := by simp
                      go_wp2_with fail
                      refine (drawn_calls _).mono ?_
                      rintro e w10 ⟨rfl, hm10⟩
                      go_wp2_with fail
                      go_ret
                      exact BoolPost.of rfl (m9.trans hm10)

end Go.Proofs.Ytpacmdiodnnofaa
