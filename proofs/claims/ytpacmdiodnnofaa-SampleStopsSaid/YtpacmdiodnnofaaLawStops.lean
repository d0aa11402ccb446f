/- The law SampleStops. -/
import Derived.Test.YtpacmdiodnnofaaStopsL
import Derived.Test.YtpacmdiodnnofaaDrawn
import Derived.Deep.CutBlock
namespace Go.Proofs.Ytpacmdiodnnofaa
set_option linter.unusedVariables false
set_option linter.unusedSimpArgs false
open Go.RowKit
attribute [local go_sem ↓] Go.wp_at_zero Go.wp_at_succ

set_option maxRecDepth 100000 in
set_option maxHeartbeats 8000000 in
theorem SampleStops_calls (w : World) (A : Option Addr) (n c : Nat) (hA : ArgInts w A n) :
    Calls Try.prog 11 #[.slice A n c] w (BoolPost w true) := by
  obtain ⟨i0, hi0, hz0, hz1, hz2⟩ := info_parts info_bools
  have hS0 := strm_new (c := c) hA
  go_enter Try.func11, Try.ntmps11
  go_wp2_with fail
  refine (range_calls _ _ _ _ _ hS0 (by omega) (by omega) (by omega) (by omega)).mono ?_
  rintro e w1 ⟨n', hn1, hn2, rfl, hS1, hM1⟩
  obtain ⟨m, rfl⟩ := Int.eq_ofNat_of_zero_le hn1
  have hm8 : m ≤ 8 := by omega
  have hb1 : w.heap.size + 1 ≤ w1.heap.size := by have := hM1.size; simp at this; omega
  have m1 : Pure w w1 := ((Mod.refl _ w).alloc _).trans' hM1 (fun i hi hlt => by omega)
  clear hn1 hn2 hM1 hS0
  generalize hb : w.heap.size = b at *
  have hwb := Nat.le_of_eq hb
  clear hb
  go_wp2_with fail
  go_loopg [4, 16] m (fun gk x i wr => StLoop w (b + 1) b m gk x i wr)
  case atStart => exact ⟨[], [], none, 0, by simp, by simp, rfl, rfl, fun y hy => absurd hy (by simp), ⟨by simp, .inl ⟨rfl, rfl⟩⟩, ⟨rfl, fun i hi => absurd hi (by simp)⟩, hS1.more (by simp), m1, hb1⟩
  case round =>
    clear hS1 m1 hb1
    obtain ⟨bss, us, A, cap, rfl, hk, rfl, rfl, h20, hown, hin, hS1, hm, hbig⟩ := hrel
    generalize hkk : bss.length = k at *
    have HKK := Lib.hid hkk
    have H20 := Lib.hid h20
    clear hkk h20
    by_cases hlt : k < m
    · go_wp2_with fail
      refine (relevant_calls _ _ _ hS1 (by omega)).mono ?_
      rintro e w2 ⟨v, bs, hl20, rfl, hownv, hS2, hM2⟩
      have hbv := (SlB.of_own hownv).le hbig
      have hown2 := own_mod hown hM2 (fun g hg => by have := own_block hown g hg; omega)
      have hin2 := hin.mod hM2 (fun g hg => by omega)
      have m2 : Pure w w2 := hm.trans' hM2 (fun i hi hlt => by omega)
      have hz2' := hM2.size
      obtain ⟨Av, nv, cv, rfl⟩ := hbv.1.form
      have HIN := Lib.hid hin2
      have HBV := Lib.hid hbv
      clear hown hin hS1 hm hM2 hownv hbv hin2
      go_wp2_with (at_builtin; refine wpList_append_lies _ rfl _ _ _ rfl (b + 1) 69 i0 _ 1 24 Try.underlying80 hi0 hz0 hz1 hz2 rfl (by omega) (.slice A k cap) k (us) rfl (hown2.alloc _) ⟨w2.heap.size, 0, none⟩ 1 1 [.slice Av nv cv] rfl rfl (World.news_of_block (cs := #[.slice Av nv cv]) (t := 69) (fr := (0, 0)) (heap_alloc_new w2 _)) (by simp [Value.oneCell']) (by omega) (by simp [maxLen]; omega) (by omega) (by have := m2.size; simp; omega) (w2.heap.size + 1) (by simp) ?_; intro g5 cap5 w5 hown5 hgrow hat hlt5)
      go_roundg (m - (k + 1))
      case measure => omega
      case rel =>
        have hty : ∀ g arr fr, (w2.alloc (.cells #[.slice Av nv cv] 69)).heap[g]? = some (.cells arr 4 fr) → ¬ ((Value.slice A k cap).ownBlock = some g) := fun g arr fr hg hv => by
          have := own_type (hown2.alloc (.cells #[.slice Av nv cv] 69)) hv hg
          exact absurd this (by decide)
        have hin3 := ((HIN.out.mod (pure_alloc w2 (.cells #[.slice Av nv cv] 69)) (fun _ _ h => h)).snoc (HBV.out.mod (pure_alloc w2 (.cells #[.slice Av nv cv] 69)) (fun _ _ h => h))).typed (mod_grown hgrow) hty
        have hS5 : Strm w5 b (1 + 50 * k + 50) := (hS2.alloc _).mod (mod_grown hgrow) (fun i hi h => by have := own_block hown2 i h; omega)
        refine ⟨bss ++ [bs], us ++ [.slice Av nv cv], some ⟨g5, 0, none⟩, cap5, by simp [HKK.out], by simp [HKK.out]; omega, by simp [HKK.out], by simp [HKK.out], ?_, by simpa [HKK.out] using hown5, hin3, hS5.more (by simp [HKK.out]; omega), (m2.alloc _).grown hgrow (fun k hk => .inr (by have := own_block hown2 k hk; omega)), by have := hgrow.size; simp at this; omega⟩
        intro y hy
        rcases List.mem_append.1 hy with h | h
        · exact H20.out y h
        · simp at h
          rw [h]
          exact hl20
    · obtain rfl : m = k := by omega
      have HIN := Lib.hid hin
      clear hin hlt hk
      go_upto_region 7 with (fail)
      go_cut [30] (fun q wx => ∃ fl : Bool, q = .bool fl ∧ (fl = true → 0 < m) ∧ wx.ownsRow (b + 1) 69 1 (.slice A m cap) m us ∧ Inner wx (b + 1) us bss ∧ Strm wx b 402 ∧ Pure w wx ∧ b + 1 ≤ wx.heap.size)
      case first =>
        by_cases h0 : m = 0
        · subst h0
          go_wp2_with fail
          go_meet
          exact ⟨false, rfl, fun h => (by cases h), hown, HIN.out, hS1.more (by omega), hm, hbig⟩
        · have h1 : decide ((0 : Int) < (m : Int)) = true := by simp; omega
          have h2 : decide (0 < m) = true := by simp; omega
          go_wp2_with fail
          refine (flip_calls _ _ _ _ hS1 (by omega) (by omega) (by omega)).mono ?_
          rintro e w2 ⟨fl, rfl, hS2, hM2⟩
          have hz2' := hM2.size
          go_wp2_with fail
          go_meet
          exact ⟨fl, by simp, fun _ => by omega, own_mod hown hM2 (fun g hg => by have := own_block hown g hg; omega), HIN.out.mod hM2 (fun g hg => by omega), hS2.more (by omega), hm.trans' hM2 (fun i hi hlt => by omega), by omega⟩
      case rest =>
        obtain ⟨fl, rfl, hfl, hown2, hin2, hS2, m2, hbig2⟩ := hcut
        generalize wc = w2 at *
        clear hown HIN hS1 hm hbig
        go_upto_if 30 with (fail)
        go_cut [] (fun wx => StInv w b (.slice A m cap) wx)
        case first =>
          cases fl
          · clear hfl
            have HIN := Lib.hid hin2
            clear hin2
            go_wp2_with fail
            go_meet
            exact ⟨bss, by rw [HKK.out]; exact hm8, fun x hx => Nat.le_trans (H20.out x hx) (by omega), HIN.out.sls hown2, hS2.more (by omega), m2⟩
          · have hpos := hfl rfl
            clear hfl
            obtain ⟨gx, cx, hvx, hgb, hgl⟩ := hown2.form hpos
            injection hvx with hA _ hC
            subst hA hC
            have hmk := run_make_one (P := Try.prog) 69 4 (.bool false) 1 Try.underlying69 info_bool_ rfl .i64 .i64 2001 2001 rfl (by omega) (by omega) bigBools (by simp only [bigBools, boolsV, List.map_replicate])
            have HIN := Lib.hid hin2
            clear hin2
            go_wp2_with fail
            have HGs := Lib.hid (show ∀ (D : Nat → Bool) (i : Nat) (w w' : World), i ≠ 7 → (fun D w => (D 7 = false → (fun w => w.ownsRow (b + 1) 69 1 (.slice (some ⟨gx, 0, none⟩) m cap) m us) w) ∧ (fun w => Inner w (b + 1) us bss) w) D w → Mod (· = b) w w' → (fun D w => (D 7 = false → (fun w => w.ownsRow (b + 1) 69 1 (.slice (some ⟨gx, 0, none⟩) m cap) m us) w) ∧ (fun w => Inner w (b + 1) us bss) w) (upd D i true) w' from by intro D i w w' hi hh hm; refine ⟨fun hs => ?_, ?_⟩; (rw [upd_ne _ _ (Ne.symm hi)] at hs; have h := hh.1 hs; (exact own_mod h hm (fun g hg => by have := own_block h g hg; omega))); (have h := hh.2; (exact h.mod hm (fun g hg => by omega))))
            refine wp_region_inv (by kernel_rfl) (by kernel_rfl) (InvF (R := Mod (· = b)) [.is (.slice (some ⟨gx, 0, none⟩) m cap),
                .is (.pointer (some ⟨b, 0, none⟩)),
                .is (.slice (some ⟨gx, 0, none⟩) m cap),
                .is (.int .i64 (m : Int)),
                .val (fun zv => ∃ (j_4 : Nat), zv = .int .i64 (j_4 : Int) ∧ j_4 < m),
                ⟨fun zv zw => ∃ (g_5 : Nat), zv = .slice (some ⟨g_5, 0, none⟩) 2001 2001 ∧ w2.heap.size ≤ g_5 ∧ Blk zw g_5 4 bigBools, (by rintro zv zw zx ⟨g_5, rfl, c0, q0⟩ hm; exact ⟨g_5, rfl, c0, (q0.modb hm (by omega))⟩), none, none⟩,
                .val (fun zv => ∃ (j_6 : Nat), zv = .pointer (some ⟨gx, j_6, none⟩) ∧ j_6 < m),
                ⟨fun zv zw => ∃ (j_7 : Nat) (g_7 : Nat), zv = undef ∧ j_7 < m ∧ w2.heap.size ≤ g_7 ∧ zw.ownsRow (b + 1) 69 1 (.slice (some ⟨gx, 0, none⟩) m cap) m (us.set j_7 (.slice (some ⟨g_7, 0, none⟩) 2001 2001)) ∧ Blk zw g_7 4 bigBools, (by rintro zv zw zx ⟨j_7, g_7, rfl, c0, c1, q0, q1⟩ hm; exact ⟨j_7, g_7, rfl, c0, c1, (own_mod q0 hm (fun g hg => by have := own_block q0 g hg; omega)), (q1.modb hm (by omega))⟩), none, none⟩]
                (GB w (fun _ => False) w2.heap.size b (402) (fun D => (D 4).toNat) (fun D w => (D 7 = false → (fun w => w.ownsRow (b + 1) 69 1 (.slice (some ⟨gx, 0, none⟩) m cap) m us) w) ∧ (fun w => Inner w (b + 1) us bss) w))) (InvF.start (GB.start hS2 m2 (Nat.le_refl _) (⟨fun _ => hown2.drew, HIN.out.mod ((Mod.refl (fun _ => False) _).drew) (fun _ _ h => h)⟩))) ?_ ?_
            · refine .cons ?_ (.cons ?_ (.cons ?_ (.cons ?_ (.cons ?_ (.cons ?_ (.cons ?_ (.cons ?_ .nil)))))))
              · intro D V zw1 a hR hI K hK   -- 0: Op.move (Operand.tmp 4)
                obtain ⟨hS1, hM1, hB1, hG1⟩ := hI.1
                obtain ⟨hGK, hG1⟩ := hG1
                have ze4 := hR.frame.other (t := 4) (by kernel_rfl) rfl
                rw [if_pos (by rfl)]
                go_simp
                exact hK (.slice (some ⟨gx, 0, none⟩) m cap) _ (hI.next hR (by kernel_rfl) (Mod.refl _ _) (GB.quiet hI.1 (Mod.refl _ _) (by have hn := hR.not; simp [upd, hn] <;> omega) (HGs.out D 0 _ _ (by omega) (hI.1).g (Mod.refl _ _))) (upd_same V 0 _))
              · intro D V zw1 a hR hI K hK   -- 1: Op.move (Operand.tmp 3)
                obtain ⟨hS1, hM1, hB1, hG1⟩ := hI.1
                obtain ⟨hGK, hG1⟩ := hG1
                have ze3 := hR.frame.other (t := 3) (by kernel_rfl) rfl
                rw [if_pos (by rfl)]
                go_simp
                exact hK (.pointer (some ⟨b, 0, none⟩)) _ (hI.next hR (by kernel_rfl) (Mod.refl _ _) (GB.quiet hI.1 (Mod.refl _ _) (by have hn := hR.not; simp [upd, hn] <;> omega) (HGs.out D 1 _ _ (by omega) (hI.1).g (Mod.refl _ _))) (upd_same V 1 _))
              · intro D V zw1 a hR hI K hK   -- 2: Op.move (Operand.tmp 4)
                obtain ⟨hS1, hM1, hB1, hG1⟩ := hI.1
                obtain ⟨hGK, hG1⟩ := hG1
                have ze4 := hR.frame.other (t := 4) (by kernel_rfl) rfl
                rw [if_pos (by rfl)]
                go_simp
                exact hK (.slice (some ⟨gx, 0, none⟩) m cap) _ (hI.next hR (by kernel_rfl) (Mod.refl _ _) (GB.quiet hI.1 (Mod.refl _ _) (by have hn := hR.not; simp [upd, hn] <;> omega) (HGs.out D 2 _ _ (by omega) (hI.1).g (Mod.refl _ _))) (upd_same V 2 _))
              · intro D V zw1 a hR hI K hK   -- 3: Op.call { callee := Callee.builtin Builtin.len, args := #[Operand.tmp 
                obtain ⟨hS1, hM1, hB1, hG1⟩ := hI.1
                obtain ⟨hGK, hG1⟩ := hG1
                have zd2 := hR.pred 2 (by kernel_rfl)
                have zF2 : V 2 = .slice (some ⟨gx, 0, none⟩) m cap := hI.2 2 zd2 rfl
                have zf2 := zF2; clear zF2
                have ze33 := hR.frame.done (t := 33) (j := 2) (by kernel_rfl) hR.ok zd2
                rw [if_pos (by rfl)]
                go_simp
                exact hK (.int .i64 (m : Int)) _ (hI.next hR (by kernel_rfl) (Mod.refl _ _) (GB.quiet hI.1 (Mod.refl _ _) (by have hn := hR.not; simp [upd, hn] <;> omega) (HGs.out D 3 _ _ (by omega) (hI.1).g (Mod.refl _ _))) (upd_same V 3 _))
              · intro D V zw1 a hR hI K hK   -- 4: Op.call { callee := Callee.value (Operand.func 59), args := #[Operand.
                obtain ⟨hS1, hM1, hB1, hG1⟩ := hI.1
                obtain ⟨hGK, hG1⟩ := hG1
                have zd1 := hR.pred 1 (by kernel_rfl)
                have zF1 : V 1 = .pointer (some ⟨b, 0, none⟩) := hI.2 1 zd1 rfl
                have zf1 := zF1; clear zF1
                have zd3 := hR.pred 3 (by kernel_rfl)
                have zF3 : V 3 = .int .i64 (m : Int) := hI.2 3 zd3 rfl
                have zf3 := zF3; clear zF3
                have ze32 := hR.frame.done (t := 32) (j := 1) (by kernel_rfl) hR.ok zd1
                have ze34 := hR.frame.done (t := 34) (j := 3) (by kernel_rfl) hR.ok zd3
                rw [if_pos (by rfl)]
                have := Bool.toNat_le (D 4)
                have hNB : 402 + ((D 4).toNat) ≤ 1000000000 := by omega
                skip
                go_simp
                refine (next_calls _ _ _ _ hS1 hNB (by omega) (by omega)).mono ?_
                rintro e zw2 ⟨kk, hk1, hk2, rfl, hS2, hm2⟩
                obtain ⟨j_0, rfl⟩ := Int.eq_ofNat_of_zero_le hk1
                have hj : j_0 < m := by omega
                exact hK (.int .i64 (j_0 : Int)) _ (hI.next hR (by kernel_rfl) hm2 (GB.asks hI.1 (fun j hj hlt => by omega) hS2 hm2 (by have hn := hR.not; simp [upd, hn] <;> omega) (HGs.out D 4 _ _ (by omega) (hI.1).g hm2)) (⟨j_0, upd_same V 4 _, hj⟩))
              · intro D V zw1 a hR hI K hK   -- 5: Op.makeSlice 69 (Operand.const (Value.int IntKind.i64 2001)) (Operand.
                obtain ⟨hS1, hM1, hB1, hG1⟩ := hI.1
                obtain ⟨hGK, hG1⟩ := hG1
                rw [if_pos (by rfl)]
                go_simp
                exact hK (_) _ (hI.next hR (by kernel_rfl) ((Mod.refl _ _).alloc _) (GB.quiet hI.1 (pure_alloc _ _) (by have hn := hR.not; simp [upd, hn] <;> omega) (HGs.out D 5 _ _ (by omega) (hI.1).g ((Mod.refl _ _).alloc _))) (⟨_, upd_same V 5 _, (by omega), (Blk.new _ _ _)⟩))
              · intro D V zw1 a hR hI K hK   -- 6: Op.indexAddr 80 (Operand.tmp 31) (Operand.tmp 35)
                obtain ⟨hS1, hM1, hB1, hG1⟩ := hI.1
                obtain ⟨hGK, hG1⟩ := hG1
                have zd0 := hR.pred 0 (by kernel_rfl)
                have zF0 : V 0 = .slice (some ⟨gx, 0, none⟩) m cap := hI.2 0 zd0 rfl
                have zf0 := zF0; clear zF0
                have zd4 := hR.pred 4 (by kernel_rfl)
                have zF4 : ∃ (j_4 : Nat), V 4 = .int .i64 (j_4 : Int) ∧ j_4 < m := hI.2 4 zd4 rfl
                obtain ⟨j_4, zf4, c4_0⟩ := zF4
                have ze31 := hR.frame.done (t := 31) (j := 0) (by kernel_rfl) hR.ok zd0
                have ze35 := hR.frame.done (t := 35) (j := 4) (by kernel_rfl) hR.ok zd4
                have i1 : (0 : Int) ≤ (j_4 : Int) := by omega
                have i2 : (j_4 : Int) < (m : Int) := by omega
                rw [if_pos (by rfl)]
                go_simp
                exact hK (_) _ (hI.next hR (by kernel_rfl) (Mod.refl _ _) (GB.quiet hI.1 (Mod.refl _ _) (by have hn := hR.not; simp [upd, hn] <;> omega) (HGs.out D 6 _ _ (by omega) (hI.1).g (Mod.refl _ _))) (⟨j_4, upd_same V 6 _, (by first | assumption | omega)⟩))
              · intro D V zw1 a hR hI K hK   -- 7: Op.store 69 (Operand.tmp 37) (Operand.tmp 36)
                obtain ⟨hS1, hM1, hB1, hG1⟩ := hI.1
                obtain ⟨hGK, hG1⟩ := hG1
                have zd6 := hR.pred 6 (by kernel_rfl)
                have zF6 : ∃ (j_6 : Nat), V 6 = .pointer (some ⟨gx, j_6, none⟩) ∧ j_6 < m := hI.2 6 zd6 rfl
                obtain ⟨j_6, zf6, c6_0⟩ := zF6
                have zd5 := hR.pred 5 (by kernel_rfl)
                have zF5 : ∃ (g_5 : Nat), V 5 = .slice (some ⟨g_5, 0, none⟩) 2001 2001 ∧ w2.heap.size ≤ g_5 ∧ Blk zw1 g_5 4 bigBools := hI.2 5 zd5 rfl
                obtain ⟨g_5, zf5, c5_0, b5_0⟩ := zF5
                have ze37 := hR.frame.done (t := 37) (j := 6) (by kernel_rfl) hR.ok zd6
                have ze36 := hR.frame.done (t := 36) (j := 5) (by kernel_rfl) hR.ok zd5
                rw [if_pos (by rfl)]
                have hown := hGK hR.not
                obtain ⟨u0, hu0⟩ : ∃ u0, us[j_6]? = some u0 := ⟨us[j_6]'(by have := hown.1; omega), List.getElem?_eq_getElem _⟩
                have zx0 := (hown.cellAt j_6 (by omega)).trans hu0
                have zy0 := hown.frozenAt j_6
                obtain ⟨hset, hgr⟩ := hown.stored j_6 (.slice (some ⟨g_5, 0, none⟩) 2001 2001)
                have hT : Mod (fun j => j = gx) zw1 (zw1.setCell ⟨gx, j_6, none⟩ (.slice (some ⟨g_5, 0, none⟩) 2001 2001)) := Mod.setCell (S := fun j => j = gx) (p := ⟨gx, j_6, none⟩) (Mod.refl _ _) (.inl rfl) _
                have hTl : ∀ j, j = gx → j < w2.heap.size := fun j hj => by omega
                have hty : ∀ g arr fr, zw1.heap[g]? = some (.cells arr 4 fr) → ¬ (g = gx) := fun g arr fr hg hv => absurd (own_type (g := g) hown (by rw [hv]; rfl) hg) (by decide)
                go_simp
                refine hK undef _ (InvF.last (GB.writes hI.1 (fun j hj => by omega) (fun j hj hl => by omega) hT (by have hn := hR.not; simp [upd, hn] <;> omega) ⟨fun hs => absurd hs (by rw [upd_same]; decide), hG1.typed hT hty⟩) ⟨j_6, g_5, upd_same V 7 _, c6_0, c5_0, hset, b5_0.mod hT (by omega)⟩ ?_)
                intro k hk hDk hlv
                have hkl := hR.lt k hDk
                have hv := hI.2 k hDk (liveB_of hlv)
                match k, hk, hDk, hlv, hkl, hv with
                | 0, _, _, _, _, hv => exact hv
                | 1, _, _, _, _, hv => exact hv
                | 2, _, _, _, _, hv => exact hv
                | 3, _, _, _, _, hv => exact hv
                | 4, _, _, _, _, hv => exact hv
                | 5, _, _, _, _, hv =>
                  have hv2 : ∃ (g_5 : Nat), V 5 = .slice (some ⟨g_5, 0, none⟩) 2001 2001 ∧ w2.heap.size ≤ g_5 ∧ Blk zw1 g_5 4 bigBools := hv
                  obtain ⟨g_5, zff, zcc0, zbb0⟩ := hv2
                  exact ⟨g_5, zff, zcc0, zbb0.mod hT (fun hj => by have := hTl _ hj; omega)⟩
                | 6, _, _, _, _, hv => exact hv
                | 7, hk, _, _, _, _ => exact absurd rfl hk
                | k + 8, _, _, _, hkl, _ => exact absurd hkl (by simp)
            · intro D V w3 hD hI
              obtain ⟨hS1, hM1, hB1, hG1⟩ := hI.1
              have hSx : Strm w3 b (402 + 1) := hS1.more (by show _ ≤ _; have := Bool.toNat_le (D 4); omega)
              clear hS1
              have hMx := hM1
              clear hM1
              have hBx := hB1
              clear hB1
              have hGx := hG1.2
              clear hG1
              have zF0 : V 0 = .slice (some ⟨gx, 0, none⟩) m cap := hI.2 0 (hD 0 (by decide)) rfl
              have zf0 := zF0; clear zF0
              have zF1 : V 1 = .pointer (some ⟨b, 0, none⟩) := hI.2 1 (hD 1 (by decide)) rfl
              have zf1 := zF1; clear zF1
              have zF2 : V 2 = .slice (some ⟨gx, 0, none⟩) m cap := hI.2 2 (hD 2 (by decide)) rfl
              have zf2 := zF2; clear zF2
              have zF3 : V 3 = .int .i64 (m : Int) := hI.2 3 (hD 3 (by decide)) rfl
              have zf3 := zF3; clear zF3
              have zF4 : ∃ (j_4 : Nat), V 4 = .int .i64 (j_4 : Int) ∧ j_4 < m := hI.2 4 (hD 4 (by decide)) rfl
              obtain ⟨j_4, zf4, c4_0⟩ := zF4
              have zF5 : ∃ (g_5 : Nat), V 5 = .slice (some ⟨g_5, 0, none⟩) 2001 2001 ∧ w2.heap.size ≤ g_5 ∧ Blk w3 g_5 4 bigBools := hI.2 5 (hD 5 (by decide)) rfl
              obtain ⟨g_5, zf5, c5_0, b5_0⟩ := zF5
              have zF6 : ∃ (j_6 : Nat), V 6 = .pointer (some ⟨gx, j_6, none⟩) ∧ j_6 < m := hI.2 6 (hD 6 (by decide)) rfl
              obtain ⟨j_6, zf6, c6_0⟩ := zF6
              have zF7 : ∃ (j_7 : Nat) (g_7 : Nat), V 7 = undef ∧ j_7 < m ∧ w2.heap.size ≤ g_7 ∧ w3.ownsRow (b + 1) 69 1 (.slice (some ⟨gx, 0, none⟩) m cap) m (us.set j_7 (.slice (some ⟨g_7, 0, none⟩) 2001 2001)) ∧ Blk w3 g_7 4 bigBools := hI.2 7 (hD 7 (by decide)) rfl
              obtain ⟨j_7, g_7, zf7, c7_0, c7_1, b7_0, b7_1⟩ := zF7
              clear hI hD HGs
              simp only [frAll, Act.put, List.setIfInBounds_toArray, List.set_cons_zero, List.set_cons_succ, Nat.zero_add, Nat.reduceAdd, zf0, zf1, zf2, zf3, zf4, zf5, zf6, zf7]
              clear zf0 zf1 zf2 zf3 zf4 zf5 zf6 zf7
              clear V D
              go_wp2_with fail
              go_meet
              refine ⟨bss.set j_7 (List.replicate 2001 false), by rw [List.length_set, HKK.out]; exact hm8, ?_, (hGx.set j_7 (by rw [HKK.out]; exact c7_0) (SlB.big b7_1 (by omega))).sls b7_0, hSx.more (by omega), hMx⟩
              intro x hx
              rcases List.mem_or_eq_of_mem_set hx with h | h
              · exact Nat.le_trans (H20.out x h) (by omega)
              · rw [h, List.length_replicate]
                omega
        case rest =>
          obtain ⟨bs2, hl8, h2001, hv3, hS3, m3⟩ := hcut
          generalize wc = w3 at *
          have hb3 := hS3.lt
          clear hown2 hin2 hS2 m2 hfl H20 HKK
          obtain ⟨A3, c3, hform, hc31, hc32⟩ := hv3.form
          injection hform with hA3 hL3 hC3
          subst hA3 hC3
          have hlens : lens bs2 ≤ 10000000 := by
            have := lens_bound 2001 h2001
            have : bs2.length * 2001 ≤ 8 * 2001 := Nat.mul_le_mul_right _ hl8
            omega
          subst hL3
          have HV3 := Lib.hid hv3
          clear hv3 h2001
          go_wp2_with fail
          refine (pick_calls _ _ _ _ _ [1, 1, 2, 3, 0, 2001] (hS3.alloc _) (by omega) (Blk.new _ _ _) (by omega) (by simp) (by simp)).mono ?_
          rintro e w4 ⟨r, hr, rfl, hS4, hM4⟩
          clear hr
          have hv4 : SlS w4 (.slice A bs2.length cap) bs2 := by
            obtain ⟨us2, u1, u2, u3⟩ := HV3.out.pure (pure_alloc w3 (.cells #[.int .i64 1, .int .i64 1, .int .i64 2, .int .i64 3, .int .i64 0, .int .i64 2001] 3))
            have hSa := hS3.alloc (.cells #[.int .i64 1, .int .i64 1, .int .i64 2, .int .i64 3, .int .i64 0, .int .i64 2001] 3)
            refine ⟨us2, u1.strm hSa hM4 (by decide), u2, fun i hi => ?_⟩
            obtain ⟨u, v1, v2, v3⟩ := u3 i hi
            exact ⟨u, v1, v2.strm hSa hM4 (by decide), v3⟩
          have m4 : Pure w w4 := (m3.alloc _).trans' hM4 (fun i hi hlt => by omega)
          have HV4 := Lib.hid hv4
          clear hS3 hM4 m3 HV3 hv4
          go_wp2_with fail
          refine (share_calls _ _ _ hS4 (by omega)).mono ?_
          rintro e w5 ⟨nu, de, hP, rfl, hS5, hM5⟩
          have hv5 : SlS w5 (.slice A bs2.length cap) bs2 := by
            obtain ⟨us2, u1, u2, u3⟩ := HV4.out
            refine ⟨us2, u1.strm hS4 hM5 (by decide), u2, fun i hi => ?_⟩
            obtain ⟨u, v1, v2, v3⟩ := u3 i hi
            exact ⟨u, v1, v2.strm hS4 hM5 (by decide), v3⟩
          have m5 : Pure w (w5.alloc (.cells #[.int .i64 r, .int .i64 nu, .int .i64 de] 83)) := (m4.trans' hM5 (fun i hi hlt => by omega)).alloc _
          have HV5 := Lib.hid (hv5.pure (pure_alloc w5 (.cells #[.int .i64 r, .int .i64 nu, .int .i64 de] 83)))
          have s5 := Blk.new w5 83 #[.int .i64 r, .int .i64 nu, .int .i64 de]
          clear hS4 hM5 m4 HV4 hv5 hP
          go_wp2_with fail
          refine (Stops_any _ _ bs2 r nu de HV5.out (by omega) hlens).mono ?_
          rintro e w6 ⟨x, er, hsp, rfl, hm6⟩
          have HSP := Lib.hid hsp
          have HV6 := Lib.hid (HV5.out.pure hm6)
          have s6 := s5.modp hm6
          have m6 : Pure w w6 := m5.trans hm6
          clear hsp HV5 s5 m5 hm6
          generalize w5.heap.size = g5 at *
          go_upto_block 2 with (fail)
          go_cut [8] (fun q wx => q = .int .i64 (stFault bs2 r nu de) ∧ Pure w6 wx)
          case first =>
            have q0 := s6.cell 0; have q1 := s6.cell 1; have q2 := s6.cell 2; simp at q0 q1 q2
            go_wp2_with fail
            refine (containsFuncS_calls _ _ bs2 62 HV6.out (fun _ _ => rfl) (fun A n c W h => lstops1_calls A n c W h)).mono ?_
            rintro e w7 ⟨rfl, hm7⟩
            have s7 := s6.modp hm7
            clear q0 q1 q2
            have q0 := s7.cell 0; have q1 := s7.cell 1; have q2 := s7.cell 2; simp at q0 q1 q2
            cases hbg : anyBig bs2
            · by_cases h1 : r < 1
              · go_wp2_with fail
                go_meet
                exact ⟨by unfold stFault; rw [hbg, if_neg (by omega : ¬ (1 ≤ r ∧ r ≤ 2000))]; rfl, hm7⟩
              · by_cases h2 : 2000 < r
                · go_wp2_with fail
                  go_meet
                  exact ⟨by unfold stFault; rw [hbg, if_neg (by omega : ¬ (1 ≤ r ∧ r ≤ 2000))]; rfl, hm7⟩
                · go_wp2_with fail
                  refine (shareFault_calls _ nu de).mono ?_
                  rintro e w8 ⟨rfl, hm8⟩
                  go_wp2_with fail
                  go_meet
                  exact ⟨by unfold stFault; rw [hbg, if_pos (by omega : 1 ≤ r ∧ r ≤ 2000)]; rfl, hm7.trans hm8⟩
            · go_wp2_with fail
              go_meet
              exact ⟨by unfold stFault; rw [hbg]; rfl, hm7⟩
          case rest =>
            obtain ⟨rfl, hm7⟩ := hcut
            generalize wc = w7 at *
            have HV7 := Lib.hid (HV6.out.pure hm7)
            have s7 := s6.modp hm7
            have m7 : Pure w w7 := m6.trans hm7
            clear HV6 s6 m6 hm7
            obtain ⟨fa, hfa⟩ : ∃ fa, stFault bs2 r nu de = fa := ⟨_, rfl⟩
            rw [hfa]
            have HFA := Lib.hid hfa
            clear hfa
            by_cases h0 : fa = 0
            · subst h0
              obtain ⟨k1, ⟨k2, k3⟩, k4, k5, k6⟩ := stFault_ok HFA.out
              rcases HSP.out with ⟨h1, _⟩ | ⟨_, hx, he⟩
              · exact absurd HFA.out h1
              · obtain ⟨rn, rfl⟩ := Int.eq_ofNat_of_zero_le (show 0 ≤ r by omega)
                rw [Int.toNat_natCast] at hx he
                have HX := Lib.hid hx
                have HE := Lib.hid he
                clear hx he k1 k4
                have q0 := s7.cell 0; have q1 := s7.cell 1; have q2 := s7.cell 2; simp at q0 q1 q2
                go_wp2_with fail
                refine (StopsOf_calls _ _ bs2 rn nu de HV7.out (by omega) hlens (by omega) k5 k6).mono ?_
                rintro e w8 ⟨rfl, hm8⟩
                have m8 := m7.trans hm8
                cases ho : stV bs2 rn nu de with
                | none =>
                  obtain rfl : x = 0 := by rw [HX.out, ho]; rfl
                  obtain rfl : er = 8 := by rw [HE.out, ho]; rfl
                  clear ho
                  go_wp2_with fail
                  refine (drawn_calls _).mono ?_
                  rintro e w9 ⟨rfl, hm9⟩
                  go_wp2_with fail
                  go_ret
                  exact BoolPost.of rfl (m8.trans hm9)
                | some kk =>
                  obtain rfl : x = (kk : Int) := by rw [HX.out, ho]; rfl
                  obtain rfl : er = 0 := by rw [HE.out, ho]; rfl
                  clear ho
                  have t1 : ((kk : Int) == (kk : Int)) = true := by simp
                  go_wp2_with fail
                  refine (drawn_calls _).mono ?_
                  rintro e w9 ⟨rfl, hm9⟩
                  go_wp2_with fail
                  go_ret
                  exact BoolPost.of rfl (m8.trans hm9)
            · have hne : (fa != 0) = true := by simpa using h0
              rcases HSP.out with ⟨_, rfl, h2⟩ | ⟨h1, _⟩
              · obtain rfl : er = fa := h2.trans HFA.out
                have t1 : (er == er) = true := by simp
                clear h0 h2
                go_wp2_with fail
                refine (drawn_calls _).mono ?_
                rintro e w9 ⟨rfl, hm9⟩
                go_wp2_with fail
                go_ret
                exact BoolPost.of rfl (m7.trans hm9)
              · exact absurd (HFA.out.symm.trans h1) h0

end Go.Proofs.Ytpacmdiodnnofaa
