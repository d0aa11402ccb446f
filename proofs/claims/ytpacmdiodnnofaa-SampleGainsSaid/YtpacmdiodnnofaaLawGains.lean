/- The law SampleGains. -/
import Derived.Test.YtpacmdiodnnofaaGainsOf
import Derived.Test.YtpacmdiodnnofaaDrawn
namespace Go.Proofs.Ytpacmdiodnnofaa
set_option linter.unusedVariables false
set_option linter.unusedSimpArgs false
open Go.RowKit
attribute [local go_sem ↓] Go.wp_at_zero Go.wp_at_succ

/-- The list of truths that the law draws. -/
def GaInv (w : World) (q : Value) (wx : World) : Prop := ∃ (A : Option Addr) (n c : Nat) (bs : List Bool), q = .slice A n c ∧ n = bs.length ∧ bs.length ≤ 2001 ∧ Sl wx 4 1 (.slice A n c) (boolsV bs) ∧ Pure w wx

set_option maxRecDepth 100000 in
set_option maxHeartbeats 8000000 in
theorem SampleGains_calls (w : World) (A : Option Addr) (n c : Nat) (hA : ArgInts w A n) :
    Calls Try.prog 10 #[.slice A n c] w (BoolPost w true) := by
  have hS0 := strm_new (c := c) hA
  have hlt0 : w.heap.size < (w.alloc (.cells #[.slice A n c, .int .i64 0] 25)).heap.size := by simp
  go_enter Try.func10, Try.ntmps10
  go_wp2_with fail
  refine (relevant_calls _ _ _ hS0 (by omega)).mono ?_
  rintro e w1 ⟨v, bs, hl20, rfl, hown, hS1, hM1⟩
  have hv1 := Sl.of_own hown
  have m1 : Pure w w1 := ((Mod.refl _ w).alloc (.cells #[.slice A n c, .int .i64 0] 25)).trans' hM1 (fun i hi hlt => by omega)
  clear hown hS0 hM1 hlt0
  generalize hb : w.heap.size = b at *
  have hwb := Nat.le_of_eq hb
  clear hb
  go_upto_if 20 with (fail)
  refine (flip_calls _ _ _ _ hS1 (by omega) (by omega) (by omega)).mono ?_
  rintro e w2 ⟨fl, rfl, hS2, hM2⟩
  have hv2 := hv1.strm hS1 hM2 (by decide)
  have m2 : Pure w w2 := m1.trans' hM2 (fun i hi hlt => by omega)
  have hlt2 := hS2.lt
  clear hv1 hS1 m1 hM2
  obtain ⟨A2, n2, c2, rfl⟩ := hv2.form
  go_upto_if 20 with (fail)
  go_cut [4] (fun q wx => GaInv w q wx)
  case first =>
    cases fl
    · go_wp2_with fail
      go_meet
      exact ⟨_, _, _, bs, rfl, by have := hv2.len.1; rw [boolsV_len] at this; exact this, by omega, hv2, m2⟩
    · go_wp2_with fail
      refine (pick_calls _ _ _ _ _ [2000, 2001] (hS2.alloc _) (by omega) (Blk.new _ _ _) (by omega) (by simp) (by simp)).mono ?_
      rintro e w3 ⟨k, hk, rfl, hS3, hM3⟩
      have hk2 : k = 2000 ∨ k = 2001 := by simp at hk; omega
      have m3 : Pure w w3 := (m2.alloc _).trans' hM3 (fun i hi hlt => by omega)
      obtain ⟨kn, rfl⟩ := Int.eq_ofNat_of_zero_le (show 0 ≤ k by omega)
      have hkn : kn ≤ 2001 := by omega
      clear hk hk2
      have hmk := run_make_one (P := Try.prog) 69 4 (.bool false) 1 Try.underlying69 info_bool_ rfl .i64 .i64 kn (kn : Int) rfl (by omega) (by omega) (boolsV (List.replicate kn false)).toArray (by simp [boolsV])
      go_wp2_with fail
      go_meet
      refine ⟨_, _, _, List.replicate kn false, rfl, by simp, by simp; omega, ⟨_, _, _, rfl, by omega, by omega, by simp [boolsV], fun _ => ⟨_, 0, rfl, (Blk.new _ _ _).row0⟩⟩, m3.alloc _⟩
  case rest =>
    obtain ⟨A3, n3, c3, bs, rfl, rfl, hl, hv3, m3⟩ := hcut
    generalize wc = w3 at *
    clear hv2 m2 hS2
    obtain ⟨-, hc3, hcc3⟩ := hv3.len
    go_wp2_with fail
    refine (Gains_calls _ _ bs hv3 (by omega)).mono ?_
    rintro e w4 hG
    by_cases h2000 : bs.length ≤ 2000
    · rcases hG with ⟨_, vg, rfl, hog, hm4⟩ | ⟨h1, _⟩
      · have hsg := Sl.of_own hog
        obtain ⟨Ag, ng, cg, rfl⟩ := hsg.form
        obtain ⟨hng, hcg, hccg⟩ := hsg.len
        simp only [intsV, List.length_map, gainsL_len] at hng
        subst hng
        have hv4 := hv3.pure hm4
        have m4 : Pure w w4 := m3.trans hm4
        clear hog hv3 m3 hm4
        go_wp2_with fail
        refine (Area_calls _ _ bs hv4 (by omega)).mono ?_
        rintro e w5 ⟨ax, ay, ae, hA5, rfl, hm5⟩
        have HA5 := Lib.hid hA5
        have hv5 := (hv4.pure hm5).pure (pure_alloc w5 (.cells #[.int .i64 ax, .int .i64 ay] 30))
        have hsg5 := (hsg.pure hm5).pure (pure_alloc w5 (.cells #[.int .i64 ax, .int .i64 ay] 30))
        have a5 := Blk.new w5 30 #[.int .i64 ax, .int .i64 ay]
        have m5 : Pure w (w5.alloc (.cells #[.int .i64 ax, .int .i64 ay] 30)) := (m4.trans hm5).alloc _
        clear hA5 hv4 hsg m4 hm5
        go_wp2_with fail
        refine (Knee_calls _ _ bs hv5 (by omega)).mono ?_
        rintro e w6 hK
        rcases hK with ⟨_, rfl, hm6⟩ | ⟨h1, _⟩
        · generalize w5.heap.size = g7 at *
          have hv6 := hv5.pure hm6
          have hsg6 := hsg5.pure hm6
          have a6 := a5.modp hm6
          have m6 := m5.trans hm6
          clear hv5 hsg5 a5 m5 hm6
          obtain ⟨kk, hkk⟩ : ∃ kk, (kneeTo bs (bs.length + 1)).2 = kk := ⟨_, rfl⟩
          rw [hkk]
          have HKK := Lib.hid hkk
          have t1 : (kk != kk) = false := by simp
          clear hkk
          go_wp2_with fail
          refine (GainsOf_calls _ _ bs hv6 (by omega)).mono ?_
          rintro e w7 ⟨v7, n7, rfl, ho7, hm7⟩
          have hs7 := Sl.of_own ho7
          have hv7 := hv6.pure hm7
          have hsg7 := hsg6.pure hm7
          have a7 := a6.modp hm7
          have m7 := m6.trans hm7
          clear hv6 hsg6 a6 m6 hm7 ho7
          go_wp2_with fail
          refine (equalInts_calls _ _ _ (gainsL bs bs.length) hsg7 hs7).mono ?_
          rintro e w8 ⟨rfl, hm8⟩
          have hv8 := hv7.pure hm8
          have a8 := a7.modp hm8
          have m8 := m7.trans hm8
          clear hv7 hsg7 a7 m7 hm8 hs7
          go_wp2_with fail
          refine (KneeOf_calls _ _ bs hv8 (by omega)).mono ?_
          rintro e w9 ⟨rfl, hm9⟩
          rw [HKK.out]
          have hv9 := hv8.pure hm9
          have a9 := a8.modp hm9
          have m9 := m8.trans hm9
          clear hv8 a8 m8 hm9
          go_wp2_with fail
          refine (GainsOf_calls _ _ bs hv9 (by omega)).mono ?_
          rintro e w10 ⟨v10, n10, rfl, ho10, hm10⟩
          have hs10 := Sl.of_own ho10
          obtain ⟨Ah, nh, ch, rfl⟩ := hs10.form
          obtain ⟨hnh, hch, hcch⟩ := hs10.len
          simp only [intsV, List.length_map, gainsL_len] at hnh
          subst hnh
          have hv10 := hv9.pure hm10
          have a10 := a9.modp hm10
          have m10 := m9.trans hm10
          have HS10 := Lib.hid hs10
          clear hv9 a9 m9 hm10 ho10 hs10
          go_wp2_with fail
          go_loopg [11, 92] bs.length (fun gk t i wr => ∃ k : Nat, bs.length - k = gk ∧ k ≤ bs.length ∧ i = .int .i64 (k : Int) ∧ t = .int .i64 (sumL (gainsL bs k)) ∧ Pure w10 wr)
          case atStart => exact ⟨0, by omega, by omega, rfl, rfl, Mod.refl _ _⟩
          case round =>
            obtain ⟨k, rfl, hk, rfl, rfl, hm⟩ := hrel
            obtain ⟨b1, b2⟩ := gainsL_bound bs k
            have b3 : (k : Int) * k ≤ 2000 * 2000 := Int.mul_le_mul (by omega) (by omega) (by omega) (by omega)
            by_cases hlt : k < bs.length
            · obtain ⟨g, off, rfl, hrow⟩ := HS10.out.row (by omega)
              have hq := (hrow.mod hm id).cell (intsV_get (gainsL bs bs.length) k (by rw [gainsL_len]; exact hlt))
              rw [gainsL_get bs hlt] at hq
              have HS : Hid (sumL (gainsL bs (k + 1)) = sumL (gainsL bs k) + (cnt (bs.take (k + 1)) : Int)) := by
                show sumL (gainsL bs (k + 1)) = _
                rw [gainsL_succ, sumL_snoc]
              have hct := cnt_take_le bs (k + 1)
              clear hrow
              generalize cnt (bs.take (k + 1)) = t1 at *
              generalize sumL (gainsL bs k) = s0 at *
              go_wp2_with fail
              go_roundg (bs.length - (k + 1))
              case measure => omega
              case rel => exact ⟨k + 1, rfl, hlt, by simp, by rw [HS.out], hm⟩
            · have hke : k = bs.length := by omega
              subst hke
              have hvr := hv10.pure hm
              have ar := a10.modp hm
              have mr := m10.trans hm
              have hcl := cnt_le bs
              clear hv10 a10 m10 hm
              obtain ⟨sm, hsm⟩ : ∃ sm, sumL (gainsL bs bs.length) = sm := ⟨_, rfl⟩
              rw [hsm] at b1 b2 ⊢
              have HSM := Lib.hid hsm
              clear hsm
              have hrE : readErr (bs.length : Int) = 0 := if_pos (by omega)
              go_wp2_with fail
              refine (allOf_calls _ _ bs hvr).mono ?_
              rintro e w11 ⟨rfl, hm11⟩
              have hv11 := hvr.pure hm11
              have a11 := ar.modp hm11
              have m11 := mr.trans hm11
              clear hvr ar mr hm11
              by_cases hc0 : cnt bs = 0
              · have haE : areaE bs = 8 := by
                  unfold areaE
                  rw [firstErr_two, hrE, if_pos rfl]
                  exact if_pos hc0
                rcases HA5.out with ⟨_, rfl, rfl, h4⟩ | ⟨h1, _⟩
                · obtain rfl : ae = 8 := h4.trans haE
                  have hz1 : ((cnt bs : Int) == 0) = true := by rw [hc0]; rfl
                  have hz2 : decide (cnt bs = 0) = true := by rw [hc0]; rfl
                  have q0 := a11.cell 0; have q1 := a11.cell 1; simp at q0 q1
                  clear hc0 h4 haE hrE
                  go_wp2_with fail
                  refine (drawn_calls _).mono ?_
                  rintro e w12 ⟨rfl, hm12⟩
                  go_wp2_with fail
                  go_ret
                  exact BoolPost.of rfl (m11.trans hm12)
                · exact absurd (h1.symm.trans haE) (by decide)
              · have haE : areaE bs = 0 := by
                  unfold areaE
                  rw [firstErr_two, hrE, if_pos rfl]
                  exact if_neg hc0
                rcases HA5.out with ⟨h1, _⟩ | ⟨_, hx, hy, rfl⟩
                · exact absurd haE h1
                · have hz1 : ((cnt bs : Int) == 0) = false := by simpa using hc0
                  have hz2 : decide (cnt bs = 0) = false := by simpa using hc0
                  have hp1 : 1 ≤ (bs.length : Int) * (cnt bs : Int) := by
                    have : 1 * 1 ≤ (bs.length : Int) * (cnt bs : Int) := Int.mul_le_mul (by omega) (by omega) (by omega) (by omega)
                    omega
                  have hp2 : (bs.length : Int) * (cnt bs : Int) ≤ 2000 * 2000 := Int.mul_le_mul (by omega) (by omega) (by omega) (by omega)
                  have hp3 : IntKind.i64.wrap ((bs.length : Int) * (cnt bs : Int)) = (bs.length : Int) * (cnt bs : Int) := IntWalk.i64_in _ (by omega)
                  rw [HSM.out] at hx hy
                  have HX := Lib.hid hx
                  have HY := Lib.hid hy
                  have u1 : (ax == ax) = true := by simp
                  have u2 : (ay == ay) = true := by simp
                  clear hc0 haE hrE hx hy
                  go_wp2_with fail
                  have HGs := Lib.hid (show ∀ w w' : World, (fun w => Blk w g7 30 #[.int .i64 ax, .int .i64 ay] ∧ Sl w 4 1 (.slice A3 bs.length c3) (boolsV bs)) w → Mod (fun _ => False) w w' → (fun w => Blk w g7 30 #[.int .i64 ax, .int .i64 ay] ∧ Sl w 4 1 (.slice A3 bs.length c3) (boolsV bs)) w' from by intro w w' h hm; exact ⟨h.1.modp hm, h.2.pure hm⟩)
                  refine wp_region_inv (by kernel_rfl) (by kernel_rfl) (InvF (R := Mod (fun _ => False)) [.is (.int .i64 0),
                      .is (.bool true),
                      .is (.bool true),
                      .is (.agg #[.int .i64 ax, .int .i64 ay]),
                      .is (.int .i64 sm),
                      .is (.slice A3 bs.length c3),
                      .is (.int .i64 (bs.length : Int)),
                      .is (.slice A3 bs.length c3),
                      .is (.int .i64 (cnt bs : Int)),
                      .is (.int .i64 ((bs.length : Int) * (cnt bs : Int))),
                      .is (.agg #[.int .i64 ax, .int .i64 ay]),
                      .is (.bool true),
                      .is (.bool true),
                      .is (.bool true),
                      .is (.bool true),
                      .is (.bool true),
                      .is (.bool true)]
                      (PB w (fun _ => False) w11.heap.size (fun w => Blk w g7 30 #[.int .i64 ax, .int .i64 ay] ∧ Sl w 4 1 (.slice A3 bs.length c3) (boolsV bs)))) (InvF.start (PB.start m11 (Nat.le_refl _) (⟨a11, hv11.pure ((Mod.refl _ _).drew)⟩))) ?_ ?_
                  · refine .cons ?_ (.cons ?_ (.cons ?_ (.cons ?_ (.cons ?_ (.cons ?_ (.cons ?_ (.cons ?_ (.cons ?_ (.cons ?_ (.cons ?_ (.cons ?_ (.cons ?_ (.cons ?_ (.cons ?_ (.cons ?_ (.cons ?_ .nil))))))))))))))))
                    · intro D V zw1 a hR hI K hK   -- 0: Op.move (Operand.tmp 8)
                      obtain ⟨hM1, hB1, hG1⟩ := hI.1
                      have ze8 := hR.frame.other (t := 8) (by kernel_rfl) rfl
                      rw [if_pos (by rfl)]
                      go_simp
                      exact hK (.int .i64 0) _ (hI.next hR (by kernel_rfl) (Mod.refl _ _) (PB.quiet hI.1 (Mod.refl _ _) (HGs.out _ _ (hI.1).g (Mod.refl _ _))) (upd_same V 0 _))
                    · intro D V zw1 a hR hI K hK   -- 1: Op.binOp BinOp.eql 32 (Operand.tmp 113) (Operand.const (Value.int IntK
                      obtain ⟨hM1, hB1, hG1⟩ := hI.1
                      have zd0 := hR.pred 0 (by kernel_rfl)
                      have zF0 : V 0 = .int .i64 0 := hI.2 0 zd0 rfl
                      have zf0 := zF0; clear zF0
                      have ze113 := hR.frame.done (t := 113) (j := 0) (by kernel_rfl) hR.ok zd0
                      rw [if_pos (by rfl)]
                      go_simp
                      exact hK (.bool true) _ (hI.next hR (by kernel_rfl) (Mod.refl _ _) (PB.quiet hI.1 (Mod.refl _ _) (HGs.out _ _ (hI.1).g (Mod.refl _ _))) (upd_same V 1 _))
                    · intro D V zw1 a hR hI K hK   -- 2: Op.move (Operand.tmp 114)
                      obtain ⟨hM1, hB1, hG1⟩ := hI.1
                      have zd1 := hR.pred 1 (by kernel_rfl)
                      have zF1 : V 1 = .bool true := hI.2 1 zd1 rfl
                      have zf1 := zF1; clear zF1
                      have ze114 := hR.frame.done (t := 114) (j := 1) (by kernel_rfl) hR.ok zd1
                      rw [if_pos (by rfl)]
                      go_simp
                      exact hK (.bool true) _ (hI.next hR (by kernel_rfl) (Mod.refl _ _) (PB.quiet hI.1 (Mod.refl _ _) (HGs.out _ _ (hI.1).g (Mod.refl _ _))) (upd_same V 2 _))
                    · intro D V zw1 a hR hI K hK   -- 3: Op.load 30 (Operand.tmp 7)
                      obtain ⟨hM1, hB1, hG1⟩ := hI.1
                      have zd2 := hR.pred 2 (by kernel_rfl)
                      have zF2 : V 2 = .bool true := hI.2 2 zd2 rfl
                      have zf2 := zF2; clear zF2
                      have ze7 := hR.frame.other (t := 7) (by kernel_rfl) rfl
                      have zx0 := hG1.1.cell 0; have zx1 := hG1.1.cell 1
                      simp at zx0 zx1
                      have ze115 := hR.frame.done (t := 115) (j := 2) (by kernel_rfl) hR.ok zd2
                      rw [if_pos (by simp [Region.wanted, yielded, ze115, zf2])]
                      go_simp
                      exact hK (.agg #[.int .i64 ax, .int .i64 ay]) _ (hI.next hR (by kernel_rfl) (Mod.refl _ _) (PB.quiet hI.1 (Mod.refl _ _) (HGs.out _ _ (hI.1).g (Mod.refl _ _))) (upd_same V 3 _))
                    · intro D V zw1 a hR hI K hK   -- 4: Op.move (Operand.tmp 11)
                      obtain ⟨hM1, hB1, hG1⟩ := hI.1
                      have zd2 := hR.pred 2 (by kernel_rfl)
                      have zF2 : V 2 = .bool true := hI.2 2 zd2 rfl
                      have zf2 := zF2; clear zF2
                      have ze11 := hR.frame.other (t := 11) (by kernel_rfl) rfl
                      have ze115 := hR.frame.done (t := 115) (j := 2) (by kernel_rfl) hR.ok zd2
                      rw [if_pos (by simp [Region.wanted, yielded, ze115, zf2])]
                      go_simp
                      exact hK (.int .i64 sm) _ (hI.next hR (by kernel_rfl) (Mod.refl _ _) (PB.quiet hI.1 (Mod.refl _ _) (HGs.out _ _ (hI.1).g (Mod.refl _ _))) (upd_same V 4 _))
                    · intro D V zw1 a hR hI K hK   -- 5: Op.move (Operand.tmp 4)
                      obtain ⟨hM1, hB1, hG1⟩ := hI.1
                      have zd2 := hR.pred 2 (by kernel_rfl)
                      have zF2 : V 2 = .bool true := hI.2 2 zd2 rfl
                      have zf2 := zF2; clear zF2
                      have ze4 := hR.frame.other (t := 4) (by kernel_rfl) rfl
                      have ze115 := hR.frame.done (t := 115) (j := 2) (by kernel_rfl) hR.ok zd2
                      rw [if_pos (by simp [Region.wanted, yielded, ze115, zf2])]
                      go_simp
                      exact hK (.slice A3 bs.length c3) _ (hI.next hR (by kernel_rfl) (Mod.refl _ _) (PB.quiet hI.1 (Mod.refl _ _) (HGs.out _ _ (hI.1).g (Mod.refl _ _))) (upd_same V 5 _))
                    · intro D V zw1 a hR hI K hK   -- 6: Op.call { callee := Callee.builtin Builtin.len, args := #[Operand.tmp 
                      obtain ⟨hM1, hB1, hG1⟩ := hI.1
                      have zd5 := hR.pred 5 (by kernel_rfl)
                      have zF5 : V 5 = .slice A3 bs.length c3 := hI.2 5 zd5 rfl
                      have zf5 := zF5; clear zF5
                      have zd2 := hR.pred 2 (by kernel_rfl)
                      have zF2 : V 2 = .bool true := hI.2 2 zd2 rfl
                      have zf2 := zF2; clear zF2
                      have ze118 := hR.frame.done (t := 118) (j := 5) (by kernel_rfl) hR.ok zd5
                      have ze115 := hR.frame.done (t := 115) (j := 2) (by kernel_rfl) hR.ok zd2
                      rw [if_pos (by simp [Region.wanted, yielded, ze115, zf2])]
                      go_simp
                      exact hK (.int .i64 (bs.length : Int)) _ (hI.next hR (by kernel_rfl) (Mod.refl _ _) (PB.quiet hI.1 (Mod.refl _ _) (HGs.out _ _ (hI.1).g (Mod.refl _ _))) (upd_same V 6 _))
                    · intro D V zw1 a hR hI K hK   -- 7: Op.move (Operand.tmp 4)
                      obtain ⟨hM1, hB1, hG1⟩ := hI.1
                      have zd2 := hR.pred 2 (by kernel_rfl)
                      have zF2 : V 2 = .bool true := hI.2 2 zd2 rfl
                      have zf2 := zF2; clear zF2
                      have ze4 := hR.frame.other (t := 4) (by kernel_rfl) rfl
                      have ze115 := hR.frame.done (t := 115) (j := 2) (by kernel_rfl) hR.ok zd2
                      rw [if_pos (by simp [Region.wanted, yielded, ze115, zf2])]
                      go_simp
                      exact hK (.slice A3 bs.length c3) _ (hI.next hR (by kernel_rfl) (Mod.refl _ _) (PB.quiet hI.1 (Mod.refl _ _) (HGs.out _ _ (hI.1).g (Mod.refl _ _))) (upd_same V 7 _))
                    · intro D V zw1 a hR hI K hK   -- 8: Op.call { callee := Callee.value (Operand.func 58), args := #[Operand.
                      obtain ⟨hM1, hB1, hG1⟩ := hI.1
                      have zd7 := hR.pred 7 (by kernel_rfl)
                      have zF7 : V 7 = .slice A3 bs.length c3 := hI.2 7 zd7 rfl
                      have zf7 := zF7; clear zF7
                      have zd2 := hR.pred 2 (by kernel_rfl)
                      have zF2 : V 2 = .bool true := hI.2 2 zd2 rfl
                      have zf2 := zF2; clear zF2
                      have ze120 := hR.frame.done (t := 120) (j := 7) (by kernel_rfl) hR.ok zd7
                      have ze115 := hR.frame.done (t := 115) (j := 2) (by kernel_rfl) hR.ok zd2
                      rw [if_pos (by simp [Region.wanted, yielded, ze115, zf2])]
                      go_simp
                      refine (allOf_calls _ _ bs hG1.2).mono ?_
                      rintro e zw2 ⟨rfl, hm2⟩
                      exact hK (.int .i64 (cnt bs : Int)) _ (hI.next hR (by kernel_rfl) hm2 (PB.quiet hI.1 hm2 (HGs.out _ _ (hI.1).g hm2)) (upd_same V 8 _))
                    · intro D V zw1 a hR hI K hK   -- 9: Op.binOp BinOp.mul 3 (Operand.tmp 119) (Operand.tmp 121) 3
                      obtain ⟨hM1, hB1, hG1⟩ := hI.1
                      have zd6 := hR.pred 6 (by kernel_rfl)
                      have zF6 : V 6 = .int .i64 (bs.length : Int) := hI.2 6 zd6 rfl
                      have zf6 := zF6; clear zF6
                      have zd8 := hR.pred 8 (by kernel_rfl)
                      have zF8 : V 8 = .int .i64 (cnt bs : Int) := hI.2 8 zd8 rfl
                      have zf8 := zF8; clear zF8
                      have zd2 := hR.pred 2 (by kernel_rfl)
                      have zF2 : V 2 = .bool true := hI.2 2 zd2 rfl
                      have zf2 := zF2; clear zF2
                      have ze119 := hR.frame.done (t := 119) (j := 6) (by kernel_rfl) hR.ok zd6
                      have ze121 := hR.frame.done (t := 121) (j := 8) (by kernel_rfl) hR.ok zd8
                      have ze115 := hR.frame.done (t := 115) (j := 2) (by kernel_rfl) hR.ok zd2
                      rw [if_pos (by simp [Region.wanted, yielded, ze115, zf2])]
                      go_simp
                      exact hK (.int .i64 ((bs.length : Int) * (cnt bs : Int))) _ (hI.next hR (by kernel_rfl) (Mod.refl _ _) (PB.quiet hI.1 (Mod.refl _ _) (HGs.out _ _ (hI.1).g (Mod.refl _ _))) (upd_same V 9 _))
                    · intro D V zw1 a hR hI K hK   -- 10: Op.call { callee := Callee.value (Operand.func 40), args := #[Operand.
                      obtain ⟨hM1, hB1, hG1⟩ := hI.1
                      have zd4 := hR.pred 4 (by kernel_rfl)
                      have zF4 : V 4 = .int .i64 sm := hI.2 4 zd4 rfl
                      have zf4 := zF4; clear zF4
                      have zd9 := hR.pred 9 (by kernel_rfl)
                      have zF9 : V 9 = .int .i64 ((bs.length : Int) * (cnt bs : Int)) := hI.2 9 zd9 rfl
                      have zf9 := zF9; clear zF9
                      have zd2 := hR.pred 2 (by kernel_rfl)
                      have zF2 : V 2 = .bool true := hI.2 2 zd2 rfl
                      have zf2 := zF2; clear zF2
                      have ze117 := hR.frame.done (t := 117) (j := 4) (by kernel_rfl) hR.ok zd4
                      have ze122 := hR.frame.done (t := 122) (j := 9) (by kernel_rfl) hR.ok zd9
                      have ze115 := hR.frame.done (t := 115) (j := 2) (by kernel_rfl) hR.ok zd2
                      rw [if_pos (by simp [Region.wanted, yielded, ze115, zf2])]
                      go_simp
                      refine (lowest_calls _ _ _ (by omega) (by omega) (by omega)).mono ?_
                      rintro e zw2 ⟨he, hm2⟩
                      rw [← HX.out, ← HY.out] at he
                      subst he
                      exact hK (.agg #[.int .i64 ax, .int .i64 ay]) _ (hI.next hR (by kernel_rfl) hm2 (PB.quiet hI.1 hm2 (HGs.out _ _ (hI.1).g hm2)) (upd_same V 10 _))
                    · intro D V zw1 a hR hI K hK   -- 11: Op.binOp BinOp.eql 30 (Operand.tmp 116) (Operand.tmp 123) 30
                      obtain ⟨hM1, hB1, hG1⟩ := hI.1
                      have zd3 := hR.pred 3 (by kernel_rfl)
                      have zF3 : V 3 = .agg #[.int .i64 ax, .int .i64 ay] := hI.2 3 zd3 rfl
                      have zf3 := zF3; clear zF3
                      have zd10 := hR.pred 10 (by kernel_rfl)
                      have zF10 : V 10 = .agg #[.int .i64 ax, .int .i64 ay] := hI.2 10 zd10 rfl
                      have zf10 := zF10; clear zF10
                      have zd2 := hR.pred 2 (by kernel_rfl)
                      have zF2 : V 2 = .bool true := hI.2 2 zd2 rfl
                      have zf2 := zF2; clear zF2
                      have ze116 := hR.frame.done (t := 116) (j := 3) (by kernel_rfl) hR.ok zd3
                      have ze123 := hR.frame.done (t := 123) (j := 10) (by kernel_rfl) hR.ok zd10
                      have ze115 := hR.frame.done (t := 115) (j := 2) (by kernel_rfl) hR.ok zd2
                      rw [if_pos (by simp [Region.wanted, yielded, ze115, zf2])]
                      go_simp
                      exact hK (.bool true) _ (hI.next hR (by kernel_rfl) (Mod.refl _ _) (PB.quiet hI.1 (Mod.refl _ _) (HGs.out _ _ (hI.1).g (Mod.refl _ _))) (upd_same V 11 _))
                    · intro D V zw1 a hR hI K hK   -- 12: Op.pick (Operand.tmp 115) (Operand.tmp 124) (Operand.const (Value.bool
                      obtain ⟨hM1, hB1, hG1⟩ := hI.1
                      have zd2 := hR.pred 2 (by kernel_rfl)
                      have zF2 : V 2 = .bool true := hI.2 2 zd2 rfl
                      have zf2 := zF2; clear zF2
                      have zd11 := hR.pred 11 (by kernel_rfl)
                      have zF11 : V 11 = .bool true := hI.2 11 zd11 rfl
                      have zf11 := zF11; clear zF11
                      have ze115 := hR.frame.done (t := 115) (j := 2) (by kernel_rfl) hR.ok zd2
                      have ze124 := hR.frame.done (t := 124) (j := 11) (by kernel_rfl) hR.ok zd11
                      rw [if_pos (by rfl)]
                      go_simp
                      exact hK (.bool true) _ (hI.next hR (by kernel_rfl) (Mod.refl _ _) (PB.quiet hI.1 (Mod.refl _ _) (HGs.out _ _ (hI.1).g (Mod.refl _ _))) (upd_same V 12 _))
                    · intro D V zw1 a hR hI K hK   -- 13: Op.move (Operand.tmp 125)
                      obtain ⟨hM1, hB1, hG1⟩ := hI.1
                      have zd12 := hR.pred 12 (by kernel_rfl)
                      have zF12 : V 12 = .bool true := hI.2 12 zd12 rfl
                      have zf12 := zF12; clear zF12
                      have ze125 := hR.frame.done (t := 125) (j := 12) (by kernel_rfl) hR.ok zd12
                      rw [if_pos (by rfl)]
                      go_simp
                      exact hK (.bool true) _ (hI.next hR (by kernel_rfl) (Mod.refl _ _) (PB.quiet hI.1 (Mod.refl _ _) (HGs.out _ _ (hI.1).g (Mod.refl _ _))) (upd_same V 13 _))
                    · intro D V zw1 a hR hI K hK   -- 14: Op.call { callee := Callee.value (Operand.func 22), args := #[], argTy
                      obtain ⟨hM1, hB1, hG1⟩ := hI.1
                      have zd13 := hR.pred 13 (by kernel_rfl)
                      have zF13 : V 13 = .bool true := hI.2 13 zd13 rfl
                      have zf13 := zF13; clear zF13
                      have ze126 := hR.frame.done (t := 126) (j := 13) (by kernel_rfl) hR.ok zd13
                      rw [if_pos (by simp [Region.wanted, yielded, ze126, zf13])]
                      go_simp
                      refine (drawn_calls _).mono ?_
                      rintro e zw2 ⟨rfl, hm2⟩
                      exact hK (.bool true) _ (hI.next hR (by kernel_rfl) hm2 (PB.quiet hI.1 hm2 (HGs.out _ _ (hI.1).g hm2)) (upd_same V 14 _))
                    · intro D V zw1 a hR hI K hK   -- 15: Op.pick (Operand.tmp 126) (Operand.tmp 127) (Operand.const (Value.bool
                      obtain ⟨hM1, hB1, hG1⟩ := hI.1
                      have zd13 := hR.pred 13 (by kernel_rfl)
                      have zF13 : V 13 = .bool true := hI.2 13 zd13 rfl
                      have zf13 := zF13; clear zF13
                      have zd14 := hR.pred 14 (by kernel_rfl)
                      have zF14 : V 14 = .bool true := hI.2 14 zd14 rfl
                      have zf14 := zF14; clear zF14
                      have ze126 := hR.frame.done (t := 126) (j := 13) (by kernel_rfl) hR.ok zd13
                      have ze127 := hR.frame.done (t := 127) (j := 14) (by kernel_rfl) hR.ok zd14
                      rw [if_pos (by rfl)]
                      go_simp
                      exact hK (.bool true) _ (hI.next hR (by kernel_rfl) (Mod.refl _ _) (PB.quiet hI.1 (Mod.refl _ _) (HGs.out _ _ (hI.1).g (Mod.refl _ _))) (upd_same V 15 _))
                    · intro D V zw1 a hR hI K hK   -- 16: Op.assign (Operand.tmp 128)
                      obtain ⟨hM1, hB1, hG1⟩ := hI.1
                      have zd15 := hR.pred 15 (by kernel_rfl)
                      have zF15 : V 15 = .bool true := hI.2 15 zd15 rfl
                      have zf15 := zF15; clear zF15
                      have ze128 := hR.frame.done (t := 128) (j := 15) (by kernel_rfl) hR.ok zd15
                      rw [if_pos (by rfl)]
                      go_simp
                      exact hK (.bool true) _ (hI.next hR (by kernel_rfl) (Mod.refl _ _) (PB.quiet hI.1 (Mod.refl _ _) (HGs.out _ _ (hI.1).g (Mod.refl _ _))) (upd_same V 16 _))
                  · intro D V w12 hD hI
                    obtain ⟨hM1, hB1, hG1⟩ := hI.1
                    have hMx := hM1
                    clear hM1
                    have hBx := hB1
                    clear hB1
                    have hGx := hG1
                    clear hG1
                    have zF0 : V 0 = .int .i64 0 := hI.2 0 (hD 0 (by decide)) rfl
                    have zf0 := zF0; clear zF0
                    have zF1 : V 1 = .bool true := hI.2 1 (hD 1 (by decide)) rfl
                    have zf1 := zF1; clear zF1
                    have zF2 : V 2 = .bool true := hI.2 2 (hD 2 (by decide)) rfl
                    have zf2 := zF2; clear zF2
                    have zF3 : V 3 = .agg #[.int .i64 ax, .int .i64 ay] := hI.2 3 (hD 3 (by decide)) rfl
                    have zf3 := zF3; clear zF3
                    have zF4 : V 4 = .int .i64 sm := hI.2 4 (hD 4 (by decide)) rfl
                    have zf4 := zF4; clear zF4
                    have zF5 : V 5 = .slice A3 bs.length c3 := hI.2 5 (hD 5 (by decide)) rfl
                    have zf5 := zF5; clear zF5
                    have zF6 : V 6 = .int .i64 (bs.length : Int) := hI.2 6 (hD 6 (by decide)) rfl
                    have zf6 := zF6; clear zF6
                    have zF7 : V 7 = .slice A3 bs.length c3 := hI.2 7 (hD 7 (by decide)) rfl
                    have zf7 := zF7; clear zF7
                    have zF8 : V 8 = .int .i64 (cnt bs : Int) := hI.2 8 (hD 8 (by decide)) rfl
                    have zf8 := zF8; clear zF8
                    have zF9 : V 9 = .int .i64 ((bs.length : Int) * (cnt bs : Int)) := hI.2 9 (hD 9 (by decide)) rfl
                    have zf9 := zF9; clear zF9
                    have zF10 : V 10 = .agg #[.int .i64 ax, .int .i64 ay] := hI.2 10 (hD 10 (by decide)) rfl
                    have zf10 := zF10; clear zF10
                    have zF11 : V 11 = .bool true := hI.2 11 (hD 11 (by decide)) rfl
                    have zf11 := zF11; clear zF11
                    have zF12 : V 12 = .bool true := hI.2 12 (hD 12 (by decide)) rfl
                    have zf12 := zF12; clear zF12
                    have zF13 : V 13 = .bool true := hI.2 13 (hD 13 (by decide)) rfl
                    have zf13 := zF13; clear zF13
                    have zF14 : V 14 = .bool true := hI.2 14 (hD 14 (by decide)) rfl
                    have zf14 := zF14; clear zF14
                    have zF15 : V 15 = .bool true := hI.2 15 (hD 15 (by decide)) rfl
                    have zf15 := zF15; clear zF15
                    have zF16 : V 16 = .bool true := hI.2 16 (hD 16 (by decide)) rfl
                    have zf16 := zF16; clear zF16
                    clear hI hD HGs
                    simp only [frAll, Act.put, List.setIfInBounds_toArray, List.set_cons_zero, List.set_cons_succ, Nat.zero_add, Nat.reduceAdd, zf0, zf1, zf2, zf3, zf4, zf5, zf6, zf7, zf8, zf9, zf10, zf11, zf12, zf13, zf14, zf15, zf16]
                    clear zf0 zf1 zf2 zf3 zf4 zf5 zf6 zf7 zf8 zf9 zf10 zf11 zf12 zf13 zf14 zf15 zf16
                    clear V D
                    go_wp2_with fail
                    go_ret
                    exact BoolPost.of rfl hMx
        · exact absurd h1 (by omega)
      · exact absurd h1 (by omega)
    · rcases hG with ⟨h1, _⟩ | ⟨_, rfl, hm4⟩
      · exact absurd h1 h2000
      · have hv4 := hv3.pure hm4
        have m4 : Pure w w4 := m3.trans hm4
        clear hv3 m3 hm4
        have haE : areaE bs = 2 := by
          unfold areaE
          rw [firstErr_two, show readErr (bs.length : Int) = 2 from if_neg (by omega)]
          rfl
        go_wp2_with fail
        refine (Area_calls _ _ bs hv4 (by omega)).mono ?_
        rintro e w5 ⟨ax, ay, ae, hA5, rfl, hm5⟩
        rcases hA5 with ⟨_, rfl, rfl, h4⟩ | ⟨h1, _⟩
        · obtain rfl : ae = 2 := h4.trans haE
          have hv5 := (hv4.pure hm5).pure (pure_alloc w5 (.cells #[.int .i64 0, .int .i64 0] 30))
          have a5 := Blk.new w5 30 #[.int .i64 0, .int .i64 0]
          have m5 : Pure w (w5.alloc (.cells #[.int .i64 0, .int .i64 0] 30)) := (m4.trans hm5).alloc _
          clear hv4 m4 hm5 h4 haE
          go_wp2_with fail
          refine (Knee_calls _ _ bs hv5 (by omega)).mono ?_
          rintro e w6 hK
          rcases hK with ⟨h1, _⟩ | ⟨_, rfl, hm6⟩
          · exact absurd h1 h2000
          · have a6 := a5.modp hm6
            have m6 := m5.trans hm6
            clear a5 m5 hm6 hv5
            have q0 := a6.cell 0; have q1 := a6.cell 1; simp at q0 q1
            have hd1 : (2000 : Int) < (bs.length : Int) := by omega
            go_wp2_with fail
            refine (drawn_calls _).mono ?_
            rintro e w12 ⟨rfl, hm12⟩
            go_wp2_with fail
            go_ret
            exact BoolPost.of rfl (m6.trans hm12)
        · exact absurd (h1.symm.trans haE) (by decide)

end Go.Proofs.Ytpacmdiodnnofaa
