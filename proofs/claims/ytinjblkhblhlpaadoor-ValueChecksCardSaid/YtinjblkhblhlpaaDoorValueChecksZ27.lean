/- Texts of the proof of ValueChecks, put together: LawValueChecks. -/
import Derived.Test.YtinjblkhblhlpaaDoorValueChecksZ15
import Derived.Test.YtinjblkhblhlpaaDoorValueChecksZ23
import Derived.Test.YtinjblkhblhlpaaDoorValueChecksZ25
import Derived.Test.YtinjblkhblhlpaaDoorValueChecksZ26
/- The law ValueChecks. -/
namespace Go.Proofs.YtinjblkhblhlpaaDoor
set_option linter.unusedVariables false
set_option linter.unusedSimpArgs false
open Go.RowKit

set_option maxRecDepth 100000 in
set_option maxHeartbeats 8000000 in
theorem ValueChecks_calls (w : World) (A : Option Addr) (n c : Nat) (hA : ArgInts w A n) (hM : MlnS w) (hT : Asc w) : Calls Tryd.prog 3 #[.slice A n c] w (BoolPost w true) := by
  have hS0 := strm_new (c := c) hA
  have HMT : Hid (∀ w1, Pure w w1 → MlnS w1 ∧ Asc w1) := Lib.hid (fun _ h => ⟨hM.pure h, hT.pure h⟩)
  obtain ⟨b, hb⟩ : ∃ b, b = w.heap.size := ⟨_, rfl⟩
  have P0 := pure_alloc w (.cells #[.slice A n c, .int .i64 0] 25)
  have HPS : Hid (∀ {w1 w' : World}, Pure w w1 → Mod (· = b) w1 w' → Pure w w') := Lib.hid (fun k h => k.trans' h (fun i hi hlt => by omega))
  rw [← hb] at hS0
  clear hM hT hA
  go_enter Tryd.func3, Tryd.ntmps3
  go_wp2_with fail
  rw [← hb]
  generalize (w.alloc (.cells #[.slice A n c, .int .i64 0] 25)) = w0 at *
  clear hb
  refine (layout_calls w0 b _ hS0 (by omega)).mono ?_
  rintro e w1 ⟨Aa, Ar, na, ca, nr, cr, L, rfl, hL, hla, hlr, hab, hrb, hS1, hM1⟩
  have P1 := HPS.out P0 hM1
  have hLB : LayB L := ⟨by omega, by omega, hab, hrb⟩
  have HL := Lib.hid hL
  have HLB := Lib.hid hLB
  have hpl := pure_alloc w1 (.cells #[.slice Aa na ca, .slice Ar nr cr] 29)
  have HVL := Lib.hid (values_calls (w1.alloc (.cells #[.slice Aa na ca, .slice Ar nr cr] 29)) b _ (.agg #[.slice Aa na ca, .slice Ar nr cr]) L (hS1.alloc _) (by omega) (hL.pure hpl) hla hab)
  have HG := Lib.hid (Blk.new w1 29 #[.slice Aa na ca, .slice Ar nr cr])
  have HP2 := Lib.hid (P1.trans hpl)
  have HL2 := Lib.hid (hL.pure hpl)
  have HS2 := Lib.hid (hS1.alloc (.cells #[.slice Aa na ca, .slice Ar nr cr] 29))
  have hg := HG.out
  have hb1 := hS1.lt
  have x0 := hg.cell 0; have x1 := hg.cell 1; simp at x0 x1
  clear hS0 P0 hM1 hL hab hrb hLB P1 hpl hg hS1
  go_wp2_with fail
  refine HVL.out.mono ?_
  rintro e w3 ⟨Av, nv, cv, cs, rfl, hV, hcl, hcz, hS3, hM3⟩
  have HG3 := Lib.hid (HG.out.mod hM3 (by omega))
  have HP3 := Lib.hid (HPS.out HP2.out hM3)
  have hL3 := HL2.out.strm HS2.out hM3
  have HBK := Lib.hid (Broken_calls w3 _ _ L cs hL3 HLB.out hV (by omega) hcz)
  have HVF := Lib.hid (fun W (h : Pure w3 W) => valuesFault_calls W _ _ L cs (hL3.pure h) HLB.out (hV.pure h) (by omega) hcz)
  have HCL := Lib.hid (fun W (h : Pure w3 W) => checkLayout_calls W _ L (hL3.pure h) HLB.out)
  have HLF := Lib.hid (fun W (h : Pure w3 W) => layoutFault_calls W _ L (hL3.pure h) HLB.out)
  have HCV := Lib.hid (fun W (h : Pure w3 W) => checkValues_calls W _ _ L cs (hL3.pure h) HLB.out (hV.pure h) (by omega) hcz)
  have HBO := Lib.hid (fun W (h : Pure w3 W) => brokenOf_calls W _ _ L cs (hL3.pure h) (hV.pure h) (by omega) (by omega) (fun x hx => by have := (hcz x hx).2.1; omega))
  unfold BrnPost at HBK
  unfold BrkPost at HBO
  generalize lvE L cs = lv at *
  generalize layE L = le at *
  generalize brkI L cs L.rules.length = br at *
  have hg3 := HG3.out
  have y0 := hg3.cell 0; have y1 := hg3.cell 1; simp at y0 y1
  generalize w1.heap.size = gl at *
  clear x0 x1 hV hcz hS3 hM3 hL3 HL HL2 HS2 HLB HVL HG HP2 hg3
  go_wp2_with fail
  refine HBK.out.mono ?_
  rintro e w4 ⟨A8, m8, c8, rfl, hz8, hs8, hm4⟩
  have HZ8 := Lib.hid hz8
  have HS8 := Lib.hid hs8
  have HM4 := Lib.hid hm4
  have hg4 := HG3.out.modp hm4
  have x0 := hg4.cell 0; have x1 := hg4.cell 1; simp at x0 x1
  clear y0 y1 hz8 hs8 hm4 hg4 HBK
  go_wp2_with fail
  refine (HVF.out _ HM4.out).mono ?_
  rintro e w5 ⟨rfl, hm5⟩
  have HM5 := Lib.hid (HM4.out.trans hm5)
  have HG5 := Lib.hid ((HG3.out.modp HM4.out).modp hm5)
  have HS5 := Lib.hid (fun (h : lv = 0) => (HS8.out h).pure hm5)
  clear x0 x1 hm5 HS8 HVF
  go_upto_region 6 with (fail)
  have HGs := Lib.hid (show ∀ (D : Nat → Bool) (zzi : Nat) (zq zq' : World), (fun _ zq => (fun Z => Blk Z gl 29 #[.slice Aa na ca, .slice Ar nr cr]) zq) D zq → Mod (fun _ => False) zq zq' → (fun _ zq => (fun Z => Blk Z gl 29 #[.slice Aa na ca, .slice Ar nr cr]) zq) (upd D zzi true) zq' from by intro D zzi zq zq' h hm; (exact h.modp hm))
  refine wp_region_inv (by kernel_rfl) (by kernel_rfl) (InvF (R := Mod (fun _ => False)) [.is (.agg #[.slice Aa na ca, .slice Ar nr cr]),
      .is (.int .i64 le),
      .is (.agg #[.slice Aa na ca, .slice Ar nr cr]),
      .is (.int .i64 le),
      .is (.bool false),
      .is (.bool false),
      .is (.agg #[.slice Aa na ca, .slice Ar nr cr]),
      .is (.slice Av nv cv),
      .is (.int .i64 lv),
      .is (.int .i64 lv),
      .is (.bool false),
      .is (.bool false),
      .is (.bool false),
      .is (.int .i64 lv),
      .is (.int .i64 lv),
      .is (.bool false),
      .is (.bool false)]
      (PB w5 (fun _ => False) w5.heap.size (fun _ zq => (fun Z => Blk Z gl 29 #[.slice Aa na ca, .slice Ar nr cr]) zq))) (InvF.start (PB.start (Mod.refl _ _) (Nat.le_refl _) (HG5.out.drew))) ?_ ?_
  · refine .cons ?_ (.cons ?_ (.cons ?_ (.cons ?_ (.cons ?_ (.cons ?_ (.cons ?_ (.cons ?_ (.cons ?_ (.cons ?_ (.cons ?_ (.cons ?_ (.cons ?_ (.cons ?_ (.cons ?_ (.cons ?_ (.cons ?_ .nil))))))))))))))))
    · intro D V zw1 a hR hI K hK
      obtain ⟨hM1, hB1, hG1⟩ := hI.1
      have ze4 := hR.frame.other (t := 4) (by kernel_rfl) rfl
      have zx0 := hG1.cell 0; have zx1 := hG1.cell 1
      simp at zx0 zx1
      rw [if_pos (by rfl)]
      go_simp
      exact hK (.agg #[.slice Aa na ca, .slice Ar nr cr]) _ (hI.next hR (by kernel_rfl) (Mod.refl _ _) (PB.quiet hI.1 (Mod.refl _ _) (HGs.out D 0 zw1 zw1 (hI.1).g (Mod.refl _ _))) (upd_same V 0 _))
    · intro D V zw1 a hR hI K hK
      obtain ⟨hM1, hB1, hG1⟩ := hI.1
      have zd0 := hR.pred 0 (by kernel_rfl)
      have zF0 : V 0 = .agg #[.slice Aa na ca, .slice Ar nr cr] := hI.2 0 zd0 rfl
      have zf0 := zF0; clear zF0
      have ze26 := hR.frame.done (t := 26) (j := 0) (by kernel_rfl) hR.ok zd0
      rw [if_pos (by rfl)]
      go_simp
      refine (HCL.out _ (HM5.out.trans hM1)).mono ?_
      rintro e zw2 ⟨rfl, hm2⟩
      exact hK (.int .i64 le) _ (hI.next hR (by kernel_rfl) hm2 (PB.quiet hI.1 hm2 (HGs.out D 1 _ _ (hI.1).g hm2)) (upd_same V 1 _))
    · intro D V zw1 a hR hI K hK
      obtain ⟨hM1, hB1, hG1⟩ := hI.1
      have ze4 := hR.frame.other (t := 4) (by kernel_rfl) rfl
      have zx0 := hG1.cell 0; have zx1 := hG1.cell 1
      simp at zx0 zx1
      rw [if_pos (by rfl)]
      go_simp
      exact hK (.agg #[.slice Aa na ca, .slice Ar nr cr]) _ (hI.next hR (by kernel_rfl) (Mod.refl _ _) (PB.quiet hI.1 (Mod.refl _ _) (HGs.out D 2 zw1 zw1 (hI.1).g (Mod.refl _ _))) (upd_same V 2 _))
    · intro D V zw1 a hR hI K hK
      obtain ⟨hM1, hB1, hG1⟩ := hI.1
      have zd2 := hR.pred 2 (by kernel_rfl)
      have zF2 : V 2 = .agg #[.slice Aa na ca, .slice Ar nr cr] := hI.2 2 zd2 rfl
      have zf2 := zF2; clear zF2
      have ze28 := hR.frame.done (t := 28) (j := 2) (by kernel_rfl) hR.ok zd2
      rw [if_pos (by rfl)]
      go_simp
      refine (HLF.out _ (HM5.out.trans hM1)).mono ?_
      rintro e zw2 ⟨rfl, hm2⟩
      exact hK (.int .i64 le) _ (hI.next hR (by kernel_rfl) hm2 (PB.quiet hI.1 hm2 (HGs.out D 3 _ _ (hI.1).g hm2)) (upd_same V 3 _))
    · intro D V zw1 a hR hI K hK
      obtain ⟨hM1, hB1, hG1⟩ := hI.1
      have zd1 := hR.pred 1 (by kernel_rfl)
      have zF1 : V 1 = .int .i64 le := hI.2 1 zd1 rfl
      have zf1 := zF1; clear zF1
      have zd3 := hR.pred 3 (by kernel_rfl)
      have zF3 : V 3 = .int .i64 le := hI.2 3 zd3 rfl
      have zf3 := zF3; clear zF3
      have ze27 := hR.frame.done (t := 27) (j := 1) (by kernel_rfl) hR.ok zd1
      have ze29 := hR.frame.done (t := 29) (j := 3) (by kernel_rfl) hR.ok zd3
      rw [if_pos (by rfl)]
      go_simp
      exact hK (.bool false) _ (hI.next hR (by kernel_rfl) (Mod.refl _ _) (PB.quiet hI.1 (Mod.refl _ _) (HGs.out D 4 zw1 zw1 (hI.1).g (Mod.refl _ _))) (upd_same V 4 _))
    · intro D V zw1 a hR hI K hK
      obtain ⟨hM1, hB1, hG1⟩ := hI.1
      have zd4 := hR.pred 4 (by kernel_rfl)
      have zF4 : V 4 = .bool false := hI.2 4 zd4 rfl
      have zf4 := zF4; clear zF4
      have ze30 := hR.frame.done (t := 30) (j := 4) (by kernel_rfl) hR.ok zd4
      rw [if_pos (by rfl)]
      go_simp
      exact hK (.bool false) _ (hI.next hR (by kernel_rfl) (Mod.refl _ _) (PB.quiet hI.1 (Mod.refl _ _) (HGs.out D 5 zw1 zw1 (hI.1).g (Mod.refl _ _))) (upd_same V 5 _))
    · intro D V zw1 a hR hI K hK
      obtain ⟨hM1, hB1, hG1⟩ := hI.1
      have zd5 := hR.pred 5 (by kernel_rfl)
      have zF5 : V 5 = .bool false := hI.2 5 zd5 rfl
      have zf5 := zF5; clear zF5
      have ze4 := hR.frame.other (t := 4) (by kernel_rfl) rfl
      have zx0 := hG1.cell 0; have zx1 := hG1.cell 1
      simp at zx0 zx1
      have ze31 := hR.frame.done (t := 31) (j := 5) (by kernel_rfl) hR.ok zd5
      rw [if_pos (by simp [Region.wanted, yielded, ze31, zf5])]
      go_simp
      exact hK (.agg #[.slice Aa na ca, .slice Ar nr cr]) _ (hI.next hR (by kernel_rfl) (Mod.refl _ _) (PB.quiet hI.1 (Mod.refl _ _) (HGs.out D 6 zw1 zw1 (hI.1).g (Mod.refl _ _))) (upd_same V 6 _))
    · intro D V zw1 a hR hI K hK
      obtain ⟨hM1, hB1, hG1⟩ := hI.1
      have zd5 := hR.pred 5 (by kernel_rfl)
      have zF5 : V 5 = .bool false := hI.2 5 zd5 rfl
      have zf5 := zF5; clear zF5
      have ze5 := hR.frame.other (t := 5) (by kernel_rfl) rfl
      have ze31 := hR.frame.done (t := 31) (j := 5) (by kernel_rfl) hR.ok zd5
      rw [if_pos (by simp [Region.wanted, yielded, ze31, zf5])]
      go_simp
      exact hK (.slice Av nv cv) _ (hI.next hR (by kernel_rfl) (Mod.refl _ _) (PB.quiet hI.1 (Mod.refl _ _) (HGs.out D 7 zw1 zw1 (hI.1).g (Mod.refl _ _))) (upd_same V 7 _))
    · intro D V zw1 a hR hI K hK
      obtain ⟨hM1, hB1, hG1⟩ := hI.1
      have zd6 := hR.pred 6 (by kernel_rfl)
      have zF6 : V 6 = .agg #[.slice Aa na ca, .slice Ar nr cr] := hI.2 6 zd6 rfl
      have zf6 := zF6; clear zF6
      have zd7 := hR.pred 7 (by kernel_rfl)
      have zF7 : V 7 = .slice Av nv cv := hI.2 7 zd7 rfl
      have zf7 := zF7; clear zF7
      have zd5 := hR.pred 5 (by kernel_rfl)
      have zF5 : V 5 = .bool false := hI.2 5 zd5 rfl
      have zf5 := zF5; clear zF5
      have ze32 := hR.frame.done (t := 32) (j := 6) (by kernel_rfl) hR.ok zd6
      have ze33 := hR.frame.done (t := 33) (j := 7) (by kernel_rfl) hR.ok zd7
      have ze31 := hR.frame.done (t := 31) (j := 5) (by kernel_rfl) hR.ok zd5
      rw [if_pos (by simp [Region.wanted, yielded, ze31, zf5])]
      go_simp
      refine (HCV.out _ (HM5.out.trans hM1)).mono ?_
      rintro e zw2 ⟨rfl, hm2⟩
      exact hK (.int .i64 lv) _ (hI.next hR (by kernel_rfl) hm2 (PB.quiet hI.1 hm2 (HGs.out D 8 _ _ (hI.1).g hm2)) (upd_same V 8 _))
    · intro D V zw1 a hR hI K hK
      obtain ⟨hM1, hB1, hG1⟩ := hI.1
      have zd5 := hR.pred 5 (by kernel_rfl)
      have zF5 : V 5 = .bool false := hI.2 5 zd5 rfl
      have zf5 := zF5; clear zF5
      have ze8 := hR.frame.other (t := 8) (by kernel_rfl) rfl
      have ze31 := hR.frame.done (t := 31) (j := 5) (by kernel_rfl) hR.ok zd5
      rw [if_pos (by simp [Region.wanted, yielded, ze31, zf5])]
      go_simp
      exact hK (.int .i64 lv) _ (hI.next hR (by kernel_rfl) (Mod.refl _ _) (PB.quiet hI.1 (Mod.refl _ _) (HGs.out D 9 zw1 zw1 (hI.1).g (Mod.refl _ _))) (upd_same V 9 _))
    · intro D V zw1 a hR hI K hK
      obtain ⟨hM1, hB1, hG1⟩ := hI.1
      have zd8 := hR.pred 8 (by kernel_rfl)
      have zF8 : V 8 = .int .i64 lv := hI.2 8 zd8 rfl
      have zf8 := zF8; clear zF8
      have zd9 := hR.pred 9 (by kernel_rfl)
      have zF9 : V 9 = .int .i64 lv := hI.2 9 zd9 rfl
      have zf9 := zF9; clear zF9
      have zd5 := hR.pred 5 (by kernel_rfl)
      have zF5 : V 5 = .bool false := hI.2 5 zd5 rfl
      have zf5 := zF5; clear zF5
      have ze34 := hR.frame.done (t := 34) (j := 8) (by kernel_rfl) hR.ok zd8
      have ze35 := hR.frame.done (t := 35) (j := 9) (by kernel_rfl) hR.ok zd9
      have ze31 := hR.frame.done (t := 31) (j := 5) (by kernel_rfl) hR.ok zd5
      rw [if_pos (by simp [Region.wanted, yielded, ze31, zf5])]
      go_simp
      exact hK (.bool false) _ (hI.next hR (by kernel_rfl) (Mod.refl _ _) (PB.quiet hI.1 (Mod.refl _ _) (HGs.out D 10 zw1 zw1 (hI.1).g (Mod.refl _ _))) (upd_same V 10 _))
    · intro D V zw1 a hR hI K hK
      obtain ⟨hM1, hB1, hG1⟩ := hI.1
      have zd5 := hR.pred 5 (by kernel_rfl)
      have zF5 : V 5 = .bool false := hI.2 5 zd5 rfl
      have zf5 := zF5; clear zF5
      have zd10 := hR.pred 10 (by kernel_rfl)
      have zF10 : V 10 = .bool false := hI.2 10 zd10 rfl
      have zf10 := zF10; clear zF10
      have ze31 := hR.frame.done (t := 31) (j := 5) (by kernel_rfl) hR.ok zd5
      have ze36 := hR.frame.done (t := 36) (j := 10) (by kernel_rfl) hR.ok zd10
      rw [if_pos (by rfl)]
      go_simp
      exact hK (.bool false) _ (hI.next hR (by kernel_rfl) (Mod.refl _ _) (PB.quiet hI.1 (Mod.refl _ _) (HGs.out D 11 zw1 zw1 (hI.1).g (Mod.refl _ _))) (upd_same V 11 _))
    · intro D V zw1 a hR hI K hK
      obtain ⟨hM1, hB1, hG1⟩ := hI.1
      have zd11 := hR.pred 11 (by kernel_rfl)
      have zF11 : V 11 = .bool false := hI.2 11 zd11 rfl
      have zf11 := zF11; clear zF11
      have ze37 := hR.frame.done (t := 37) (j := 11) (by kernel_rfl) hR.ok zd11
      rw [if_pos (by rfl)]
      go_simp
      exact hK (.bool false) _ (hI.next hR (by kernel_rfl) (Mod.refl _ _) (PB.quiet hI.1 (Mod.refl _ _) (HGs.out D 12 zw1 zw1 (hI.1).g (Mod.refl _ _))) (upd_same V 12 _))
    · intro D V zw1 a hR hI K hK
      obtain ⟨hM1, hB1, hG1⟩ := hI.1
      have zd12 := hR.pred 12 (by kernel_rfl)
      have zF12 : V 12 = .bool false := hI.2 12 zd12 rfl
      have zf12 := zF12; clear zF12
      have ze7 := hR.frame.other (t := 7) (by kernel_rfl) rfl
      have ze38 := hR.frame.done (t := 38) (j := 12) (by kernel_rfl) hR.ok zd12
      rw [if_pos (by simp [Region.wanted, yielded, ze38, zf12])]
      go_simp
      exact hK (.int .i64 lv) _ (hI.next hR (by kernel_rfl) (Mod.refl _ _) (PB.quiet hI.1 (Mod.refl _ _) (HGs.out D 13 zw1 zw1 (hI.1).g (Mod.refl _ _))) (upd_same V 13 _))
    · intro D V zw1 a hR hI K hK
      obtain ⟨hM1, hB1, hG1⟩ := hI.1
      have zd12 := hR.pred 12 (by kernel_rfl)
      have zF12 : V 12 = .bool false := hI.2 12 zd12 rfl
      have zf12 := zF12; clear zF12
      have ze8 := hR.frame.other (t := 8) (by kernel_rfl) rfl
      have ze38 := hR.frame.done (t := 38) (j := 12) (by kernel_rfl) hR.ok zd12
      rw [if_pos (by simp [Region.wanted, yielded, ze38, zf12])]
      go_simp
      exact hK (.int .i64 lv) _ (hI.next hR (by kernel_rfl) (Mod.refl _ _) (PB.quiet hI.1 (Mod.refl _ _) (HGs.out D 14 zw1 zw1 (hI.1).g (Mod.refl _ _))) (upd_same V 14 _))
    · intro D V zw1 a hR hI K hK
      obtain ⟨hM1, hB1, hG1⟩ := hI.1
      have zd13 := hR.pred 13 (by kernel_rfl)
      have zF13 : V 13 = .int .i64 lv := hI.2 13 zd13 rfl
      have zf13 := zF13; clear zF13
      have zd14 := hR.pred 14 (by kernel_rfl)
      have zF14 : V 14 = .int .i64 lv := hI.2 14 zd14 rfl
      have zf14 := zF14; clear zF14
      have zd12 := hR.pred 12 (by kernel_rfl)
      have zF12 : V 12 = .bool false := hI.2 12 zd12 rfl
      have zf12 := zF12; clear zF12
      have ze39 := hR.frame.done (t := 39) (j := 13) (by kernel_rfl) hR.ok zd13
      have ze40 := hR.frame.done (t := 40) (j := 14) (by kernel_rfl) hR.ok zd14
      have ze38 := hR.frame.done (t := 38) (j := 12) (by kernel_rfl) hR.ok zd12
      rw [if_pos (by simp [Region.wanted, yielded, ze38, zf12])]
      go_simp
      exact hK (.bool false) _ (hI.next hR (by kernel_rfl) (Mod.refl _ _) (PB.quiet hI.1 (Mod.refl _ _) (HGs.out D 15 zw1 zw1 (hI.1).g (Mod.refl _ _))) (upd_same V 15 _))
    · intro D V zw1 a hR hI K hK
      obtain ⟨hM1, hB1, hG1⟩ := hI.1
      have zd12 := hR.pred 12 (by kernel_rfl)
      have zF12 : V 12 = .bool false := hI.2 12 zd12 rfl
      have zf12 := zF12; clear zF12
      have zd15 := hR.pred 15 (by kernel_rfl)
      have zF15 : V 15 = .bool false := hI.2 15 zd15 rfl
      have zf15 := zF15; clear zF15
      have ze38 := hR.frame.done (t := 38) (j := 12) (by kernel_rfl) hR.ok zd12
      have ze41 := hR.frame.done (t := 41) (j := 15) (by kernel_rfl) hR.ok zd15
      rw [if_pos (by rfl)]
      go_simp
      exact hK (.bool false) _ (hI.next hR (by kernel_rfl) (Mod.refl _ _) (PB.quiet hI.1 (Mod.refl _ _) (HGs.out D 16 zw1 zw1 (hI.1).g (Mod.refl _ _))) (upd_same V 16 _))
  · intro D V w6 hD hI
    obtain ⟨hM1, hB1, hG1⟩ := hI.1
    have hMx := hM1
    clear hM1
    have hBx := hB1
    clear hB1
    have hGx := hG1
    clear hG1
    have zF0 : V 0 = .agg #[.slice Aa na ca, .slice Ar nr cr] := hI.2 0 (hD 0 (by decide)) rfl
    have zf0 := zF0; clear zF0
    have zF1 : V 1 = .int .i64 le := hI.2 1 (hD 1 (by decide)) rfl
    have zf1 := zF1; clear zF1
    have zF2 : V 2 = .agg #[.slice Aa na ca, .slice Ar nr cr] := hI.2 2 (hD 2 (by decide)) rfl
    have zf2 := zF2; clear zF2
    have zF3 : V 3 = .int .i64 le := hI.2 3 (hD 3 (by decide)) rfl
    have zf3 := zF3; clear zF3
    have zF4 : V 4 = .bool false := hI.2 4 (hD 4 (by decide)) rfl
    have zf4 := zF4; clear zF4
    have zF5 : V 5 = .bool false := hI.2 5 (hD 5 (by decide)) rfl
    have zf5 := zF5; clear zF5
    have zF6 : V 6 = .agg #[.slice Aa na ca, .slice Ar nr cr] := hI.2 6 (hD 6 (by decide)) rfl
    have zf6 := zF6; clear zF6
    have zF7 : V 7 = .slice Av nv cv := hI.2 7 (hD 7 (by decide)) rfl
    have zf7 := zF7; clear zF7
    have zF8 : V 8 = .int .i64 lv := hI.2 8 (hD 8 (by decide)) rfl
    have zf8 := zF8; clear zF8
    have zF9 : V 9 = .int .i64 lv := hI.2 9 (hD 9 (by decide)) rfl
    have zf9 := zF9; clear zF9
    have zF10 : V 10 = .bool false := hI.2 10 (hD 10 (by decide)) rfl
    have zf10 := zF10; clear zF10
    have zF11 : V 11 = .bool false := hI.2 11 (hD 11 (by decide)) rfl
    have zf11 := zF11; clear zF11
    have zF12 : V 12 = .bool false := hI.2 12 (hD 12 (by decide)) rfl
    have zf12 := zF12; clear zF12
    have zF13 : V 13 = .int .i64 lv := hI.2 13 (hD 13 (by decide)) rfl
    have zf13 := zF13; clear zF13
    have zF14 : V 14 = .int .i64 lv := hI.2 14 (hD 14 (by decide)) rfl
    have zf14 := zF14; clear zF14
    have zF15 : V 15 = .bool false := hI.2 15 (hD 15 (by decide)) rfl
    have zf15 := zF15; clear zF15
    have zF16 : V 16 = .bool false := hI.2 16 (hD 16 (by decide)) rfl
    have zf16 := zF16; clear zF16
    clear hI hD HGs
    simp only [frAll, Act.put, List.setIfInBounds_toArray, List.set_cons_zero, List.set_cons_succ, Nat.zero_add, Nat.reduceAdd, zf0, zf1, zf2, zf3, zf4, zf5, zf6, zf7, zf8, zf9, zf10, zf11, zf12, zf13, zf14, zf15, zf16]
    clear zf0 zf1 zf2 zf3 zf4 zf5 zf6 zf7 zf8 zf9 zf10 zf11 zf12 zf13 zf14 zf15 zf16
    clear V D
    have HG6 := Lib.hid hGx
    have HM6 := Lib.hid (HM5.out.trans hMx)
    have HS6 := Lib.hid (fun (h : lv = 0) => (HS5.out h).pure hMx)
    have hg6 := HG6.out
    have x0 := hg6.cell 0; have x1 := hg6.cell 1; simp at x0 x1
    have HDC := Lib.hid (fun W (h : Pure w3 W) => decides_calls W (HMT.out _ (HP3.out.trans h)).1 (HMT.out _ (HP3.out.trans h)).2)
    clear hGx hg6 HCL HLF HCV HG5 HMT
    by_cases h0 : lv = 0
    · subst h0
      have HSB := Lib.hid (HS6.out rfl)
      clear HS5 HS6 HZ8
      go_wp2_with fail
      refine (HBO.out _ HM6.out).mono ?_
      rintro e w7 ⟨A9, c9, rfl, hs9, hm7⟩
      have HEQ := Lib.hid (equalI_calls w7 _ _ br (HSB.out.pure hm7) hs9)
      have HM7 := Lib.hid (HM6.out.trans hm7)
      clear x0 x1 hs9 hm7 HSB HBO
      go_wp2_with fail
      refine HEQ.out.mono ?_
      rintro e w8 ⟨rfl, hm8⟩
      have HM8 := Lib.hid (HM7.out.trans hm8)
      clear HEQ HM7 hm8
      go_wp2_with fail
      refine (HDC.out _ HM8.out).mono ?_
      rintro e w9 ⟨rfl, hm9⟩
      have HPF := Lib.hid ((HP3.out.trans HM8.out).trans hm9)
      clear hm9 HDC
      go_wp2_with fail
      go_ret
      exact BoolPost.of rfl HPF.out
    · have hne : (lv != 0) = true := by simpa using h0
      obtain rfl := HZ8.out h0
      clear HS5 HS6 HZ8 h0 HBO
      go_wp2_with fail
      refine (HDC.out _ HM6.out).mono ?_
      rintro e w7 ⟨rfl, hm7⟩
      have HPF := Lib.hid ((HP3.out.trans HM6.out).trans hm7)
      clear x0 x1 hm7 HDC
      go_wp2_with fail
      go_ret
      exact BoolPost.of rfl HPF.out

end Go.Proofs.YtinjblkhblhlpaaDoor
