/- Texts of the proof of ItemPlaces, put together: LawItemPlaces. -/
import Derived.Test.YtglekmflcaacjaaGreatDoorItemPlacesZ31
import Derived.Test.YtglekmflcaacjaaGreatDoorItemPlacesZ36
import Derived.Test.YtglekmflcaacjaaGreatDoorItemPlacesZ39
import Derived.Test.YtglekmflcaacjaaGreatDoorItemPlacesZ42
/- The law ItemPlaces. -/
namespace Go.Proofs.YtglekmflcaacjaaGreatDoor
set_option linter.unusedVariables false
set_option linter.unusedSimpArgs false
open Go.RowKit

theorem SlW.pureI {w w' : World} {v : Value} {xs : List Str} (h : SlW w v xs) (hm : Pure w w') : SlW w' v xs := Sl.pure h hm

set_option maxRecDepth 100000 in
set_option maxHeartbeats 16000000 in
theorem ItemPlaces_calls (w : World) (A : Option Addr) (n c : Nat) (hA : ArgInts w A n) (hE : ErrS w) (hD : Deb w) (hV : Env w) :
    Calls Tryz.prog 6 #[.slice A n c] w (BoolPost w true) := by
  have hS0 := strm_new (c := c) hA
  have HE : Hid (∀ w1, Pure w w1 → ErrS w1) := Lib.hid (fun _ h => hE.pure h)
  have HD : Hid (∀ w1, Pure w w1 → Deb w1) := Lib.hid (fun _ h => hD.pure h)
  have HV : Hid (∀ w1, Pure w w1 → Env w1) := Lib.hid (fun _ h => hV.pure h)
  obtain ⟨b, hb⟩ : ∃ b, b = w.heap.size := ⟨_, rfl⟩
  have P0 := pure_alloc w (.cells #[.slice A n c, .int .i64 0] 25)
  have HPS : Hid (∀ {w1 w' : World}, Pure w w1 → Mod (· = b) w1 w' → Pure w w') := Lib.hid (fun k h => k.trans' h (fun i hi hlt => by omega))
  rw [← hb] at hS0
  clear hE hD hV hA
  go_enter Tryz.func6, Tryz.ntmps6
  go_wp2_with fail
  rw [← hb]
  generalize (w.alloc (.cells #[.slice A n c, .int .i64 0] 25)) = w0 at *
  clear hb
  refine (rangeI_calls _ _ _ _ hS0 (by omega) (by omega) (by omega)).mono ?_
  rintro e w1 ⟨m, mI, hmI, hm8, rfl, hS1, hM1⟩
  have P1 := HPS.out P0 hM1
  have hm20 : m ≤ 10 := by omega
  have HIT := Lib.hid (items_calls w1 b _ m mI hmI hS1 (by omega) (by omega) (fun W h => HV.out W (HPS.out P1 h)))
  clear hS0 P0 hM1 hmI hm8 hS1
  go_wp2_with fail
  refine HIT.out.mono ?_
  rintro e w2 ⟨v, xs, rfl, hxl, hxz, hown, hS2, hM2⟩
  have P2 := HPS.out P1 hM2
  have hv : Its w2 v xs := Sl.of_own hown
  have HXZ := Lib.hid hxz
  have hx11 : xs.length ≤ 11 := by omega
  have HAN := Lib.hid (anyId_calls w2 b _ v xs hS2 (by omega) hv hxz (by omega))
  have HVS : Hid (∀ W, Mod (· = b) w2 W → Its W v xs) := Lib.hid (fun W h => hv.strm hS2 h (by decide))
  clear HIT hxz P1 hM2 hown hv hS2 hxl
  go_wp2_with fail
  refine HAN.out.mono ?_
  rintro e w3 ⟨id, hid, rfl, hS3, hM3⟩
  have P3 := HPS.out P2 hM3
  have HV3 := Lib.hid (HVS.out _ hM3)
  have HT : Hid (∀ W, Pure w W → _) := Lib.hid (fun W hW => taken_calls W (HE.out _ hW) (HD.out _ hW))
  have HIT : Hid (∀ W, Pure w3 W → Its W v xs) := Lib.hid (fun W h => HV3.out.pure h)
  have HVV : Hid (∀ W, Pure w3 W → Env W) := Lib.hid (fun W h => HV.out W (P3.trans h))
  have HP3 := Lib.hid P3
  clear HAN HVS P2 P3 hM3 hS3 HV3 HE HD HPS HV
  have HFM := Lib.hid (ifamilyOf_calls w3 v xs id (HIT.out _ (Mod.refl _ _)) HXZ.out (by omega) (HVV.out _ (Mod.refl _ _)) (by omega))
  have HC2 := Lib.hid (fun W (h : Pure w3 W) => ichildren_calls W v xs id (HIT.out _ h) HXZ.out (by omega) (HVV.out _ h) (by omega))
  have HD2 := Lib.hid (fun W (h : Pure w3 W) => idepth_calls W v xs id (HIT.out _ h) HXZ.out (by omega) (HVV.out _ h) (by omega))
  have HIF := Lib.hid (fun W (h : Pure w3 W) => itemsFault_calls W v xs (HIT.out _ h) HXZ.out (by omega) (HVV.out _ h))
  have HHAS := Lib.hid (fun W (h : Pure w3 W) => has_calls W v xs id (HIT.out _ h))
  have HFE : Hid (fndE xs id = if itsE itemE xs ≠ 0 then itsE itemE xs else if (plc xs id).isSome = true then 0 else 8) := Lib.hid rfl
  have HRF : Hid (fndE xs id = 0 → ∀ W, Pure w3 W → Calls Tryz.prog 35 #[v, .string ⟨id.toArray⟩] W (RFmPost W xs id)) := Lib.hid (fun h0 W h => by
    obtain ⟨h1, h2, h3⟩ := fndE_zero h0
    exact rfamilyOf_calls W v xs id (HIT.out _ h) (right_items h1) (by omega) h2 h3)
  have HRC : Hid (fndE xs id = 0 → ∀ W, Pure w3 W → Calls Tryz.prog 36 #[v, .string ⟨id.toArray⟩] W (SlPost W (kidsS xs id))) := Lib.hid (fun h0 W h => by
    obtain ⟨h1, h2, h3⟩ := fndE_zero h0
    exact childrenOf_calls W v xs id (HIT.out _ h) (by omega) (by rw [← h3]; exact (right_items h1).key _ (List.getElem_mem h2)))
  have HRD : Hid (fndE xs id = 0 → ∀ W, Pure w3 W → Calls Tryz.prog 37 #[v, .string ⟨id.toArray⟩] W (IntPost W ((chn xs xs.length (idxId xs id)).length : Int))) := Lib.hid (fun h0 W h => by
    obtain ⟨h1, h2, h3⟩ := fndE_zero h0
    refine depthOf_calls W v xs id (HIT.out _ h) (right_items h1) h2 ?_
    unfold fndE at h0
    rw [if_neg (by rw [h1]; simp)] at h0
    split at h0
    · rename_i h4; exact h4
    · omega)
  unfold FmOPost at HFM
  unfold ChPost at HC2
  unfold DpPost at HD2
  generalize fndE xs id = er at *
  generalize itsE itemE xs = f0 at *
  generalize (plc xs id).isSome = bd at *
  clear HXZ HIT HVV
  go_wp2_with fail
  refine HFM.out.mono ?_
  rintro e w4 ⟨fa, Af, nf, cf, rfl, hf, hf0, m4⟩
  have HF := Lib.hid hf
  have HF0 := Lib.hid hf0
  have HB4 := Lib.hid (Blk.new w4 53 #[.string ⟨fa.toArray⟩, .slice Af nf cf])
  have hM4 := m4.alloc (.cells #[.string ⟨fa.toArray⟩, .slice Af nf cf] 53)
  have HM4 := Lib.hid hM4
  have HC4 := Lib.hid (HC2.out _ hM4)
  clear HFM hf hf0 m4 hM4 HC2
  go_wp2_with fail
  refine HC4.out.mono ?_
  rintro e w5 ⟨Ac, nc, cc, rfl, hc, hc0, m5⟩
  have HCH := Lib.hid hc
  have HCH0 := Lib.hid hc0
  have HM5 := Lib.hid (HM4.out.trans m5)
  have HB5 := Lib.hid (HB4.out.mod m5 _root_.id)
  have HM45 := Lib.hid ((pure_alloc w4 (.cells #[.string ⟨fa.toArray⟩, .slice Af nf cf] 53)).trans m5)
  have HD5 := Lib.hid (HD2.out _ HM5.out)
  clear HC4 hc hc0 m5 HM4 HB4 HD2
  generalize w4.heap.size = g6 at *
  go_wp2_with fail
  refine HD5.out.mono ?_
  rintro e w6 ⟨d, rfl, hd, hd0, m6⟩
  have HDP := Lib.hid hd
  have HDP0 := Lib.hid hd0
  have HM6 := Lib.hid (HM5.out.trans m6)
  have HB6a := Lib.hid (HB5.out.mod m6 _root_.id)
  have HM56 := Lib.hid m6
  have HI6 := Lib.hid (HIF.out _ HM6.out)
  clear HD5 hd hd0 m6 HB5 HIF
  go_wp2_with fail
  refine HI6.out.mono ?_
  rintro e w7 ⟨rfl, m7⟩
  have HM7 := Lib.hid (HM6.out.trans m7)
  have HB7 := Lib.hid (HB6a.out.mod m7 _root_.id)
  have HM47 := Lib.hid (HM45.out.trans (HM56.out.trans m7))
  have HM57 := Lib.hid (HM56.out.trans m7)
  clear HI6 m7 HB6a HM6 HM45 HM56
  by_cases hf0 : f0 = 0
  · subst hf0
    have HC7 := Lib.hid (HHAS.out _ HM7.out)
    go_wp2_with fail
    refine HC7.out.mono ?_
    rintro e w8 ⟨rfl, m8⟩
    have HB6 := Lib.hid (HB7.out.mod m8 _root_.id)
    have HM8 := Lib.hid (HM7.out.trans m8)
    have PQ := HP3.out.trans HM8.out
    have HM48 := Lib.hid (HM47.out.trans m8)
    have HM58 := Lib.hid (HM57.out.trans m8)
    clear HC7 HHAS HB7 HM7 m8 HM47 HM57 HM5
    cases bd
    · obtain rfl : er = 8 := by have := HFE.out; simpa using this
      have hE0 : (8 : Int) ≠ 0 := by omega
      have hne1 : ((8 : Int) != 8) = false := by simp
      have hne0 : ((8 : Int) != 0) = true := by simp
      obtain ⟨rfl, rfl, rfl, rfl⟩ := HF.out hE0
      obtain ⟨rfl, rfl, rfl⟩ := HCH.out hE0
      obtain rfl := HDP.out hE0
      have hB := HB6.out
      have s0 := hB.cell 0; have s1 := hB.cell 1; simp at s0 s1
      clear HF HF0 HCH HCH0 HDP HDP0 hE0 hB HRF HRC HRD
      go_wp2_with fail
      refine (sameFam_calls _ [] (.slice none 0 0) (.slice none 0 0) [] Sl.nil_ Sl.nil_).mono ?_
      rintro e w9 ⟨rfl, m9⟩
      have P9 := PQ.trans m9
      go_wp2_with fail
      refine (HT.out _ P9).mono ?_
      rintro e w10 ⟨rfl, m10⟩
      go_wp2_with fail
      go_ret
      exact ⟨rfl, P9.trans m10⟩
    · obtain rfl : er = 0 := by have := HFE.out; simpa using this
      have hne1 : ((0 : Int) != 0) = false := by simp
      obtain ⟨rfl, hS6⟩ := HF0.out rfl
      have hS8 := HCH0.out rfl
      obtain rfl := HDP0.out rfl
      have HS6 : Hid (∀ W, Pure w8 W → Sl W 9 1 (.slice Af nf cf) (strsV (fmB xs id))) := Lib.hid (fun W h => (hS6.pure HM48.out).pure h)
      have HS8 : Hid (∀ W, Pure w8 W → Sl W 9 1 (.slice Ac nc cc) (strsV (kidsS xs id))) := Lib.hid (fun W h => (hS8.pure HM58.out).pure h)
      have HF8 : Hid (∀ W, Pure w8 W → _) := Lib.hid (fun W h => HRF.out rfl W (HM8.out.trans h))
      have HC8 : Hid (∀ W, Pure w8 W → _) := Lib.hid (fun W h => HRC.out rfl W (HM8.out.trans h))
      have HD8 : Hid (∀ W, Pure w8 W → _) := Lib.hid (fun W h => HRD.out rfl W (HM8.out.trans h))
      have HT8 : Hid (∀ W, Pure w8 W → _) := Lib.hid (fun W h => HT.out W (PQ.trans h))
      have HPQ := Lib.hid PQ
      unfold RFmPost at HF8
      unfold SlPost at HC8
      clear HF HF0 HCH HCH0 HDP HDP0 HRF HRC HRD hS6 hS8 HM48 HM58 HM8 PQ HT HFE
      generalize idAt2 xs (tpI xs (idxId xs id)) = tid at *
      generalize kidsS xs id = kd at *
      generalize fmB xs id = fb at *
      generalize ((chn xs xs.length (idxId xs id)).length : Int) = dz at *
      have hdd : (dz == dz) = true := by simp
      go_wp2_with fail
      have HGs := Lib.hid (show ∀ (D : Nat → Bool) (zzi : Nat) (zq zq' : World), (fun _ zq => (fun Z => Blk Z g6 53 #[.string ⟨tid.toArray⟩, .slice Af nf cf]) zq) D zq → Mod (fun _ => False) zq zq' → (fun _ zq => (fun Z => Blk Z g6 53 #[.string ⟨tid.toArray⟩, .slice Af nf cf]) zq) (upd D zzi true) zq' from by intro D zzi zq zq' h hm; (exact h.modp hm))
      refine wp_region_inv (by kernel_rfl) (by kernel_rfl) (InvF (R := Mod (fun _ => False)) [.is (.agg #[.string ⟨tid.toArray⟩, .slice Af nf cf]),
          .is (v),
          .is (.string ⟨id.toArray⟩),
          ⟨fun zv zw => ∃ (A_3 : Option Addr) (n_3 : Nat) (c_3 : Nat), zv = .agg #[.string ⟨tid.toArray⟩, .slice A_3 n_3 c_3] ∧ SlW zw (.slice A_3 n_3 c_3) fb, (by rintro zv zw zx ⟨A_3, n_3, c_3, rfl, q0⟩ hm; exact ⟨A_3, n_3, c_3, rfl, (q0.pureI hm)⟩), none, none⟩,
          .is (.bool true),
          .is (.bool true),
          .is (.slice Ac nc cc),
          .is (v),
          .is (.string ⟨id.toArray⟩),
          ⟨fun zv zw => ∃ (A_9 : Option Addr) (n_9 : Nat) (c_9 : Nat), zv = .slice A_9 n_9 c_9 ∧ SlW zw (.slice A_9 n_9 c_9) kd, (by rintro zv zw zx ⟨A_9, n_9, c_9, rfl, q0⟩ hm; exact ⟨A_9, n_9, c_9, rfl, (q0.pureI hm)⟩), none, none⟩,
          .is (.bool true),
          .is (.bool true),
          .is (.bool true),
          .is (.int .i64 dz),
          .is (v),
          .is (.string ⟨id.toArray⟩),
          .is (.int .i64 dz),
          .is (.bool true),
          .is (.bool true),
          .is (.bool true),
          .is (.bool true),
          .is (.bool true),
          .is (.bool true)]
          (PB w8 (fun _ => False) w8.heap.size (fun _ zq => (fun Z => Blk Z g6 53 #[.string ⟨tid.toArray⟩, .slice Af nf cf]) zq))) (InvF.start (PB.start (Mod.refl _ _) (Nat.le_refl _) (HB6.out.drew))) ?_ ?_
      · refine .cons ?_ (.cons ?_ (.cons ?_ (.cons ?_ (.cons ?_ (.cons ?_ (.cons ?_ (.cons ?_ (.cons ?_ (.cons ?_ (.cons ?_ (.cons ?_ (.cons ?_ (.cons ?_ (.cons ?_ (.cons ?_ (.cons ?_ (.cons ?_ (.cons ?_ (.cons ?_ (.cons ?_ (.cons ?_ (.cons ?_ .nil))))))))))))))))))))))
        · intro D V zw1 a hR hI K hK   -- 0: Op.load 53 (Operand.tmp 6)
          obtain ⟨hM1, hB1, hG1⟩ := hI.1
          have ze6 := hR.frame.other (t := 6) (by kernel_rfl) rfl
          have zx0 := hG1.cell 0; have zx1 := hG1.cell 1
          simp at zx0 zx1
          rw [if_pos (by rfl)]
          go_simp
          exact hK (.agg #[.string ⟨tid.toArray⟩, .slice Af nf cf]) _ (hI.next hR (by kernel_rfl) (Mod.refl _ _) (PB.quiet hI.1 (Mod.refl _ _) (HGs.out D 0 zw1 zw1 (hI.1).g (Mod.refl _ _))) (upd_same V 0 _))
        · intro D V zw1 a hR hI K hK   -- 1: Op.move (Operand.tmp 4)
          obtain ⟨hM1, hB1, hG1⟩ := hI.1
          have ze4 := hR.frame.other (t := 4) (by kernel_rfl) rfl
          rw [if_pos (by rfl)]
          go_simp
          exact hK (v) _ (hI.next hR (by kernel_rfl) (Mod.refl _ _) (PB.quiet hI.1 (Mod.refl _ _) (HGs.out D 1 zw1 zw1 (hI.1).g (Mod.refl _ _))) (upd_same V 1 _))
        · intro D V zw1 a hR hI K hK   -- 2: Op.move (Operand.tmp 5)
          obtain ⟨hM1, hB1, hG1⟩ := hI.1
          have ze5 := hR.frame.other (t := 5) (by kernel_rfl) rfl
          rw [if_pos (by rfl)]
          go_simp
          exact hK (.string ⟨id.toArray⟩) _ (hI.next hR (by kernel_rfl) (Mod.refl _ _) (PB.quiet hI.1 (Mod.refl _ _) (HGs.out D 2 zw1 zw1 (hI.1).g (Mod.refl _ _))) (upd_same V 2 _))
        · intro D V zw1 a hR hI K hK   -- 3: Op.call { callee := Callee.value (Operand.func 35), args := #[Operand.
          obtain ⟨hM1, hB1, hG1⟩ := hI.1
          have zd1 := hR.pred 1 (by kernel_rfl)
          have zF1 : V 1 = v := hI.2 1 zd1 rfl
          have zf1 := zF1; clear zF1
          have zd2 := hR.pred 2 (by kernel_rfl)
          have zF2 : V 2 = .string ⟨id.toArray⟩ := hI.2 2 zd2 rfl
          have zf2 := zF2; clear zF2
          have ze82 := hR.frame.done (t := 82) (j := 1) (by kernel_rfl) hR.ok zd1
          have ze83 := hR.frame.done (t := 83) (j := 2) (by kernel_rfl) hR.ok zd2
          rw [if_pos (by rfl)]
          go_simp
          refine (HF8.out _ hM1).mono ?_
          rintro e zw2 ⟨A_0, n_0, c_0, rfl, hSr, hm2⟩
          exact hK (.agg #[.string ⟨tid.toArray⟩, .slice A_0 n_0 c_0]) _ (hI.next hR (by kernel_rfl) hm2 (PB.quiet hI.1 hm2 (HGs.out D 3 _ _ (hI.1).g hm2)) (⟨A_0, n_0, c_0, upd_same V 3 _, hSr⟩))
        · intro D V zw1 a hR hI K hK   -- 4: Op.call { callee := Callee.value (Operand.func 27), args := #[Operand.
          obtain ⟨hM1, hB1, hG1⟩ := hI.1
          have zd0 := hR.pred 0 (by kernel_rfl)
          have zF0 : V 0 = .agg #[.string ⟨tid.toArray⟩, .slice Af nf cf] := hI.2 0 zd0 rfl
          have zf0 := zF0; clear zF0
          have zd3 := hR.pred 3 (by kernel_rfl)
          have zF3 : ∃ (A_3 : Option Addr) (n_3 : Nat) (c_3 : Nat), V 3 = .agg #[.string ⟨tid.toArray⟩, .slice A_3 n_3 c_3] ∧ SlW zw1 (.slice A_3 n_3 c_3) fb := hI.2 3 zd3 rfl
          obtain ⟨A_3, n_3, c_3, zf3, b3_0⟩ := zF3
          have ze81 := hR.frame.done (t := 81) (j := 0) (by kernel_rfl) hR.ok zd0
          have ze84 := hR.frame.done (t := 84) (j := 3) (by kernel_rfl) hR.ok zd3
          rw [if_pos (by rfl)]
          go_simp
          refine (sameFam_calls _ tid _ _ fb (HS6.out _ hM1) b3_0).mono ?_
          rintro e zw2 ⟨rfl, hm2⟩
          exact hK (.bool true) _ (hI.next hR (by kernel_rfl) hm2 (PB.quiet hI.1 hm2 (HGs.out D 4 _ _ (hI.1).g hm2)) (upd_same V 4 _))
        · intro D V zw1 a hR hI K hK   -- 5: Op.move (Operand.tmp 85)
          obtain ⟨hM1, hB1, hG1⟩ := hI.1
          have zd4 := hR.pred 4 (by kernel_rfl)
          have zF4 : V 4 = .bool true := hI.2 4 zd4 rfl
          have zf4 := zF4; clear zF4
          have ze85 := hR.frame.done (t := 85) (j := 4) (by kernel_rfl) hR.ok zd4
          rw [if_pos (by rfl)]
          go_simp
          exact hK (.bool true) _ (hI.next hR (by kernel_rfl) (Mod.refl _ _) (PB.quiet hI.1 (Mod.refl _ _) (HGs.out D 5 zw1 zw1 (hI.1).g (Mod.refl _ _))) (upd_same V 5 _))
        · intro D V zw1 a hR hI K hK   -- 6: Op.move (Operand.tmp 8)
          obtain ⟨hM1, hB1, hG1⟩ := hI.1
          have zd5 := hR.pred 5 (by kernel_rfl)
          have zF5 : V 5 = .bool true := hI.2 5 zd5 rfl
          have zf5 := zF5; clear zF5
          have ze8 := hR.frame.other (t := 8) (by kernel_rfl) rfl
          have ze86 := hR.frame.done (t := 86) (j := 5) (by kernel_rfl) hR.ok zd5
          rw [if_pos (by simp [Region.wanted, yielded, ze86, zf5])]
          go_simp
          exact hK (.slice Ac nc cc) _ (hI.next hR (by kernel_rfl) (Mod.refl _ _) (PB.quiet hI.1 (Mod.refl _ _) (HGs.out D 6 zw1 zw1 (hI.1).g (Mod.refl _ _))) (upd_same V 6 _))
        · intro D V zw1 a hR hI K hK   -- 7: Op.move (Operand.tmp 4)
          obtain ⟨hM1, hB1, hG1⟩ := hI.1
          have zd5 := hR.pred 5 (by kernel_rfl)
          have zF5 : V 5 = .bool true := hI.2 5 zd5 rfl
          have zf5 := zF5; clear zF5
          have ze4 := hR.frame.other (t := 4) (by kernel_rfl) rfl
          have ze86 := hR.frame.done (t := 86) (j := 5) (by kernel_rfl) hR.ok zd5
          rw [if_pos (by simp [Region.wanted, yielded, ze86, zf5])]
          go_simp
          exact hK (v) _ (hI.next hR (by kernel_rfl) (Mod.refl _ _) (PB.quiet hI.1 (Mod.refl _ _) (HGs.out D 7 zw1 zw1 (hI.1).g (Mod.refl _ _))) (upd_same V 7 _))
        · intro D V zw1 a hR hI K hK   -- 8: Op.move (Operand.tmp 5)
          obtain ⟨hM1, hB1, hG1⟩ := hI.1
          have zd5 := hR.pred 5 (by kernel_rfl)
          have zF5 : V 5 = .bool true := hI.2 5 zd5 rfl
          have zf5 := zF5; clear zF5
          have ze5 := hR.frame.other (t := 5) (by kernel_rfl) rfl
          have ze86 := hR.frame.done (t := 86) (j := 5) (by kernel_rfl) hR.ok zd5
          rw [if_pos (by simp [Region.wanted, yielded, ze86, zf5])]
          go_simp
          exact hK (.string ⟨id.toArray⟩) _ (hI.next hR (by kernel_rfl) (Mod.refl _ _) (PB.quiet hI.1 (Mod.refl _ _) (HGs.out D 8 zw1 zw1 (hI.1).g (Mod.refl _ _))) (upd_same V 8 _))
        · intro D V zw1 a hR hI K hK   -- 9: Op.call { callee := Callee.value (Operand.func 36), args := #[Operand.
          obtain ⟨hM1, hB1, hG1⟩ := hI.1
          have zd7 := hR.pred 7 (by kernel_rfl)
          have zF7 : V 7 = v := hI.2 7 zd7 rfl
          have zf7 := zF7; clear zF7
          have zd8 := hR.pred 8 (by kernel_rfl)
          have zF8 : V 8 = .string ⟨id.toArray⟩ := hI.2 8 zd8 rfl
          have zf8 := zF8; clear zF8
          have zd5 := hR.pred 5 (by kernel_rfl)
          have zF5 : V 5 = .bool true := hI.2 5 zd5 rfl
          have zf5 := zF5; clear zF5
          have ze88 := hR.frame.done (t := 88) (j := 7) (by kernel_rfl) hR.ok zd7
          have ze89 := hR.frame.done (t := 89) (j := 8) (by kernel_rfl) hR.ok zd8
          have ze86 := hR.frame.done (t := 86) (j := 5) (by kernel_rfl) hR.ok zd5
          rw [if_pos (by simp [Region.wanted, yielded, ze86, zf5])]
          go_simp
          refine (HC8.out _ hM1).mono ?_
          rintro e zw2 ⟨A_0, n_0, c_0, rfl, hSr, hm2⟩
          exact hK (.slice A_0 n_0 c_0) _ (hI.next hR (by kernel_rfl) hm2 (PB.quiet hI.1 hm2 (HGs.out D 9 _ _ (hI.1).g hm2)) (⟨A_0, n_0, c_0, upd_same V 9 _, hSr⟩))
        · intro D V zw1 a hR hI K hK   -- 10: Op.call { callee := Callee.value (Operand.func 20), args := #[Operand.
          obtain ⟨hM1, hB1, hG1⟩ := hI.1
          have zd6 := hR.pred 6 (by kernel_rfl)
          have zF6 : V 6 = .slice Ac nc cc := hI.2 6 zd6 rfl
          have zf6 := zF6; clear zF6
          have zd9 := hR.pred 9 (by kernel_rfl)
          have zF9 : ∃ (A_9 : Option Addr) (n_9 : Nat) (c_9 : Nat), V 9 = .slice A_9 n_9 c_9 ∧ SlW zw1 (.slice A_9 n_9 c_9) kd := hI.2 9 zd9 rfl
          obtain ⟨A_9, n_9, c_9, zf9, b9_0⟩ := zF9
          have zd5 := hR.pred 5 (by kernel_rfl)
          have zF5 : V 5 = .bool true := hI.2 5 zd5 rfl
          have zf5 := zF5; clear zF5
          have ze87 := hR.frame.done (t := 87) (j := 6) (by kernel_rfl) hR.ok zd6
          have ze90 := hR.frame.done (t := 90) (j := 9) (by kernel_rfl) hR.ok zd9
          have ze86 := hR.frame.done (t := 86) (j := 5) (by kernel_rfl) hR.ok zd5
          rw [if_pos (by simp [Region.wanted, yielded, ze86, zf5])]
          go_simp
          refine (equalS_calls _ _ _ kd (HS8.out _ hM1) b9_0).mono ?_
          rintro e zw2 ⟨rfl, hm2⟩
          exact hK (.bool true) _ (hI.next hR (by kernel_rfl) hm2 (PB.quiet hI.1 hm2 (HGs.out D 10 _ _ (hI.1).g hm2)) (upd_same V 10 _))
        · intro D V zw1 a hR hI K hK   -- 11: Op.pick (Operand.tmp 86) (Operand.tmp 91) (Operand.const (Value.bool f
          obtain ⟨hM1, hB1, hG1⟩ := hI.1
          have zd5 := hR.pred 5 (by kernel_rfl)
          have zF5 : V 5 = .bool true := hI.2 5 zd5 rfl
          have zf5 := zF5; clear zF5
          have zd10 := hR.pred 10 (by kernel_rfl)
          have zF10 : V 10 = .bool true := hI.2 10 zd10 rfl
          have zf10 := zF10; clear zF10
          have ze86 := hR.frame.done (t := 86) (j := 5) (by kernel_rfl) hR.ok zd5
          have ze91 := hR.frame.done (t := 91) (j := 10) (by kernel_rfl) hR.ok zd10
          rw [if_pos (by rfl)]
          go_simp
          exact hK (.bool true) _ (hI.next hR (by kernel_rfl) (Mod.refl _ _) (PB.quiet hI.1 (Mod.refl _ _) (HGs.out D 11 zw1 zw1 (hI.1).g (Mod.refl _ _))) (upd_same V 11 _))
        · intro D V zw1 a hR hI K hK   -- 12: Op.move (Operand.tmp 92)
          obtain ⟨hM1, hB1, hG1⟩ := hI.1
          have zd11 := hR.pred 11 (by kernel_rfl)
          have zF11 : V 11 = .bool true := hI.2 11 zd11 rfl
          have zf11 := zF11; clear zF11
          have ze92 := hR.frame.done (t := 92) (j := 11) (by kernel_rfl) hR.ok zd11
          rw [if_pos (by rfl)]
          go_simp
          exact hK (.bool true) _ (hI.next hR (by kernel_rfl) (Mod.refl _ _) (PB.quiet hI.1 (Mod.refl _ _) (HGs.out D 12 zw1 zw1 (hI.1).g (Mod.refl _ _))) (upd_same V 12 _))
        · intro D V zw1 a hR hI K hK   -- 13: Op.move (Operand.tmp 10)
          obtain ⟨hM1, hB1, hG1⟩ := hI.1
          have zd12 := hR.pred 12 (by kernel_rfl)
          have zF12 : V 12 = .bool true := hI.2 12 zd12 rfl
          have zf12 := zF12; clear zF12
          have ze10 := hR.frame.other (t := 10) (by kernel_rfl) rfl
          have ze93 := hR.frame.done (t := 93) (j := 12) (by kernel_rfl) hR.ok zd12
          rw [if_pos (by simp [Region.wanted, yielded, ze93, zf12])]
          go_simp
          exact hK (.int .i64 dz) _ (hI.next hR (by kernel_rfl) (Mod.refl _ _) (PB.quiet hI.1 (Mod.refl _ _) (HGs.out D 13 zw1 zw1 (hI.1).g (Mod.refl _ _))) (upd_same V 13 _))
        · intro D V zw1 a hR hI K hK   -- 14: Op.move (Operand.tmp 4)
          obtain ⟨hM1, hB1, hG1⟩ := hI.1
          have zd12 := hR.pred 12 (by kernel_rfl)
          have zF12 : V 12 = .bool true := hI.2 12 zd12 rfl
          have zf12 := zF12; clear zF12
          have ze4 := hR.frame.other (t := 4) (by kernel_rfl) rfl
          have ze93 := hR.frame.done (t := 93) (j := 12) (by kernel_rfl) hR.ok zd12
          rw [if_pos (by simp [Region.wanted, yielded, ze93, zf12])]
          go_simp
          exact hK (v) _ (hI.next hR (by kernel_rfl) (Mod.refl _ _) (PB.quiet hI.1 (Mod.refl _ _) (HGs.out D 14 zw1 zw1 (hI.1).g (Mod.refl _ _))) (upd_same V 14 _))
        · intro D V zw1 a hR hI K hK   -- 15: Op.move (Operand.tmp 5)
          obtain ⟨hM1, hB1, hG1⟩ := hI.1
          have zd12 := hR.pred 12 (by kernel_rfl)
          have zF12 : V 12 = .bool true := hI.2 12 zd12 rfl
          have zf12 := zF12; clear zF12
          have ze5 := hR.frame.other (t := 5) (by kernel_rfl) rfl
          have ze93 := hR.frame.done (t := 93) (j := 12) (by kernel_rfl) hR.ok zd12
          rw [if_pos (by simp [Region.wanted, yielded, ze93, zf12])]
          go_simp
          exact hK (.string ⟨id.toArray⟩) _ (hI.next hR (by kernel_rfl) (Mod.refl _ _) (PB.quiet hI.1 (Mod.refl _ _) (HGs.out D 15 zw1 zw1 (hI.1).g (Mod.refl _ _))) (upd_same V 15 _))
        · intro D V zw1 a hR hI K hK   -- 16: Op.call { callee := Callee.value (Operand.func 37), args := #[Operand.
          obtain ⟨hM1, hB1, hG1⟩ := hI.1
          have zd14 := hR.pred 14 (by kernel_rfl)
          have zF14 : V 14 = v := hI.2 14 zd14 rfl
          have zf14 := zF14; clear zF14
          have zd15 := hR.pred 15 (by kernel_rfl)
          have zF15 : V 15 = .string ⟨id.toArray⟩ := hI.2 15 zd15 rfl
          have zf15 := zF15; clear zF15
          have zd12 := hR.pred 12 (by kernel_rfl)
          have zF12 : V 12 = .bool true := hI.2 12 zd12 rfl
          have zf12 := zF12; clear zF12
          have ze95 := hR.frame.done (t := 95) (j := 14) (by kernel_rfl) hR.ok zd14
          have ze96 := hR.frame.done (t := 96) (j := 15) (by kernel_rfl) hR.ok zd15
          have ze93 := hR.frame.done (t := 93) (j := 12) (by kernel_rfl) hR.ok zd12
          rw [if_pos (by simp [Region.wanted, yielded, ze93, zf12])]
          go_simp
          refine (HD8.out _ hM1).mono ?_
          rintro e zw2 ⟨rfl, hm2⟩
          exact hK (.int .i64 dz) _ (hI.next hR (by kernel_rfl) hm2 (PB.quiet hI.1 hm2 (HGs.out D 16 _ _ (hI.1).g hm2)) (upd_same V 16 _))
        · intro D V zw1 a hR hI K hK   -- 17: Op.binOp BinOp.eql 3 (Operand.tmp 94) (Operand.tmp 97) 3
          obtain ⟨hM1, hB1, hG1⟩ := hI.1
          have zd13 := hR.pred 13 (by kernel_rfl)
          have zF13 : V 13 = .int .i64 dz := hI.2 13 zd13 rfl
          have zf13 := zF13; clear zF13
          have zd16 := hR.pred 16 (by kernel_rfl)
          have zF16 : V 16 = .int .i64 dz := hI.2 16 zd16 rfl
          have zf16 := zF16; clear zF16
          have zd12 := hR.pred 12 (by kernel_rfl)
          have zF12 : V 12 = .bool true := hI.2 12 zd12 rfl
          have zf12 := zF12; clear zF12
          have ze94 := hR.frame.done (t := 94) (j := 13) (by kernel_rfl) hR.ok zd13
          have ze97 := hR.frame.done (t := 97) (j := 16) (by kernel_rfl) hR.ok zd16
          have ze93 := hR.frame.done (t := 93) (j := 12) (by kernel_rfl) hR.ok zd12
          rw [if_pos (by simp [Region.wanted, yielded, ze93, zf12])]
          go_simp
          exact hK (.bool true) _ (hI.next hR (by kernel_rfl) (Mod.refl _ _) (PB.quiet hI.1 (Mod.refl _ _) (HGs.out D 17 zw1 zw1 (hI.1).g (Mod.refl _ _))) (upd_same V 17 _))
        · intro D V zw1 a hR hI K hK   -- 18: Op.pick (Operand.tmp 93) (Operand.tmp 98) (Operand.const (Value.bool f
          obtain ⟨hM1, hB1, hG1⟩ := hI.1
          have zd12 := hR.pred 12 (by kernel_rfl)
          have zF12 : V 12 = .bool true := hI.2 12 zd12 rfl
          have zf12 := zF12; clear zF12
          have zd17 := hR.pred 17 (by kernel_rfl)
          have zF17 : V 17 = .bool true := hI.2 17 zd17 rfl
          have zf17 := zF17; clear zF17
          have ze93 := hR.frame.done (t := 93) (j := 12) (by kernel_rfl) hR.ok zd12
          have ze98 := hR.frame.done (t := 98) (j := 17) (by kernel_rfl) hR.ok zd17
          rw [if_pos (by rfl)]
          go_simp
          exact hK (.bool true) _ (hI.next hR (by kernel_rfl) (Mod.refl _ _) (PB.quiet hI.1 (Mod.refl _ _) (HGs.out D 18 zw1 zw1 (hI.1).g (Mod.refl _ _))) (upd_same V 18 _))
        · intro D V zw1 a hR hI K hK   -- 19: Op.move (Operand.tmp 99)
          obtain ⟨hM1, hB1, hG1⟩ := hI.1
          have zd18 := hR.pred 18 (by kernel_rfl)
          have zF18 : V 18 = .bool true := hI.2 18 zd18 rfl
          have zf18 := zF18; clear zF18
          have ze99 := hR.frame.done (t := 99) (j := 18) (by kernel_rfl) hR.ok zd18
          rw [if_pos (by rfl)]
          go_simp
          exact hK (.bool true) _ (hI.next hR (by kernel_rfl) (Mod.refl _ _) (PB.quiet hI.1 (Mod.refl _ _) (HGs.out D 19 zw1 zw1 (hI.1).g (Mod.refl _ _))) (upd_same V 19 _))
        · intro D V zw1 a hR hI K hK   -- 20: Op.call { callee := Callee.value (Operand.func 19), args := #[], argTy
          obtain ⟨hM1, hB1, hG1⟩ := hI.1
          have zd19 := hR.pred 19 (by kernel_rfl)
          have zF19 : V 19 = .bool true := hI.2 19 zd19 rfl
          have zf19 := zF19; clear zF19
          have ze100 := hR.frame.done (t := 100) (j := 19) (by kernel_rfl) hR.ok zd19
          rw [if_pos (by simp [Region.wanted, yielded, ze100, zf19])]
          go_simp
          refine (HT8.out _ hM1).mono ?_
          rintro e zw2 ⟨rfl, hm2⟩
          exact hK (.bool true) _ (hI.next hR (by kernel_rfl) hm2 (PB.quiet hI.1 hm2 (HGs.out D 20 _ _ (hI.1).g hm2)) (upd_same V 20 _))
        · intro D V zw1 a hR hI K hK   -- 21: Op.pick (Operand.tmp 100) (Operand.tmp 101) (Operand.const (Value.bool
          obtain ⟨hM1, hB1, hG1⟩ := hI.1
          have zd19 := hR.pred 19 (by kernel_rfl)
          have zF19 : V 19 = .bool true := hI.2 19 zd19 rfl
          have zf19 := zF19; clear zF19
          have zd20 := hR.pred 20 (by kernel_rfl)
          have zF20 : V 20 = .bool true := hI.2 20 zd20 rfl
          have zf20 := zF20; clear zF20
          have ze100 := hR.frame.done (t := 100) (j := 19) (by kernel_rfl) hR.ok zd19
          have ze101 := hR.frame.done (t := 101) (j := 20) (by kernel_rfl) hR.ok zd20
          rw [if_pos (by rfl)]
          go_simp
          exact hK (.bool true) _ (hI.next hR (by kernel_rfl) (Mod.refl _ _) (PB.quiet hI.1 (Mod.refl _ _) (HGs.out D 21 zw1 zw1 (hI.1).g (Mod.refl _ _))) (upd_same V 21 _))
        · intro D V zw1 a hR hI K hK   -- 22: Op.assign (Operand.tmp 102)
          obtain ⟨hM1, hB1, hG1⟩ := hI.1
          have zd21 := hR.pred 21 (by kernel_rfl)
          have zF21 : V 21 = .bool true := hI.2 21 zd21 rfl
          have zf21 := zF21; clear zF21
          have ze102 := hR.frame.done (t := 102) (j := 21) (by kernel_rfl) hR.ok zd21
          rw [if_pos (by rfl)]
          go_simp
          exact hK (.bool true) _ (hI.next hR (by kernel_rfl) (Mod.refl _ _) (PB.quiet hI.1 (Mod.refl _ _) (HGs.out D 22 zw1 zw1 (hI.1).g (Mod.refl _ _))) (upd_same V 22 _))
      · intro D V w9 hD hI
        obtain ⟨hM1, hB1, hG1⟩ := hI.1
        have hMx := hM1
        clear hM1
        have hBx := hB1
        clear hB1
        have hGx := hG1
        clear hG1
        have zF0 : V 0 = .agg #[.string ⟨tid.toArray⟩, .slice Af nf cf] := hI.2 0 (hD 0 (by decide)) rfl
        have zf0 := zF0; clear zF0
        have zF1 : V 1 = v := hI.2 1 (hD 1 (by decide)) rfl
        have zf1 := zF1; clear zF1
        have zF2 : V 2 = .string ⟨id.toArray⟩ := hI.2 2 (hD 2 (by decide)) rfl
        have zf2 := zF2; clear zF2
        have zF3 : ∃ (A_3 : Option Addr) (n_3 : Nat) (c_3 : Nat), V 3 = .agg #[.string ⟨tid.toArray⟩, .slice A_3 n_3 c_3] ∧ SlW w9 (.slice A_3 n_3 c_3) fb := hI.2 3 (hD 3 (by decide)) rfl
        obtain ⟨A_3, n_3, c_3, zf3, b3_0⟩ := zF3
        have zF4 : V 4 = .bool true := hI.2 4 (hD 4 (by decide)) rfl
        have zf4 := zF4; clear zF4
        have zF5 : V 5 = .bool true := hI.2 5 (hD 5 (by decide)) rfl
        have zf5 := zF5; clear zF5
        have zF6 : V 6 = .slice Ac nc cc := hI.2 6 (hD 6 (by decide)) rfl
        have zf6 := zF6; clear zF6
        have zF7 : V 7 = v := hI.2 7 (hD 7 (by decide)) rfl
        have zf7 := zF7; clear zF7
        have zF8 : V 8 = .string ⟨id.toArray⟩ := hI.2 8 (hD 8 (by decide)) rfl
        have zf8 := zF8; clear zF8
        have zF9 : ∃ (A_9 : Option Addr) (n_9 : Nat) (c_9 : Nat), V 9 = .slice A_9 n_9 c_9 ∧ SlW w9 (.slice A_9 n_9 c_9) kd := hI.2 9 (hD 9 (by decide)) rfl
        obtain ⟨A_9, n_9, c_9, zf9, b9_0⟩ := zF9
        have zF10 : V 10 = .bool true := hI.2 10 (hD 10 (by decide)) rfl
        have zf10 := zF10; clear zF10
        have zF11 : V 11 = .bool true := hI.2 11 (hD 11 (by decide)) rfl
        have zf11 := zF11; clear zF11
        have zF12 : V 12 = .bool true := hI.2 12 (hD 12 (by decide)) rfl
        have zf12 := zF12; clear zF12
        have zF13 : V 13 = .int .i64 dz := hI.2 13 (hD 13 (by decide)) rfl
        have zf13 := zF13; clear zF13
        have zF14 : V 14 = v := hI.2 14 (hD 14 (by decide)) rfl
        have zf14 := zF14; clear zF14
        have zF15 : V 15 = .string ⟨id.toArray⟩ := hI.2 15 (hD 15 (by decide)) rfl
        have zf15 := zF15; clear zF15
        have zF16 : V 16 = .int .i64 dz := hI.2 16 (hD 16 (by decide)) rfl
        have zf16 := zF16; clear zF16
        have zF17 : V 17 = .bool true := hI.2 17 (hD 17 (by decide)) rfl
        have zf17 := zF17; clear zF17
        have zF18 : V 18 = .bool true := hI.2 18 (hD 18 (by decide)) rfl
        have zf18 := zF18; clear zF18
        have zF19 : V 19 = .bool true := hI.2 19 (hD 19 (by decide)) rfl
        have zf19 := zF19; clear zF19
        have zF20 : V 20 = .bool true := hI.2 20 (hD 20 (by decide)) rfl
        have zf20 := zF20; clear zF20
        have zF21 : V 21 = .bool true := hI.2 21 (hD 21 (by decide)) rfl
        have zf21 := zF21; clear zF21
        have zF22 : V 22 = .bool true := hI.2 22 (hD 22 (by decide)) rfl
        have zf22 := zF22; clear zF22
        clear hI hD HGs
        simp only [frAll, Act.put, List.setIfInBounds_toArray, List.set_cons_zero, List.set_cons_succ, Nat.zero_add, Nat.reduceAdd, zf0, zf1, zf2, zf3, zf4, zf5, zf6, zf7, zf8, zf9, zf10, zf11, zf12, zf13, zf14, zf15, zf16, zf17, zf18, zf19, zf20, zf21, zf22]
        clear zf0 zf1 zf2 zf3 zf4 zf5 zf6 zf7 zf8 zf9 zf10 zf11 zf12 zf13 zf14 zf15 zf16 zf17 zf18 zf19 zf20 zf21 zf22
        clear V D
        go_wp2_with fail
        go_ret
        exact ⟨rfl, HPQ.out.trans hMx⟩
  · have hf0' : (f0 == 0) = false := by simpa using hf0
    obtain rfl : er = f0 := by have := HFE.out; rw [if_pos hf0] at this; exact this
    have HB6 := HB7
    have PQ := HP3.out.trans HM7.out
    have hE0 : er ≠ 0 := hf0
    clear hf0 HHAS
    have hne1 : (er != er) = false := by simp
    have hne0 : (er != 0) = true := by simpa using hE0
    obtain ⟨rfl, rfl, rfl, rfl⟩ := HF.out hE0
    obtain ⟨rfl, rfl, rfl⟩ := HCH.out hE0
    obtain rfl := HDP.out hE0
    have hB := HB6.out
    have s0 := hB.cell 0; have s1 := hB.cell 1; simp at s0 s1
    clear HF HF0 HCH HCH0 HDP HDP0 hE0 hB HRF HRC HRD
    go_wp2_with fail
    refine (sameFam_calls _ [] (.slice none 0 0) (.slice none 0 0) [] Sl.nil_ Sl.nil_).mono ?_
    rintro e w9 ⟨rfl, m9⟩
    have P9 := PQ.trans m9
    go_wp2_with fail
    refine (HT.out _ P9).mono ?_
    rintro e w10 ⟨rfl, m10⟩
    go_wp2_with fail
    go_ret
    exact ⟨rfl, P9.trans m10⟩

end Go.Proofs.YtglekmflcaacjaaGreatDoor
