/- Texts of the proof of FilterKeeps, put together: ItmS. -/
import Derived.Test.YtofkkenmkflmiaaGreatDoorFilterKeepsZ13
import Derived.Test.YtofkkenmkflmiaaGreatDoorFilterKeepsZ26
import Derived.Test.YtofkkenmkflmiaaGreatDoorFilterKeepsZ36
/- Sums of items. -/
namespace Go.Proofs.YtofkkenmkflmiaaGreatDoor
set_option linter.unusedVariables false
set_option linter.unusedSimpArgs false
open Go.RowKit

/-- The sum of an item. -/
def sumS (x : Itm) : Str := digS (kwS x.kind ++ [10] ++ x.text)
theorem StrPost1.of {w w' : World} {l m : Str} (h : l = m) (hm : Pure w w') : StrPost1 w l (.returned (.string ⟨m.toArray⟩)) w' := ⟨by rw [h], hm⟩

set_option maxRecDepth 100000 in
set_option maxHeartbeats 2000000 in
theorem sum_calls (w : World) (x : Itm) (hz : ItB x) (hD : Deb w) : Calls Tryz.prog 115 #[itA x] w (StrPost1 w (sumS x)) := by
  obtain ⟨id, cust, kind, name, tm, par, text⟩ := x
  have hz5 : text.length ≤ 30000 := hz.2.2.2.2
  have HT5 := Lib.hid hz5
  have hkl := kwS_len kind
  have HS : Hid (sumS ⟨id, cust, kind, name, tm, par, text⟩ = digS (kwS kind ++ [10] ++ text)) := Lib.hid rfl
  have HKW := Lib.hid (fun W => kindWord_calls kind W)
  have a1 := bytes_app (kwS kind) [10]
  have a2 := bytes_app (kwS kind ++ [10]) text
  generalize kwS kind = kw at *
  have hs1 : (⟨(kw ++ [10]).toArray⟩ : ByteArray).size ≤ 5 := by simp [ByteArray.size]; omega
  have hs0 : (⟨kw.toArray⟩ : ByteArray).size ≤ 4 := by simp [ByteArray.size]; omega
  have hs2 : (⟨(kw ++ [10] ++ text).toArray⟩ : ByteArray).size ≤ 40000 := by simp [ByteArray.size]; omega
  have ht : (⟨text.toArray⟩ : ByteArray).size ≤ 30000 := by simpa [ByteArray.size] using hz5
  have HDG := Lib.hid (fun W (h : Pure w W) => Digest_calls W ⟨(kw ++ [10] ++ text).toArray⟩ (by omega) (hD.pure h))
  have hdl : (⟨(kw ++ [10] ++ text).toArray⟩ : ByteArray).data.toList = kw ++ [10] ++ text := rfl
  rw [hdl] at HDG
  have HB0 := Lib.hid (Blk.new w 71 (itQ ⟨id, cust, kind, name, tm, par, text⟩))
  have Hm0 := Lib.hid (pure_alloc w (.cells (itQ ⟨id, cust, kind, name, tm, par, text⟩) 71))
  unfold itQ at HB0 Hm0
  simp only at HB0 Hm0
  clear hz hz5 hkl hD hdl
  generalize digS (kw ++ [10] ++ text) = dg at *
  rw [← a2, ← a1] at HDG
  have hs01 : ((⟨kw.toArray⟩ : ByteArray) ++ ⟨#[10]⟩).size ≤ 5 := by
    have := congrArg ByteArray.size a1
    rw [show (⟨#[10]⟩ : ByteArray) = ⟨[10].toArray⟩ from rfl, this]
    exact hs1
  clear a1 a2 hs1 hs2
  obtain ⟨z0, h_z0⟩ : ∃ z0 : ByteArray, ⟨kw.toArray⟩ = z0 := ⟨_, rfl⟩
  rw [h_z0] at hs0 HKW hs01 HDG
  clear h_z0
  have HS01 := Lib.hid hs01
  unfold itA
  simp only
  go_enter Tryz.func115, Tryz.ntmps115
  go_wp2_with fail
  generalize (w.alloc (.cells #[.string ⟨id.toArray⟩, .string ⟨cust.toArray⟩, .int .i64 kind, .string ⟨name.toArray⟩, .int .i64 tm, .string ⟨par.toArray⟩, .string ⟨text.toArray⟩] 71)) = W at *
  generalize w.heap.size = gs at *
  have HGs := Lib.hid (show ∀ (D : Nat → Bool) (zzi : Nat) (zq zq' : World), (fun _ zq => (fun Z => Blk Z gs 71 #[.string ⟨id.toArray⟩, .string ⟨cust.toArray⟩, .int .i64 kind, .string ⟨name.toArray⟩, .int .i64 tm, .string ⟨par.toArray⟩, .string ⟨text.toArray⟩]) zq) D zq → Mod (fun _ => False) zq zq' → (fun _ zq => (fun Z => Blk Z gs 71 #[.string ⟨id.toArray⟩, .string ⟨cust.toArray⟩, .int .i64 kind, .string ⟨name.toArray⟩, .int .i64 tm, .string ⟨par.toArray⟩, .string ⟨text.toArray⟩]) zq) (upd D zzi true) zq' from by intro D zzi zq zq' h hm; (exact h.modp hm))
  refine wp_region_inv (by kernel_rfl) (by kernel_rfl) (InvF (R := Mod (fun _ => False)) [.is (.pointer (some ⟨gs, 2, none⟩)),
      .is (.int .i64 kind),
      .is (.string z0),
      .is (.string (z0 ++ (⟨#[10]⟩ : ByteArray))),
      .is (.pointer (some ⟨gs, 6, none⟩)),
      .is (.string ⟨text.toArray⟩),
      .is (.string (z0 ++ (⟨#[10]⟩ : ByteArray) ++ (⟨text.toArray⟩ : ByteArray))),
      .is (.string ⟨dg.toArray⟩),
      .is (.string ⟨dg.toArray⟩)]
      (PB w (fun _ => False) W.heap.size (fun _ zq => (fun Z => Blk Z gs 71 #[.string ⟨id.toArray⟩, .string ⟨cust.toArray⟩, .int .i64 kind, .string ⟨name.toArray⟩, .int .i64 tm, .string ⟨par.toArray⟩, .string ⟨text.toArray⟩]) zq))) (InvF.start (PB.start Hm0.out (Nat.le_refl _) (HB0.out.drew))) ?_ ?_
  · refine .cons ?_ (.cons ?_ (.cons ?_ (.cons ?_ (.cons ?_ (.cons ?_ (.cons ?_ (.cons ?_ (.cons ?_ .nil))))))))
    · intro D V zw1 a hR hI K hK
      obtain ⟨hM1, hB1, hG1⟩ := hI.1
      have ze1 := hR.frame.other (t := 1) (by kernel_rfl) rfl
      rw [if_pos (by rfl)]
      go_simp
      exact hK (.pointer (some ⟨gs, 2, none⟩)) _ (hI.next hR (by kernel_rfl) (Mod.refl _ _) (PB.quiet hI.1 (Mod.refl _ _) (HGs.out D 0 zw1 zw1 (hI.1).g (Mod.refl _ _))) (upd_same V 0 _))
    · intro D V zw1 a hR hI K hK
      obtain ⟨hM1, hB1, hG1⟩ := hI.1
      have zd0 := hR.pred 0 (by kernel_rfl)
      have zF0 : V 0 = .pointer (some ⟨gs, 2, none⟩) := hI.2 0 zd0 rfl
      have zf0 := zF0; clear zF0
      have ze3 := hR.frame.done (t := 3) (j := 0) (by kernel_rfl) hR.ok zd0
      have zx0 := hG1.cell 0; have zx1 := hG1.cell 1; have zx2 := hG1.cell 2; have zx3 := hG1.cell 3; have zx4 := hG1.cell 4; have zx5 := hG1.cell 5; have zx6 := hG1.cell 6
      simp at zx0 zx1 zx2 zx3 zx4 zx5 zx6
      rw [if_pos (by rfl)]
      go_simp
      exact hK (.int .i64 kind) _ (hI.next hR (by kernel_rfl) (Mod.refl _ _) (PB.quiet hI.1 (Mod.refl _ _) (HGs.out D 1 zw1 zw1 (hI.1).g (Mod.refl _ _))) (upd_same V 1 _))
    · intro D V zw1 a hR hI K hK
      obtain ⟨hM1, hB1, hG1⟩ := hI.1
      have zd1 := hR.pred 1 (by kernel_rfl)
      have zF1 : V 1 = .int .i64 kind := hI.2 1 zd1 rfl
      have zf1 := zF1; clear zF1
      have ze4 := hR.frame.done (t := 4) (j := 1) (by kernel_rfl) hR.ok zd1
      rw [if_pos (by rfl)]
      go_simp
      refine (HKW.out _).mono ?_
      rintro e zw2 ⟨rfl, rfl⟩
      have hm2 : Pure zw1 zw1 := Mod.refl _ _
      exact hK (.string z0) _ (hI.next hR (by kernel_rfl) hm2 (PB.quiet hI.1 hm2 (HGs.out D 2 _ _ (hI.1).g hm2)) (upd_same V 2 _))
    · intro D V zw1 a hR hI K hK
      obtain ⟨hM1, hB1, hG1⟩ := hI.1
      have zd2 := hR.pred 2 (by kernel_rfl)
      have zF2 : V 2 = .string z0 := hI.2 2 zd2 rfl
      have zf2 := zF2; clear zF2
      have ze5 := hR.frame.done (t := 5) (j := 2) (by kernel_rfl) hR.ok zd2
      have hb1 : ¬ (9223372036854775807 < z0.size + 1) := by omega
      rw [if_pos (by rfl)]
      go_simp
      exact hK (.string (z0 ++ (⟨#[10]⟩ : ByteArray))) _ (hI.next hR (by kernel_rfl) (Mod.refl _ _) (PB.quiet hI.1 (Mod.refl _ _) (HGs.out D 3 zw1 zw1 (hI.1).g (Mod.refl _ _))) (upd_same V 3 _))
    · intro D V zw1 a hR hI K hK
      obtain ⟨hM1, hB1, hG1⟩ := hI.1
      have ze1 := hR.frame.other (t := 1) (by kernel_rfl) rfl
      rw [if_pos (by rfl)]
      go_simp
      exact hK (.pointer (some ⟨gs, 6, none⟩)) _ (hI.next hR (by kernel_rfl) (Mod.refl _ _) (PB.quiet hI.1 (Mod.refl _ _) (HGs.out D 4 zw1 zw1 (hI.1).g (Mod.refl _ _))) (upd_same V 4 _))
    · intro D V zw1 a hR hI K hK
      obtain ⟨hM1, hB1, hG1⟩ := hI.1
      have zd4 := hR.pred 4 (by kernel_rfl)
      have zF4 : V 4 = .pointer (some ⟨gs, 6, none⟩) := hI.2 4 zd4 rfl
      have zf4 := zF4; clear zF4
      have ze7 := hR.frame.done (t := 7) (j := 4) (by kernel_rfl) hR.ok zd4
      have zx0 := hG1.cell 0; have zx1 := hG1.cell 1; have zx2 := hG1.cell 2; have zx3 := hG1.cell 3; have zx4 := hG1.cell 4; have zx5 := hG1.cell 5; have zx6 := hG1.cell 6
      simp at zx0 zx1 zx2 zx3 zx4 zx5 zx6
      rw [if_pos (by rfl)]
      go_simp
      exact hK (.string ⟨text.toArray⟩) _ (hI.next hR (by kernel_rfl) (Mod.refl _ _) (PB.quiet hI.1 (Mod.refl _ _) (HGs.out D 5 zw1 zw1 (hI.1).g (Mod.refl _ _))) (upd_same V 5 _))
    · intro D V zw1 a hR hI K hK
      obtain ⟨hM1, hB1, hG1⟩ := hI.1
      have zd3 := hR.pred 3 (by kernel_rfl)
      have zF3 : V 3 = .string (z0 ++ (⟨#[10]⟩ : ByteArray)) := hI.2 3 zd3 rfl
      have zf3 := zF3; clear zF3
      have zd5 := hR.pred 5 (by kernel_rfl)
      have zF5 : V 5 = .string ⟨text.toArray⟩ := hI.2 5 zd5 rfl
      have zf5 := zF5; clear zF5
      have ze6 := hR.frame.done (t := 6) (j := 3) (by kernel_rfl) hR.ok zd3
      have ze8 := hR.frame.done (t := 8) (j := 5) (by kernel_rfl) hR.ok zd5
      have hb1 : ¬ (9223372036854775807 < z0.size + 1 + text.length) := by have := HT5.out; omega
      rw [if_pos (by rfl)]
      go_simp
      exact hK (.string (z0 ++ (⟨#[10]⟩ : ByteArray) ++ (⟨text.toArray⟩ : ByteArray))) _ (hI.next hR (by kernel_rfl) (Mod.refl _ _) (PB.quiet hI.1 (Mod.refl _ _) (HGs.out D 6 zw1 zw1 (hI.1).g (Mod.refl _ _))) (upd_same V 6 _))
    · intro D V zw1 a hR hI K hK
      obtain ⟨hM1, hB1, hG1⟩ := hI.1
      have zd6 := hR.pred 6 (by kernel_rfl)
      have zF6 : V 6 = .string (z0 ++ (⟨#[10]⟩ : ByteArray) ++ (⟨text.toArray⟩ : ByteArray)) := hI.2 6 zd6 rfl
      have zf6 := zF6; clear zF6
      have ze9 := hR.frame.done (t := 9) (j := 6) (by kernel_rfl) hR.ok zd6
      rw [if_pos (by rfl)]
      go_simp
      refine (HDG.out _ hM1).mono ?_
      rintro e zw2 ⟨rfl, hm2⟩
      exact hK (.string ⟨dg.toArray⟩) _ (hI.next hR (by kernel_rfl) hm2 (PB.quiet hI.1 hm2 (HGs.out D 7 _ _ (hI.1).g hm2)) (upd_same V 7 _))
    · intro D V zw1 a hR hI K hK
      obtain ⟨hM1, hB1, hG1⟩ := hI.1
      have zd7 := hR.pred 7 (by kernel_rfl)
      have zF7 : V 7 = .string ⟨dg.toArray⟩ := hI.2 7 zd7 rfl
      have zf7 := zF7; clear zF7
      have ze10 := hR.frame.done (t := 10) (j := 7) (by kernel_rfl) hR.ok zd7
      rw [if_pos (by rfl)]
      go_simp
      exact hK (.string ⟨dg.toArray⟩) _ (hI.next hR (by kernel_rfl) (Mod.refl _ _) (PB.quiet hI.1 (Mod.refl _ _) (HGs.out D 8 zw1 zw1 (hI.1).g (Mod.refl _ _))) (upd_same V 8 _))
  · intro D V w1 hD hI
    obtain ⟨hM1, hB1, hG1⟩ := hI.1
    have hMx := hM1
    clear hM1
    have hBx := hB1
    clear hB1
    have hGx := hG1
    clear hG1
    have zF0 : V 0 = .pointer (some ⟨gs, 2, none⟩) := hI.2 0 (hD 0 (by decide)) rfl
    have zf0 := zF0; clear zF0
    have zF1 : V 1 = .int .i64 kind := hI.2 1 (hD 1 (by decide)) rfl
    have zf1 := zF1; clear zF1
    have zF2 : V 2 = .string z0 := hI.2 2 (hD 2 (by decide)) rfl
    have zf2 := zF2; clear zF2
    have zF3 : V 3 = .string (z0 ++ (⟨#[10]⟩ : ByteArray)) := hI.2 3 (hD 3 (by decide)) rfl
    have zf3 := zF3; clear zF3
    have zF4 : V 4 = .pointer (some ⟨gs, 6, none⟩) := hI.2 4 (hD 4 (by decide)) rfl
    have zf4 := zF4; clear zF4
    have zF5 : V 5 = .string ⟨text.toArray⟩ := hI.2 5 (hD 5 (by decide)) rfl
    have zf5 := zF5; clear zF5
    have zF6 : V 6 = .string (z0 ++ (⟨#[10]⟩ : ByteArray) ++ (⟨text.toArray⟩ : ByteArray)) := hI.2 6 (hD 6 (by decide)) rfl
    have zf6 := zF6; clear zF6
    have zF7 : V 7 = .string ⟨dg.toArray⟩ := hI.2 7 (hD 7 (by decide)) rfl
    have zf7 := zF7; clear zF7
    have zF8 : V 8 = .string ⟨dg.toArray⟩ := hI.2 8 (hD 8 (by decide)) rfl
    have zf8 := zF8; clear zF8
    clear hI hD HGs
    simp only [frAll, Act.put, List.setIfInBounds_toArray, List.set_cons_zero, List.set_cons_succ, Nat.zero_add, Nat.reduceAdd, zf0, zf1, zf2, zf3, zf4, zf5, zf6, zf7, zf8]
    clear zf0 zf1 zf2 zf3 zf4 zf5 zf6 zf7 zf8
    clear V D
    go_wp2_with fail
    go_ret
    exact StrPost1.of HS.out hMx

set_option maxRecDepth 100000 in
set_option maxHeartbeats 400000 in
theorem KindWord_calls (n : Int) (w : World) (h1 : 1 ≤ n) (h4 : n ≤ 4) : Calls Tryz.prog 84 #[.int .i64 n] w (fun e w' => e = .returned (.string ⟨(kwS n).toArray⟩) ∧ w = w') := by
  rcases (show n = 1 ∨ n = 2 ∨ n = 3 ∨ n = 4 by omega) with rfl | rfl | rfl | rfl
  · have hrun : (Instr.index 184 (.agg #[.string ⟨#[]⟩, .string ⟨#[109, 97, 105, 108]⟩, .string ⟨#[102, 105, 108, 101]⟩, .string ⟨#[98, 111, 120]⟩, .string ⟨#[110, 111, 116, 101]⟩]) (.int .i64 1)).run Tryz.prog w = .ok (.string ⟨#[109, 97, 105, 108]⟩) w := by kernel_rfl
    go_enter Tryz.func84, Tryz.ntmps84
    go_wp2_with fail
    go_ret
    exact ⟨rfl, rfl⟩
  · have hrun : (Instr.index 184 (.agg #[.string ⟨#[]⟩, .string ⟨#[109, 97, 105, 108]⟩, .string ⟨#[102, 105, 108, 101]⟩, .string ⟨#[98, 111, 120]⟩, .string ⟨#[110, 111, 116, 101]⟩]) (.int .i64 2)).run Tryz.prog w = .ok (.string ⟨#[102, 105, 108, 101]⟩) w := by kernel_rfl
    go_enter Tryz.func84, Tryz.ntmps84
    go_wp2_with fail
    go_ret
    exact ⟨rfl, rfl⟩
  · have hrun : (Instr.index 184 (.agg #[.string ⟨#[]⟩, .string ⟨#[109, 97, 105, 108]⟩, .string ⟨#[102, 105, 108, 101]⟩, .string ⟨#[98, 111, 120]⟩, .string ⟨#[110, 111, 116, 101]⟩]) (.int .i64 3)).run Tryz.prog w = .ok (.string ⟨#[98, 111, 120]⟩) w := by kernel_rfl
    go_enter Tryz.func84, Tryz.ntmps84
    go_wp2_with fail
    go_ret
    exact ⟨rfl, rfl⟩
  · have hrun : (Instr.index 184 (.agg #[.string ⟨#[]⟩, .string ⟨#[109, 97, 105, 108]⟩, .string ⟨#[102, 105, 108, 101]⟩, .string ⟨#[98, 111, 120]⟩, .string ⟨#[110, 111, 116, 101]⟩]) (.int .i64 4)).run Tryz.prog w = .ok (.string ⟨#[110, 111, 116, 101]⟩) w := by kernel_rfl
    go_enter Tryz.func84, Tryz.ntmps84
    go_wp2_with fail
    go_ret
    exact ⟨rfl, rfl⟩

set_option maxRecDepth 100000 in
set_option maxHeartbeats 2000000 in
theorem SumOf_calls (w : World) (x : Itm) (hz : ItB x) (h1 : 1 ≤ x.kind) (h4 : x.kind ≤ 4) : Calls Tryz.prog 37 #[itA x] w (StrPost1 w (sumS x)) := by
  obtain ⟨id, cust, kind, name, tm, par, text⟩ := x
  have hz5 : text.length ≤ 30000 := hz.2.2.2.2
  have HT5 := Lib.hid hz5
  have hkl := kwS_len kind
  have HS : Hid (sumS ⟨id, cust, kind, name, tm, par, text⟩ = digS (kwS kind ++ [10] ++ text)) := Lib.hid rfl
  have HKW := Lib.hid (fun W => KindWord_calls kind W h1 h4)
  have a1 := bytes_app (kwS kind) [10]
  have a2 := bytes_app (kwS kind ++ [10]) text
  generalize kwS kind = kw at *
  have hs1 : (⟨(kw ++ [10]).toArray⟩ : ByteArray).size ≤ 5 := by simp [ByteArray.size]; omega
  have hs0 : (⟨kw.toArray⟩ : ByteArray).size ≤ 4 := by simp [ByteArray.size]; omega
  have hs2 : (⟨(kw ++ [10] ++ text).toArray⟩ : ByteArray).size ≤ 40000 := by simp [ByteArray.size]; omega
  have ht : (⟨text.toArray⟩ : ByteArray).size ≤ 30000 := by simpa [ByteArray.size] using hz5
  have HDG := Lib.hid (fun W => DigestOf_calls W ⟨(kw ++ [10] ++ text).toArray⟩ (by omega))
  have hdl : (⟨(kw ++ [10] ++ text).toArray⟩ : ByteArray).data.toList = kw ++ [10] ++ text := rfl
  rw [hdl] at HDG
  have HB0 := Lib.hid (Blk.new w 71 (itQ ⟨id, cust, kind, name, tm, par, text⟩))
  have Hm0 := Lib.hid (pure_alloc w (.cells (itQ ⟨id, cust, kind, name, tm, par, text⟩) 71))
  unfold itQ at HB0 Hm0
  simp only at HB0 Hm0
  clear hz hz5 hkl hdl h1 h4
  generalize digS (kw ++ [10] ++ text) = dg at *
  rw [← a2, ← a1] at HDG
  have hs01 : ((⟨kw.toArray⟩ : ByteArray) ++ ⟨#[10]⟩).size ≤ 5 := by
    have := congrArg ByteArray.size a1
    rw [show (⟨#[10]⟩ : ByteArray) = ⟨[10].toArray⟩ from rfl, this]
    exact hs1
  clear a1 a2 hs1 hs2
  obtain ⟨z0, h_z0⟩ : ∃ z0 : ByteArray, ⟨kw.toArray⟩ = z0 := ⟨_, rfl⟩
  rw [h_z0] at hs0 HKW hs01 HDG
  clear h_z0
  have HS01 := Lib.hid hs01
  unfold itA
  simp only
  go_enter Tryz.func37, Tryz.ntmps37
  go_wp2_with fail
  generalize (w.alloc (.cells #[.string ⟨id.toArray⟩, .string ⟨cust.toArray⟩, .int .i64 kind, .string ⟨name.toArray⟩, .int .i64 tm, .string ⟨par.toArray⟩, .string ⟨text.toArray⟩] 71)) = W at *
  generalize w.heap.size = gs at *
  have HGs := Lib.hid (show ∀ (D : Nat → Bool) (zzi : Nat) (zq zq' : World), (fun _ zq => (fun Z => Blk Z gs 71 #[.string ⟨id.toArray⟩, .string ⟨cust.toArray⟩, .int .i64 kind, .string ⟨name.toArray⟩, .int .i64 tm, .string ⟨par.toArray⟩, .string ⟨text.toArray⟩]) zq) D zq → Mod (fun _ => False) zq zq' → (fun _ zq => (fun Z => Blk Z gs 71 #[.string ⟨id.toArray⟩, .string ⟨cust.toArray⟩, .int .i64 kind, .string ⟨name.toArray⟩, .int .i64 tm, .string ⟨par.toArray⟩, .string ⟨text.toArray⟩]) zq) (upd D zzi true) zq' from by intro D zzi zq zq' h hm; (exact h.modp hm))
  refine wp_region_inv (by kernel_rfl) (by kernel_rfl) (InvF (R := Mod (fun _ => False)) [.is (.pointer (some ⟨gs, 2, none⟩)),
      .is (.int .i64 kind),
      .is (.string z0),
      .is (.string (z0 ++ (⟨#[10]⟩ : ByteArray))),
      .is (.pointer (some ⟨gs, 6, none⟩)),
      .is (.string ⟨text.toArray⟩),
      .is (.string (z0 ++ (⟨#[10]⟩ : ByteArray) ++ (⟨text.toArray⟩ : ByteArray))),
      .is (.string ⟨dg.toArray⟩),
      .is (.string ⟨dg.toArray⟩)]
      (PB w (fun _ => False) W.heap.size (fun _ zq => (fun Z => Blk Z gs 71 #[.string ⟨id.toArray⟩, .string ⟨cust.toArray⟩, .int .i64 kind, .string ⟨name.toArray⟩, .int .i64 tm, .string ⟨par.toArray⟩, .string ⟨text.toArray⟩]) zq))) (InvF.start (PB.start Hm0.out (Nat.le_refl _) (HB0.out.drew))) ?_ ?_
  · refine .cons ?_ (.cons ?_ (.cons ?_ (.cons ?_ (.cons ?_ (.cons ?_ (.cons ?_ (.cons ?_ (.cons ?_ .nil))))))))
    · intro D V zw1 a hR hI K hK
      obtain ⟨hM1, hB1, hG1⟩ := hI.1
      have ze1 := hR.frame.other (t := 1) (by kernel_rfl) rfl
      rw [if_pos (by rfl)]
      go_simp
      exact hK (.pointer (some ⟨gs, 2, none⟩)) _ (hI.next hR (by kernel_rfl) (Mod.refl _ _) (PB.quiet hI.1 (Mod.refl _ _) (HGs.out D 0 zw1 zw1 (hI.1).g (Mod.refl _ _))) (upd_same V 0 _))
    · intro D V zw1 a hR hI K hK
      obtain ⟨hM1, hB1, hG1⟩ := hI.1
      have zd0 := hR.pred 0 (by kernel_rfl)
      have zF0 : V 0 = .pointer (some ⟨gs, 2, none⟩) := hI.2 0 zd0 rfl
      have zf0 := zF0; clear zF0
      have ze3 := hR.frame.done (t := 3) (j := 0) (by kernel_rfl) hR.ok zd0
      have zx0 := hG1.cell 0; have zx1 := hG1.cell 1; have zx2 := hG1.cell 2; have zx3 := hG1.cell 3; have zx4 := hG1.cell 4; have zx5 := hG1.cell 5; have zx6 := hG1.cell 6
      simp at zx0 zx1 zx2 zx3 zx4 zx5 zx6
      rw [if_pos (by rfl)]
      go_simp
      exact hK (.int .i64 kind) _ (hI.next hR (by kernel_rfl) (Mod.refl _ _) (PB.quiet hI.1 (Mod.refl _ _) (HGs.out D 1 zw1 zw1 (hI.1).g (Mod.refl _ _))) (upd_same V 1 _))
    · intro D V zw1 a hR hI K hK
      obtain ⟨hM1, hB1, hG1⟩ := hI.1
      have zd1 := hR.pred 1 (by kernel_rfl)
      have zF1 : V 1 = .int .i64 kind := hI.2 1 zd1 rfl
      have zf1 := zF1; clear zF1
      have ze4 := hR.frame.done (t := 4) (j := 1) (by kernel_rfl) hR.ok zd1
      rw [if_pos (by rfl)]
      go_simp
      refine (HKW.out _).mono ?_
      rintro e zw2 ⟨rfl, rfl⟩
      have hm2 : Pure zw1 zw1 := Mod.refl _ _
      exact hK (.string z0) _ (hI.next hR (by kernel_rfl) hm2 (PB.quiet hI.1 hm2 (HGs.out D 2 _ _ (hI.1).g hm2)) (upd_same V 2 _))
    · intro D V zw1 a hR hI K hK
      obtain ⟨hM1, hB1, hG1⟩ := hI.1
      have zd2 := hR.pred 2 (by kernel_rfl)
      have zF2 : V 2 = .string z0 := hI.2 2 zd2 rfl
      have zf2 := zF2; clear zF2
      have ze5 := hR.frame.done (t := 5) (j := 2) (by kernel_rfl) hR.ok zd2
      have hb1 : ¬ (9223372036854775807 < z0.size + 1) := by omega
      rw [if_pos (by rfl)]
      go_simp
      exact hK (.string (z0 ++ (⟨#[10]⟩ : ByteArray))) _ (hI.next hR (by kernel_rfl) (Mod.refl _ _) (PB.quiet hI.1 (Mod.refl _ _) (HGs.out D 3 zw1 zw1 (hI.1).g (Mod.refl _ _))) (upd_same V 3 _))
    · intro D V zw1 a hR hI K hK
      obtain ⟨hM1, hB1, hG1⟩ := hI.1
      have ze1 := hR.frame.other (t := 1) (by kernel_rfl) rfl
      rw [if_pos (by rfl)]
      go_simp
      exact hK (.pointer (some ⟨gs, 6, none⟩)) _ (hI.next hR (by kernel_rfl) (Mod.refl _ _) (PB.quiet hI.1 (Mod.refl _ _) (HGs.out D 4 zw1 zw1 (hI.1).g (Mod.refl _ _))) (upd_same V 4 _))
    · intro D V zw1 a hR hI K hK
      obtain ⟨hM1, hB1, hG1⟩ := hI.1
      have zd4 := hR.pred 4 (by kernel_rfl)
      have zF4 : V 4 = .pointer (some ⟨gs, 6, none⟩) := hI.2 4 zd4 rfl
      have zf4 := zF4; clear zF4
      have ze7 := hR.frame.done (t := 7) (j := 4) (by kernel_rfl) hR.ok zd4
      have zx0 := hG1.cell 0; have zx1 := hG1.cell 1; have zx2 := hG1.cell 2; have zx3 := hG1.cell 3; have zx4 := hG1.cell 4; have zx5 := hG1.cell 5; have zx6 := hG1.cell 6
      simp at zx0 zx1 zx2 zx3 zx4 zx5 zx6
      rw [if_pos (by rfl)]
      go_simp
      exact hK (.string ⟨text.toArray⟩) _ (hI.next hR (by kernel_rfl) (Mod.refl _ _) (PB.quiet hI.1 (Mod.refl _ _) (HGs.out D 5 zw1 zw1 (hI.1).g (Mod.refl _ _))) (upd_same V 5 _))
    · intro D V zw1 a hR hI K hK
      obtain ⟨hM1, hB1, hG1⟩ := hI.1
      have zd3 := hR.pred 3 (by kernel_rfl)
      have zF3 : V 3 = .string (z0 ++ (⟨#[10]⟩ : ByteArray)) := hI.2 3 zd3 rfl
      have zf3 := zF3; clear zF3
      have zd5 := hR.pred 5 (by kernel_rfl)
      have zF5 : V 5 = .string ⟨text.toArray⟩ := hI.2 5 zd5 rfl
      have zf5 := zF5; clear zF5
      have ze6 := hR.frame.done (t := 6) (j := 3) (by kernel_rfl) hR.ok zd3
      have ze8 := hR.frame.done (t := 8) (j := 5) (by kernel_rfl) hR.ok zd5
      have hb1 : ¬ (9223372036854775807 < z0.size + 1 + text.length) := by have := HT5.out; omega
      rw [if_pos (by rfl)]
      go_simp
      exact hK (.string (z0 ++ (⟨#[10]⟩ : ByteArray) ++ (⟨text.toArray⟩ : ByteArray))) _ (hI.next hR (by kernel_rfl) (Mod.refl _ _) (PB.quiet hI.1 (Mod.refl _ _) (HGs.out D 6 zw1 zw1 (hI.1).g (Mod.refl _ _))) (upd_same V 6 _))
    · intro D V zw1 a hR hI K hK
      obtain ⟨hM1, hB1, hG1⟩ := hI.1
      have zd6 := hR.pred 6 (by kernel_rfl)
      have zF6 : V 6 = .string (z0 ++ (⟨#[10]⟩ : ByteArray) ++ (⟨text.toArray⟩ : ByteArray)) := hI.2 6 zd6 rfl
      have zf6 := zF6; clear zF6
      have ze9 := hR.frame.done (t := 9) (j := 6) (by kernel_rfl) hR.ok zd6
      rw [if_pos (by rfl)]
      go_simp
      refine (HDG.out _).mono ?_
      rintro e zw2 ⟨rfl, hm2⟩
      exact hK (.string ⟨dg.toArray⟩) _ (hI.next hR (by kernel_rfl) hm2 (PB.quiet hI.1 hm2 (HGs.out D 7 _ _ (hI.1).g hm2)) (upd_same V 7 _))
    · intro D V zw1 a hR hI K hK
      obtain ⟨hM1, hB1, hG1⟩ := hI.1
      have zd7 := hR.pred 7 (by kernel_rfl)
      have zF7 : V 7 = .string ⟨dg.toArray⟩ := hI.2 7 zd7 rfl
      have zf7 := zF7; clear zF7
      have ze10 := hR.frame.done (t := 10) (j := 7) (by kernel_rfl) hR.ok zd7
      rw [if_pos (by rfl)]
      go_simp
      exact hK (.string ⟨dg.toArray⟩) _ (hI.next hR (by kernel_rfl) (Mod.refl _ _) (PB.quiet hI.1 (Mod.refl _ _) (HGs.out D 8 zw1 zw1 (hI.1).g (Mod.refl _ _))) (upd_same V 8 _))
  · intro D V w1 hD hI
    obtain ⟨hM1, hB1, hG1⟩ := hI.1
    have hMx := hM1
    clear hM1
    have hBx := hB1
    clear hB1
    have hGx := hG1
    clear hG1
    have zF0 : V 0 = .pointer (some ⟨gs, 2, none⟩) := hI.2 0 (hD 0 (by decide)) rfl
    have zf0 := zF0; clear zF0
    have zF1 : V 1 = .int .i64 kind := hI.2 1 (hD 1 (by decide)) rfl
    have zf1 := zF1; clear zF1
    have zF2 : V 2 = .string z0 := hI.2 2 (hD 2 (by decide)) rfl
    have zf2 := zF2; clear zF2
    have zF3 : V 3 = .string (z0 ++ (⟨#[10]⟩ : ByteArray)) := hI.2 3 (hD 3 (by decide)) rfl
    have zf3 := zF3; clear zF3
    have zF4 : V 4 = .pointer (some ⟨gs, 6, none⟩) := hI.2 4 (hD 4 (by decide)) rfl
    have zf4 := zF4; clear zF4
    have zF5 : V 5 = .string ⟨text.toArray⟩ := hI.2 5 (hD 5 (by decide)) rfl
    have zf5 := zF5; clear zF5
    have zF6 : V 6 = .string (z0 ++ (⟨#[10]⟩ : ByteArray) ++ (⟨text.toArray⟩ : ByteArray)) := hI.2 6 (hD 6 (by decide)) rfl
    have zf6 := zF6; clear zF6
    have zF7 : V 7 = .string ⟨dg.toArray⟩ := hI.2 7 (hD 7 (by decide)) rfl
    have zf7 := zF7; clear zF7
    have zF8 : V 8 = .string ⟨dg.toArray⟩ := hI.2 8 (hD 8 (by decide)) rfl
    have zf8 := zF8; clear zF8
    clear hI hD HGs
    simp only [frAll, Act.put, List.setIfInBounds_toArray, List.set_cons_zero, List.set_cons_succ, Nat.zero_add, Nat.reduceAdd, zf0, zf1, zf2, zf3, zf4, zf5, zf6, zf7, zf8]
    clear zf0 zf1 zf2 zf3 zf4 zf5 zf6 zf7 zf8
    clear V D
    go_wp2_with fail
    go_ret
    exact StrPost1.of HS.out hMx

end Go.Proofs.YtofkkenmkflmiaaGreatDoor
