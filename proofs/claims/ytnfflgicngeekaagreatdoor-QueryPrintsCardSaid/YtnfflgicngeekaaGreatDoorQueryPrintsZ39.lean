/- Texts of the proof of QueryPrints, put together: RunE, RunG, QrP, QrN, QrQ, QrR, QrS, QrT, QcpM, CpyA, QrF, CpyB, QspM. -/
import Derived.Test.YtnfflgicngeekaaGreatDoorQueryPrintsZ2
import Derived.Test.YtnfflgicngeekaaGreatDoorQueryPrintsZ12
import Derived.Test.YtnfflgicngeekaaGreatDoorQueryPrintsZ24
import Derived.Test.YtnfflgicngeekaaGreatDoorQueryPrintsZ37
import Derived.Test.YtnfflgicngeekaaGreatDoorQueryPrintsZ38
import Derived.Deep.RegionLaw
import Derived.Deep.QuietTactic
import Derived.BigQuiet
import Derived.StillTailTactics
import Derived.Shelf.SlicesE.Clone
import Derived.Deep.DeepCutAuto
/- both: the places of one or the other (package query). -/
namespace Go.Proofs.YtnfflgicngeekaaGreatDoor
set_option linter.unusedVariables false
set_option linter.unusedSimpArgs false
open Go.RowKit
theorem own_baseI {w : World} {b1 b2 n s : Nat} {e : TypeId} {v : Value} {xs : List Value} (h : w.ownsRow b1 e s v n xs) (hb : b2 ≤ b1) : w.ownsRow b2 e s v n xs := by
 refine ⟨h.1, ?_⟩
 rcases h.2 with h | ⟨g, cap, cur, a, b, c⟩
 ·exact .inl h
 ·exact .inr ⟨g, cap, cur, a, by omega, c⟩
set_option maxRecDepth 100000 in
set_option maxHeartbeats 4000000 in
theorem both_calls (w : World) (va vb : Value) (W : Nat) (F G : Nat → Nat → Bool) (ha : SlI w va (rowsQ W F)) (hb : SlI w vb (rowsQ W G)) (hW : W ≤ 1000) : Calls Tryz.prog 209 #[va, vb] w (RnP w W (fun i j => F i j || G i j)) := by
 obtain ⟨Aa, ca, rfl, hca, hca2⟩ := ha.form
 obtain ⟨Ab, cb, rfl, hcb, hcb2⟩ := hb.form
 have HA := Lib.hid ha
 have HB := Lib.hid hb
 have hmk := run_make_one (P := Tryz.prog) 185 22 (.slice none 0 0) 24 Tryz.underlying185 info_intsQ rfl .i64 .i64 W (W : Int) rfl (by omega) (by omega) (Array.replicate W (Value.slice none 0 0)) (by simp)
 simp only [rowsQ_len] at *
 clear ha hb
 have HO := Lib.hid (OutB.new w W)
 have HM := Lib.hid (pure_alloc w (.cells (List.replicate W (Value.slice none 0 0)).toArray 22))
 rw [List.toArray_replicate] at HO HM
 go_enter Tryz.func209, Tryz.ntmps209
 go_wp2_with fail
 clear hmk
 have hgw := Nat.le_refl w.heap.size
 generalize (w.alloc (.cells (Array.replicate W (Value.slice none 0 0)) 22)) = w1 at *
 generalize hg : w.heap.size = g at *
 go_loopg [13] W (fun gk i wr => ∃ (k : Nat) (us : List Value), W - k = gk ∧ k ≤ W ∧ i = .int .i64 (k : Int) ∧ us.length = k ∧ OutB wr g us W ∧ RowsU wr us ((rowsQ W fun i j => F i j || G i j).take k) ∧ Pure w wr)
 case atStart => exact ⟨0, [], by omega, by omega, rfl, rfl, HO.out, RowsU.nil, HM.out⟩
 case round =>
  clear HO HM
  obtain ⟨k, us, rfl, hk, rfl, hul, hO, hR, hm⟩ := hrel
  by_cases hlt : k < W
  ·obtain ⟨ga, oa, A1, c1, rfl, qa, sa, na⟩ := (HA.out.pure hm).at (i := k) (by rw [rowsQ_len]; exact hlt)
   obtain ⟨gb, ob, A2, c2, rfl, qb, sb, nb⟩ := (HB.out.pure hm).at (i := k) (by rw [rowsQ_len]; exact hlt)
   rw [rowsQ_at] at qa qb sa sb na nb
   have HROW := Lib.hid (bothRow (W := W) (f := F k) (g := G k))
   have HLA := rowQ_len W (F k)
   have HLB := rowQ_len W (G k)
   have HTK : Hid ((rowsQ W fun i j => F i j || G i j).take (k + 1) = (rowsQ W fun i j => F i j || G i j).take k ++ [rowQ W fun j => F k j || G k j]) := Lib.hid (by
    rw [List.take_succ_eq_append_getElem (by rw [rowsQ_len]; exact hlt), rowsQ_at])
   have HSA := Lib.hid (And.intro sa na)
   have HSB := Lib.hid (And.intro sb nb)
   have HO := Lib.hid hO
   have HR := Lib.hid hR
   have HM := Lib.hid hm
   have HU := Lib.hid hul
   clear sa na sb nb hO hR hm hul
   generalize rowQ W (F k) = la at *
   generalize rowQ W (G k) = lb at *
   go_wp2_with fail
   have HGs := Lib.hid (show ∀ (D : Nat → Bool) (zzi : Nat) (zq zq' : World), (fun _ zq => (fun Z => Z.cell? ⟨ga, oa + k, none⟩ = some (.slice A1 la.length c1) ∧ Z.cell? ⟨gb, ob + k, none⟩ = some (.slice A2 lb.length c2) ∧ (Sl Z 3 1 (.slice A1 la.length c1) (nvQ la) ∧ NilOkI (.slice A1 la.length c1)) ∧ (Sl Z 3 1 (.slice A2 lb.length c2) (nvQ lb) ∧ NilOkI (.slice A2 lb.length c2))) zq) D zq → Mod (fun _ => False) zq zq' → (fun _ zq => (fun Z => Z.cell? ⟨ga, oa + k, none⟩ = some (.slice A1 la.length c1) ∧ Z.cell? ⟨gb, ob + k, none⟩ = some (.slice A2 lb.length c2) ∧ (Sl Z 3 1 (.slice A1 la.length c1) (nvQ la) ∧ NilOkI (.slice A1 la.length c1)) ∧ (Sl Z 3 1 (.slice A2 lb.length c2) (nvQ lb) ∧ NilOkI (.slice A2 lb.length c2))) zq) (upd D zzi true) zq' from by intro D zzi zq zq' h hm; (exact ⟨keepp h.1 hm, keepp h.2.1 hm, ⟨h.2.2.1.1.pure hm, h.2.2.1.2⟩, ⟨h.2.2.2.1.pure hm, h.2.2.2.2⟩⟩))
   refine wp_region_inv (by kernel_rfl) (by kernel_rfl) (InvF (R := Mod (fun _ => False)) [.is (.slice (some ⟨ga, oa, none⟩) W ca),
     .is (.int .i64 (k : Int)),
     .is (.pointer (some ⟨ga, oa + k, none⟩)),
     .is (.slice A1 la.length c1),
     .is (.slice (some ⟨gb, ob, none⟩) W cb),
     .is (.int .i64 (k : Int)),
     .is (.pointer (some ⟨gb, ob + k, none⟩)),
     .is (.slice A2 lb.length c2),
     ⟨fun zv zw => ∃ (g_8 : Nat), zv = .slice (some ⟨g_8, 0, none⟩) 2 2 ∧ wr.heap.size ≤ g_8 ∧ Blk zw g_8 22 #[.slice A1 la.length c1, .slice A2 lb.length c2], (by rintro zv zw zx ⟨g_8, rfl, c0, q0⟩ hm; exact ⟨g_8, rfl, c0, (q0.modp hm)⟩), none, some 9⟩,
     ⟨fun zv zw => ∃ (v_9 : Value) (n_9 : Nat), zv = v_9 ∧ zw.ownsRow wr.heap.size 3 1 v_9 n_9 (nvQ [la, lb].flatten), (by rintro zv zw zx ⟨v_9, n_9, hze, q0⟩ hm; exact ⟨v_9, n_9, hze, (own_pure q0 hm)⟩), none, none⟩,
     ⟨fun zv zw => ∃ (v_10 : Value) (n_10 : Nat), zv = v_10 ∧ zw.ownsRow wr.heap.size 3 1 v_10 n_10 (nvQ [la, lb].flatten), (by rintro zv zw zx ⟨v_10, n_10, hze, q0⟩ hm; exact ⟨v_10, n_10, hze, (own_pure q0 hm)⟩), none, none⟩]
     (PB wr (fun _ => False) wr.heap.size (fun _ zq => (fun Z => Z.cell? ⟨ga, oa + k, none⟩ = some (.slice A1 la.length c1) ∧ Z.cell? ⟨gb, ob + k, none⟩ = some (.slice A2 lb.length c2) ∧ (Sl Z 3 1 (.slice A1 la.length c1) (nvQ la) ∧ NilOkI (.slice A1 la.length c1)) ∧ (Sl Z 3 1 (.slice A2 lb.length c2) (nvQ lb) ∧ NilOkI (.slice A2 lb.length c2))) zq))) (InvF.start (PB.start (Mod.refl _ _) (Nat.le_refl _) (⟨qa, qb, HSA.out, HSB.out⟩))) ?_ ?_
   ·refine .cons ?_ (.cons ?_ (.cons ?_ (.cons ?_ (.cons ?_ (.cons ?_ (.cons ?_ (.cons ?_ (.cons ?_ (.cons ?_ (.cons ?_ .nil))))))))))
    ·intro D V zw1 a hR hI K hK
     obtain ⟨hM1, hB1, hG1⟩ := hI.1
     obtain ⟨hG1a, hG1b, hG1c, hG1d⟩ := hG1
     have ze0 := hR.frame.other (t := 0) (by kernel_rfl) rfl
     rw [if_pos (by rfl)]
     go_simp
     exact hK (.slice (some ⟨ga, oa, none⟩) W ca) _ (hI.next hR (by kernel_rfl) (Mod.refl _ _) (PB.quiet hI.1 (Mod.refl _ _) (HGs.out D 0 zw1 zw1 (hI.1).g (Mod.refl _ _))) (upd_same V 0 _))
    ·intro D V zw1 a hR hI K hK
     obtain ⟨hM1, hB1, hG1⟩ := hI.1
     obtain ⟨hG1a, hG1b, hG1c, hG1d⟩ := hG1
     have ze6 := hR.frame.other (t := 6) (by kernel_rfl) rfl
     rw [if_pos (by rfl)]
     go_simp
     exact hK (.int .i64 (k : Int)) _ (hI.next hR (by kernel_rfl) (Mod.refl _ _) (PB.quiet hI.1 (Mod.refl _ _) (HGs.out D 1 zw1 zw1 (hI.1).g (Mod.refl _ _))) (upd_same V 1 _))
    ·intro D V zw1 a hR hI K hK
     obtain ⟨hM1, hB1, hG1⟩ := hI.1
     obtain ⟨hG1a, hG1b, hG1c, hG1d⟩ := hG1
     have zd0 := hR.pred 0 (by kernel_rfl)
     have zF0 : V 0 = .slice (some ⟨ga, oa, none⟩) W ca := hI.2 0 zd0 rfl
     have zf0 := zF0; clear zF0
     have zd1 := hR.pred 1 (by kernel_rfl)
     have zF1 : V 1 = .int .i64 (k : Int) := hI.2 1 zd1 rfl
     have zf1 := zF1; clear zF1
     have ze16 := hR.frame.done (t := 16) (j := 0) (by kernel_rfl) hR.ok zd0
     have ze17 := hR.frame.done (t := 17) (j := 1) (by kernel_rfl) hR.ok zd1
     rw [if_pos (by rfl)]
     go_simp
     exact hK (.pointer (some ⟨ga, oa + k, none⟩)) _ (hI.next hR (by kernel_rfl) (Mod.refl _ _) (PB.quiet hI.1 (Mod.refl _ _) (HGs.out D 2 zw1 zw1 (hI.1).g (Mod.refl _ _))) (upd_same V 2 _))
    ·intro D V zw1 a hR hI K hK
     obtain ⟨hM1, hB1, hG1⟩ := hI.1
     obtain ⟨hG1a, hG1b, hG1c, hG1d⟩ := hG1
     have zd2 := hR.pred 2 (by kernel_rfl)
     have zF2 : V 2 = .pointer (some ⟨ga, oa + k, none⟩) := hI.2 2 zd2 rfl
     have zf2 := zF2; clear zF2
     have ze18 := hR.frame.done (t := 18) (j := 2) (by kernel_rfl) hR.ok zd2
     rw [if_pos (by rfl)]
     go_simp
     exact hK (.slice A1 la.length c1) _ (hI.next hR (by kernel_rfl) (Mod.refl _ _) (PB.quiet hI.1 (Mod.refl _ _) (HGs.out D 3 zw1 zw1 (hI.1).g (Mod.refl _ _))) (upd_same V 3 _))
    ·intro D V zw1 a hR hI K hK
     obtain ⟨hM1, hB1, hG1⟩ := hI.1
     obtain ⟨hG1a, hG1b, hG1c, hG1d⟩ := hG1
     have ze1 := hR.frame.other (t := 1) (by kernel_rfl) rfl
     rw [if_pos (by rfl)]
     go_simp
     exact hK (.slice (some ⟨gb, ob, none⟩) W cb) _ (hI.next hR (by kernel_rfl) (Mod.refl _ _) (PB.quiet hI.1 (Mod.refl _ _) (HGs.out D 4 zw1 zw1 (hI.1).g (Mod.refl _ _))) (upd_same V 4 _))
    ·intro D V zw1 a hR hI K hK
     obtain ⟨hM1, hB1, hG1⟩ := hI.1
     obtain ⟨hG1a, hG1b, hG1c, hG1d⟩ := hG1
     have ze6 := hR.frame.other (t := 6) (by kernel_rfl) rfl
     rw [if_pos (by rfl)]
     go_simp
     exact hK (.int .i64 (k : Int)) _ (hI.next hR (by kernel_rfl) (Mod.refl _ _) (PB.quiet hI.1 (Mod.refl _ _) (HGs.out D 5 zw1 zw1 (hI.1).g (Mod.refl _ _))) (upd_same V 5 _))
    ·intro D V zw1 a hR hI K hK
     obtain ⟨hM1, hB1, hG1⟩ := hI.1
     obtain ⟨hG1a, hG1b, hG1c, hG1d⟩ := hG1
     have zd4 := hR.pred 4 (by kernel_rfl)
     have zF4 : V 4 = .slice (some ⟨gb, ob, none⟩) W cb := hI.2 4 zd4 rfl
     have zf4 := zF4; clear zF4
     have zd5 := hR.pred 5 (by kernel_rfl)
     have zF5 : V 5 = .int .i64 (k : Int) := hI.2 5 zd5 rfl
     have zf5 := zF5; clear zF5
     have ze20 := hR.frame.done (t := 20) (j := 4) (by kernel_rfl) hR.ok zd4
     have ze21 := hR.frame.done (t := 21) (j := 5) (by kernel_rfl) hR.ok zd5
     rw [if_pos (by rfl)]
     go_simp
     exact hK (.pointer (some ⟨gb, ob + k, none⟩)) _ (hI.next hR (by kernel_rfl) (Mod.refl _ _) (PB.quiet hI.1 (Mod.refl _ _) (HGs.out D 6 zw1 zw1 (hI.1).g (Mod.refl _ _))) (upd_same V 6 _))
    ·intro D V zw1 a hR hI K hK
     obtain ⟨hM1, hB1, hG1⟩ := hI.1
     obtain ⟨hG1a, hG1b, hG1c, hG1d⟩ := hG1
     have zd6 := hR.pred 6 (by kernel_rfl)
     have zF6 : V 6 = .pointer (some ⟨gb, ob + k, none⟩) := hI.2 6 zd6 rfl
     have zf6 := zF6; clear zF6
     have ze22 := hR.frame.done (t := 22) (j := 6) (by kernel_rfl) hR.ok zd6
     rw [if_pos (by rfl)]
     go_simp
     exact hK (.slice A2 lb.length c2) _ (hI.next hR (by kernel_rfl) (Mod.refl _ _) (PB.quiet hI.1 (Mod.refl _ _) (HGs.out D 7 zw1 zw1 (hI.1).g (Mod.refl _ _))) (upd_same V 7 _))
    ·intro D V zw1 a hR hI K hK
     obtain ⟨hM1, hB1, hG1⟩ := hI.1
     obtain ⟨hG1a, hG1b, hG1c, hG1d⟩ := hG1
     have zd3 := hR.pred 3 (by kernel_rfl)
     have zF3 : V 3 = .slice A1 la.length c1 := hI.2 3 zd3 rfl
     have zf3 := zF3; clear zF3
     have zd7 := hR.pred 7 (by kernel_rfl)
     have zF7 : V 7 = .slice A2 lb.length c2 := hI.2 7 zd7 rfl
     have zf7 := zF7; clear zF7
     have ze19 := hR.frame.done (t := 19) (j := 3) (by kernel_rfl) hR.ok zd3
     have ze23 := hR.frame.done (t := 23) (j := 7) (by kernel_rfl) hR.ok zd7
     rw [if_pos (by rfl)]
     go_simp
     exact hK (_) _ (hI.next hR (by kernel_rfl) ((Mod.refl _ _).alloc _) (PB.quiet hI.1 (pure_alloc _ _) (HGs.out D 8 _ _ (hI.1).g ((Mod.refl _ _).alloc _))) (⟨_, upd_same V 8 _, (by omega), (Blk.new _ _ _)⟩))
    ·intro D V zw1 a hR hI K hK
     obtain ⟨hM1, hB1, hG1⟩ := hI.1
     obtain ⟨hG1a, hG1b, hG1c, hG1d⟩ := hG1
     have zd8 := hR.pred 8 (by kernel_rfl)
     have zF8 : ∃ (g_8 : Nat), V 8 = .slice (some ⟨g_8, 0, none⟩) 2 2 ∧ wr.heap.size ≤ g_8 ∧ Blk zw1 g_8 22 #[.slice A1 la.length c1, .slice A2 lb.length c2] := hI.2 8 zd8 (by show (!D 9) = true; rw [hR.not]; rfl)
     obtain ⟨g_8, zf8, c8_0, b8_0⟩ := zF8
     have ze24 := hR.frame.done (t := 24) (j := 8) (by kernel_rfl) hR.ok zd8
     rw [if_pos (by rfl)]
     go_simp
     refine (concatI_calls zw1 _ [la, lb] (SlI.two b8_0 hG1c hG1d) (by simp [lensI]; omega)).mono ?_
     rintro e zw2 ⟨v_0, n_0, rfl, hq, hm2⟩
     exact hK (v_0) _ (hI.next hR (by kernel_rfl) hm2 (PB.quiet hI.1 hm2 (HGs.out D 9 _ _ (hI.1).g hm2)) (⟨v_0, n_0, upd_same V 9 _, (own_baseI hq (by omega))⟩))
    ·intro D V zw1 a hR hI K hK
     obtain ⟨hM1, hB1, hG1⟩ := hI.1
     obtain ⟨hG1a, hG1b, hG1c, hG1d⟩ := hG1
     have zd9 := hR.pred 9 (by kernel_rfl)
     have zF9 : ∃ (v_9 : Value) (n_9 : Nat), V 9 = v_9 ∧ zw1.ownsRow wr.heap.size 3 1 v_9 n_9 (nvQ [la, lb].flatten) := hI.2 9 zd9 rfl
     obtain ⟨v_9, n_9, zf9, b9_0⟩ := zF9
     have ze25 := hR.frame.done (t := 25) (j := 9) (by kernel_rfl) hR.ok zd9
     rw [if_pos (by rfl)]
     go_simp
     exact hK (v_9) _ (hI.next hR (by kernel_rfl) (Mod.refl _ _) (PB.quiet hI.1 (Mod.refl _ _) (HGs.out D 10 zw1 zw1 (hI.1).g (Mod.refl _ _))) (⟨v_9, n_9, upd_same V 10 _, b9_0⟩))
   ·intro D V w2 hD hI
    obtain ⟨hM1, hB1, hG1⟩ := hI.1
    have hMx := hM1
    clear hM1
    have hBx := hB1
    clear hB1
    have hGx := hG1
    clear hG1
    have zF0 : V 0 = .slice (some ⟨ga, oa, none⟩) W ca := hI.2 0 (hD 0 (by decide)) rfl
    have zf0 := zF0; clear zF0
    have zF1 : V 1 = .int .i64 (k : Int) := hI.2 1 (hD 1 (by decide)) rfl
    have zf1 := zF1; clear zF1
    have zF2 : V 2 = .pointer (some ⟨ga, oa + k, none⟩) := hI.2 2 (hD 2 (by decide)) rfl
    have zf2 := zF2; clear zF2
    have zF3 : V 3 = .slice A1 la.length c1 := hI.2 3 (hD 3 (by decide)) rfl
    have zf3 := zF3; clear zF3
    have zF4 : V 4 = .slice (some ⟨gb, ob, none⟩) W cb := hI.2 4 (hD 4 (by decide)) rfl
    have zf4 := zF4; clear zF4
    have zF5 : V 5 = .int .i64 (k : Int) := hI.2 5 (hD 5 (by decide)) rfl
    have zf5 := zF5; clear zF5
    have zF6 : V 6 = .pointer (some ⟨gb, ob + k, none⟩) := hI.2 6 (hD 6 (by decide)) rfl
    have zf6 := zF6; clear zF6
    have zF7 : V 7 = .slice A2 lb.length c2 := hI.2 7 (hD 7 (by decide)) rfl
    have zf7 := zF7; clear zF7
    have zF9 : ∃ (v_9 : Value) (n_9 : Nat), V 9 = v_9 ∧ w2.ownsRow wr.heap.size 3 1 v_9 n_9 (nvQ [la, lb].flatten) := hI.2 9 (hD 9 (by decide)) rfl
    obtain ⟨v_9, n_9, zf9, b9_0⟩ := zF9
    have zF10 : ∃ (v_10 : Value) (n_10 : Nat), V 10 = v_10 ∧ w2.ownsRow wr.heap.size 3 1 v_10 n_10 (nvQ [la, lb].flatten) := hI.2 10 (hD 10 (by decide)) rfl
    obtain ⟨v_10, n_10, zf10, b10_0⟩ := zF10
    clear hI hD HGs
    simp only [frAll, Act.put, List.setIfInBounds_toArray, List.set_cons_zero, List.set_cons_succ, Nat.zero_add, Nat.reduceAdd, zf0, zf1, zf2, zf3, zf4, zf5, zf6, zf7, zf9, zf10]
    clear zf0 zf1 zf2 zf3 zf4 zf5 zf6 zf7 zf9 zf10
    generalize V 8 = u8
    clear V D
    have HOW := Lib.hid b10_0
    have hm2 := hMx
    have hg2 := HO.out.lt
    have hlen : (la ++ lb).length ≤ 2000 := by simp; omega
    rw [show ([la, lb].flatten : List Nat) = la ++ lb by simp] at HOW
    have hn : n_10 = (la ++ lb).length := by have := HOW.out.1; simp [nvQ] at this; simp; omega
    subst hn
    have HSO := Lib.hid (fun W0 (h : W0.ownsRow wr.heap.size 3 1 v_10 (la ++ lb).length (nvQ (la ++ lb))) => sortI_calls W0 v_10 _ _ (castI (la ++ lb)) (by rw [ivQ_cast]; exact h) (by rw [castI_len]; omega))
    have hob := Lib.hid (own_block HOW.out)
    have HM2 := Lib.hid hm2
    clear hMx hGx b10_0 qa qb HSA HSB hm2
    go_wp2_with fail
    refine (HSO.out _ HOW.out).mono ?_
    rintro e w3 ⟨rfl, hq, hm3⟩
    have HM3 : Hid (Pure wr w3) := Lib.hid (HM2.out.trans' hm3 (fun i hi hlt => by have := hob.out i hi; omega))
    have HCO := Lib.hid (compactI_calls w3 v_10 _ _ _ hq (by rw [List.length_mergeSort, castI_len]; omega))
    rw [show ((castI (la ++ lb)).mergeSort fun x y => decide (x ≤ y)) = (castI (la ++ lb)).mergeSort fun x y => decide (x ≤ y) from rfl] at HCO
    clear hq hm3 HSO HM2
    go_wp2_with fail
    refine HCO.out.mono ?_
    rintro e w4 ⟨v4, rfl, hq, hbk, hm4⟩
    obtain ⟨A4, n4, c4, rfl⟩ := (Sl.of_own hq).form
    rw [HROW.out, castI_len, ivQ_cast] at hq
    have HQ := Lib.hid hq
    have HM4 : Hid (Pure wr w4) := Lib.hid (HM3.out.trans' hm4 (fun i hi hlt => by have := hob.out i hi; omega))
    have HO4 := Lib.hid (HO.out.mod HM4.out (fun h => h))
    obtain ⟨x0, xf0⟩ := HO4.out.cellk HU.out.symm (by rw [HU.out]; exact hlt)
    clear hq hm4 HCO HM3 HO
    go_wp2_with fail
    go_roundg (W - (k + 1))
    case measure => omega
    case rel =>
     refine ⟨k + 1, us ++ [.slice A4 n4 c4], rfl, hlt, by simp, by simp [HU.out], HO4.out.snoc HU.out.symm (by rw [HU.out]; exact hlt) _, ?_, (HM.out.trans HM4.out).setCell (.inr (by show w.heap.size ≤ g; omega)) _⟩
     rw [HTK.out]
     exact ((HR.out.pure HM4.out).set HO4.out (by decide) _ _).snoc ((Sl.of_own HQ.out).set_ne HO4.out (by decide) _) (own_NilOk HQ.out)
  ·have hke : k = W := by omega
   subst hke
   go_wp2_with fail
   go_ret
   exact ⟨_, rfl, hO.sl (by rw [List.take_of_length_le (by rw [rowsQ_len]; omega)] at hR; exact hR) (rowsQ_len _ _) (by omega), hm⟩

end Go.Proofs.YtnfflgicngeekaaGreatDoor

/- Rows of numbers that grow; tables whose cells are told by a function. -/
namespace Go.Proofs.YtnfflgicngeekaaGreatDoor
set_option linter.unusedVariables false
set_option linter.unusedSimpArgs false
open Go.RowKit
theorem nvQ_one (l : List Nat) : ∀ u ∈ nvQ l, u.oneCell' = true := by
 intro u hu
 obtain ⟨x, _, rfl⟩ := List.mem_map.1 hu
 rfl
set_option maxRecDepth 100000 in
/-- append of a row of numbers to a row that is one's own. -/
theorem run_appI (w : World) (ty : TypeId) (base n : Nat) (v u : Value) (xs : List Value) (l : List Nat) (hown : w.ownsRow base 3 1 v n xs) (hu : Sl w 3 1 u (nvQ l)) (hn : NilOkI u) (hb : base ≤ w.heap.size) (hs : n + l.length ≤ 100000000) :
  ∃ A c w', (Builtin.append_ #[22, 22] ty #[v, u]).run Tryz.prog w = .ok (.slice A (n + l.length) c) w' ∧ w'.ownsRow base 3 1 (.slice A (n + l.length) c) (n + l.length) (xs ++ nvQ l) ∧ w.grownBy w' v.ownBlock ∧ ((Value.slice A (n + l.length) c).ownBlock = v.ownBlock ∨ (Value.slice A (n + l.length) c).ownBlock = some w.heap.size) := by
 obtain ⟨i0, hi0, hz0, hz1, hz2⟩ := info_parts info_intQ
 obtain ⟨A, m, c, rfl⟩ := hu.form
 obtain ⟨hm, hmc, _⟩ := hu.lenI
 rw [nvQ_len] at hm
 subst hm
 cases A with
 | none =>
  obtain ⟨h0, rfl⟩ := hn _ _ rfl
  have hl : l = [] := List.eq_nil_of_length_eq_zero h0
  subst hl
  have hr := run_append_owned_none (P := Tryz.prog) (w := w) base 22 ty 3 i0 1 Tryz.underlying22 hi0 v n xs hown
  obtain ⟨A, k, c, rfl⟩ := (Sl.of_own hown).form
  have hk := (Sl.of_own hown).lenI
  have h1 := hown.1
  obtain rfl : k = n := by omega
  exact ⟨A, c, w, by simpa using hr, by simpa [nvQ] using hown, ⟨rfl, rfl, rfl, Nat.le_refl _, fun _ _ _ => rfl⟩, .inl rfl⟩
 | some ad =>
  obtain ⟨_, _, _, e, _, _, _, hrow⟩ := hu
  cases e
  have hc : ∀ j u, (nvQ l)[j]? = some u → w.cell? (ad.add j) = some u := by
   intro j u hj
   have hjl : j < l.length := by
    rcases Nat.lt_or_ge j (nvQ l).length with h | h
    ·rwa [nvQ_len] at h
    ·rw [List.getElem?_eq_none h] at hj; cases hj
   obtain ⟨g3, o3, he3, hr3⟩ := hrow (by omega)
   injection he3 with he3
   subst he3
   have := hr3.cell hj
   unfold Addr.add
   split
   ·rename_i h0; subst h0; simpa using this
   ·exact this
  obtain ⟨v', w', hr, h2, h3, h4, h5⟩ := run_append_own_at (P := Tryz.prog) w base 22 ty 3 i0 _ 1 8 Tryz.underlying22 hi0 hz0 hz1 hz2 rfl (by omega) v n xs hown ad l.length c (nvQ l) (by rw [nvQ_len]; omega) hc (nvQ_one l) (by simp [maxLen]; omega) (by omega) hb
  obtain ⟨A, k, c', rfl⟩ := (Sl.of_own h2).form
  have hk := (Sl.of_own h2).lenI
  have h1 := h2.1
  obtain rfl : k = n + l.length := by omega
  exact ⟨A, c', w', hr, h2, h3, h5⟩ -- hb5
/-- A step of a region that draws: an append whose run is known. -/
theorem step_append_I {P : Program} {ops : Array Oper} {o : Oper} {a : Act} {w : World} {K : Act → World → Prop} {Q : Exit → Act → World → Prop} {E : Prop} (hg : o.guard = none) (s x : Operand) (t : TypeId)
  (hop : o.op = Op.call { callee := Callee.builtin Builtin.append, args := #[s, x], argTypes := #[t, t] }) (v u r : Value) (w' : World) (hs : a.eval s = v) (hx : a.eval x = u)
  (hr : (Builtin.append_ #[t, t] o.type #[v, u]).run P w = .ok r w') (hK : K (a.put o.dst r) w') : if Region.wanted o (yielded ops a.tmps) = true then Oper.wp P o a w K Q else E := by
 rw [if_pos (by simp [Region.wanted, hg])]
 unfold Oper.wp execOp
 simp only [hop, resolve, invoke, builtin, Sem.run_bind, Sem.run_pure, Result.andThen_ok, List.map_toArray, List.map_cons, List.map_nil, hs, hx, hr]
 exact hK
/-- A block of N cells, told by a function. -/
def RangeB (w : World) (g : Nat) (t : TypeId) (N : Nat) (f : Nat → Value) : Prop := Blk w g t ((List.range N).map f).toArray
variable {w w' : World} {g N : Nat} {t : TypeId} {f : Nat → Value}
theorem RangeB.cell (h : RangeB w g t N f) {i : Nat} (hi : i < N) : w.cell? ⟨g, i, none⟩ = some (f i) := by
 rw [Blk.cell h, List.getElem?_toArray, List.getElem?_map, List.getElem?_range hi]
 rfl
theorem RangeB.frozen (h : RangeB w g t N f) (i : Nat) : w.frozen? ⟨g, i, none⟩ = false := Blk.frozen h i
theorem RangeB.lt (h : RangeB w g t N f) : g < w.heap.size := Blk.lt h
theorem RangeB.mod {S : Nat → Prop} (h : RangeB w g t N f) (hm : Mod S w w') (hg : ¬ S g) : RangeB w' g t N f := Blk.mod h hm hg
theorem RangeB.set (h : RangeB w g t N f) (i : Nat) (v : Value) : RangeB (w.setCell ⟨g, i, none⟩ v) g t N (upd f i v) := by
 have h1 := Blk.set h i v
 unfold RangeB
 have e : ((List.range N).map f).toArray.setIfInBounds i v = ((List.range N).map (upd f i v)).toArray := by
  rw [List.setIfInBounds_toArray]
  congr 1
  refine List.ext_getElem (by simp) fun j h1 h2 => ?_
  rw [List.getElem_set, List.getElem_map, List.getElem_map, List.getElem_range]
  unfold upd
  by_cases hj : i = j
  ·rw [if_pos hj, if_pos hj.symm]
  ·rw [if_neg hj, if_neg (fun h => hj h.symm)]
 rw [e] at h1
 exact h1
theorem RangeB.far (h : RangeB w g t N f) {p : Addr} (hp : g ≠ p.block) (v : Value) : RangeB (w.setCell p v) g t N f := Blk.far h hp v
theorem RangeB.new (w : World) (t : TypeId) (N : Nat) (z : Value) : RangeB (w.alloc (.cells (Array.replicate N z) t)) w.heap.size t N (fun _ => z) := by
 unfold RangeB
 have e : ((List.range N).map (fun _ : Nat => z)).toArray = Array.replicate N z := by
  rw [← List.toArray_replicate]
  congr 1
  refine List.ext_getElem (by simp) fun j h1 h2 => by simp
 rw [e]
 exact Blk.new w t _
theorem RangeB.alloc (h : RangeB w g t N f) (o : Obj) : RangeB (w.alloc o) g t N f := Blk.alloc h o
/-- The rows that have been made so far: those that are known read as told, the others are nil. -/
def KnwI (w : World) (bv : Nat → Value) (kf : Nat → Bool) (R : Nat → List Nat) (N : Nat) : Prop := ∀ e, e < N → (kf e = false → bv e = .slice none 0 0) ∧ (kf e = true → Sl w 3 1 (bv e) (nvQ (R e)) ∧ NilOkI (bv e))
theorem KnwI.mod {bv : Nat → Value} {kf : Nat → Bool} {R : Nat → List Nat} {S : Nat → Prop} (h : KnwI w bv kf R N) (hm : Mod S w w') (hs : ∀ g arr fr, w.heap[g]? = some (.cells arr 3 fr) → ¬ S g) : KnwI w' bv kf R N :=
 fun e he => ⟨(h e he).1, fun hk => ⟨((h e he).2 hk).1.mod hm hs, ((h e he).2 hk).2⟩⟩
theorem KnwI.pure {bv : Nat → Value} {kf : Nat → Bool} {R : Nat → List Nat} (h : KnwI w bv kf R N) (hm : Pure w w') : KnwI w' bv kf R N := h.mod hm (fun _ _ _ _ h => h)
theorem KnwI.add {bv : Nat → Value} {kf : Nat → Bool} {R : Nat → List Nat} {e : Nat} {v : Value} (h : KnwI w bv kf R N) (hs : Sl w 3 1 v (nvQ (R e))) (hn : NilOkI v) : KnwI w (upd bv e v) (upd kf e true) R N := by
 intro i hi
 by_cases h1 : i = e
 ·subst h1
  rw [upd_same, upd_same]
  exact ⟨fun h => (by cases h), fun _ => ⟨hs, hn⟩⟩
 ·rw [upd_ne _ _ h1, upd_ne _ _ h1]
  exact h i hi

end Go.Proofs.YtnfflgicngeekaaGreatDoor

/- A phrase in a search's text: (*reader).phrase. -/
namespace Go.Proofs.YtnfflgicngeekaaGreatDoor
set_option linter.unusedVariables false
set_option linter.unusedSimpArgs false
open Go.RowKit
def rdK (s : Str) (p kd tp k : Int) (a : Value) (n : Int) (b : Value) : Array Value := #[.string ⟨s.toArray⟩, .int .i64 p, .int .i64 kd, .int .i64 tp, .int .i64 k, a, .int .i64 n, b]
theorem mod_set {a w : World} {g : Nat} (h : Mod (· = g) a w) (i : Nat) (v : Value) : Mod (· = g) a (w.setCell ⟨g, i, none⟩ v) := Mod.setCell (S := fun k => k = g) (p := ⟨g, i, none⟩) h (.inl rfl) v
theorem cutB_quiet (w : World) (s : Str) (c : UInt8) (hM : MlnS w) (hs : s.length ≤ 1000000) : Calls Tryz.prog 191 #[.string ⟨s.toArray⟩, .string ⟨#[c]⟩] w (fun e w' => e = .returned (.tuple #[.string ⟨(headS c s).toArray⟩, .string ⟨(restS c s).toArray⟩, .bool (fstL c s).isSome]) ∧ ∃ n, w' = w.drewN n) := by
 obtain ⟨m, hm⟩ := hM
 refine (Any.strings_Cut Tryz.lays145 ⟨s.toArray⟩ ⟨#[c]⟩ m w (by simp [ByteArray.size]; omega) hm).mono ?_
 rintro e w' ⟨rfl, n, rfl⟩
 refine ⟨?_, n, rfl⟩
 have h := cut_byte c s
 show Ending.returned (.tuple #[.string ⟨(Lib.cut s [c]).1.toArray⟩, .string ⟨(Lib.cut s [c]).2.1.toArray⟩, .bool (Lib.cut s [c]).2.2]) = _
 rw [h]
 unfold headS restS
 cases fstL c s <;> rfl
/-- What a piece of the text leads to: the reader behind it. -/
def TkP (w : World) (g : Nat) (s : Str) (j : Nat) (r : Int × Qry × Nat) (e : Ending) (w' : World) : Prop := ∃ qr : QR, e = .returned (.tuple #[]) ∧ Blk w' g 136 (rdC s (j + r.2.2) r.1 j qr) ∧ qr.key = r.2.1 ∧ QS w' qr ∧ Mod (· = g) w w'
theorem QS.zero {w : World} {k n : Int} : QS w (.mk k none 0 [] n none 0 []) := .mk Sl.nil_ Sl.nil_ (fun a ha => by cases ha)
def neQ (ls : List Str) (k : Nat) : List Str := (ls.take k).filter fun w => !w.isEmpty
theorem neQ_succ {ls : List Str} {k : Nat} (h : k < ls.length) : neQ ls (k + 1) = neQ ls k ++ (if ls[k] = [] then [] else [ls[k]]) := by
 unfold neQ
 rw [List.take_succ_eq_append_getElem h, List.filter_append]
 congr 1
 cases hx : ls[k] with
 | nil => simp
 | cons c t => simp
theorem neQ_len (ls : List Str) (k : Nat) : (neQ ls k).length ≤ k := by
 unfold neQ
 have := List.length_filter_le (fun w : Str => !w.isEmpty) (ls.take k)
 rw [List.length_take] at this
 omega
theorem neQ_mem {ls : List Str} {k : Nat} (h : k < ls.length) (hx : ls[k] ≠ []) : ls[k] ∈ neQ ls ls.length := by
 unfold neQ
 rw [List.take_length]
 refine List.mem_filter.2 ⟨List.getElem_mem h, ?_⟩
 cases he : ls[k] with
 | nil => exact absurd he hx
 | cons c t => rfl
theorem neQ_all (ls : List Str) : neQ ls ls.length = ls.filter fun w => !w.isEmpty := by
 unfold neQ
 rw [List.take_length]
theorem phrase_bad {body x : Str} (hx : x ∈ phrW body) (hp : patB x = false) : phraseQ body = (8, q0) := by
 unfold phraseQ
 rw [if_pos (.inl (List.all_eq_false.2 ⟨x, hx, by rw [hp]; simp⟩))]
theorem phrase_none {body : Str} (hx : phrW body = []) : phraseQ body = (8, q0) := by
 unfold phraseQ
 rw [if_pos (.inr hx)]
theorem phrase_some {body : Str} (hx : phrW body ≠ []) (hp : (phrW body).all patB = true) : phraseQ body = (3, .mk (if (phrW body).length = 1 then 2 else 3) (phrW body) 0 []) := by
 unfold phraseQ
 rw [if_neg]
 rintro (h | h)
 ·rw [hp] at h; cases h
 ·exact hx h
theorem ext_end (s : Str) (a n : Nat) (h : n = s.length) : (⟨s.toArray⟩ : ByteArray).extract a n = ⟨(s.drop a).toArray⟩ := by
 subst h
 rw [ext_sub]
 unfold subS
 rw [List.take_length]
set_option maxRecDepth 100000 in
set_option maxHeartbeats 8000000 in
theorem phraseR_calls (w : World) (g : Nat) (s t : Str) (j : Nat) (hs : s.length ≤ 200000) (hj : j < s.length) (ht : s.drop (j + 1) = t) (hM : ∀ W, Mod (· = g) w W → MlnS W) (hB : Blk w g 136 (rdK s j 0 j 0 (.slice none 0 0) 0 (.slice none 0 0))) :
  Calls Tryz.prog 181 #[.pointer (some ⟨g, 0, none⟩)] w (TkP w g s j (tokC 34 t)) := by
 have hz : (⟨s.toArray⟩ : ByteArray).size = s.length := by simp [ByteArray.size]
 have hB1 := hB.set 2 (.int .i64 8)
 have hm1 : Mod (· = g) w (w.setCell ⟨g, 2, none⟩ (.int .i64 8)) := mod_set (Mod.refl _ _) 2 _
 unfold rdK at hB hB1
 simp at hB1
 have x0 := hB.cell 0; have xf0 := hB.frozen 0; have x1 := hB.cell 1; have xf1 := hB.frozen 1; have x2 := hB.cell 2; have xf2 := hB.frozen 2; have x3 := hB.cell 3; have xf3 := hB.frozen 3; have x4 := hB.cell 4; have xf4 := hB.frozen 4; have x5 := hB.cell 5; have xf5 := hB.frozen 5; have x6 := hB.cell 6; have xf6 := hB.frozen 6; have x7 := hB.cell 7; have xf7 := hB.frozen 7; simp at x0 x1 x2 x3 x4 x5 x6 x7
 have HM := Lib.hid hM
 have HB1 := Lib.hid hB1
 have HM1 := Lib.hid hm1
 clear hM hB hB1 hm1
 obtain ⟨i0, hi0, hz0, hz1, hz2⟩ := info_parts info_strS
 go_enter Tryz.func181, Tryz.ntmps181
 go_upto_region 1 with (fail)
 generalize (w.setCell ⟨g, 2, none⟩ (.int .i64 8)) = w1 at *
 clear x0 x1 x2 x3 x4 x5 x6 x7 xf0 xf1 xf2 xf3 xf4 xf5 xf6 xf7
 have hB1 := HB1.out
 have x0 := hB1.cell 0; have xf0 := hB1.frozen 0; have x1 := hB1.cell 1; have xf1 := hB1.frozen 1; have x2 := hB1.cell 2; have xf2 := hB1.frozen 2; have x3 := hB1.cell 3; have xf3 := hB1.frozen 3; have x4 := hB1.cell 4; have xf4 := hB1.frozen 4; have x5 := hB1.cell 5; have xf5 := hB1.frozen 5; have x6 := hB1.cell 6; have xf6 := hB1.frozen 6; have x7 := hB1.cell 7; have xf7 := hB1.frozen 7; simp at x0 x1 x2 x3 x4 x5 x6 x7
 clear hB1
 have hw1 : IntKind.i64.wrap ((j : Int) + 1) = (j : Int) + 1 := IntWalk.i64_in _ (by omega)
 have hext : (⟨s.toArray⟩ : ByteArray).extract (j + 1) s.length = ⟨t.toArray⟩ := by rw [ext_end s (j + 1) _ rfl, ht]
 have htl : t.length + (j + 1) = s.length := by rw [← ht, List.length_drop]; omega
 have HC := Lib.hid (fun n => cutB_quiet (w1.drewN n) t 34 (HM.out _ (HM1.out.drewN n)) (by omega))
 go_quiet (exact Calls.quiet_of (HC.out _))
 have HB2 := Lib.hid (HB1.out.drewN nq)
 have HM2 := Lib.hid (HM1.out.drewN nq)
 clear x0 x1 x2 x3 x4 x5 x6 x7 xf0 xf1 xf2 xf3 xf4 xf5 xf6 xf7 HB1 HM1 HC
 generalize w1.drewN nq = w2 at *
 cases hf : fstL 34 t with
 | none =>
  have HT : Hid (tokC 34 t = (8, q0, 0)) := Lib.hid (by unfold tokC; rw [hf]; rfl)
  clear hf
  go_wp2_with fail
  go_end0
  exact ⟨.mk 0 none 0 [] 0 none 0 [], rfl, by rw [HT.out]; exact HB2.out, by rw [HT.out, QR.key_mk]; rfl, QS.zero, HM2.out⟩
 | some p =>
  have hpl := fstL_le hf
  have hh : headS 34 t = p.1 := by unfold headS; rw [hf]
  have HT : Hid (tokC 34 t = ((phraseQ p.1).1, (phraseQ p.1).2, p.1.length + 2)) := Lib.hid (by unfold tokC; rw [hf]; rfl)
  rw [hh]
  clear hf hh
  generalize restS 34 t = t2
  have hzp : (⟨p.1.toArray⟩ : ByteArray).size = p.1.length := by simp [ByteArray.size]
  have hB2 := HB2.out
  have x0 := hB2.cell 0; have xf0 := hB2.frozen 0; have x1 := hB2.cell 1; have xf1 := hB2.frozen 1; have x2 := hB2.cell 2; have xf2 := hB2.frozen 2; have x3 := hB2.cell 3; have xf3 := hB2.frozen 3; have x4 := hB2.cell 4; have xf4 := hB2.frozen 4; have x5 := hB2.cell 5; have xf5 := hB2.frozen 5; have x6 := hB2.cell 6; have xf6 := hB2.frozen 6; have x7 := hB2.cell 7; have xf7 := hB2.frozen 7; simp at x0 x1 x2 x3 x4 x5 x6 x7
  have HB3 := Lib.hid (hB2.set 1 (.int .i64 ((j : Int) + ((p.1.length : Int) + 2))))
  have HM3 := Lib.hid (mod_set HM2.out 1 (.int .i64 ((j : Int) + ((p.1.length : Int) + 2))))
  clear hB2
  go_upto_region 4 with (fail)
  generalize (w2.setCell ⟨g, 1, none⟩ (.int .i64 ((j : Int) + ((p.1.length : Int) + 2)))) = w3 at *
  clear x0 x1 x2 x3 x4 x5 x6 x7 xf0 xf1 xf2 xf3 xf4 xf5 xf6 xf7 HB2 HM2
  have HL := Lib.hid (lowerQ_calls w3 p.1 (by omega))
  generalize hb : p.1 = body at *
  go_wp2_with fail
  refine HL.out.mono ?_
  rintro e w4 ⟨rfl, hm4⟩
  have HB4 := Lib.hid (HB3.out.modp hm4)
  have HM4 := Lib.hid (HM3.out.trans (Mod.of_pure hm4))
  have hll : (lowS body).length = body.length := by simp [lowS]
  have HS := Lib.hid (split_calls w4 (lowS body) [32] (HM.out _ HM4.out) (by omega) (by decide))
  rw [split_byte] at HS
  have HLN : Hid (∀ x ∈ spl 32 (lowS body), x.length ≤ 200000) := Lib.hid (fun x hx => by have := spl_len hx; omega)
  have hct := spl_count 32 (lowS body)
  have HPH : Hid (phrW body = (spl 32 (lowS body)).filter fun w => !w.isEmpty) := Lib.hid rfl
  clear hm4 HB3 HM3 HL
  generalize spl 32 (lowS body) = ls at *
  go_wp2_with fail
  refine HS.out.mono ?_
  rintro e wB ⟨rfl, rfl⟩
  have HSB := Lib.hid (Blk.new w4 9 (strsV ls).toArray)
  have HB5 := Lib.hid (HB4.out.alloc (.cells (strsV ls).toArray 9))
  have HM5 := Lib.hid (HM4.out.alloc (.cells (strsV ls).toArray 9))
  have hg5 : g < w4.heap.size := HB4.out.lt
  clear HB4 HM4 HS
  generalize (w4.alloc (.cells (strsV ls).toArray 9)) = wB at *
  generalize hgs : w4.heap.size = gs at *
  clear hgs
  have hsz5 := Nat.le_refl wB.heap.size
  go_wp2_with fail
  go_loopg [5, 43] ls.length (fun gk l i wr => ∃ (k : Nat) (A : Option Addr) (c : Nat), ls.length - k = gk ∧ k ≤ ls.length ∧ i = .int .i64 (k : Int) ∧ l = .slice A (neQ ls k).length c ∧ wr.ownsRow wB.heap.size 9 1 (.slice A (neQ ls k).length c) (neQ ls k).length (strsV (neQ ls k)) ∧ (neQ ls k).all patB = true ∧ Pure wB wr)
  case atStart => exact ⟨0, none, 0, by omega, by omega, rfl, rfl, ⟨by simp [strsV, neQ], .inl ⟨rfl, rfl⟩⟩, rfl, Mod.refl _ _⟩
  case round =>
   obtain ⟨k, A, c, rfl, hk, rfl, rfl, hown, hall, hm⟩ := hrel
   have HOW := Lib.hid hown
   have HAL := Lib.hid hall
   have HMR := Lib.hid hm
   have hnl := neQ_len ls k
   clear hown hall hm
   by_cases hlt : k < ls.length
   ·have q0 := (HSB.out.modp HMR.out).row0.cell (strsV_get ls k hlt)
    rw [Nat.zero_add] at q0
    have HNS := Lib.hid (neQ_succ hlt)
    have hxl := HLN.out _ (List.getElem_mem hlt)
    have HNM := Lib.hid (fun h => neQ_mem hlt h)
    by_cases he : ls[k] = []
    ·have HN2 : Hid (neQ ls (k + 1) = neQ ls k) := Lib.hid (by rw [HNS.out, if_pos he, List.append_nil])
     rw [he] at q0
     go_wp2_with fail
     go_roundg (ls.length - (k + 1))
     case measure => omega
     case rel => exact ⟨k + 1, A, c, rfl, hlt, by simp, by rw [HN2.out], by rw [HN2.out]; exact HOW.out, by rw [HN2.out]; exact HAL.out, HMR.out⟩
    ·have hxe : (ls[k] == ([] : Str)) = false := by simpa using he
     have HN2 : Hid (neQ ls (k + 1) = neQ ls k ++ [ls[k]]) := Lib.hid (by rw [HNS.out, if_neg he])
     have HNM2 := Lib.hid (HNM.out he)
     have HIP := Lib.hid (isPattern_calls wr ls[k] (by omega))
     clear HNS HNM he
     generalize ls[k] = x at *
     go_wp2_with fail
     refine HIP.out.mono ?_
     rintro e w6 ⟨rfl, rfl⟩
     cases hpx : patB x
     ·go_wp2_with fail
      go_end0
      have HPQ := phrase_bad (by rw [HPH.out, ← neQ_all]; exact HNM2.out) hpx
      have hB9 := HB5.out.modp HMR.out
      refine ⟨.mk 0 none 0 [] 0 none 0 [], rfl, ?_, by rw [HT.out, HPQ, QR.key_mk]; rfl, QS.zero, HM5.out.trans (Mod.of_pure HMR.out)⟩
      rw [HT.out, HPQ]
      have e : ((j + (body.length + 2) : Nat) : Int) = (j : Int) + ((body.length : Int) + 2) := by omega
      show Blk wr g _ (rdC s (j + (body.length + 2)) 8 j _)
      unfold rdC
      rw [e]
      exact hB9
     ·have hmr := HMR.out
      have hown := HOW.out
      have hown0 := HOW.out
      have hbs := hmr.size
      go_wp2_with ((at_builtin; refine wpList_append_lies _ rfl _ _ _ rfl wB.heap.size 9 i0 _ 1 16 Tryz.underlying26 hi0 hz0 hz1 hz2 rfl (by omega) (.slice A (neQ ls k).length c) (neQ ls k).length (strsV (neQ ls k)) rfl (hown.alloc _) ⟨wr.heap.size, 0, none⟩ 1 1 [.string ⟨x.toArray⟩] rfl rfl (World.news_of_block (cs := #[.string ⟨x.toArray⟩]) (t := 9) (fr := (0, 0)) (heap_alloc_new wr _)) (by simp [Value.oneCell']) (by omega) (by simp [maxLen]; omega) (by omega) (by have := hmr.size; simp; omega) (wr.heap.size + 1) (by simp) ?_; intro g5 cap5 w5 hown5 hgrow hat hlt5))
      go_roundg (ls.length - (k + 1))
      case measure => omega
      case rel =>
       refine ⟨k + 1, some ⟨g5, 0, none⟩, cap5, rfl, hlt, by simp, by rw [HN2.out]; simp, ?_, by rw [HN2.out, List.all_append, HAL.out]; simp [hpx], ((HMR.out.alloc _).grown hgrow (fun j hj => .inr (own_block hown0 j hj)))⟩
       rw [HN2.out]
       simpa [strsV] using hown5
   ·obtain rfl : k = ls.length := by omega
    rw [neQ_all] at HOW HAL hnl ⊢
    rw [← HPH.out] at HOW HAL hnl ⊢
    have HPQ : Hid (phrW body = [] → phraseQ body = (8, q0)) := Lib.hid phrase_none
    have HPS : Hid (phrW body ≠ [] → phraseQ body = (3, .mk (if (phrW body).length = 1 then 2 else 3) (phrW body) 0 [])) := Lib.hid (fun h => phrase_some h HAL.out)
    have HM9 := Lib.hid (HM5.out.trans (Mod.of_pure HMR.out))
    have HB9 := Lib.hid (HB5.out.modp HMR.out)
    clear HPH HAL HM5 HB5 HSB HMR
    generalize phrW body = L at *
    by_cases hL : L = []
    ·have HQ := Lib.hid (HPQ.out hL)
     subst hL
     go_wp2_with fail
     go_end0
     have e : ((j + (body.length + 2) : Nat) : Int) = (j : Int) + ((body.length : Int) + 2) := by omega
     refine ⟨.mk 0 none 0 [] 0 none 0 [], rfl, ?_, by rw [HT.out, HQ.out, QR.key_mk]; rfl, QS.zero, HM9.out⟩
     rw [HT.out, HQ.out]
     show Blk wr g _ (rdC s (j + (body.length + 2)) 8 j _)
     unfold rdC
     rw [e]
     exact HB9.out
    ·have HQ := Lib.hid (HPS.out hL)
     have hl0 : 0 < L.length := List.length_pos_iff.2 hL
     have hl1 : ((L.length : Int) == 0) = false := by rw [← Bool.not_eq_true, beq_iff_eq]; omega
     have hB9 := HB9.out
     have x0 := hB9.cell 0; have xf0 := hB9.frozen 0; have x1 := hB9.cell 1; have xf1 := hB9.frozen 1; have x2 := hB9.cell 2; have xf2 := hB9.frozen 2; have x3 := hB9.cell 3; have xf3 := hB9.frozen 3; have x4 := hB9.cell 4; have xf4 := hB9.frozen 4; have x5 := hB9.cell 5; have xf5 := hB9.frozen 5; have x6 := hB9.cell 6; have xf6 := hB9.frozen 6; have x7 := hB9.cell 7; have xf7 := hB9.frozen 7; simp at x0 x1 x2 x3 x4 x5 x6 x7
     have HBW := Lib.hid (((((hB9.set 2 (.int .i64 3)).set 4 (.int .i64 3)).set 5 (.slice A L.length c)).set 6 (.int .i64 0)).set 7 (.slice none 0 0))
     have HMW0 := Lib.hid (mod_set (mod_set (mod_set (mod_set (mod_set (Mod.refl (· = g) wr) 2 (.int .i64 3)) 4 (.int .i64 3)) 5 (.slice A L.length c)) 6 (.int .i64 0)) 7 (.slice none 0 0))
     clear HPQ HPS hL hB9
     go_upto_region 15 with (fail)
     generalize (((((wr.setCell ⟨g, 2, none⟩ (.int .i64 3)).setCell ⟨g, 4, none⟩ (.int .i64 3)).setCell ⟨g, 5, none⟩ (.slice A L.length c)).setCell ⟨g, 6, none⟩ (.int .i64 0)).setCell ⟨g, 7, none⟩ (.slice none 0 0)) = w7 at *
     clear x0 x1 x2 x3 x4 x5 x6 x7 xf0 xf1 xf2 xf3 xf4 xf5 xf6 xf7
     have HSL := Lib.hid ((Sl.of_own HOW.out).rd HB9.out HMW0.out (by decide))
     have HMW := Lib.hid (HM9.out.trans HMW0.out)
     have e : ((j + (body.length + 2) : Nat) : Int) = (j : Int) + ((body.length : Int) + 2) := by omega
     have hBW := HBW.out
     simp at hBW
     have HB8 := Lib.hid hBW
     have x0 := hBW.cell 0; have xf0 := hBW.frozen 0; have x1 := hBW.cell 1; have xf1 := hBW.frozen 1; have x2 := hBW.cell 2; have xf2 := hBW.frozen 2; have x3 := hBW.cell 3; have xf3 := hBW.frozen 3; have x4 := hBW.cell 4; have xf4 := hBW.frozen 4; have x5 := hBW.cell 5; have xf5 := hBW.frozen 5; have x6 := hBW.cell 6; have xf6 := hBW.frozen 6; have x7 := hBW.cell 7; have xf7 := hBW.frozen 7; simp at x0 x1 x2 x3 x4 x5 x6 x7
     clear hBW HBW HB9 HM9 HMW0 HOW
     by_cases h1 : L.length = 1
     ·have h1i : ((L.length : Int) == 1) = true := by rw [beq_iff_eq]; omega
      have HK : Hid ((if L.length = 1 then 2 else 3 : Int) = 2) := Lib.hid (if_pos h1)
      clear h1
      go_wp2_with fail
      go_end0
      refine ⟨.mk 2 A c L 0 none 0 [], rfl, ?_, by rw [HT.out, HQ.out, QR.key_mk, HK.out]; rfl, .mk (HSL.out.rd HB8.out (mod_set (Mod.refl _ _) 4 _) (by decide)) Sl.nil_ (fun a ha => by cases ha), mod_set HMW.out 4 _⟩
      rw [HT.out, HQ.out]
      show Blk _ g _ (rdC s (j + (body.length + 2)) 3 j _)
      have h9 := HB8.out.set 4 (.int .i64 2)
      unfold rdC
      rw [e]
      simpa [qC] using h9
     ·have h1i : ((L.length : Int) == 1) = false := by rw [← Bool.not_eq_true, beq_iff_eq]; omega
      have HK : Hid ((if L.length = 1 then 2 else 3 : Int) = 3) := Lib.hid (if_neg h1)
      clear h1
      go_wp2_with fail
      go_end0
      refine ⟨.mk 3 A c L 0 none 0 [], rfl, ?_, by rw [HT.out, HQ.out, QR.key_mk, HK.out]; rfl, .mk HSL.out Sl.nil_ (fun a ha => by cases ha), HMW.out⟩
      rw [HT.out, HQ.out]
      show Blk _ g _ (rdC s (j + (body.length + 2)) 3 j _)
      unfold rdC
      rw [e]
      simpa [qC] using HB8.out

end Go.Proofs.YtnfflgicngeekaaGreatDoor

/- The next token of a search's text: (*reader).next. -/
namespace Go.Proofs.YtnfflgicngeekaaGreatDoor
set_option linter.unusedVariables false
set_option linter.unusedSimpArgs false
open Go.RowKit
/-- strings.IndexAny of the rest of a text, for the bytes that end a piece. -/
def IxA (g : Nat) (w : World) (s : Str) : Prop := ∀ (W : World) (a : Nat), Mod (· = g) w W → a ≤ s.length → Calls Tryz.prog 182 #[.string ⟨(s.drop a).toArray⟩, .string ⟨#[32, 10, 40, 41, 34]⟩] W (fun e w' => e = .returned (.int .i64 (Lib.indexAny (s.drop a) [32, 10, 40, 41, 34])) ∧ Pure W w')
def CellQ (Z : World) (g i : Nat) (v : Value) : Prop := Z.cell? ⟨g, i, none⟩ = some v
theorem CellQ.pure {Z Z' : World} {g i : Nat} {v : Value} (h : CellQ Z g i v) (hm : Pure Z Z') : CellQ Z' g i v := keepp h hm
theorem CellQ.set {Z : World} {g i j : Nat} {v u : Value} {t : TypeId} {cs : Array Value} (h : CellQ Z g i v) (hB : Blk Z g t cs) (hij : j ≠ i) : CellQ (Z.setCell ⟨g, j, none⟩ u) g i v := by
 unfold CellQ at *
 rw [Blk.cell hB] at h
 rw [Blk.cell (Blk.set hB j u), Array.getElem?_setIfInBounds_ne hij]
 exact h
/-- Four cells that hold a search. -/
def C4 (Z : World) (g : Nat) (q : QR) : Prop := ∀ i, i < 4 → Z.cell? ⟨g, 4 + i, none⟩ = (qC q)[i]?
theorem C4.pure {Z Z' : World} {g : Nat} {q : QR} (h : C4 Z g q) (hm : Pure Z Z') : C4 Z' g q := by
 intro i hi
 have h1 := h i hi
 have hl : i < (qC q).length := by rw [qC_len]; exact hi
 rw [List.getElem?_eq_getElem hl] at h1 ⊢
 exact keepp h1 hm
theorem C4.set {Z : World} {g j : Nat} {q : QR} {u : Value} {t : TypeId} {cs : Array Value} (h : C4 Z g q) (hB : Blk Z g t cs) (hij : j < 4) : C4 (Z.setCell ⟨g, j, none⟩ u) g q := by
 intro i hi
 rw [← h i hi, Blk.cell hB, Blk.cell (Blk.set hB j u), Array.getElem?_setIfInBounds_ne (by omega)]
theorem c4_new {Z : World} {g : Nat} {t : TypeId} {s0 s1 s2 s3 c4 c5 c6 c7 : Value} {q : QR} {a b c d : Value} (hB : Blk Z g t #[s0, s1, s2, s3, c4, c5, c6, c7]) (hq : qC q = [a, b, c, d]) : C4 ((((Z.setCell ⟨g, 4, none⟩ a).setCell ⟨g, 5, none⟩ b).setCell ⟨g, 6, none⟩ c).setCell ⟨g, 7, none⟩ d) g q := by
 have h := (((hB.set 4 a).set 5 b).set 6 c).set 7 d
 intro i hi
 rw [Blk.cell h, hq]
 match i, hi with
 | 0, _ => rfl
 | 1, _ => rfl
 | 2, _ => rfl
 | 3, _ => rfl
theorem cq_st4 {Z : World} {g : Nat} {t : TypeId} {s0 s1 s2 s3 c4 c5 c6 c7 : Value} {a b c d v : Value} (hB : Blk Z g t #[s0, s1, s2, s3, c4, c5, c6, c7]) (h : CellQ Z g 2 v) : CellQ ((((Z.setCell ⟨g, 4, none⟩ a).setCell ⟨g, 5, none⟩ b).setCell ⟨g, 6, none⟩ c).setCell ⟨g, 7, none⟩ d) g 2 v :=
 (((h.set hB (by decide)).set (hB.set 4 a) (by decide)).set ((hB.set 4 a).set 5 b) (by decide)).set (((hB.set 4 a).set 5 b).set 6 c) (by decide)
/-- What the cells of a reader are, where some of them are known one by one. -/
theorem rd_cells {Z : World} {g : Nat} {s : Str} {j : Nat} {kd : Int} {c2 c4 c5 c6 c7 : Value} {q : QR} (hB : Blk Z g 136 #[.string ⟨s.toArray⟩, .int .i64 (j : Int), c2, .int .i64 (j : Int), c4, c5, c6, c7]) (h2 : CellQ Z g 2 (.int .i64 kd)) (h4 : C4 Z g q) : Blk Z g 136 (rdC s j kd j q) := by
 have e2 : c2 = .int .i64 kd := by unfold CellQ at h2; rw [Blk.cell hB] at h2; simpa using h2
 have q4 := h4 0 (by decide)
 have q5 := h4 1 (by decide)
 have q6 := h4 2 (by decide)
 have q7 := h4 3 (by decide)
 rw [Blk.cell hB] at q4 q5 q6 q7
 obtain ⟨k, A, c, ws, n, B, d, xs⟩ := q
 simp [qC] at q4 q5 q6 q7
 subst e2 q4 q5 q6 q7
 exact hB
theorem rd_zero {w : World} {g : Nat} {s : Str} {p kd tp k n : Int} {a b : Value} {j : Int} (h : Blk w g 136 (rdK s p kd tp k a n b)) : Blk ((((((w.setCell ⟨g, 2, none⟩ (.int .i64 0)).setCell ⟨g, 3, none⟩ (.int .i64 j)).setCell ⟨g, 4, none⟩ (.int .i64 0)).setCell ⟨g, 5, none⟩ (.slice none 0 0)).setCell ⟨g, 6, none⟩ (.int .i64 0)).setCell ⟨g, 7, none⟩ (.slice none 0 0)) g 136 (rdK s p 0 j 0 (.slice none 0 0) 0 (.slice none 0 0)) := by
 have h1 := (((((h.set 2 (.int .i64 0)).set 3 (.int .i64 j)).set 4 (.int .i64 0)).set 5 (.slice none 0 0)).set 6 (.int .i64 0)).set 7 (.slice none 0 0)
 simpa [rdK] using h1
theorem rd_zmod {a w : World} {g : Nat} {j : Int} (h : Mod (· = g) a w) : Mod (· = g) a ((((((w.setCell ⟨g, 2, none⟩ (.int .i64 0)).setCell ⟨g, 3, none⟩ (.int .i64 j)).setCell ⟨g, 4, none⟩ (.int .i64 0)).setCell ⟨g, 5, none⟩ (.slice none 0 0)).setCell ⟨g, 6, none⟩ (.int .i64 0)).setCell ⟨g, 7, none⟩ (.slice none 0 0)) :=
 mod_set (mod_set (mod_set (mod_set (mod_set (mod_set h 2 _) 3 _) 4 _) 5 _) 6 _) 7 _
theorem TkP.nx {w W w' : World} {g : Nat} {s : Str} {p j : Nat} {e : Ending} (h : TkP W g s j (tokQ (s.drop j)) e w') (hm : Mod (· = g) w W) (hj : skpQ s p = j) : NxP w g s p e w' := by
 obtain ⟨qr, h1, h2, h3, h4, h5⟩ := h
 subst hj
 exact ⟨qr, h1, h2, h3, h4, hm.trans h5⟩
set_option maxRecDepth 100000 in
set_option maxHeartbeats 8000000 in
theorem nextR_calls (w : World) (s : Str) (p : Nat) (kd tp k n : Int) (a b : Value) (g : Nat) (hs : s.length ≤ 200000) (hp : p ≤ s.length) (hM : ∀ W, Mod (· = g) w W → MlnS W) (hI : IxA g w s) (hB : Blk w g 136 (rdK s p kd tp k a n b)) : Calls Tryz.prog 111 #[.pointer (some ⟨g, 0, none⟩)] w (NxP w g s p) := by
 have hz : (⟨s.toArray⟩ : ByteArray).size = s.length := by simp [ByteArray.size]
 have HB := Lib.hid hB
 have HML := Lib.hid hM
 have HI := Lib.hid hI
 clear hB hM hI
 go_enter Tryz.func111, Tryz.ntmps111
 go_wp2_with fail
 go_loopg [] (s.length - p) (fun gk wr => ∃ j : Nat, s.length - j = gk ∧ j ≤ s.length ∧ skpQ s j = skpQ s p ∧ Blk wr g 136 (rdK s j kd tp k a n b) ∧ Mod (· = g) w wr)
 case atStart => exact ⟨p, by omega, hp, rfl, HB.out, Mod.refl _ _⟩
 case round =>
  obtain ⟨j, rfl, hj, hsk, hbj, hm⟩ := hrel
  have HSK := Lib.hid hsk
  have HM := Lib.hid hm
  have HBJ := Lib.hid hbj
  unfold rdK at hbj
  have x0 := hbj.cell 0; have xf0 := hbj.frozen 0; have x1 := hbj.cell 1; have xf1 := hbj.frozen 1; have x2 := hbj.cell 2; have xf2 := hbj.frozen 2; have x3 := hbj.cell 3; have xf3 := hbj.frozen 3; have x4 := hbj.cell 4; have xf4 := hbj.frozen 4; have x5 := hbj.cell 5; have xf5 := hbj.frozen 5; have x6 := hbj.cell 6; have xf6 := hbj.frozen 6; have x7 := hbj.cell 7; have xf7 := hbj.frozen 7; simp at x0 x1 x2 x3 x4 x5 x6 x7
  clear hsk hm hbj
  by_cases hlt : j < s.length
  ·have hix : (⟨s.toArray⟩ : ByteArray)[j]'(by rw [hz]; exact hlt) = s[j] := rfl
   by_cases h32 : s[j].toNat = 32
   ·have h32i : ((s[j].toNat : Int) == 32) = true := by simp; omega
    have e32 : s[j] = 32 := UInt8.toNat_inj.mp (by rw [h32]; rfl)
    have HS : Hid (skpQ s (j + 1) = skpQ s p) := Lib.hid ((skp_blank hlt (by unfold blkC; rw [e32]; rfl)).symm.trans HSK.out)
    go_upto_region 0 with (fail)
    go_quiet (fail)
    go_wp2_with fail
    go_roundg (s.length - (j + 1))
    case measure => omega
    case rel => exact ⟨j + 1, rfl, by omega, HS.out, by have h := (show Blk (wr.drewN nq) g 136 (rdK s j kd tp k a n b) from HBJ.out).set 1 (.int .i64 ((j : Int) + 1)); simpa [rdK] using h, (HM.out.drewN nq).setCell (p := ⟨g, 1, none⟩) (.inl rfl) _⟩
   ·have h32i : ((s[j].toNat : Int) == 32) = false := by simp; omega
    by_cases h10 : s[j].toNat = 10
    ·have h10i : ((s[j].toNat : Int) == 10) = true := by simp; omega
     have e10 : s[j] = 10 := UInt8.toNat_inj.mp (by rw [h10]; rfl)
     have HS : Hid (skpQ s (j + 1) = skpQ s p) := Lib.hid ((skp_blank hlt (by unfold blkC; rw [e10]; rfl)).symm.trans HSK.out)
     go_upto_region 0 with (fail)
     go_quiet (fail)
     go_wp2_with fail
     go_roundg (s.length - (j + 1))
     case measure => omega
     case rel => exact ⟨j + 1, rfl, by omega, HS.out, by have h := (show Blk (wr.drewN nq) g 136 (rdK s j kd tp k a n b) from HBJ.out).set 1 (.int .i64 ((j : Int) + 1)); simpa [rdK] using h, (HM.out.drewN nq).setCell (p := ⟨g, 1, none⟩) (.inl rfl) _⟩
    ·have h10i : ((s[j].toNat : Int) == 10) = false := by simp; omega
     have hdr : s.drop j = s[j] :: s.drop (j + 1) := List.drop_eq_getElem_cons hlt
     have HJ : Hid (skpQ s p = j) := Lib.hid (by rw [← HSK.out]; exact skp_stop hlt (by unfold blkC; simp; exact ⟨fun h => h32 (by rw [h]; rfl), fun h => h10 (by rw [h]; rfl)⟩))
     go_upto_region 0 with (fail)
     go_quiet (fail)
     go_upto_region 3 with (fail)
     have HBZ := Lib.hid (rd_zero (j := (j : Int)) (HBJ.out.drewN nq))
     have HMZ := Lib.hid (rd_zmod (j := (j : Int)) (HM.out.drewN nq))
     clear x0 x1 x2 x3 x4 x5 x6 x7 xf0 xf1 xf2 xf3 xf4 xf5 xf6 xf7 HBJ HM HSK
     generalize ((((((( wr.drewN nq).setCell ⟨g, 2, none⟩ (.int .i64 0)).setCell ⟨g, 3, none⟩ (.int .i64 (j : Int))).setCell ⟨g, 4, none⟩ (.int .i64 0)).setCell ⟨g, 5, none⟩ (.slice none 0 0)).setCell ⟨g, 6, none⟩ (.int .i64 0)).setCell ⟨g, 7, none⟩ (.slice none 0 0)) = w1 at *
     have hB1 := HBZ.out
     unfold rdK at hB1
     have x0 := hB1.cell 0; have xf0 := hB1.frozen 0; have x1 := hB1.cell 1; have xf1 := hB1.frozen 1; have x2 := hB1.cell 2; have xf2 := hB1.frozen 2; have x3 := hB1.cell 3; have xf3 := hB1.frozen 3; have x4 := hB1.cell 4; have xf4 := hB1.frozen 4; have x5 := hB1.cell 5; have xf5 := hB1.frozen 5; have x6 := hB1.cell 6; have xf6 := hB1.frozen 6; have x7 := hB1.cell 7; have xf7 := hB1.frozen 7; simp at x0 x1 x2 x3 x4 x5 x6 x7
     clear hB1
     go_quiet (fail)
     have HBB := Lib.hid (HBZ.out.drewN nq)
     have HMB := Lib.hid (HMZ.out.drewN nq)
     clear x0 x1 x2 x3 x4 x5 x6 x7 xf0 xf1 xf2 xf3 xf4 xf5 xf6 xf7 HBZ HMZ
     generalize w1.drewN nq = w2 at *
     have hB2 := HBB.out
     unfold rdK at hB2
     have x0 := hB2.cell 0; have xf0 := hB2.frozen 0; have x1 := hB2.cell 1; have xf1 := hB2.frozen 1; have x2 := hB2.cell 2; have xf2 := hB2.frozen 2; have x3 := hB2.cell 3; have xf3 := hB2.frozen 3; have x4 := hB2.cell 4; have xf4 := hB2.frozen 4; have x5 := hB2.cell 5; have xf5 := hB2.frozen 5; have x6 := hB2.cell 6; have xf6 := hB2.frozen 6; have x7 := hB2.cell 7; have xf7 := hB2.frozen 7; simp at x0 x1 x2 x3 x4 x5 x6 x7
     clear hB2
     go_upto_region 4 with (fail)
     go_quiet (fail)
     have HBC := Lib.hid (HBB.out.drewN nq)
     have HMC := Lib.hid (HMB.out.drewN nq)
     clear x0 x1 x2 x3 x4 x5 x6 x7 xf0 xf1 xf2 xf3 xf4 xf5 xf6 xf7 HBB HMB
     generalize w2.drewN nq = w3 at *
     have hB3 := HBC.out
     unfold rdK at hB3
     have x0 := hB3.cell 0; have xf0 := hB3.frozen 0; have x1 := hB3.cell 1; have xf1 := hB3.frozen 1; have x2 := hB3.cell 2; have xf2 := hB3.frozen 2; have x3 := hB3.cell 3; have xf3 := hB3.frozen 3; have x4 := hB3.cell 4; have xf4 := hB3.frozen 4; have x5 := hB3.cell 5; have xf5 := hB3.frozen 5; have x6 := hB3.cell 6; have xf6 := hB3.frozen 6; have x7 := hB3.cell 7; have xf7 := hB3.frozen 7; simp at x0 x1 x2 x3 x4 x5 x6 x7
     clear hB3
     by_cases h40 : s[j].toNat = 40
     ·have h40i : ((s[j].toNat : Int) == 40) = true := by simp; omega
      have e40 : s[j] = 40 := UInt8.toNat_inj.mp (by rw [h40]; rfl)
      have HT : Hid (tokQ (s.drop j) = (1, q0, 1)) := Lib.hid (by rw [hdr, e40]; rfl)
      have HBF := Lib.hid ((HBC.out.set 2 (.int .i64 1)).set 1 (.int .i64 ((j : Int) + 1)))
      have HMF := Lib.hid (mod_set (mod_set (Mod.refl (· = g) w3) 2 (.int .i64 1)) 1 (.int .i64 ((j : Int) + 1)))
      clear h32i h10i hdr
      go_wp2_with fail
      go_end0
      exact TkP.nx (W := w3) (j := j) ⟨.mk 0 none 0 [] 0 none 0 [], rfl, by rw [HT.out]; exact HBF.out, by rw [HT.out, QR.key_mk]; rfl, QS.zero, HMF.out⟩ HMC.out HJ.out
     have h40i : ((s[j].toNat : Int) == 40) = false := by simp; omega
     by_cases h41 : s[j].toNat = 41
     ·have h41i : ((s[j].toNat : Int) == 41) = true := by simp; omega
      have e41 : s[j] = 41 := UInt8.toNat_inj.mp (by rw [h41]; rfl)
      have HT : Hid (tokQ (s.drop j) = (2, q0, 1)) := Lib.hid (by rw [hdr, e41]; rfl)
      have HBF := Lib.hid ((HBC.out.set 2 (.int .i64 2)).set 1 (.int .i64 ((j : Int) + 1)))
      have HMF := Lib.hid (mod_set (mod_set (Mod.refl (· = g) w3) 2 (.int .i64 2)) 1 (.int .i64 ((j : Int) + 1)))
      clear h32i h10i hdr
      go_wp2_with fail
      go_end0
      exact TkP.nx (W := w3) (j := j) ⟨.mk 0 none 0 [] 0 none 0 [], rfl, by rw [HT.out]; exact HBF.out, by rw [HT.out, QR.key_mk]; rfl, QS.zero, HMF.out⟩ HMC.out HJ.out
     have h41i : ((s[j].toNat : Int) == 41) = false := by simp; omega
     by_cases h34 : s[j].toNat = 34
     ·have h34i : ((s[j].toNat : Int) == 34) = true := by simp; omega
      have e34 : s[j] = 34 := UInt8.toNat_inj.mp (by rw [h34]; rfl)
      have HPH := Lib.hid (phraseR_calls w3 g s (s.drop (j + 1)) j hs hlt rfl (fun W hW => HML.out W (HMC.out.trans hW)) HBC.out)
      have HT : Hid (tokQ (s.drop j) = tokC 34 (s.drop (j + 1))) := Lib.hid (by rw [hdr, e34]; rfl)
      clear h32i h10i hdr
      go_wp2_with fail
      refine HPH.out.mono ?_
      intro e w4 h
      have hx := TkP.nx (by rw [HT.out]; exact h) HMC.out HJ.out
      obtain ⟨qr, rfl, hrest⟩ := h
      go_wp2_with fail
      go_end0
      exact hx
     have h34i : ((s[j].toNat : Int) == 34) = false := by simp; omega
     go_upto_region 5 with (fail)
     have HTW : Hid (tokQ (s.drop j) = ((pieceQ (lowS (wordQ (s.drop j)))).1, (pieceQ (lowS (wordQ (s.drop j)))).2, (wordQ (s.drop j)).length)) := Lib.hid (by
      rw [hdr]
      show tokC s[j] (s.drop (j + 1)) = _
      unfold tokC
      rw [if_neg (fun e => h40 (by rw [e]; rfl)), if_neg (fun e => h41 (by rw [e]; rfl)), if_neg (fun e => h34 (by rw [e]; rfl))])
     have HWL : Hid (wordQ (s.drop j) = (s.drop j).take (wordQ (s.drop j)).length) := Lib.hid (wordQ_sub _)
     clear hdr hix h32 h10 h40 h41 h34 h32i h10i h40i h41i h34i x0 x1 x2 x3 x4 x5 x6 x7 xf0 xf1 xf2 xf3 xf4 xf5 xf6 xf7
     have hext : (⟨s.toArray⟩ : ByteArray).extract j s.length = ⟨(s.drop j).toArray⟩ := ext_end s j _ rfl
     have HIX := Lib.hid (fun W (hW : Mod (· = g) w3 W) => HI.out W j (HMC.out.trans hW) hj)
     have HWI : Hid (-1 ≤ Lib.indexAny (s.drop j) [32, 10, 40, 41, 34] ∧ ((wordQ (s.drop j)).length : Int) = if Lib.indexAny (s.drop j) [32, 10, 40, 41, 34] < 0 then (s.length : Int) - (j : Int) else Lib.indexAny (s.drop j) [32, 10, 40, 41, 34]) := Lib.hid (by
      obtain ⟨h1, h2⟩ := wordQ_idx (s.drop j)
      refine ⟨h1, ?_⟩
      rw [h2, List.length_drop]
      split <;> omega)
     generalize Lib.indexAny (s.drop j) [32, 10, 40, 41, 34] = z at *
     have HGs := Lib.hid (show ∀ (D : Nat → Bool) (zzi : Nat) (zq zq' : World), (fun _ zq => (fun Z => Blk Z g 136 #[.string ⟨s.toArray⟩, .int .i64 (j : Int), .int .i64 0, .int .i64 (j : Int), .int .i64 0, .slice none 0 0, .int .i64 0, .slice none 0 0]) zq) D zq → Mod (fun _ => False) zq zq' → (fun _ zq => (fun Z => Blk Z g 136 #[.string ⟨s.toArray⟩, .int .i64 (j : Int), .int .i64 0, .int .i64 (j : Int), .int .i64 0, .slice none 0 0, .int .i64 0, .slice none 0 0]) zq) (upd D zzi true) zq' from by intro D zzi zq zq' h hm; (exact h.modp hm))
     refine wp_region_inv (by kernel_rfl) (by kernel_rfl) (InvF (R := Mod (fun _ => False)) [.is (.pointer (some ⟨g, 0, none⟩)),
       .is (.pointer (some ⟨g, 0, none⟩)),
       .is (.pointer (some ⟨g, 0, none⟩)),
       .is (.string ⟨s.toArray⟩),
       .is (.pointer (some ⟨g, 0, none⟩)),
       .is (.pointer (some ⟨g, 0, none⟩)),
       .is (.pointer (some ⟨g, 1, none⟩)),
       .is (.int .i64 (j : Int)),
       .is (.string ⟨(s.drop j).toArray⟩),
       .is (.int .i64 z),
       .is (.int .i64 z)]
       (PB w3 (fun _ => False) w3.heap.size (fun _ zq => (fun Z => Blk Z g 136 #[.string ⟨s.toArray⟩, .int .i64 (j : Int), .int .i64 0, .int .i64 (j : Int), .int .i64 0, .slice none 0 0, .int .i64 0, .slice none 0 0]) zq))) (InvF.start (PB.start (Mod.refl _ _) (Nat.le_refl _) (HBC.out))) ?_ ?_
     ·refine .cons ?_ (.cons ?_ (.cons ?_ (.cons ?_ (.cons ?_ (.cons ?_ (.cons ?_ (.cons ?_ (.cons ?_ (.cons ?_ (.cons ?_ .nil))))))))))
      ·intro D V zw1 a hR hI K hK
       obtain ⟨hM1, hB1, hG1⟩ := hI.1
       have ze0 := hR.frame.other (t := 0) (by kernel_rfl) rfl
       rw [if_pos (by rfl)]
       go_simp
       exact hK (.pointer (some ⟨g, 0, none⟩)) _ (hI.next hR (by kernel_rfl) (Mod.refl _ _) (PB.quiet hI.1 (Mod.refl _ _) (HGs.out D 0 zw1 zw1 (hI.1).g (Mod.refl _ _))) (upd_same V 0 _))
      ·intro D V zw1 a hR hI K hK
       obtain ⟨hM1, hB1, hG1⟩ := hI.1
       have zd0 := hR.pred 0 (by kernel_rfl)
       have zF0 : V 0 = .pointer (some ⟨g, 0, none⟩) := hI.2 0 zd0 rfl
       have zf0 := zF0; clear zF0
       have ze71 := hR.frame.done (t := 71) (j := 0) (by kernel_rfl) hR.ok zd0
       rw [if_pos (by rfl)]
       go_simp
       exact hK (.pointer (some ⟨g, 0, none⟩)) _ (hI.next hR (by kernel_rfl) (Mod.refl _ _) (PB.quiet hI.1 (Mod.refl _ _) (HGs.out D 1 zw1 zw1 (hI.1).g (Mod.refl _ _))) (upd_same V 1 _))
      ·intro D V zw1 a hR hI K hK
       obtain ⟨hM1, hB1, hG1⟩ := hI.1
       have zd1 := hR.pred 1 (by kernel_rfl)
       have zF1 : V 1 = .pointer (some ⟨g, 0, none⟩) := hI.2 1 zd1 rfl
       have zf1 := zF1; clear zF1
       have ze72 := hR.frame.done (t := 72) (j := 1) (by kernel_rfl) hR.ok zd1
       rw [if_pos (by rfl)]
       go_simp
       exact hK (.pointer (some ⟨g, 0, none⟩)) _ (hI.next hR (by kernel_rfl) (Mod.refl _ _) (PB.quiet hI.1 (Mod.refl _ _) (HGs.out D 2 zw1 zw1 (hI.1).g (Mod.refl _ _))) (upd_same V 2 _))
      ·intro D V zw1 a hR hI K hK
       obtain ⟨hM1, hB1, hG1⟩ := hI.1
       have zd2 := hR.pred 2 (by kernel_rfl)
       have zF2 : V 2 = .pointer (some ⟨g, 0, none⟩) := hI.2 2 zd2 rfl
       have zf2 := zF2; clear zF2
       have ze73 := hR.frame.done (t := 73) (j := 2) (by kernel_rfl) hR.ok zd2
       have zx0 := (hG1).cell 0; have zy0 := (hG1).frozen 0; simp at zx0
       rw [if_pos (by rfl)]
       go_simp
       exact hK (.string ⟨s.toArray⟩) _ (hI.next hR (by kernel_rfl) (Mod.refl _ _) (PB.quiet hI.1 (Mod.refl _ _) (HGs.out D 3 zw1 zw1 (hI.1).g (Mod.refl _ _))) (upd_same V 3 _))
      ·intro D V zw1 a hR hI K hK
       obtain ⟨hM1, hB1, hG1⟩ := hI.1
       have ze0 := hR.frame.other (t := 0) (by kernel_rfl) rfl
       rw [if_pos (by rfl)]
       go_simp
       exact hK (.pointer (some ⟨g, 0, none⟩)) _ (hI.next hR (by kernel_rfl) (Mod.refl _ _) (PB.quiet hI.1 (Mod.refl _ _) (HGs.out D 4 zw1 zw1 (hI.1).g (Mod.refl _ _))) (upd_same V 4 _))
      ·intro D V zw1 a hR hI K hK
       obtain ⟨hM1, hB1, hG1⟩ := hI.1
       have zd4 := hR.pred 4 (by kernel_rfl)
       have zF4 : V 4 = .pointer (some ⟨g, 0, none⟩) := hI.2 4 zd4 rfl
       have zf4 := zF4; clear zF4
       have ze75 := hR.frame.done (t := 75) (j := 4) (by kernel_rfl) hR.ok zd4
       rw [if_pos (by rfl)]
       go_simp
       exact hK (.pointer (some ⟨g, 0, none⟩)) _ (hI.next hR (by kernel_rfl) (Mod.refl _ _) (PB.quiet hI.1 (Mod.refl _ _) (HGs.out D 5 zw1 zw1 (hI.1).g (Mod.refl _ _))) (upd_same V 5 _))
      ·intro D V zw1 a hR hI K hK
       obtain ⟨hM1, hB1, hG1⟩ := hI.1
       have zd5 := hR.pred 5 (by kernel_rfl)
       have zF5 : V 5 = .pointer (some ⟨g, 0, none⟩) := hI.2 5 zd5 rfl
       have zf5 := zF5; clear zF5
       have ze76 := hR.frame.done (t := 76) (j := 5) (by kernel_rfl) hR.ok zd5
       rw [if_pos (by rfl)]
       go_simp
       exact hK (.pointer (some ⟨g, 1, none⟩)) _ (hI.next hR (by kernel_rfl) (Mod.refl _ _) (PB.quiet hI.1 (Mod.refl _ _) (HGs.out D 6 zw1 zw1 (hI.1).g (Mod.refl _ _))) (upd_same V 6 _))
      ·intro D V zw1 a hR hI K hK
       obtain ⟨hM1, hB1, hG1⟩ := hI.1
       have zd6 := hR.pred 6 (by kernel_rfl)
       have zF6 : V 6 = .pointer (some ⟨g, 1, none⟩) := hI.2 6 zd6 rfl
       have zf6 := zF6; clear zF6
       have ze77 := hR.frame.done (t := 77) (j := 6) (by kernel_rfl) hR.ok zd6
       have zx1 := (hG1).cell 1; have zy1 := (hG1).frozen 1; simp at zx1
       rw [if_pos (by rfl)]
       go_simp
       exact hK (.int .i64 (j : Int)) _ (hI.next hR (by kernel_rfl) (Mod.refl _ _) (PB.quiet hI.1 (Mod.refl _ _) (HGs.out D 7 zw1 zw1 (hI.1).g (Mod.refl _ _))) (upd_same V 7 _))
      ·intro D V zw1 a hR hI K hK
       obtain ⟨hM1, hB1, hG1⟩ := hI.1
       have zd3 := hR.pred 3 (by kernel_rfl)
       have zF3 : V 3 = .string ⟨s.toArray⟩ := hI.2 3 zd3 rfl
       have zf3 := zF3; clear zF3
       have zd7 := hR.pred 7 (by kernel_rfl)
       have zF7 : V 7 = .int .i64 (j : Int) := hI.2 7 zd7 rfl
       have zf7 := zF7; clear zF7
       have ze74 := hR.frame.done (t := 74) (j := 3) (by kernel_rfl) hR.ok zd3
       have ze78 := hR.frame.done (t := 78) (j := 7) (by kernel_rfl) hR.ok zd7
       rw [if_pos (by rfl)]
       go_simp
       exact hK (.string ⟨(s.drop j).toArray⟩) _ (hI.next hR (by kernel_rfl) (Mod.refl _ _) (PB.quiet hI.1 (Mod.refl _ _) (HGs.out D 8 zw1 zw1 (hI.1).g (Mod.refl _ _))) (upd_same V 8 _))
      ·intro D V zw1 a hR hI K hK
       obtain ⟨hM1, hB1, hG1⟩ := hI.1
       have zd8 := hR.pred 8 (by kernel_rfl)
       have zF8 : V 8 = .string ⟨(s.drop j).toArray⟩ := hI.2 8 zd8 rfl
       have zf8 := zF8; clear zF8
       have ze79 := hR.frame.done (t := 79) (j := 8) (by kernel_rfl) hR.ok zd8
       rw [if_pos (by rfl)]
       go_simp
       refine (HIX.out zw1 (Mod.of_pure hM1)).mono ?_
       rintro e zw2 ⟨rfl, hm2⟩
       exact hK (.int .i64 z) _ (hI.next hR (by kernel_rfl) hm2 (PB.quiet hI.1 hm2 (HGs.out D 9 _ _ (hI.1).g hm2)) (upd_same V 9 _))
      ·intro D V zw1 a hR hI K hK
       obtain ⟨hM1, hB1, hG1⟩ := hI.1
       have zd9 := hR.pred 9 (by kernel_rfl)
       have zF9 : V 9 = .int .i64 z := hI.2 9 zd9 rfl
       have zf9 := zF9; clear zF9
       have ze80 := hR.frame.done (t := 80) (j := 9) (by kernel_rfl) hR.ok zd9
       rw [if_pos (by rfl)]
       go_simp
       exact hK (.int .i64 z) _ (hI.next hR (by kernel_rfl) (Mod.refl _ _) (PB.quiet hI.1 (Mod.refl _ _) (HGs.out D 10 zw1 zw1 (hI.1).g (Mod.refl _ _))) (upd_same V 10 _))
     ·intro D V w4 hD hI
      obtain ⟨hM1, hB1, hG1⟩ := hI.1
      have hMx := hM1
      clear hM1
      have hBx := hB1
      clear hB1
      have hGx := hG1
      clear hG1
      have zF0 : V 0 = .pointer (some ⟨g, 0, none⟩) := hI.2 0 (hD 0 (by decide)) rfl
      have zf0 := zF0; clear zF0
      have zF1 : V 1 = .pointer (some ⟨g, 0, none⟩) := hI.2 1 (hD 1 (by decide)) rfl
      have zf1 := zF1; clear zF1
      have zF2 : V 2 = .pointer (some ⟨g, 0, none⟩) := hI.2 2 (hD 2 (by decide)) rfl
      have zf2 := zF2; clear zF2
      have zF3 : V 3 = .string ⟨s.toArray⟩ := hI.2 3 (hD 3 (by decide)) rfl
      have zf3 := zF3; clear zF3
      have zF4 : V 4 = .pointer (some ⟨g, 0, none⟩) := hI.2 4 (hD 4 (by decide)) rfl
      have zf4 := zF4; clear zF4
      have zF5 : V 5 = .pointer (some ⟨g, 0, none⟩) := hI.2 5 (hD 5 (by decide)) rfl
      have zf5 := zF5; clear zF5
      have zF6 : V 6 = .pointer (some ⟨g, 1, none⟩) := hI.2 6 (hD 6 (by decide)) rfl
      have zf6 := zF6; clear zF6
      have zF7 : V 7 = .int .i64 (j : Int) := hI.2 7 (hD 7 (by decide)) rfl
      have zf7 := zF7; clear zF7
      have zF8 : V 8 = .string ⟨(s.drop j).toArray⟩ := hI.2 8 (hD 8 (by decide)) rfl
      have zf8 := zF8; clear zF8
      have zF9 : V 9 = .int .i64 z := hI.2 9 (hD 9 (by decide)) rfl
      have zf9 := zF9; clear zF9
      have zF10 : V 10 = .int .i64 z := hI.2 10 (hD 10 (by decide)) rfl
      have zf10 := zF10; clear zF10
      clear hI hD HGs
      simp only [frAll, Act.put, List.setIfInBounds_toArray, List.set_cons_zero, List.set_cons_succ, Nat.zero_add, Nat.reduceAdd, zf0, zf1, zf2, zf3, zf4, zf5, zf6, zf7, zf8, zf9, zf10]
      clear zf0 zf1 zf2 zf3 zf4 zf5 zf6 zf7 zf8 zf9 zf10
      clear V D
      have HBD := Lib.hid hGx
      have HMD := Lib.hid (HMC.out.trans (Mod.of_pure hMx))
      clear hGx hMx HBC HMC HIX hext
      obtain ⟨N, hN⟩ : ∃ N, (wordQ (s.drop j)).length = N := ⟨_, rfl⟩
      rw [hN] at HWI HTW HWL
      have hNl : j + N ≤ s.length := by
       have h := word_le (s.drop j)
       rw [hN, List.length_drop] at h
       omega
      clear hN
      have hB4 := HBD.out
      have x0 := hB4.cell 0; have xf0 := hB4.frozen 0; have x1 := hB4.cell 1; have xf1 := hB4.frozen 1; have x2 := hB4.cell 2; have xf2 := hB4.frozen 2; have x3 := hB4.cell 3; have xf3 := hB4.frozen 3; have x4 := hB4.cell 4; have xf4 := hB4.frozen 4; have x5 := hB4.cell 5; have xf5 := hB4.frozen 5; have x6 := hB4.cell 6; have xf6 := hB4.frozen 6; have x7 := hB4.cell 7; have xf7 := hB4.frozen 7; simp at x0 x1 x2 x3 x4 x5 x6 x7
      clear hB4
      go_upto_if 82 with (fail)
      go_cut [2] (fun q wx => q = .int .i64 (N : Int) ∧ Pure w4 wx)
      case first =>
       by_cases hz0 : z < 0
       ·have HN2 : Hid ((N : Int) = (s.length : Int) - (j : Int)) := Lib.hid (by have := HWI.out.2; rw [if_pos hz0] at this; exact this)
        have hsz : 0 ≤ (s.length : Int) - (j : Int) := by omega
        go_upto_region 7 with (fail)
        have hw1 : IntKind.i64.wrap ((s.length : Int) - (j : Int)) = (s.length : Int) - (j : Int) := IntWalk.i64_in _ (by omega)
        go_quiet (fail)
        go_wp2_with fail
        go_meet
        exact ⟨by rw [HN2.out], (Mod.refl _ _).drewN _⟩
       ·have HN2 : Hid ((N : Int) = z) := Lib.hid (by have := HWI.out.2; rw [if_neg hz0] at this; exact this)
        go_wp2_with fail
        go_meet
        exact ⟨by rw [HN2.out], Mod.refl _ _⟩
      case rest =>
       obtain ⟨rfl, hm5⟩ := hcut
       have HB5 := Lib.hid (HBD.out.modp hm5)
       have HM5 := Lib.hid (HMD.out.trans (Mod.of_pure hm5))
       clear hm5 HBD HMD HWI x0 x1 x2 x3 x4 x5 x6 x7 xf0 xf1 xf2 xf3 xf4 xf5 xf6 xf7
       generalize wc = w5 at *
       have hadd : IntKind.i64.wrap ((j : Int) + (N : Int)) = (j : Int) + (N : Int) := IntWalk.i64_in _ (by omega)
       have hsub : (⟨s.toArray⟩ : ByteArray).extract j (j + N) = ⟨(wordQ (s.drop j)).toArray⟩ := by
        rw [ext_sub]
        unfold subS
        rw [HWL.out, List.drop_take]
        congr 3
        omega
       have htl : (wordQ (s.drop j)).length ≤ 200000 := by
        have h := word_le (s.drop j)
        rw [List.length_drop] at h
        omega
       have hpl : (lowS (wordQ (s.drop j))).length ≤ 200000 := by simpa [lowS] using htl
       have HTX : Hid (tokQ (s.drop j) = ((pieceQ (lowS (wordQ (s.drop j)))).1, (pieceQ (lowS (wordQ (s.drop j)))).2, N)) := HTW
       have HLO := Lib.hid (fun W => lowerQ_calls W (wordQ (s.drop j)) (by omega))
       clear HTW HWL
       generalize wordQ (s.drop j) = tx at *
       generalize lowS tx = ps at *
       have HPC := Lib.hid (fun W hW => piece_calls W ps (by omega) hW)
       go_upto_region 8 with (fail)
       have HGs := Lib.hid (show ∀ (D : Nat → Bool) (zzi : Nat) (zq zq' : World), (fun _ zq => (fun Z => ∃ (c2 c4 c5 c6 c7 : Value), Blk Z g 136 #[.string ⟨s.toArray⟩, .int .i64 (j : Int), c2, .int .i64 (j : Int), c4, c5, c6, c7]) zq) D zq → Mod (fun _ => False) zq zq' → (fun _ zq => (fun Z => ∃ (c2 c4 c5 c6 c7 : Value), Blk Z g 136 #[.string ⟨s.toArray⟩, .int .i64 (j : Int), c2, .int .i64 (j : Int), c4, c5, c6, c7]) zq) (upd D zzi true) zq' from by intro D zzi zq zq' h hm; (obtain ⟨c2, c4, c5, c6, c7, h⟩ := h; exact ⟨c2, c4, c5, c6, c7, h.modp hm⟩))
       refine wp_region_inv (by kernel_rfl) (by kernel_rfl) (InvF (R := Mod (fun _ => False)) [.is (.pointer (some ⟨g, 0, none⟩)),
         .is (.pointer (some ⟨g, 0, none⟩)),
         .is (.pointer (some ⟨g, 0, none⟩)),
         .is (.pointer (some ⟨g, 0, none⟩)),
         .is (.pointer (some ⟨g, 0, none⟩)),
         .is (.string ⟨s.toArray⟩),
         .is (.pointer (some ⟨g, 0, none⟩)),
         .is (.pointer (some ⟨g, 0, none⟩)),
         .is (.pointer (some ⟨g, 1, none⟩)),
         .is (.int .i64 (j : Int)),
         .is (.pointer (some ⟨g, 0, none⟩)),
         .is (.pointer (some ⟨g, 0, none⟩)),
         .is (.pointer (some ⟨g, 1, none⟩)),
         .is (.int .i64 (j : Int)),
         .is (.int .i64 (N : Int)),
         .is (.int .i64 ((j : Int) + (N : Int))),
         .is (.string ⟨tx.toArray⟩),
         .is (.string ⟨ps.toArray⟩),
         ⟨fun zv zw => ∃ (q_18 : QR), zv = .tuple #[.int .i64 (pieceQ ps).1, qA q_18] ∧ q_18.key = (pieceQ ps).2 ∧ QS zw q_18, (by rintro zv zw zx ⟨q_18, rfl, c0, q0⟩ hm; exact ⟨q_18, rfl, c0, (q0.pure hm)⟩), none, none⟩,
         ⟨fun zv zw => ∃ (q_19 : QR), zv = .tuple #[.int .i64 (pieceQ ps).1, qA q_19] ∧ q_19.key = (pieceQ ps).2 ∧ QS zw q_19, (by rintro zv zw zx ⟨q_19, rfl, c0, q0⟩ hm; exact ⟨q_19, rfl, c0, (q0.pure hm)⟩), none, none⟩,
         .is (.int .i64 (pieceQ ps).1),
         ⟨fun zv zw => ∃ (q_21 : QR), zv = qA q_21 ∧ q_21.key = (pieceQ ps).2 ∧ QS zw q_21, (by rintro zv zw zx ⟨q_21, rfl, c0, q0⟩ hm; exact ⟨q_21, rfl, c0, (q0.pure hm)⟩), none, none⟩,
         .is (.pointer (some ⟨g, 0, none⟩)),
         .is (.pointer (some ⟨g, 2, none⟩)),
         .is (.pointer (some ⟨g, 2, none⟩)),
         ⟨fun zv zw => zv = undef ∧ CellQ zw g 2 (.int .i64 (pieceQ ps).1), (by rintro zv zw zx ⟨rfl, q0⟩ hm; exact ⟨rfl, (q0.pure hm)⟩), none, none⟩,
         .is (.pointer (some ⟨g, 0, none⟩)),
         .is (.pointer (some ⟨g, 2, none⟩)),
         .is (.pointer (some ⟨g, 4, none⟩)),
         ⟨fun zv zw => ∃ (q_29 : QR), zv = undef ∧ q_29.key = (pieceQ ps).2 ∧ QS zw q_29 ∧ C4 zw g q_29, (by rintro zv zw zx ⟨q_29, rfl, c0, q0, q1⟩ hm; exact ⟨q_29, rfl, c0, (q0.pure hm), (q1.pure hm)⟩), none, none⟩]
         (PB w5 (· = g) w5.heap.size (fun _ zq => (fun Z => ∃ (c2 c4 c5 c6 c7 : Value), Blk Z g 136 #[.string ⟨s.toArray⟩, .int .i64 (j : Int), c2, .int .i64 (j : Int), c4, c5, c6, c7]) zq))) (InvF.start (PB.start (Mod.refl _ _) (Nat.le_refl _) (⟨_, _, _, _, _, HB5.out⟩))) ?_ ?_
       ·refine .cons ?_ (.cons ?_ (.cons ?_ (.cons ?_ (.cons ?_ (.cons ?_ (.cons ?_ (.cons ?_ (.cons ?_ (.cons ?_ (.cons ?_ (.cons ?_ (.cons ?_ (.cons ?_ (.cons ?_ (.cons ?_ (.cons ?_ (.cons ?_ (.cons ?_ (.cons ?_ (.cons ?_ (.cons ?_ (.cons ?_ (.cons ?_ (.cons ?_ (.cons ?_ (.cons ?_ (.cons ?_ (.cons ?_ (.cons ?_ .nil)))))))))))))))))))))))))))))
        ·intro D V zw1 a hR hI K hK
         obtain ⟨hM1, hB1, hG1⟩ := hI.1
         obtain ⟨c2, c4, c5, c6, c7, hG1d⟩ := hG1
         have ze0 := hR.frame.other (t := 0) (by kernel_rfl) rfl
         rw [if_pos (by rfl)]
         go_simp
         exact hK (.pointer (some ⟨g, 0, none⟩)) _ (hI.next hR (by kernel_rfl) (Mod.refl _ _) (PB.quiet hI.1 (Mod.refl _ _) (HGs.out D 0 zw1 zw1 (hI.1).g (Mod.refl _ _))) (upd_same V 0 _))
        ·intro D V zw1 a hR hI K hK
         obtain ⟨hM1, hB1, hG1⟩ := hI.1
         obtain ⟨c2, c4, c5, c6, c7, hG1d⟩ := hG1
         have ze0 := hR.frame.other (t := 0) (by kernel_rfl) rfl
         rw [if_pos (by rfl)]
         go_simp
         exact hK (.pointer (some ⟨g, 0, none⟩)) _ (hI.next hR (by kernel_rfl) (Mod.refl _ _) (PB.quiet hI.1 (Mod.refl _ _) (HGs.out D 1 zw1 zw1 (hI.1).g (Mod.refl _ _))) (upd_same V 1 _))
        ·intro D V zw1 a hR hI K hK
         obtain ⟨hM1, hB1, hG1⟩ := hI.1
         obtain ⟨c2, c4, c5, c6, c7, hG1d⟩ := hG1
         have ze0 := hR.frame.other (t := 0) (by kernel_rfl) rfl
         rw [if_pos (by rfl)]
         go_simp
         exact hK (.pointer (some ⟨g, 0, none⟩)) _ (hI.next hR (by kernel_rfl) (Mod.refl _ _) (PB.quiet hI.1 (Mod.refl _ _) (HGs.out D 2 zw1 zw1 (hI.1).g (Mod.refl _ _))) (upd_same V 2 _))
        ·intro D V zw1 a hR hI K hK
         obtain ⟨hM1, hB1, hG1⟩ := hI.1
         obtain ⟨c2, c4, c5, c6, c7, hG1d⟩ := hG1
         have zd2 := hR.pred 2 (by kernel_rfl)
         have zF2 : V 2 = .pointer (some ⟨g, 0, none⟩) := hI.2 2 zd2 rfl
         have zf2 := zF2; clear zF2
         have ze96 := hR.frame.done (t := 96) (j := 2) (by kernel_rfl) hR.ok zd2
         rw [if_pos (by rfl)]
         go_simp
         exact hK (.pointer (some ⟨g, 0, none⟩)) _ (hI.next hR (by kernel_rfl) (Mod.refl _ _) (PB.quiet hI.1 (Mod.refl _ _) (HGs.out D 3 zw1 zw1 (hI.1).g (Mod.refl _ _))) (upd_same V 3 _))
        ·intro D V zw1 a hR hI K hK
         obtain ⟨hM1, hB1, hG1⟩ := hI.1
         obtain ⟨c2, c4, c5, c6, c7, hG1d⟩ := hG1
         have zd3 := hR.pred 3 (by kernel_rfl)
         have zF3 : V 3 = .pointer (some ⟨g, 0, none⟩) := hI.2 3 zd3 rfl
         have zf3 := zF3; clear zF3
         have ze97 := hR.frame.done (t := 97) (j := 3) (by kernel_rfl) hR.ok zd3
         rw [if_pos (by rfl)]
         go_simp
         exact hK (.pointer (some ⟨g, 0, none⟩)) _ (hI.next hR (by kernel_rfl) (Mod.refl _ _) (PB.quiet hI.1 (Mod.refl _ _) (HGs.out D 4 zw1 zw1 (hI.1).g (Mod.refl _ _))) (upd_same V 4 _))
        ·intro D V zw1 a hR hI K hK
         obtain ⟨hM1, hB1, hG1⟩ := hI.1
         obtain ⟨c2, c4, c5, c6, c7, hG1d⟩ := hG1
         have zd4 := hR.pred 4 (by kernel_rfl)
         have zF4 : V 4 = .pointer (some ⟨g, 0, none⟩) := hI.2 4 zd4 rfl
         have zf4 := zF4; clear zF4
         have ze98 := hR.frame.done (t := 98) (j := 4) (by kernel_rfl) hR.ok zd4
         have zx0 := (hG1d).cell 0; have zy0 := (hG1d).frozen 0; simp at zx0
         rw [if_pos (by rfl)]
         go_simp
         exact hK (.string ⟨s.toArray⟩) _ (hI.next hR (by kernel_rfl) (Mod.refl _ _) (PB.quiet hI.1 (Mod.refl _ _) (HGs.out D 5 zw1 zw1 (hI.1).g (Mod.refl _ _))) (upd_same V 5 _))
        ·intro D V zw1 a hR hI K hK
         obtain ⟨hM1, hB1, hG1⟩ := hI.1
         obtain ⟨c2, c4, c5, c6, c7, hG1d⟩ := hG1
         have ze0 := hR.frame.other (t := 0) (by kernel_rfl) rfl
         rw [if_pos (by rfl)]
         go_simp
         exact hK (.pointer (some ⟨g, 0, none⟩)) _ (hI.next hR (by kernel_rfl) (Mod.refl _ _) (PB.quiet hI.1 (Mod.refl _ _) (HGs.out D 6 zw1 zw1 (hI.1).g (Mod.refl _ _))) (upd_same V 6 _))
        ·intro D V zw1 a hR hI K hK
         obtain ⟨hM1, hB1, hG1⟩ := hI.1
         obtain ⟨c2, c4, c5, c6, c7, hG1d⟩ := hG1
         have zd6 := hR.pred 6 (by kernel_rfl)
         have zF6 : V 6 = .pointer (some ⟨g, 0, none⟩) := hI.2 6 zd6 rfl
         have zf6 := zF6; clear zF6
         have ze100 := hR.frame.done (t := 100) (j := 6) (by kernel_rfl) hR.ok zd6
         rw [if_pos (by rfl)]
         go_simp
         exact hK (.pointer (some ⟨g, 0, none⟩)) _ (hI.next hR (by kernel_rfl) (Mod.refl _ _) (PB.quiet hI.1 (Mod.refl _ _) (HGs.out D 7 zw1 zw1 (hI.1).g (Mod.refl _ _))) (upd_same V 7 _))
        ·intro D V zw1 a hR hI K hK
         obtain ⟨hM1, hB1, hG1⟩ := hI.1
         obtain ⟨c2, c4, c5, c6, c7, hG1d⟩ := hG1
         have zd7 := hR.pred 7 (by kernel_rfl)
         have zF7 : V 7 = .pointer (some ⟨g, 0, none⟩) := hI.2 7 zd7 rfl
         have zf7 := zF7; clear zF7
         have ze101 := hR.frame.done (t := 101) (j := 7) (by kernel_rfl) hR.ok zd7
         rw [if_pos (by rfl)]
         go_simp
         exact hK (.pointer (some ⟨g, 1, none⟩)) _ (hI.next hR (by kernel_rfl) (Mod.refl _ _) (PB.quiet hI.1 (Mod.refl _ _) (HGs.out D 8 zw1 zw1 (hI.1).g (Mod.refl _ _))) (upd_same V 8 _))
        ·intro D V zw1 a hR hI K hK
         obtain ⟨hM1, hB1, hG1⟩ := hI.1
         obtain ⟨c2, c4, c5, c6, c7, hG1d⟩ := hG1
         have zd8 := hR.pred 8 (by kernel_rfl)
         have zF8 : V 8 = .pointer (some ⟨g, 1, none⟩) := hI.2 8 zd8 rfl
         have zf8 := zF8; clear zF8
         have ze102 := hR.frame.done (t := 102) (j := 8) (by kernel_rfl) hR.ok zd8
         have zx1 := (hG1d).cell 1; have zy1 := (hG1d).frozen 1; simp at zx1
         rw [if_pos (by rfl)]
         go_simp
         exact hK (.int .i64 (j : Int)) _ (hI.next hR (by kernel_rfl) (Mod.refl _ _) (PB.quiet hI.1 (Mod.refl _ _) (HGs.out D 9 zw1 zw1 (hI.1).g (Mod.refl _ _))) (upd_same V 9 _))
        ·intro D V zw1 a hR hI K hK
         obtain ⟨hM1, hB1, hG1⟩ := hI.1
         obtain ⟨c2, c4, c5, c6, c7, hG1d⟩ := hG1
         have ze0 := hR.frame.other (t := 0) (by kernel_rfl) rfl
         rw [if_pos (by rfl)]
         go_simp
         exact hK (.pointer (some ⟨g, 0, none⟩)) _ (hI.next hR (by kernel_rfl) (Mod.refl _ _) (PB.quiet hI.1 (Mod.refl _ _) (HGs.out D 10 zw1 zw1 (hI.1).g (Mod.refl _ _))) (upd_same V 10 _))
        ·intro D V zw1 a hR hI K hK
         obtain ⟨hM1, hB1, hG1⟩ := hI.1
         obtain ⟨c2, c4, c5, c6, c7, hG1d⟩ := hG1
         have zd10 := hR.pred 10 (by kernel_rfl)
         have zF10 : V 10 = .pointer (some ⟨g, 0, none⟩) := hI.2 10 zd10 rfl
         have zf10 := zF10; clear zF10
         have ze104 := hR.frame.done (t := 104) (j := 10) (by kernel_rfl) hR.ok zd10
         rw [if_pos (by rfl)]
         go_simp
         exact hK (.pointer (some ⟨g, 0, none⟩)) _ (hI.next hR (by kernel_rfl) (Mod.refl _ _) (PB.quiet hI.1 (Mod.refl _ _) (HGs.out D 11 zw1 zw1 (hI.1).g (Mod.refl _ _))) (upd_same V 11 _))
        ·intro D V zw1 a hR hI K hK
         obtain ⟨hM1, hB1, hG1⟩ := hI.1
         obtain ⟨c2, c4, c5, c6, c7, hG1d⟩ := hG1
         have zd11 := hR.pred 11 (by kernel_rfl)
         have zF11 : V 11 = .pointer (some ⟨g, 0, none⟩) := hI.2 11 zd11 rfl
         have zf11 := zF11; clear zF11
         have ze105 := hR.frame.done (t := 105) (j := 11) (by kernel_rfl) hR.ok zd11
         rw [if_pos (by rfl)]
         go_simp
         exact hK (.pointer (some ⟨g, 1, none⟩)) _ (hI.next hR (by kernel_rfl) (Mod.refl _ _) (PB.quiet hI.1 (Mod.refl _ _) (HGs.out D 12 zw1 zw1 (hI.1).g (Mod.refl _ _))) (upd_same V 12 _))
        ·intro D V zw1 a hR hI K hK
         obtain ⟨hM1, hB1, hG1⟩ := hI.1
         obtain ⟨c2, c4, c5, c6, c7, hG1d⟩ := hG1
         have zd12 := hR.pred 12 (by kernel_rfl)
         have zF12 : V 12 = .pointer (some ⟨g, 1, none⟩) := hI.2 12 zd12 rfl
         have zf12 := zF12; clear zF12
         have ze106 := hR.frame.done (t := 106) (j := 12) (by kernel_rfl) hR.ok zd12
         have zx1 := (hG1d).cell 1; have zy1 := (hG1d).frozen 1; simp at zx1
         rw [if_pos (by rfl)]
         go_simp
         exact hK (.int .i64 (j : Int)) _ (hI.next hR (by kernel_rfl) (Mod.refl _ _) (PB.quiet hI.1 (Mod.refl _ _) (HGs.out D 13 zw1 zw1 (hI.1).g (Mod.refl _ _))) (upd_same V 13 _))
        ·intro D V zw1 a hR hI K hK
         obtain ⟨hM1, hB1, hG1⟩ := hI.1
         obtain ⟨c2, c4, c5, c6, c7, hG1d⟩ := hG1
         have ze2 := hR.frame.other (t := 2) (by kernel_rfl) rfl
         rw [if_pos (by rfl)]
         go_simp
         exact hK (.int .i64 (N : Int)) _ (hI.next hR (by kernel_rfl) (Mod.refl _ _) (PB.quiet hI.1 (Mod.refl _ _) (HGs.out D 14 zw1 zw1 (hI.1).g (Mod.refl _ _))) (upd_same V 14 _))
        ·intro D V zw1 a hR hI K hK
         obtain ⟨hM1, hB1, hG1⟩ := hI.1
         obtain ⟨c2, c4, c5, c6, c7, hG1d⟩ := hG1
         have zd13 := hR.pred 13 (by kernel_rfl)
         have zF13 : V 13 = .int .i64 (j : Int) := hI.2 13 zd13 rfl
         have zf13 := zF13; clear zF13
         have zd14 := hR.pred 14 (by kernel_rfl)
         have zF14 : V 14 = .int .i64 (N : Int) := hI.2 14 zd14 rfl
         have zf14 := zF14; clear zF14
         have ze107 := hR.frame.done (t := 107) (j := 13) (by kernel_rfl) hR.ok zd13
         have ze108 := hR.frame.done (t := 108) (j := 14) (by kernel_rfl) hR.ok zd14
         rw [if_pos (by rfl)]
         go_simp
         exact hK (.int .i64 ((j : Int) + (N : Int))) _ (hI.next hR (by kernel_rfl) (Mod.refl _ _) (PB.quiet hI.1 (Mod.refl _ _) (HGs.out D 15 zw1 zw1 (hI.1).g (Mod.refl _ _))) (upd_same V 15 _))
        ·intro D V zw1 a hR hI K hK
         obtain ⟨hM1, hB1, hG1⟩ := hI.1
         obtain ⟨c2, c4, c5, c6, c7, hG1d⟩ := hG1
         have zd5 := hR.pred 5 (by kernel_rfl)
         have zF5 : V 5 = .string ⟨s.toArray⟩ := hI.2 5 zd5 rfl
         have zf5 := zF5; clear zF5
         have zd9 := hR.pred 9 (by kernel_rfl)
         have zF9 : V 9 = .int .i64 (j : Int) := hI.2 9 zd9 rfl
         have zf9 := zF9; clear zF9
         have zd15 := hR.pred 15 (by kernel_rfl)
         have zF15 : V 15 = .int .i64 ((j : Int) + (N : Int)) := hI.2 15 zd15 rfl
         have zf15 := zF15; clear zF15
         have ze99 := hR.frame.done (t := 99) (j := 5) (by kernel_rfl) hR.ok zd5
         have ze103 := hR.frame.done (t := 103) (j := 9) (by kernel_rfl) hR.ok zd9
         have ze109 := hR.frame.done (t := 109) (j := 15) (by kernel_rfl) hR.ok zd15
         have hq1 : (j : Int) + (N : Int) ≤ (s.length : Int) := by omega
         have hq2 : ((j : Int) + (N : Int)).toNat = j + N := by omega
         have hq3 : ¬ ((j : Int) + (N : Int) < 0) := by omega
         have hq4 : (0 : Int) ≤ (j : Int) + (N : Int) := by omega
         have hq5 : (j : Int) ≤ (j : Int) + (N : Int) := by omega
         rw [if_pos (by rfl)]
         go_simp
         exact hK (.string ⟨tx.toArray⟩) _ (hI.next hR (by kernel_rfl) (Mod.refl _ _) (PB.quiet hI.1 (Mod.refl _ _) (HGs.out D 16 zw1 zw1 (hI.1).g (Mod.refl _ _))) (upd_same V 16 _))
        ·intro D V zw1 a hR hI K hK
         obtain ⟨hM1, hB1, hG1⟩ := hI.1
         obtain ⟨c2, c4, c5, c6, c7, hG1d⟩ := hG1
         have zd16 := hR.pred 16 (by kernel_rfl)
         have zF16 : V 16 = .string ⟨tx.toArray⟩ := hI.2 16 zd16 rfl
         have zf16 := zF16; clear zF16
         have ze110 := hR.frame.done (t := 110) (j := 16) (by kernel_rfl) hR.ok zd16
         rw [if_pos (by rfl)]
         go_simp
         refine (HLO.out zw1).mono ?_
         rintro e zw2 ⟨rfl, hm2⟩
         exact hK (.string ⟨ps.toArray⟩) _ (hI.next hR (by kernel_rfl) hm2 (PB.quiet hI.1 hm2 (HGs.out D 17 _ _ (hI.1).g hm2)) (upd_same V 17 _))
        ·intro D V zw1 a hR hI K hK
         obtain ⟨hM1, hB1, hG1⟩ := hI.1
         obtain ⟨c2, c4, c5, c6, c7, hG1d⟩ := hG1
         have zd17 := hR.pred 17 (by kernel_rfl)
         have zF17 : V 17 = .string ⟨ps.toArray⟩ := hI.2 17 zd17 rfl
         have zf17 := zF17; clear zF17
         have ze111 := hR.frame.done (t := 111) (j := 17) (by kernel_rfl) hR.ok zd17
         rw [if_pos (by rfl)]
         go_simp
         refine (HPC.out zw1 (HML.out zw1 (HM5.out.trans hM1))).mono ?_
         rintro e zw2 ⟨q_0, rfl, hq1, hq2, _, hm2⟩
         exact hK (.tuple #[.int .i64 (pieceQ ps).1, qA q_0]) _ (hI.next hR (by kernel_rfl) hm2 (PB.quiet hI.1 hm2 (HGs.out D 18 _ _ (hI.1).g hm2)) (⟨q_0, upd_same V 18 _, hq2, hq1⟩))
        ·intro D V zw1 a hR hI K hK
         obtain ⟨hM1, hB1, hG1⟩ := hI.1
         obtain ⟨c2, c4, c5, c6, c7, hG1d⟩ := hG1
         have zd18 := hR.pred 18 (by kernel_rfl)
         have zF18 : ∃ (q_18 : QR), V 18 = .tuple #[.int .i64 (pieceQ ps).1, qA q_18] ∧ q_18.key = (pieceQ ps).2 ∧ QS zw1 q_18 := hI.2 18 zd18 rfl
         obtain ⟨q_18, zf18, c18_0, b18_0⟩ := zF18
         have ze112 := hR.frame.done (t := 112) (j := 18) (by kernel_rfl) hR.ok zd18
         rw [if_pos (by rfl)]
         go_simp
         exact hK (.tuple #[.int .i64 (pieceQ ps).1, qA q_18]) _ (hI.next hR (by kernel_rfl) (Mod.refl _ _) (PB.quiet hI.1 (Mod.refl _ _) (HGs.out D 19 zw1 zw1 (hI.1).g (Mod.refl _ _))) (⟨q_18, upd_same V 19 _, (by first | assumption | omega), b18_0⟩))
        ·intro D V zw1 a hR hI K hK
         obtain ⟨hM1, hB1, hG1⟩ := hI.1
         obtain ⟨c2, c4, c5, c6, c7, hG1d⟩ := hG1
         have zd19 := hR.pred 19 (by kernel_rfl)
         have zF19 : ∃ (q_19 : QR), V 19 = .tuple #[.int .i64 (pieceQ ps).1, qA q_19] ∧ q_19.key = (pieceQ ps).2 ∧ QS zw1 q_19 := hI.2 19 zd19 rfl
         obtain ⟨q_19, zf19, c19_0, b19_0⟩ := zF19
         have ze93 := hR.frame.done (t := 93) (j := 19) (by kernel_rfl) hR.ok zd19
         rw [if_pos (by rfl)]
         go_simp
         exact hK (.int .i64 (pieceQ ps).1) _ (hI.next hR (by kernel_rfl) (Mod.refl _ _) (PB.quiet hI.1 (Mod.refl _ _) (HGs.out D 20 zw1 zw1 (hI.1).g (Mod.refl _ _))) (upd_same V 20 _))
        ·intro D V zw1 a hR hI K hK
         obtain ⟨hM1, hB1, hG1⟩ := hI.1
         obtain ⟨c2, c4, c5, c6, c7, hG1d⟩ := hG1
         have zd19 := hR.pred 19 (by kernel_rfl)
         have zF19 : ∃ (q_19 : QR), V 19 = .tuple #[.int .i64 (pieceQ ps).1, qA q_19] ∧ q_19.key = (pieceQ ps).2 ∧ QS zw1 q_19 := hI.2 19 zd19 rfl
         obtain ⟨q_19, zf19, c19_0, b19_0⟩ := zF19
         have ze93 := hR.frame.done (t := 93) (j := 19) (by kernel_rfl) hR.ok zd19
         rw [if_pos (by rfl)]
         go_simp
         exact hK (_) _ (hI.next hR (by kernel_rfl) (Mod.refl _ _) (PB.quiet hI.1 (Mod.refl _ _) (HGs.out D 21 zw1 zw1 (hI.1).g (Mod.refl _ _))) (⟨q_19, upd_same V 21 _, c19_0, b19_0⟩))
        ·intro D V zw1 a hR hI K hK
         obtain ⟨hM1, hB1, hG1⟩ := hI.1
         obtain ⟨c2, c4, c5, c6, c7, hG1d⟩ := hG1
         have zd0 := hR.pred 0 (by kernel_rfl)
         have zF0 : V 0 = .pointer (some ⟨g, 0, none⟩) := hI.2 0 zd0 rfl
         have zf0 := zF0; clear zF0
         have ze94 := hR.frame.done (t := 94) (j := 0) (by kernel_rfl) hR.ok zd0
         rw [if_pos (by rfl)]
         go_simp
         exact hK (.pointer (some ⟨g, 0, none⟩)) _ (hI.next hR (by kernel_rfl) (Mod.refl _ _) (PB.quiet hI.1 (Mod.refl _ _) (HGs.out D 22 zw1 zw1 (hI.1).g (Mod.refl _ _))) (upd_same V 22 _))
        ·intro D V zw1 a hR hI K hK
         obtain ⟨hM1, hB1, hG1⟩ := hI.1
         obtain ⟨c2, c4, c5, c6, c7, hG1d⟩ := hG1
         have zd22 := hR.pred 22 (by kernel_rfl)
         have zF22 : V 22 = .pointer (some ⟨g, 0, none⟩) := hI.2 22 zd22 rfl
         have zf22 := zF22; clear zF22
         have ze115 := hR.frame.done (t := 115) (j := 22) (by kernel_rfl) hR.ok zd22
         rw [if_pos (by rfl)]
         go_simp
         exact hK (.pointer (some ⟨g, 2, none⟩)) _ (hI.next hR (by kernel_rfl) (Mod.refl _ _) (PB.quiet hI.1 (Mod.refl _ _) (HGs.out D 23 zw1 zw1 (hI.1).g (Mod.refl _ _))) (upd_same V 23 _))
        ·intro D V zw1 a hR hI K hK
         obtain ⟨hM1, hB1, hG1⟩ := hI.1
         obtain ⟨c2, c4, c5, c6, c7, hG1d⟩ := hG1
         have zd23 := hR.pred 23 (by kernel_rfl)
         have zF23 : V 23 = .pointer (some ⟨g, 2, none⟩) := hI.2 23 zd23 rfl
         have zf23 := zF23; clear zF23
         have ze116 := hR.frame.done (t := 116) (j := 23) (by kernel_rfl) hR.ok zd23
         rw [if_pos (by rfl)]
         go_simp
         exact hK (.pointer (some ⟨g, 2, none⟩)) _ (hI.next hR (by kernel_rfl) (Mod.refl _ _) (PB.quiet hI.1 (Mod.refl _ _) (HGs.out D 24 zw1 zw1 (hI.1).g (Mod.refl _ _))) (upd_same V 24 _))
        ·intro D V zw1 a hR hI K hK
         obtain ⟨hM1, hB1, hG1⟩ := hI.1
         obtain ⟨c2, c4, c5, c6, c7, hG1d⟩ := hG1
         have zd24 := hR.pred 24 (by kernel_rfl)
         have zF24 : V 24 = .pointer (some ⟨g, 2, none⟩) := hI.2 24 zd24 rfl
         have zf24 := zF24; clear zF24
         have zd20 := hR.pred 20 (by kernel_rfl)
         have zF20 : V 20 = .int .i64 (pieceQ ps).1 := hI.2 20 zd20 rfl
         have zf20 := zF20; clear zF20
         have ze117 := hR.frame.done (t := 117) (j := 24) (by kernel_rfl) hR.ok zd24
         have ze113 := hR.frame.done (t := 113) (j := 20) (by kernel_rfl) hR.ok zd20
         rw [if_pos (by rfl)]
         have zx2 := (hG1d).cell 2; have zy2 := (hG1d).frozen 2; simp at zx2
         go_simp
         refine hK undef _ (InvF.last ⟨mod_set hM1 2 _, (by simpa using hB1), ⟨_, _, _, _, _, (by have h := hG1d.set 2 (.int .i64 (pieceQ ps).1); simpa using h)⟩⟩ ⟨upd_same _ 25 _, (by have h := (hG1d.set 2 (.int .i64 (pieceQ ps).1)).cell 2; simpa [CellQ] using h)⟩ ?_)
         intro k hk hDk hlv
         have hkl := hR.lt k hDk
         have hv := hI.2 k hDk (liveB_of hlv)
         match k, hk, hDk, hlv, hkl, hv with
         | 0, _, _, _, _, hv => exact hv
         | 1, _, _, _, _, hv => exact hv
         | 2, _, _, _, _, hv => exact hv
         | 3, _, _, _, _, hv => exact hv
         | 4, _, _, _, _, hv => exact hv
         | 5, _, _, _, _, hv => exact hv
         | 6, _, _, _, _, hv => exact hv
         | 7, _, _, _, _, hv => exact hv
         | 8, _, _, _, _, hv => exact hv
         | 9, _, _, _, _, hv => exact hv
         | 10, _, _, _, _, hv => exact hv
         | 11, _, _, _, _, hv => exact hv
         | 12, _, _, _, _, hv => exact hv
         | 13, _, _, _, _, hv => exact hv
         | 14, _, _, _, _, hv => exact hv
         | 15, _, _, _, _, hv => exact hv
         | 16, _, _, _, _, hv => exact hv
         | 17, _, _, _, _, hv => exact hv
         | 18, hk, hDk, hlv, hkl, hv => (have hv2 : ∃ q : QR, V 18 = .tuple #[.int .i64 (pieceQ ps).1, qA q] ∧ q.key = (pieceQ ps).2 ∧ QS zw1 q := hv; obtain ⟨q, h1, h2, h3⟩ := hv2; exact ⟨q, h1, h2, h3.rd hG1d (mod_set (Mod.refl _ _) 2 _)⟩)
         | 19, hk, hDk, hlv, hkl, hv => (have hv2 : ∃ q : QR, V 19 = .tuple #[.int .i64 (pieceQ ps).1, qA q] ∧ q.key = (pieceQ ps).2 ∧ QS zw1 q := hv; obtain ⟨q, h1, h2, h3⟩ := hv2; exact ⟨q, h1, h2, h3.rd hG1d (mod_set (Mod.refl _ _) 2 _)⟩)
         | 20, _, _, _, _, hv => exact hv
         | 21, hk, hDk, hlv, hkl, hv => (have hv2 : ∃ q : QR, V 21 = qA q ∧ q.key = (pieceQ ps).2 ∧ QS zw1 q := hv; obtain ⟨q, h1, h2, h3⟩ := hv2; exact ⟨q, h1, h2, h3.rd hG1d (mod_set (Mod.refl _ _) 2 _)⟩)
         | 22, _, _, _, _, hv => exact hv
         | 23, _, _, _, _, hv => exact hv
         | 24, _, _, _, _, hv => exact hv
         | 25, hk, _, _, _, _ => exact absurd rfl hk
         | 26, _, _, _, _, hv => exact hv
         | 27, _, _, _, _, hv => exact hv
         | 28, _, _, _, _, hv => exact hv
         | 29, hk, hDk, hlv, hkl, hv => (have hv2 : ∃ q : QR, V 29 = undef ∧ q.key = (pieceQ ps).2 ∧ QS zw1 q ∧ C4 zw1 g q := hv; obtain ⟨q, h1, h2, h3, h4⟩ := hv2; exact ⟨q, h1, h2, h3.rd hG1d (mod_set (Mod.refl _ _) 2 _), h4.set hG1d (by decide)⟩)
         | k + 30, _, _, _, hkl, _ => exact absurd hkl (by simp)
        ·intro D V zw1 a hR hI K hK
         obtain ⟨hM1, hB1, hG1⟩ := hI.1
         obtain ⟨c2, c4, c5, c6, c7, hG1d⟩ := hG1
         have zd1 := hR.pred 1 (by kernel_rfl)
         have zF1 : V 1 = .pointer (some ⟨g, 0, none⟩) := hI.2 1 zd1 rfl
         have zf1 := zF1; clear zF1
         have ze95 := hR.frame.done (t := 95) (j := 1) (by kernel_rfl) hR.ok zd1
         rw [if_pos (by rfl)]
         go_simp
         exact hK (.pointer (some ⟨g, 0, none⟩)) _ (hI.next hR (by kernel_rfl) (Mod.refl _ _) (PB.quiet hI.1 (Mod.refl _ _) (HGs.out D 26 zw1 zw1 (hI.1).g (Mod.refl _ _))) (upd_same V 26 _))
        ·intro D V zw1 a hR hI K hK
         obtain ⟨hM1, hB1, hG1⟩ := hI.1
         obtain ⟨c2, c4, c5, c6, c7, hG1d⟩ := hG1
         have zd26 := hR.pred 26 (by kernel_rfl)
         have zF26 : V 26 = .pointer (some ⟨g, 0, none⟩) := hI.2 26 zd26 rfl
         have zf26 := zF26; clear zF26
         have ze118 := hR.frame.done (t := 118) (j := 26) (by kernel_rfl) hR.ok zd26
         rw [if_pos (by rfl)]
         go_simp
         exact hK (.pointer (some ⟨g, 2, none⟩)) _ (hI.next hR (by kernel_rfl) (Mod.refl _ _) (PB.quiet hI.1 (Mod.refl _ _) (HGs.out D 27 zw1 zw1 (hI.1).g (Mod.refl _ _))) (upd_same V 27 _))
        ·intro D V zw1 a hR hI K hK
         obtain ⟨hM1, hB1, hG1⟩ := hI.1
         obtain ⟨c2, c4, c5, c6, c7, hG1d⟩ := hG1
         have zd27 := hR.pred 27 (by kernel_rfl)
         have zF27 : V 27 = .pointer (some ⟨g, 2, none⟩) := hI.2 27 zd27 rfl
         have zf27 := zF27; clear zF27
         have ze119 := hR.frame.done (t := 119) (j := 27) (by kernel_rfl) hR.ok zd27
         rw [if_pos (by rfl)]
         go_simp
         exact hK (.pointer (some ⟨g, 4, none⟩)) _ (hI.next hR (by kernel_rfl) (Mod.refl _ _) (PB.quiet hI.1 (Mod.refl _ _) (HGs.out D 28 zw1 zw1 (hI.1).g (Mod.refl _ _))) (upd_same V 28 _))
        ·intro D V zw1 a hR hI K hK
         obtain ⟨hM1, hB1, hG1⟩ := hI.1
         obtain ⟨c2, c4, c5, c6, c7, hG1d⟩ := hG1
         have zd28 := hR.pred 28 (by kernel_rfl)
         have zF28 : V 28 = .pointer (some ⟨g, 4, none⟩) := hI.2 28 zd28 rfl
         have zf28 := zF28; clear zF28
         have zd21 := hR.pred 21 (by kernel_rfl)
         have zF21 : ∃ (q_21 : QR), V 21 = qA q_21 ∧ q_21.key = (pieceQ ps).2 ∧ QS zw1 q_21 := hI.2 21 zd21 rfl
         obtain ⟨q_21, zf21, c21_0, b21_0⟩ := zF21
         have ze120 := hR.frame.done (t := 120) (j := 28) (by kernel_rfl) hR.ok zd28
         have ze114 := hR.frame.done (t := 114) (j := 21) (by kernel_rfl) hR.ok zd21
         rw [if_pos (by rfl)]
         have zx4 := (hG1d).cell 4; have zy4 := (hG1d).frozen 4; simp at zx4
         have zx5 := (hG1d).cell 5; have zy5 := (hG1d).frozen 5; simp at zx5
         have zx6 := (hG1d).cell 6; have zy6 := (hG1d).frozen 6; simp at zx6
         have zx7 := (hG1d).cell 7; have zy7 := (hG1d).frozen 7; simp at zx7
         obtain ⟨k0, A0, e0, ws0, n0, B0, d0, xs0⟩ := q_21
         rw [qA_mk] at zf21
         go_simp
         refine hK undef _ (InvF.last ⟨mod_set (mod_set (mod_set (mod_set hM1 4 _) 5 _) 6 _) 7 _, (by simpa using hB1), ⟨_, _, _, _, _, (by have h := (((hG1d.set 4 (.int .i64 k0)).set 5 (.slice A0 ws0.length e0)).set 6 (.int .i64 n0)).set 7 (.slice B0 xs0.length d0); simpa using h)⟩⟩ ⟨.mk k0 A0 e0 ws0 n0 B0 d0 xs0, upd_same _ 29 _, c21_0, b21_0.rd hG1d (mod_set (mod_set (mod_set (mod_set (Mod.refl _ _) 4 _) 5 _) 6 _) 7 _), c4_new hG1d rfl⟩ ?_)
         intro k hk hDk hlv
         have hkl := hR.lt k hDk
         have hv := hI.2 k hDk (liveB_of hlv)
         match k, hk, hDk, hlv, hkl, hv with
         | 0, _, _, _, _, hv => exact hv
         | 1, _, _, _, _, hv => exact hv
         | 2, _, _, _, _, hv => exact hv
         | 3, _, _, _, _, hv => exact hv
         | 4, _, _, _, _, hv => exact hv
         | 5, _, _, _, _, hv => exact hv
         | 6, _, _, _, _, hv => exact hv
         | 7, _, _, _, _, hv => exact hv
         | 8, _, _, _, _, hv => exact hv
         | 9, _, _, _, _, hv => exact hv
         | 10, _, _, _, _, hv => exact hv
         | 11, _, _, _, _, hv => exact hv
         | 12, _, _, _, _, hv => exact hv
         | 13, _, _, _, _, hv => exact hv
         | 14, _, _, _, _, hv => exact hv
         | 15, _, _, _, _, hv => exact hv
         | 16, _, _, _, _, hv => exact hv
         | 17, _, _, _, _, hv => exact hv
         | 18, hk, hDk, hlv, hkl, hv => (have hv2 : ∃ q : QR, V 18 = .tuple #[.int .i64 (pieceQ ps).1, qA q] ∧ q.key = (pieceQ ps).2 ∧ QS zw1 q := hv; obtain ⟨q, h1, h2, h3⟩ := hv2; exact ⟨q, h1, h2, h3.rd hG1d (mod_set (mod_set (mod_set (mod_set (Mod.refl _ _) 4 _) 5 _) 6 _) 7 _)⟩)
         | 19, hk, hDk, hlv, hkl, hv => (have hv2 : ∃ q : QR, V 19 = .tuple #[.int .i64 (pieceQ ps).1, qA q] ∧ q.key = (pieceQ ps).2 ∧ QS zw1 q := hv; obtain ⟨q, h1, h2, h3⟩ := hv2; exact ⟨q, h1, h2, h3.rd hG1d (mod_set (mod_set (mod_set (mod_set (Mod.refl _ _) 4 _) 5 _) 6 _) 7 _)⟩)
         | 20, _, _, _, _, hv => exact hv
         | 21, hk, hDk, hlv, hkl, hv => (have hv2 : ∃ q : QR, V 21 = qA q ∧ q.key = (pieceQ ps).2 ∧ QS zw1 q := hv; obtain ⟨q, h1, h2, h3⟩ := hv2; exact ⟨q, h1, h2, h3.rd hG1d (mod_set (mod_set (mod_set (mod_set (Mod.refl _ _) 4 _) 5 _) 6 _) 7 _)⟩)
         | 22, _, _, _, _, hv => exact hv
         | 23, _, _, _, _, hv => exact hv
         | 24, _, _, _, _, hv => exact hv
         | 25, hk, hDk, hlv, hkl, hv => (have hv2 : V 25 = undef ∧ CellQ zw1 g 2 (.int .i64 (pieceQ ps).1) := hv; exact ⟨hv2.1, cq_st4 hG1d hv2.2⟩)
         | 26, _, _, _, _, hv => exact hv
         | 27, _, _, _, _, hv => exact hv
         | 28, _, _, _, _, hv => exact hv
         | 29, hk, _, _, _, _ => exact absurd rfl hk
         | k + 30, _, _, _, hkl, _ => exact absurd hkl (by simp)
       ·intro D V w6 hD hI
        obtain ⟨hM1, hB1, hG1⟩ := hI.1
        have hMx := hM1
        clear hM1
        have hBx := hB1
        clear hB1
        have hGx := hG1
        clear hG1
        have zF0 : V 0 = .pointer (some ⟨g, 0, none⟩) := hI.2 0 (hD 0 (by decide)) rfl
        have zf0 := zF0; clear zF0
        have zF1 : V 1 = .pointer (some ⟨g, 0, none⟩) := hI.2 1 (hD 1 (by decide)) rfl
        have zf1 := zF1; clear zF1
        have zF2 : V 2 = .pointer (some ⟨g, 0, none⟩) := hI.2 2 (hD 2 (by decide)) rfl
        have zf2 := zF2; clear zF2
        have zF3 : V 3 = .pointer (some ⟨g, 0, none⟩) := hI.2 3 (hD 3 (by decide)) rfl
        have zf3 := zF3; clear zF3
        have zF4 : V 4 = .pointer (some ⟨g, 0, none⟩) := hI.2 4 (hD 4 (by decide)) rfl
        have zf4 := zF4; clear zF4
        have zF5 : V 5 = .string ⟨s.toArray⟩ := hI.2 5 (hD 5 (by decide)) rfl
        have zf5 := zF5; clear zF5
        have zF6 : V 6 = .pointer (some ⟨g, 0, none⟩) := hI.2 6 (hD 6 (by decide)) rfl
        have zf6 := zF6; clear zF6
        have zF7 : V 7 = .pointer (some ⟨g, 0, none⟩) := hI.2 7 (hD 7 (by decide)) rfl
        have zf7 := zF7; clear zF7
        have zF8 : V 8 = .pointer (some ⟨g, 1, none⟩) := hI.2 8 (hD 8 (by decide)) rfl
        have zf8 := zF8; clear zF8
        have zF9 : V 9 = .int .i64 (j : Int) := hI.2 9 (hD 9 (by decide)) rfl
        have zf9 := zF9; clear zF9
        have zF10 : V 10 = .pointer (some ⟨g, 0, none⟩) := hI.2 10 (hD 10 (by decide)) rfl
        have zf10 := zF10; clear zF10
        have zF11 : V 11 = .pointer (some ⟨g, 0, none⟩) := hI.2 11 (hD 11 (by decide)) rfl
        have zf11 := zF11; clear zF11
        have zF12 : V 12 = .pointer (some ⟨g, 1, none⟩) := hI.2 12 (hD 12 (by decide)) rfl
        have zf12 := zF12; clear zF12
        have zF13 : V 13 = .int .i64 (j : Int) := hI.2 13 (hD 13 (by decide)) rfl
        have zf13 := zF13; clear zF13
        have zF14 : V 14 = .int .i64 (N : Int) := hI.2 14 (hD 14 (by decide)) rfl
        have zf14 := zF14; clear zF14
        have zF15 : V 15 = .int .i64 ((j : Int) + (N : Int)) := hI.2 15 (hD 15 (by decide)) rfl
        have zf15 := zF15; clear zF15
        have zF16 : V 16 = .string ⟨tx.toArray⟩ := hI.2 16 (hD 16 (by decide)) rfl
        have zf16 := zF16; clear zF16
        have zF17 : V 17 = .string ⟨ps.toArray⟩ := hI.2 17 (hD 17 (by decide)) rfl
        have zf17 := zF17; clear zF17
        have zF18 : ∃ (q_18 : QR), V 18 = .tuple #[.int .i64 (pieceQ ps).1, qA q_18] ∧ q_18.key = (pieceQ ps).2 ∧ QS w6 q_18 := hI.2 18 (hD 18 (by decide)) rfl
        obtain ⟨q_18, zf18, c18_0, b18_0⟩ := zF18
        have zF19 : ∃ (q_19 : QR), V 19 = .tuple #[.int .i64 (pieceQ ps).1, qA q_19] ∧ q_19.key = (pieceQ ps).2 ∧ QS w6 q_19 := hI.2 19 (hD 19 (by decide)) rfl
        obtain ⟨q_19, zf19, c19_0, b19_0⟩ := zF19
        have zF20 : V 20 = .int .i64 (pieceQ ps).1 := hI.2 20 (hD 20 (by decide)) rfl
        have zf20 := zF20; clear zF20
        have zF21 : ∃ (q_21 : QR), V 21 = qA q_21 ∧ q_21.key = (pieceQ ps).2 ∧ QS w6 q_21 := hI.2 21 (hD 21 (by decide)) rfl
        obtain ⟨q_21, zf21, c21_0, b21_0⟩ := zF21
        have zF22 : V 22 = .pointer (some ⟨g, 0, none⟩) := hI.2 22 (hD 22 (by decide)) rfl
        have zf22 := zF22; clear zF22
        have zF23 : V 23 = .pointer (some ⟨g, 2, none⟩) := hI.2 23 (hD 23 (by decide)) rfl
        have zf23 := zF23; clear zF23
        have zF24 : V 24 = .pointer (some ⟨g, 2, none⟩) := hI.2 24 (hD 24 (by decide)) rfl
        have zf24 := zF24; clear zF24
        have zF25 : V 25 = undef ∧ CellQ w6 g 2 (.int .i64 (pieceQ ps).1) := hI.2 25 (hD 25 (by decide)) rfl
        obtain ⟨zf25, b25_0⟩ := zF25
        have zF26 : V 26 = .pointer (some ⟨g, 0, none⟩) := hI.2 26 (hD 26 (by decide)) rfl
        have zf26 := zF26; clear zF26
        have zF27 : V 27 = .pointer (some ⟨g, 2, none⟩) := hI.2 27 (hD 27 (by decide)) rfl
        have zf27 := zF27; clear zF27
        have zF28 : V 28 = .pointer (some ⟨g, 4, none⟩) := hI.2 28 (hD 28 (by decide)) rfl
        have zf28 := zF28; clear zF28
        have zF29 : ∃ (q_29 : QR), V 29 = undef ∧ q_29.key = (pieceQ ps).2 ∧ QS w6 q_29 ∧ C4 w6 g q_29 := hI.2 29 (hD 29 (by decide)) rfl
        obtain ⟨q_29, zf29, c29_0, b29_0, b29_1⟩ := zF29
        clear hI hD HGs
        simp only [frAll, Act.put, List.setIfInBounds_toArray, List.set_cons_zero, List.set_cons_succ, Nat.zero_add, Nat.reduceAdd, zf0, zf1, zf2, zf3, zf4, zf5, zf6, zf7, zf8, zf9, zf10, zf11, zf12, zf13, zf14, zf15, zf16, zf17, zf18, zf19, zf20, zf21, zf22, zf23, zf24, zf25, zf26, zf27, zf28, zf29]
        clear zf0 zf1 zf2 zf3 zf4 zf5 zf6 zf7 zf8 zf9 zf10 zf11 zf12 zf13 zf14 zf15 zf16 zf17 zf18 zf19 zf20 zf21 zf22 zf23 zf24 zf25 zf26 zf27 zf28 zf29
        clear V D
        obtain ⟨c2, c4, c5, c6, c7, hB6⟩ := hGx
        have hB7 := rd_cells hB6 b25_0 b29_1
        have HB6 := Lib.hid hB7
        have HM6 := Lib.hid (HM5.out.trans hMx)
        have HQ6 := Lib.hid b29_0
        obtain ⟨k0, A0, e0, ws0, n0, B0, d0, xs0⟩ := q_29
        have HBF := Lib.hid (HB6.out.set 1 (.int .i64 ((j : Int) + (N : Int))))
        have hx1 := hB7.cell 1
        have hy1 := hB7.frozen 1
        simp [rdC] at hx1
        clear hB6 hB7 b18_0 b19_0 b21_0 b25_0 b29_0 b29_1 c18_0 c19_0 c21_0 hMx HB5 HM5 HLO HPC hsub hadd
        go_wp2_with fail
        go_end0
        exact TkP.nx (W := w6) (j := j) ⟨_, rfl, by rw [HTX.out]; have h := HBF.out; simpa [rdC] using h, by rw [HTX.out]; exact c29_0, HQ6.out.rd HB6.out (mod_set (Mod.refl _ _) 1 _), mod_set (Mod.refl _ _) 1 _⟩ HM6.out HJ.out
  ·have ej : j = s.length := by omega
   subst ej
   have HJ : Hid (skpQ s p = s.length) := Lib.hid (by rw [← HSK.out]; exact skp_end (Nat.le_refl _))
   go_upto_region 0 with (fail)
   go_quiet (fail)
   go_upto_region 3 with (fail)
   go_quiet (fail)
   go_wp2_with fail
   go_end0
   exact TkP.nx (W := w) (j := s.length) ⟨.mk 0 none 0 [] 0 none 0 [], rfl, by rw [List.drop_length]; exact (rd_zero (j := (s.length : Int)) (HBJ.out.drewN _)).drewN _, by rw [List.drop_length, QR.key_mk]; rfl, QS.zero, (rd_zmod (j := (s.length : Int)) (HM.out.drewN _)).drewN _⟩ (Mod.refl _ _) HJ.out
end Go.Proofs.YtnfflgicngeekaaGreatDoor

/- A part of a search: (*reader).part. -/
namespace Go.Proofs.YtnfflgicngeekaaGreatDoor
set_option linter.unusedVariables false
set_option linter.unusedSimpArgs false
open Go.RowKit
/-- next, in every later world; or, for at most so many tokens. -/
def NxC (w0 : World) (g : Nat) (s : Str) : Prop := ∀ W L, Mod (· = g) w0 W → RdrS W g s L → kdL L ≠ 0 → kdL L ≠ 8 → Calls Tryz.prog 111 #[.pointer (some ⟨g, 0, none⟩)] W (NrP W g s L.tail)
def OrC (w0 : World) (g : Nat) (s : Str) (f : Nat) : Prop := ∀ W L, Mod (· = g) w0 W → RdrS W g s L → L.length + 1 ≤ f → Calls Tryz.prog 112 #[.pointer (some ⟨g, 0, none⟩)] W (PrP W g s (pOr f L))
theorem nxC_of {w0 : World} {g : Nat} {s : Str} (hs : s.length ≤ 200000) (hM : ∀ W, Mod (· = g) w0 W → MlnS W) (hI : IxA g w0 s) : NxC w0 g s := by
 intro W L hW hR h0 h8
 obtain ⟨p, qr, t, l, rfl, hB, hp, hQ, hk, ha, h7, hl⟩ := hR
 obtain rfl := hl h0 h8
 obtain ⟨k, A, c, ws, n, B, d, xs⟩ := qr
 exact (nextR_calls W s p t.kind t.pos k n (.slice A ws.length c) (.slice B xs.length d) g hs hp (fun W' h => hM W' (hW.trans h)) (fun W' a h => hI W' a (hW.trans h)) hB).mono fun e w' h => h.rds hp
/-- A search is stored into the box of the result, and handed back. -/
theorem pr_ret {w X : World} {g b2 : Nat} {s : Str} {l : List Tk} {r : PR} {bt : Bool} {k n : Int} {A B : Option Addr} {c d : Nat} {ws : List Str} {xs : List QR} {x0 x1 x2 x3 : Value} (hm : Mod (· = g) w X) (hR : RdrS X g s l) (hB : Blk X b2 29 #[x0, x1, x2, x3]) (hb : w.heap.size ≤ b2) (hg : g < w.heap.size)
  (h0 : bt = false → r = .inl l) (h1 : bt = true → r = .inr ((QR.mk k A c ws n B d xs).key, l) ∧ QS X (.mk k A c ws n B d xs) ∧ QN (· = b2) (.mk k A c ws n B d xs) ∧ QFr w.heap.size (.mk k A c ws n B d xs)) :
  PrP w g s r (.returned (.tuple #[.agg #[.int .i64 k, .slice A ws.length c, .int .i64 n, .slice B xs.length d], .bool bt])) ((((X.setCell ⟨b2, 0, none⟩ (.int .i64 k)).setCell ⟨b2, 1, none⟩ (.slice A ws.length c)).setCell ⟨b2, 2, none⟩ (.int .i64 n)).setCell ⟨b2, 3, none⟩ (.slice B xs.length d)) := by
 have hst : Mod (· = b2) X ((((X.setCell ⟨b2, 0, none⟩ (.int .i64 k)).setCell ⟨b2, 1, none⟩ (.slice A ws.length c)).setCell ⟨b2, 2, none⟩ (.int .i64 n)).setCell ⟨b2, 3, none⟩ (.slice B xs.length d)) := st4_mod
 have hty : ∀ k' arr fr, X.heap[k']? = some (.cells arr 9 fr) → ¬ k' = b2 := by
  intro k' arr fr hk e
  subst e
  unfold Blk at hB
  rw [hB] at hk
  injection hk with hk
  injection hk with _ hk
  exact absurd hk (by decide)
 refine ⟨.mk k A c ws n B d xs, bt, l, rfl, hR.mod hst (by omega) hty, hm.trans' hst (fun i hi hlt => by omega), h0, fun h => ?_⟩
 obtain ⟨a1, a2, a3, a4⟩ := h1 h
 exact ⟨a1, a2.modN a3 hst hty, a4⟩
set_option maxRecDepth 100000 in
set_option maxHeartbeats 8000000 in
theorem part_calls (w0 : World) (g : Nat) (s : Str) (f : Nat) (hN : NxC w0 g s) (hO : OrC w0 g s f) (w : World) (L : List Tk) (hW : Mod (· = g) w0 w) (hR : RdrS w g s L) (hL : L.length ≤ f) : Calls Tryz.prog 262 #[.pointer (some ⟨g, 0, none⟩)] w (PrP w g s (pPart (pOr f) L)) := by
 have HN := Lib.hid hN
 have HO := Lib.hid hO
 have HW := Lib.hid hW
 have HR := Lib.hid hR
 clear hN hO hW
 obtain ⟨p, qr, t, l, rfl, hB, hp, hQ, hk, ha, h7, hl⟩ := hR
 obtain ⟨k, A, c, ws, n, B, d, xs⟩ := qr
 have HQ := Lib.hid hQ
 have HKY := Lib.hid hk
 have HAR := Lib.hid ha
 clear hl h7 ha hQ hk
 obtain ⟨kd, pos, q⟩ := t
 simp only at *
 have HPP : Hid (pPart (pOr f) (⟨kd, pos, q⟩ :: l) = if kd = 3 then .inr (q, l) else if kd = 1 then closeP (pOr f l) else .inl (⟨kd, pos, q⟩ :: l)) := Lib.hid rfl
 generalize pPart (pOr f) (⟨kd, pos, q⟩ :: l) = r at *
 have hBa := hB.alloc (.cells #[.int .i64 0, .slice none 0 0, .int .i64 0, .slice none 0 0] 29)
 unfold rdC at hBa
 simp [qC] at hBa
 have x0 := hBa.cell 0; have xf0 := hBa.frozen 0; have x1 := hBa.cell 1; have xf1 := hBa.frozen 1; have x2 := hBa.cell 2; have xf2 := hBa.frozen 2; have x3 := hBa.cell 3; have xf3 := hBa.frozen 3; have x4 := hBa.cell 4; have xf4 := hBa.frozen 4; have x5 := hBa.cell 5; have xf5 := hBa.frozen 5; have x6 := hBa.cell 6; have xf6 := hBa.frozen 6; have x7 := hBa.cell 7; have xf7 := hBa.frozen 7; simp at x0 x1 x2 x3 x4 x5 x6 x7
 go_enter Tryz.func262, Tryz.ntmps262
 by_cases h3 : kd = 3
 ·subst h3
  have HP : Hid (r = .inr (q, l)) := HPP.out
  have HB2 := Lib.hid ((Blk.new w 29 #[.int .i64 0, .slice none 0 0, .int .i64 0, .slice none 0 0]).alloc (.cells #[.int .i64 k, .slice A ws.length c, .int .i64 n, .slice B xs.length d] 29))
  have HB4 := Lib.hid (Blk.snd w (.cells #[.int .i64 0, .slice none 0 0, .int .i64 0, .slice none 0 0] 29) 29 #[.int .i64 k, .slice A ws.length c, .int .i64 n, .slice B xs.length d])
  have hm2 : Pure w ((w.alloc (.cells #[.int .i64 0, .slice none 0 0, .int .i64 0, .slice none 0 0] 29)).alloc (.cells #[.int .i64 k, .slice A ws.length c, .int .i64 n, .slice B xs.length d] 29)) := ((Mod.refl _ _).alloc _).alloc _
  have HR2 := Lib.hid (HR.out.pure hm2)
  have HQ2 := Lib.hid (HQ.out.pure hm2)
  have HM2 : Hid (Mod (· = g) w _) := Lib.hid (Mod.of_pure hm2)
  go_upto_region 4 with (fail)
  generalize ((w.alloc (.cells #[.int .i64 0, .slice none 0 0, .int .i64 0, .slice none 0 0] 29)).alloc (.cells #[.int .i64 k, .slice A ws.length c, .int .i64 n, .slice B xs.length d] 29)) = w2 at *
  have hg0 := HR.out.lt
  have hb2 : w.heap.size ≤ w.heap.size := Nat.le_refl _
  obtain ⟨b2, hb2e⟩ : ∃ b2, w.heap.size = b2 := ⟨_, rfl⟩
  rw [hb2e] at HB2 HB4
  simp only [hb2e]
  clear x0 x1 x2 x3 x4 x5 x6 x7 xf0 xf1 xf2 xf3 xf4 xf5 xf6 xf7 hm2
  have HNX := Lib.hid (HN.out w2 (⟨3, pos, q⟩ :: l) (HW.out.trans HM2.out) HR2.out (show (3 : Int) ≠ 0 by decide) (show (3 : Int) ≠ 8 by decide))
  go_wp2_with fail
  refine HNX.out.mono ?_
  rintro e w3 ⟨rfl, hR3, hm3⟩
  obtain ⟨cs, hcs⟩ := HR2.out.blk
  have HQ3 := Lib.hid (HQ2.out.rd hcs hm3)
  have hB2 := HB2.out.modb hm3 (by omega)
  have hB4 := HB4.out.modb hm3 (by omega)
  have HB3 := Lib.hid hB2
  have HR3 := Lib.hid hR3
  have HM3 := Lib.hid (HM2.out.trans hm3)
  have x0 := hB2.cell 0; have xf0 := hB2.frozen 0; have x1 := hB2.cell 1; have xf1 := hB2.frozen 1; have x2 := hB2.cell 2; have xf2 := hB2.frozen 2; have x3 := hB2.cell 3; have xf3 := hB2.frozen 3; simp at x0 x1 x2 x3
  have y0 := hB4.cell 0; have y1 := hB4.cell 1; have y2 := hB4.cell 2; have y3 := hB4.cell 3; simp at y0 y1 y2 y3
  clear hB2 hB4 hR3 hm3 hcs
  go_wp2_with fail
  have h4F := st4_blk HB3.out (a := .int .i64 k) (b := .slice A ws.length c) (c := .int .i64 n) (d := .slice B xs.length d)
  have z0 := h4F.cell 0; have z1 := h4F.cell 1; have z2 := h4F.cell 2; have z3 := h4F.cell 3; simp at z0 z1 z2 z3
  try simp only [Exit.inBlock, Exit.then]
  refine bodyPost_ret (v := .tuple #[.agg #[.int .i64 k, .slice A ws.length c, .int .i64 n, .slice B xs.length d], .bool true]) (by simp [results, Tryz.results262, go_sem, z0, z1, z2, z3]) rfl ?_
  refine pr_ret HM3.out HR3.out HB3.out (by omega) (by omega) (fun h => by cases h) (fun _ => ⟨?_, HQ3.out, QN.leaf (by rw [HKY.out]; exact HAR.out), QFr.leaf (by rw [HKY.out]; exact HAR.out)⟩)
  rw [HP.out, HKY.out]
  rfl
 ·have HPP2 : Hid (r = if kd = 1 then closeP (pOr f l) else .inl (⟨kd, pos, q⟩ :: l)) := Lib.hid (HPP.out.trans (if_neg h3))
  have h3i : (kd == 3) = false := by rw [← Bool.not_eq_true, beq_iff_eq]; exact h3
  have HB2 := Lib.hid (Blk.new w 29 #[.int .i64 0, .slice none 0 0, .int .i64 0, .slice none 0 0])
  have hm2 : Pure w (w.alloc (.cells #[.int .i64 0, .slice none 0 0, .int .i64 0, .slice none 0 0] 29)) := (Mod.refl _ _).alloc _
  have HR2 := Lib.hid (HR.out.pure hm2)
  have HM2 : Hid (Mod (· = g) w (w.alloc (.cells #[.int .i64 0, .slice none 0 0, .int .i64 0, .slice none 0 0] 29))) := Lib.hid (Mod.of_pure hm2)
  have hg0 := HR.out.lt
  obtain ⟨b2, hb2e⟩ : ∃ b2, w.heap.size = b2 := ⟨_, rfl⟩
  by_cases h1 : kd = 1
  ·subst h1
   have HP : Hid (r = closeP (pOr f l)) := Lib.hid (HPP2.out.trans (if_pos rfl))
   clear HPP HPP2 hm2
   go_upto_region 7 with (fail)
   generalize (w.alloc (.cells #[.int .i64 0, .slice none 0 0, .int .i64 0, .slice none 0 0] 29)) = w2 at *
   rw [hb2e] at HB2
   try simp only [hb2e]
   have hb2l : w.heap.size ≤ b2 := by omega
   have hb2u : b2 ≤ w.heap.size := by omega
   clear hb2e
   clear x0 x1 x2 x3 x4 x5 x6 x7 xf0 xf1 xf2 xf3 xf4 xf5 xf6 xf7
   have HNX := Lib.hid (HN.out w2 (⟨1, pos, q⟩ :: l) (HW.out.trans HM2.out) HR2.out (show (1 : Int) ≠ 0 by decide) (show (1 : Int) ≠ 8 by decide))
   go_wp2_with fail
   refine HNX.out.mono ?_
   rintro e w3 ⟨rfl, hR3, hm3⟩
   have HB3 := Lib.hid (HB2.out.modb hm3 (by omega))
   have HM3 := Lib.hid (HM2.out.trans hm3)
   have HOX := Lib.hid (HO.out w3 l (HW.out.trans HM3.out) hR3 (by simp at hL; omega))
   clear hR3 hm3 HNX HB2 HM2
   go_wp2_with fail
   refine HOX.out.mono ?_
   rintro e w4 ⟨qr2, bt, l2, rfl, hR4, hm4, h0, h1⟩
   obtain ⟨k2, A2, c2, ws2, n2, B2, d2, xs2⟩ := qr2
   simp only [qA_mk]
   have H0 := Lib.hid h0
   have H1 := Lib.hid h1
   have HB4 := Lib.hid (HB3.out.modb hm4 (by omega))
   have HM4 := Lib.hid (HM3.out.trans hm4)
   have HR4 := Lib.hid hR4
   have hsz4 := HM4.out.size
   have hsz3 := HM3.out.size
   have hb23 := HB3.out.lt
   clear h0 h1 hm4 hR4 HB3 HOX
   have hmA : Pure w4 (w4.alloc (.cells #[.int .i64 k2, .slice A2 ws2.length c2, .int .i64 n2, .slice B2 xs2.length d2] 29)) := (Mod.refl _ _).alloc _
   have HB5 := Lib.hid (HB4.out.alloc (.cells #[.int .i64 k2, .slice A2 ws2.length c2, .int .i64 n2, .slice B2 xs2.length d2] 29))
   have HB6 := Lib.hid (Blk.new w4 29 #[.int .i64 k2, .slice A2 ws2.length c2, .int .i64 n2, .slice B2 xs2.length d2])
   have HR5 := Lib.hid (HR4.out.pure hmA)
   have HM5 := Lib.hid (HM4.out.transp hmA)
   have HQA := Lib.hid hmA
   clear hmA
   go_upto_region 9 with (fail)
   generalize (w4.alloc (.cells #[.int .i64 k2, .slice A2 ws2.length c2, .int .i64 n2, .slice B2 xs2.length d2] 29)) = w5 at *
   obtain ⟨b5, hb5⟩ : ∃ b5, w4.heap.size = b5 := ⟨_, rfl⟩
   rw [hb5] at HB6
   try simp only [hb5]
   have hb5l : w4.heap.size ≤ b5 := by omega
   clear hb5
   cases bt
   ·have HI : Hid (r = .inl l2) := Lib.hid (by rw [HP.out, H0.out rfl]; rfl)
    have h5 := HB5.out
    have h6 := HB6.out
    have x0 := h5.cell 0; have xf0 := h5.frozen 0; have x1 := h5.cell 1; have xf1 := h5.frozen 1; have x2 := h5.cell 2; have xf2 := h5.frozen 2; have x3 := h5.cell 3; have xf3 := h5.frozen 3; simp at x0 x1 x2 x3
    have y0 := h6.cell 0; have y1 := h6.cell 1; have y2 := h6.cell 2; have y3 := h6.cell 3; simp at y0 y1 y2 y3
    clear h5 h6 H0 H1
    go_wp2_with fail
    have h4F := st4_blk HB5.out (a := .int .i64 k2) (b := .slice A2 ws2.length c2) (c := .int .i64 n2) (d := .slice B2 xs2.length d2)
    have z0 := h4F.cell 0; have z1 := h4F.cell 1; have z2 := h4F.cell 2; have z3 := h4F.cell 3; simp at z0 z1 z2 z3
    try simp only [Exit.inBlock, Exit.then]
    refine bodyPost_ret (v := .tuple #[.agg #[.int .i64 k2, .slice A2 ws2.length c2, .int .i64 n2, .slice B2 xs2.length d2], .bool false]) (by simp [results, Tryz.results262, go_sem, z0, z1, z2, z3]) rfl ?_
    exact pr_ret HM5.out HR5.out HB5.out (by omega) (by omega) (fun _ => HI.out) (fun h => by cases h)
   ·obtain ⟨hq1, hq2, hq3⟩ := H1.out rfl
    have HQ1 := Lib.hid hq1
    have HQ2 := Lib.hid (hq2.pure HQA.out)
    have HQ3 := Lib.hid hq3
    clear hq1 hq2 hq3 H0 H1
    obtain ⟨p5, qr5, t5, l5, rfl, hB7, hp5, hQ5, hk5, ha5, _, _⟩ := HR5.out
    obtain ⟨k5, A5, c5, ws5, n5, B5, d5, xs5⟩ := qr5
    have hBr := hB7
    unfold rdC at hBr
    simp [qC] at hBr
    have u0 := hBr.cell 0; have u1 := hBr.cell 1; have u2 := hBr.cell 2; have u3 := hBr.cell 3; have u4 := hBr.cell 4; have u5 := hBr.cell 5; have u6 := hBr.cell 6; have u7 := hBr.cell 7; simp at u0 u1 u2 u3 u4 u5 u6 u7
    have h5 := HB5.out
    have h6 := HB6.out
    have x0 := h5.cell 0; have xf0 := h5.frozen 0; have x1 := h5.cell 1; have xf1 := h5.frozen 1; have x2 := h5.cell 2; have xf2 := h5.frozen 2; have x3 := h5.cell 3; have xf3 := h5.frozen 3; simp at x0 x1 x2 x3
    have y0 := h6.cell 0; have y1 := h6.cell 1; have y2 := h6.cell 2; have y3 := h6.cell 3; simp at y0 y1 y2 y3
    clear hBr hQ5 hk5 ha5 h5 h6 hB7
    by_cases hk2 : t5.kind = 2
    ·have HI : Hid (r = .inr ((QR.mk k2 A2 c2 ws2 n2 B2 d2 xs2).key, l5)) := Lib.hid (by
      rw [HP.out, HQ1.out]
      show (if t5.kind = 2 then (Sum.inr (_, l5) : PR) else Sum.inl (t5 :: l5)) = _
      exact if_pos hk2)
     have HNY := Lib.hid (HN.out w5 (t5 :: l5) (HW.out.trans HM5.out) HR5.out (show t5.kind ≠ 0 by omega) (show t5.kind ≠ 8 by omega))
     clear HQ1
     rw [hk2] at u2
     clear hk2
     go_wp2_with fail
     refine HNY.out.mono ?_
     rintro e w6 ⟨rfl, hR6, hm6⟩
     obtain ⟨cs, hcs⟩ := HR5.out.blk
     have HQ6 := Lib.hid (HQ2.out.rd hcs hm6)
     have HB7 := Lib.hid (HB5.out.modb hm6 (by omega))
     have h8 := HB6.out.modb hm6 (by omega)
     have HR6 := Lib.hid hR6
     have HM6 := Lib.hid (HM5.out.trans hm6)
     have h7 := HB7.out
     clear x0 x1 x2 x3 xf0 xf1 xf2 xf3 y0 y1 y2 y3 u0 u1 u2 u3 u4 u5 u6 u7
     have x0 := h7.cell 0; have xf0 := h7.frozen 0; have x1 := h7.cell 1; have xf1 := h7.frozen 1; have x2 := h7.cell 2; have xf2 := h7.frozen 2; have x3 := h7.cell 3; have xf3 := h7.frozen 3; simp at x0 x1 x2 x3
     have y0 := h8.cell 0; have y1 := h8.cell 1; have y2 := h8.cell 2; have y3 := h8.cell 3; simp at y0 y1 y2 y3
     clear h7 h8 hR6 hm6 hcs HNY
     go_wp2_with fail
     have h4F := st4_blk HB7.out (a := .int .i64 k2) (b := .slice A2 ws2.length c2) (c := .int .i64 n2) (d := .slice B2 xs2.length d2)
     have z0 := h4F.cell 0; have z1 := h4F.cell 1; have z2 := h4F.cell 2; have z3 := h4F.cell 3; simp at z0 z1 z2 z3
     try simp only [Exit.inBlock, Exit.then]
     refine bodyPost_ret (v := .tuple #[.agg #[.int .i64 k2, .slice A2 ws2.length c2, .int .i64 n2, .slice B2 xs2.length d2], .bool true]) (by simp [results, Tryz.results262, go_sem, z0, z1, z2, z3]) rfl ?_
     exact pr_ret HM6.out HR6.out HB7.out (by omega) (by omega) (fun h => by cases h) (fun _ => ⟨HI.out, HQ6.out, QN.old HQ3.out (fun k hk => by omega), by have h := HQ3.out; exact h.up (by omega)⟩)
    ·have HI : Hid (r = .inl (t5 :: l5)) := Lib.hid (by
      rw [HP.out, HQ1.out]
      show (if t5.kind = 2 then (Sum.inr (_, l5) : PR) else Sum.inl (t5 :: l5)) = _
      exact if_neg hk2)
     have hk2i : (t5.kind == 2) = false := by rw [← Bool.not_eq_true, beq_iff_eq]; exact hk2
     clear hk2
     go_wp2_with fail
     have h4F := st4_blk HB5.out (a := .int .i64 k2) (b := .slice A2 ws2.length c2) (c := .int .i64 n2) (d := .slice B2 xs2.length d2)
     have z0 := h4F.cell 0; have z1 := h4F.cell 1; have z2 := h4F.cell 2; have z3 := h4F.cell 3; simp at z0 z1 z2 z3
     try simp only [Exit.inBlock, Exit.then]
     refine bodyPost_ret (v := .tuple #[.agg #[.int .i64 k2, .slice A2 ws2.length c2, .int .i64 n2, .slice B2 xs2.length d2], .bool false]) (by simp [results, Tryz.results262, go_sem, z0, z1, z2, z3]) rfl ?_
     exact pr_ret HM5.out HR5.out HB5.out (by omega) (by omega) (fun _ => HI.out) (fun h => by cases h)
  ·have HI : Hid (r = .inl (⟨kd, pos, q⟩ :: l)) := Lib.hid (HPP2.out.trans (if_neg h1))
   have h1i : (kd == 1) = false := by rw [← Bool.not_eq_true, beq_iff_eq]; exact h1
   subst hb2e
   have h5 := HB2.out
   have z0 := h5.cell 0; have z1 := h5.cell 1; have z2 := h5.cell 2; have z3 := h5.cell 3; simp at z0 z1 z2 z3
   clear h5 h1 h3 HPP HPP2 hm2
   go_wp2_with fail
   try simp only [Exit.inBlock, Exit.then]
   refine bodyPost_ret (v := .tuple #[.agg #[.int .i64 0, .slice none 0 0, .int .i64 0, .slice none 0 0], .bool false]) (by simp [results, Tryz.results262, go_sem, z0, z1, z2, z3]) rfl ?_
   exact ⟨.mk 0 none 0 [] 0 none 0 [], false, _, rfl, HR2.out, HM2.out, fun _ => HI.out, fun h => by cases h⟩
end Go.Proofs.YtnfflgicngeekaaGreatDoor

/- Searches that are near to each other: (*reader).near. -/
namespace Go.Proofs.YtnfflgicngeekaaGreatDoor
set_option linter.unusedVariables false
set_option linter.unusedSimpArgs false
open Go.RowKit
theorem box_str {X : World} {b : Nat} {cs : Array Value} (hB : Blk X b 29 cs) : ∀ k' arr fr, X.heap[k']? = some (.cells arr 9 fr) → ¬ k' = b := by
 intro k' arr fr hk e
 subst e
 unfold Blk at hB
 rw [hB] at hk
 injection hk with hk
 injection hk with _ hk
 exact absurd hk (by decide)
theorem QN.mono {S T : Nat → Prop} {q : QR} (h : QN T q) (hST : ∀ k, S k → T k) : QN S q := by
 induction h with
 | mk hb hs ih => exact .mk (fun hx g off he hg => hb hx g off he (hST _ hg)) ih
/-- Searches in a box: as they were, where another box is written. -/
theorem QS.box {X X' : World} {b : Nat} {cs : Array Value} {q : QR} (h : QS X q) (hB : Blk X b 29 cs) (hn : QN (· = b) q) (hm : Mod (· = b) X X') : QS X' q := h.modN hn hm (box_str hB)
theorem RdrS.box {X X' : World} {g b : Nat} {s : Str} {L : List Tk} {cs : Array Value} (h : RdrS X g s L) (hB : Blk X b 29 cs) (hm : Mod (· = b) X X') (hg : g ≠ b) : RdrS X' g s L := h.mod hm hg (box_str hB)
def PtC (w0 : World) (g : Nat) (s : Str) (f : Nat) : Prop := ∀ W L, Mod (· = g) w0 W → RdrS W g s L → L.length ≤ f → Calls Tryz.prog 262 #[.pointer (some ⟨g, 0, none⟩)] W (PrP W g s (pPart (pOr f) L))
/-- What the loop over the words between keeps. -/
def NearR (w : World) (g : Nat) (s : Str) (f b2 b4 : Nat) (r : PR) (gk : Nat) (t : Value) (wr : World) : Prop :=
 ∃ (qr : QR) (bt : Bool) (l : List Tk), (if bt = true then l.length + 1 else 0) = gk ∧ t = .bool bt ∧ RdrS wr g s l ∧ Blk wr b2 29 #[.int .i64 0, .slice none 0 0, .int .i64 0, .slice none 0 0] ∧ Blk wr b4 29 (qC qr).toArray ∧ Mod (· = g) w wr ∧ (bt = false → r = .inl l) ∧
  (bt = true → ∃ f', l.length + 1 ≤ f' ∧ f' ≤ f ∧ pNearL (pOr f) f' qr.key l = r ∧ QS wr qr ∧ QN (· = b2) qr ∧ QN (· = b4) qr ∧ QFr w.heap.size qr)
theorem near_start {f : Nat} {L l : List Tk} {q : Qry} (h : pPart (pOr f) L = .inr (q, l)) : pNear (pOr f) f L = pNearL (pOr f) f q l := by unfold pNear; rw [h]
theorem near_fail {f : Nat} {L l : List Tk} (h : pPart (pOr f) L = .inl l) : pNear (pOr f) f L = .inl l := by unfold pNear; rw [h]
set_option maxRecDepth 100000 in
set_option maxHeartbeats 8000000 in
theorem near_calls (w0 : World) (g : Nat) (s : Str) (f : Nat) (hN : NxC w0 g s) (hP : PtC w0 g s f) (w : World) (L : List Tk) (hW : Mod (· = g) w0 w) (hR : RdrS w g s L) (hL : L.length ≤ f) : Calls Tryz.prog 228 #[.pointer (some ⟨g, 0, none⟩)] w (PrP w g s (pNear (pOr f) f L)) := by
 have HN := Lib.hid hN
 have HP := Lib.hid hP
 have HW := Lib.hid hW
 have hg0 := hR.lt
 have hmz : Pure w (w.alloc (.cells #[.int .i64 0, .slice none 0 0, .int .i64 0, .slice none 0 0] 29)) := (Mod.refl _ _).alloc _
 have HB2 := Lib.hid (Blk.new w 29 #[.int .i64 0, .slice none 0 0, .int .i64 0, .slice none 0 0])
 have HM2 : Hid (Mod (· = g) w (w.alloc (.cells #[.int .i64 0, .slice none 0 0, .int .i64 0, .slice none 0 0] 29))) := Lib.hid (Mod.of_pure hmz)
 have HPX := Lib.hid (hP (w.alloc (.cells #[.int .i64 0, .slice none 0 0, .int .i64 0, .slice none 0 0] 29)) L (hW.trans HM2.out) (hR.pure hmz) hL)
 have HLE := Lib.hid (pPart_len (pOr_len f))
 have HS1 : Hid (∀ q l, pPart (pOr f) L = .inr (q, l) → pNear (pOr f) f L = pNearL (pOr f) f q l) := Lib.hid (fun q l h => near_start h)
 have HS2 : Hid (∀ l, pPart (pOr f) L = .inl l → pNear (pOr f) f L = .inl l) := Lib.hid (fun l h => near_fail h)
 clear hN hP hW hmz hR
 generalize pNear (pOr f) f L = r at *
 obtain ⟨b2, hb2e⟩ : ∃ b2, w.heap.size = b2 := ⟨_, rfl⟩
 have hb2l : w.heap.size ≤ b2 := by omega
 go_enter Tryz.func228, Tryz.ntmps228
 go_wp2_with fail
 generalize (w.alloc (.cells #[.int .i64 0, .slice none 0 0, .int .i64 0, .slice none 0 0] 29)) = w2 at *
 rw [hb2e] at HB2
 try simp only [hb2e]
 clear hb2e
 refine HPX.out.mono ?_
 rintro e w3 ⟨qr2, bt, l2, rfl, hR3, hm3, h0, h1⟩
 obtain ⟨k2, A2, c2, ws2, n2, B2, d2, xs2⟩ := qr2
 simp only [qA_mk]
 have H0 := Lib.hid h0
 have H1 := Lib.hid h1
 have HB3 := Lib.hid (HB2.out.modb hm3 (by omega))
 have HM3 := Lib.hid (HM2.out.trans hm3)
 have HR3 := Lib.hid hR3
 have hsz3 := HM2.out.size
 have hsz4 := hm3.size
 have hb2lt := HB2.out.lt
 clear h0 h1 hm3 hR3 HB2 HM2 HPX
 have hmA : Pure w3 (w3.alloc (.cells #[.int .i64 k2, .slice A2 ws2.length c2, .int .i64 n2, .slice B2 xs2.length d2] 29)) := (Mod.refl _ _).alloc _
 have HB5 := Lib.hid (HB3.out.alloc (.cells #[.int .i64 k2, .slice A2 ws2.length c2, .int .i64 n2, .slice B2 xs2.length d2] 29))
 have HB6 := Lib.hid (Blk.new w3 29 #[.int .i64 k2, .slice A2 ws2.length c2, .int .i64 n2, .slice B2 xs2.length d2])
 have HR5 := Lib.hid (HR3.out.pure hmA)
 have HM5 := Lib.hid (HM3.out.transp hmA)
 have HQA := Lib.hid hmA
 clear hmA
 go_wp2_with fail
 generalize (w3.alloc (.cells #[.int .i64 k2, .slice A2 ws2.length c2, .int .i64 n2, .slice B2 xs2.length d2] 29)) = w5 at *
 obtain ⟨b4, hb4⟩ : ∃ b4, w3.heap.size = b4 := ⟨_, rfl⟩
 rw [hb4] at HB6
 try simp only [hb4]
 have hb4l : w3.heap.size ≤ b4 := by omega
 have hb4u : b4 ≤ w3.heap.size := by omega
 clear hb4
 go_loopg [5] (if bt = true then l2.length + 1 else 0) (fun gk t wr => NearR w g s f b2 b4 r gk t wr)
 case atStart =>
  refine ⟨.mk k2 A2 c2 ws2 n2 B2 d2 xs2, bt, l2, rfl, rfl, HR5.out, HB5.out, HB6.out, HM5.out, fun h => HS2.out _ (H0.out h), fun h => ?_⟩
  obtain ⟨a1, a2, a3⟩ := H1.out h
  have a4 := HLE.out _ _ _ a1
  exact ⟨f, by omega, Nat.le_refl _, (HS1.out _ _ a1).symm, a2.pure HQA.out, QN.old a3 (fun k hk => by omega), QN.new a2 (fun k hk => by omega), a3.up (by omega)⟩
 case round =>
  clear HB3 HM3 HB5 HB6 HR3 HR5 HM5 HQA H0 H1 HS1 HS2
  obtain ⟨qr, bt2, l, rfl, rfl, hR, hB2, hB4, hM, h0, h1⟩ := hrel
  obtain ⟨k, A, c, ws, n, B, d, xs⟩ := qr
  have HR := Lib.hid hR
  have HB2 := Lib.hid hB2
  have HB4 := Lib.hid hB4
  have HM := Lib.hid hM
  have H0 := Lib.hid h0
  have H1 := Lib.hid h1
  have hszr := hM.size
  clear hR hB2 hB4 hM h0 h1
  have h2 := HB2.out
  have h4 := HB4.out
  simp only [qC] at h4
  have x0 := h2.cell 0; have xf0 := h2.frozen 0; have x1 := h2.cell 1; have xf1 := h2.frozen 1; have x2 := h2.cell 2; have xf2 := h2.frozen 2; have x3 := h2.cell 3; have xf3 := h2.frozen 3; simp at x0 x1 x2 x3
  have y0 := h4.cell 0; have yf0 := h4.frozen 0; have y1 := h4.cell 1; have yf1 := h4.frozen 1; have y2 := h4.cell 2; have yf2 := h4.frozen 2; have y3 := h4.cell 3; have yf3 := h4.frozen 3; simp at y0 y1 y2 y3
  clear h2 h4
  cases bt2
  ·have HI := Lib.hid (H0.out rfl)
   clear H0 H1
   go_wp2_with fail
   have h4F := st4_blk HB2.out (a := .int .i64 k) (b := .slice A ws.length c) (c := .int .i64 n) (d := .slice B xs.length d)
   have z0 := h4F.cell 0; have z1 := h4F.cell 1; have z2 := h4F.cell 2; have z3 := h4F.cell 3; simp at z0 z1 z2 z3
   try simp only [Exit.inBlock, Exit.then]
   refine bodyPost_ret (v := .tuple #[.agg #[.int .i64 k, .slice A ws.length c, .int .i64 n, .slice B xs.length d], .bool false]) (by simp [results, Tryz.results228, go_sem, z0, z1, z2, z3]) rfl ?_
   exact pr_ret HM.out HR.out HB2.out (by omega) (by omega) (fun _ => HI.out) (fun h => by cases h)
  ·obtain ⟨f2, hf2, hff, hpn, hQ, hQ2, hQ4, hQF⟩ := H1.out rfl
   have HPN := Lib.hid hpn
   have HQ := Lib.hid hQ
   have HQ2 := Lib.hid hQ2
   have HQ4 := Lib.hid hQ4
   have HQF := Lib.hid hQF
   clear hpn hQ hQ2 hQ4 hQF H0 H1
   obtain ⟨p5, qr5, t5, l5, rfl, hB5, hp5, hQ5, hk5, ha5, h75, _⟩ := HR.out
   obtain ⟨k5, A5, c5, ws5, n5, B5, d5, xs5⟩ := qr5
   have hBr := hB5
   unfold rdC at hBr
   simp [qC] at hBr
   have u0 := hBr.cell 0; have u1 := hBr.cell 1; have u2 := hBr.cell 2; have u3 := hBr.cell 3; have u4 := hBr.cell 4; have u5 := hBr.cell 5; have u6 := hBr.cell 6; have u7 := hBr.cell 7; simp at u0 u1 u2 u3 u4 u5 u6 u7
   have HQ5 := Lib.hid hQ5
   have HK5 := Lib.hid hk5
   have HA5 := Lib.hid ha5
   have H75 := Lib.hid h75
   clear hBr hQ5 hk5 ha5 h75 hB5
   cases f2 with
   | zero => exact absurd hf2 (by simp)
   | succ f2 =>
    by_cases hk7 : t5.kind = 7
    ·have HPQ : Hid ((match pPart (pOr f) l5 with | .inl l => .inl l | .inr (b, l) => pNearL (pOr f) f2 (.mk t5.q.kind [] t5.q.num [(QR.mk k A c ws n B d xs).key, b]) l) = r) := Lib.hid (by
      have h := HPN.out
      unfold pNearL at h
      rw [if_pos (show kdL (t5 :: l5) = 7 from hk7)] at h
      exact h)
     have HWE := Lib.hid (H75.out hk7)
     rw [hk7] at u2
     have hgw := HR.out.lt
     have hb4r := HB4.out.lt
     have hb2r := HB2.out.lt
     have hmA : Pure wr (wr.alloc (.cells #[.int .i64 k5, .slice A5 ws5.length c5, .int .i64 n5, .slice B5 xs5.length d5] 29)) := (Mod.refl _ _).alloc _
     have HBA2 := Lib.hid (HB2.out.alloc (.cells #[.int .i64 k5, .slice A5 ws5.length c5, .int .i64 n5, .slice B5 xs5.length d5] 29))
     have HBA4 := Lib.hid (HB4.out.alloc (.cells #[.int .i64 k5, .slice A5 ws5.length c5, .int .i64 n5, .slice B5 xs5.length d5] 29))
     have HBA6 := Lib.hid (Blk.new wr 29 #[.int .i64 k5, .slice A5 ws5.length c5, .int .i64 n5, .slice B5 xs5.length d5])
     have HRA := Lib.hid (HR.out.pure hmA)
     have HMA := Lib.hid (HM.out.transp hmA)
     have HQA := Lib.hid (HQ.out.pure hmA)
     have HQA5 := Lib.hid (HQ5.out.pure hmA)
     have HQ6n : Hid (QN (· = wr.heap.size) (QR.mk k A c ws n B d xs)) := Lib.hid (QN.new HQ.out (fun k hk => by omega))
     have hk0 : kdL (t5 :: l5) ≠ 0 := (show t5.kind ≠ 0 by omega)
     have hk8 : kdL (t5 :: l5) ≠ 8 := (show t5.kind ≠ 8 by omega)
     have HK0 := Lib.hid hk0
     have HK8 := Lib.hid hk8
     clear hmA hk7 HPN H75 hk0 hk8
     go_upto_region 4 with (fail)
     generalize (wr.alloc (.cells #[.int .i64 k5, .slice A5 ws5.length c5, .int .i64 n5, .slice B5 xs5.length d5] 29)) = w3 at *
     obtain ⟨b6, hb6⟩ : ∃ b6, wr.heap.size = b6 := ⟨_, rfl⟩
     rw [hb6] at HBA6 HQ6n
     try simp only [hb6]
     have hb6l : wr.heap.size ≤ b6 := by omega
     clear hb6 x0 x1 x2 x3 xf0 xf1 xf2 xf3 y0 y1 y2 y3 yf0 yf1 yf2 yf3 u0 u1 u2 u3 u4 u5 u6 u7
     have HNX := Lib.hid (HN.out w3 (t5 :: l5) (HW.out.trans HMA.out) HRA.out HK0.out HK8.out)
     go_wp2_with fail
     refine HNX.out.mono ?_
     rintro e w4 ⟨rfl, hR4, hm4⟩
     obtain ⟨cs, hcs⟩ := HRA.out.blk
     have hb6r := HBA6.out.lt
     have hsz4 := hm4.size
     have hZ : Pure w4 (w4.alloc (.cells #[.int .i64 0, .slice none 0 0, .int .i64 0, .slice none 0 0] 29)) := (Mod.refl _ _).alloc _
     have HQB := Lib.hid ((HQA.out.rd hcs hm4).pure hZ)
     have HQB5 := Lib.hid ((HQA5.out.rd hcs hm4).pure hZ)
     have HBB2 := Lib.hid ((HBA2.out.modb hm4 (by omega)).alloc (.cells #[.int .i64 0, .slice none 0 0, .int .i64 0, .slice none 0 0] 29))
     have HBB4 := Lib.hid ((HBA4.out.modb hm4 (by omega)).alloc (.cells #[.int .i64 0, .slice none 0 0, .int .i64 0, .slice none 0 0] 29))
     have HBB6 := Lib.hid ((HBA6.out.modb hm4 (by omega)).alloc (.cells #[.int .i64 0, .slice none 0 0, .int .i64 0, .slice none 0 0] 29))
     have HBB7 := Lib.hid (Blk.new w4 29 #[.int .i64 0, .slice none 0 0, .int .i64 0, .slice none 0 0])
     have HRB := Lib.hid (RdrS.pure hR4 hZ)
     have HMB := Lib.hid ((HMA.out.trans hm4).transp hZ)
     have HQ7n : Hid (QN (· = w4.heap.size) (QR.mk k A c ws n B d xs)) := Lib.hid (QN.new (HQA.out.rd hcs hm4) (fun k hk => by omega))
     clear hcs hm4 hR4 hZ HNX HQA HQA5 HBA2 HBA4 HBA6 HRA HMA
     go_upto_region 6 with (fail)
     generalize (w4.alloc (.cells #[.int .i64 0, .slice none 0 0, .int .i64 0, .slice none 0 0] 29)) = w5 at *
     obtain ⟨b7, hb7⟩ : ∃ b7, w4.heap.size = b7 := ⟨_, rfl⟩
     rw [hb7] at HBB7 HQ7n
     try simp only [hb7]
     have hb7l : w4.heap.size ≤ b7 := by omega
     clear hb7
     have hb7r := HBB7.out.lt
     have hgB := HRB.out.lt
     have HPX := Lib.hid (HP.out w5 l5 (HW.out.trans HMB.out) HRB.out (by simp at hf2; omega))
     go_wp2_with fail
     refine HPX.out.mono ?_
     rintro e w6 ⟨qr6, bt, l6, rfl, hR6, hm6, h0, h1⟩
     obtain ⟨k6, A6, c6, ws6, n6, B6, d6, xs6⟩ := qr6
     simp only [qA_mk]
     obtain ⟨cs, hcs⟩ := HRB.out.blk
     have H0 := Lib.hid h0
     have H1 := Lib.hid h1
     have HQC := Lib.hid (HQB.out.rd hcs hm6)
     have HQC5 := Lib.hid (HQB5.out.rd hcs hm6)
     have hC2 := HBB2.out.modb hm6 (by omega)
     have hC4 := HBB4.out.modb hm6 (by omega)
     have hC6 := HBB6.out.modb hm6 (by omega)
     have hC7 := HBB7.out.modb hm6 (by omega)
     have HMC := Lib.hid (HMB.out.trans hm6)
     have hst : Mod (· = b7) w6 ((((w6.setCell ⟨b7, 0, none⟩ (.int .i64 k6)).setCell ⟨b7, 1, none⟩ (.slice A6 ws6.length c6)).setCell ⟨b7, 2, none⟩ (.int .i64 n6)).setCell ⟨b7, 3, none⟩ (.slice B6 xs6.length d6)) := st4_mod
     have HD2 := Lib.hid (hC2.mod hst (by omega))
     have HD4 := Lib.hid (hC4.mod hst (by omega))
     have HD6 := Lib.hid (hC6.mod hst (by omega))
     have HD7 := Lib.hid (st4_blk (a := .int .i64 k6) (b := .slice A6 ws6.length c6) (c := .int .i64 n6) (d := .slice B6 xs6.length d6) hC7)
     have HRD := Lib.hid (RdrS.box hR6 hC7 hst (by omega))
     have HMD : Hid (Mod (· = g) w ((((w6.setCell ⟨b7, 0, none⟩ (.int .i64 k6)).setCell ⟨b7, 1, none⟩ (.slice A6 ws6.length c6)).setCell ⟨b7, 2, none⟩ (.int .i64 n6)).setCell ⟨b7, 3, none⟩ (.slice B6 xs6.length d6))) := Lib.hid (HMC.out.trans' hst (fun i hi hlt => by omega))
     have HQD := Lib.hid (HQC.out.box hC7 HQ7n.out hst)
     have HQD5 := Lib.hid (HQC5.out.box hC7 (QN.leaf (by rw [HK5.out]; exact HA5.out)) hst)
     have HQD6 : Hid (bt = true → QS ((((w6.setCell ⟨b7, 0, none⟩ (.int .i64 k6)).setCell ⟨b7, 1, none⟩ (.slice A6 ws6.length c6)).setCell ⟨b7, 2, none⟩ (.int .i64 n6)).setCell ⟨b7, 3, none⟩ (.slice B6 xs6.length d6)) (.mk k6 A6 c6 ws6 n6 B6 d6 xs6)) := Lib.hid (fun h => by
      obtain ⟨a1, a2, a3⟩ := h1 h
      exact a2.box hC7 (QN.old a3 (fun k hk => by omega)) hst)
     have HSTW := Lib.hid hst
     have hsz6 := hm6.size
     have hs76 := hst.size
     have z0 := hC7.cell 0; have zf0 := hC7.frozen 0; have z1 := hC7.cell 1; have zf1 := hC7.frozen 1; have z2 := hC7.cell 2; have zf2 := hC7.frozen 2; have z3 := hC7.cell 3; have zf3 := hC7.frozen 3; simp at z0 z1 z2 z3
     clear hcs hm6 hR6 h0 h1 hst hC2 hC4 hC6 hC7 HQB HQB5 HBB2 HBB4 HBB6 HBB7 HRB HMB HPX HQ7n HQC HQC5
     go_upto_region 7 with (fail)
     generalize ((((w6.setCell ⟨b7, 0, none⟩ (.int .i64 k6)).setCell ⟨b7, 1, none⟩ (.slice A6 ws6.length c6)).setCell ⟨b7, 2, none⟩ (.int .i64 n6)).setCell ⟨b7, 3, none⟩ (.slice B6 xs6.length d6)) = w7 at *
     clear z0 z1 z2 z3 zf0 zf1 zf2 zf3
     have h4 := HD4.out
     have h6 := HD6.out
     have h7 := HD7.out
     simp only [qC] at h4
     have y0 := h4.cell 0; have y1 := h4.cell 1; have y2 := h4.cell 2; have y3 := h4.cell 3; simp at y0 y1 y2 y3
     have u0 := h6.cell 0; have uf0 := h6.frozen 0; have u1 := h6.cell 1; have uf1 := h6.frozen 1; have u2 := h6.cell 2; have uf2 := h6.frozen 2; have u3 := h6.cell 3; have uf3 := h6.frozen 3; simp at u0 u1 u2 u3
     have v0 := h7.cell 0; have v1 := h7.cell 1; have v2 := h7.cell 2; have v3 := h7.cell 3; simp at v0 v1 v2 v3
     clear h4 h6 h7
     have xa := fun o => (HD6.out.alloc o).cell 3
     have xb := fun o => (HD6.out.alloc o).frozen 3
     simp at xa
     have hg7 := HRD.out.lt
     have h6r := HD6.out.lt
     have h4r := HD4.out.lt
     have h2r := HD2.out.lt
     have hst : Mod (· = b6) w7 (w7.setCell ⟨b6, 3, none⟩ (.slice (some ⟨w7.heap.size, 0, none⟩) 2 2)) := mod_set (Mod.refl _ _) 3 _
     have hA : Pure (w7.setCell ⟨b6, 3, none⟩ (.slice (some ⟨w7.heap.size, 0, none⟩) 2 2)) ((w7.setCell ⟨b6, 3, none⟩ (.slice (some ⟨w7.heap.size, 0, none⟩) 2 2)).alloc (.cells #[.int .i64 k, .slice A ws.length c, .int .i64 n, .slice B xs.length d, .int .i64 k6, .slice A6 ws6.length c6, .int .i64 n6, .slice B6 xs6.length d6] 29)) := (Mod.refl _ _).alloc _
     have hQ6 : QN (· = b6) (QR.mk k A c ws n B d xs) := HQ6n.out
     have HE2 := Lib.hid ((HD2.out.mod hst (by omega)).modp hA)
     have HE4 := Lib.hid ((HD4.out.mod hst (by omega)).modp hA)
     have HE6 := Lib.hid ((HD6.out.set 3 (.slice (some ⟨w7.heap.size, 0, none⟩) 2 2)).modp hA)
     have HES : Hid (Blk ((w7.setCell ⟨b6, 3, none⟩ (.slice (some ⟨w7.heap.size, 0, none⟩) 2 2)).alloc (.cells #[.int .i64 k, .slice A ws.length c, .int .i64 n, .slice B xs.length d, .int .i64 k6, .slice A6 ws6.length c6, .int .i64 n6, .slice B6 xs6.length d6] 29)) w7.heap.size 29 #[.int .i64 k, .slice A ws.length c, .int .i64 n, .slice B xs.length d, .int .i64 k6, .slice A6 ws6.length c6, .int .i64 n6, .slice B6 xs6.length d6]) := Lib.hid (Blk.new' (by simp))
     have HRE := Lib.hid ((HRD.out.box HD6.out hst (by omega)).pure hA)
     have HME : Hid (Mod (· = g) w ((w7.setCell ⟨b6, 3, none⟩ (.slice (some ⟨w7.heap.size, 0, none⟩) 2 2)).alloc (.cells #[.int .i64 k, .slice A ws.length c, .int .i64 n, .slice B xs.length d, .int .i64 k6, .slice A6 ws6.length c6, .int .i64 n6, .slice B6 xs6.length d6] 29))) := Lib.hid ((HMD.out.trans' hst (fun i hi hlt => by omega)).transp hA)
     have HQE := Lib.hid ((HQD.out.box HD6.out hQ6 hst).pure hA)
     have HQE5 := Lib.hid ((HQD5.out.box HD6.out (QN.leaf (by rw [HK5.out]; exact HA5.out)) hst).pure hA)
     have HQE6 : Hid (bt = true → QS ((w7.setCell ⟨b6, 3, none⟩ (.slice (some ⟨w7.heap.size, 0, none⟩) 2 2)).alloc (.cells #[.int .i64 k, .slice A ws.length c, .int .i64 n, .slice B xs.length d, .int .i64 k6, .slice A6 ws6.length c6, .int .i64 n6, .slice B6 xs6.length d6] 29)) (.mk k6 A6 c6 ws6 n6 B6 d6 xs6)) := Lib.hid (fun h => by
      obtain ⟨a1, a2, a3⟩ := H1.out h
      exact ((HQD6.out h).box HD6.out (QN.old a3 (fun k hk => by omega)) hst).pure hA)
     have hgS : w7.heap.size ≤ w7.heap.size := Nat.le_refl _
     clear hA hst hQ6 HD2 HD4 HD6 HD7 HRD HMD HQD HQD5 HQD6 HSTW
     go_upto_region 8 with (fail)
     obtain ⟨gS, hgSe⟩ : ∃ gS, w7.heap.size = gS := ⟨_, rfl⟩
     rw [hgSe] at HE2 HE4 HE6 HES HRE HME HQE HQE5 HQE6
     try simp only [hgSe]
     have hgSl : w7.heap.size ≤ gS := by omega
     clear hgSe hgS xa xb y0 y1 y2 y3 u0 u1 u2 u3 uf0 uf1 uf2 uf3 v0 v1 v2 v3
     generalize ((w7.setCell ⟨b6, 3, none⟩ (.slice (some ⟨gS, 0, none⟩) 2 2)).alloc (.cells #[.int .i64 k, .slice A ws.length c, .int .i64 n, .slice B xs.length d, .int .i64 k6, .slice A6 ws6.length c6, .int .i64 n6, .slice B6 xs6.length d6] 29)) = w8 at *
     have h4 := HE4.out
     have h6 := HE6.out
     simp at h6
     simp only [qC] at h4
     have y0 := h4.cell 0; have yf0 := h4.frozen 0; have y1 := h4.cell 1; have yf1 := h4.frozen 1; have y2 := h4.cell 2; have yf2 := h4.frozen 2; have y3 := h4.cell 3; have yf3 := h4.frozen 3; simp at y0 y1 y2 y3
     have u0 := h6.cell 0; have u1 := h6.cell 1; have u2 := h6.cell 2; have u3 := h6.cell 3; simp at u0 u1 u2 u3
     clear h4 h6
     go_wp2_with fail
     go_roundg (if bt = true then l6.length + 1 else 0)
     case measure =>
      show (if bt = true then l6.length + 1 else 0) < (t5 :: l5).length + 1
      cases bt
      ·exact Nat.succ_pos _
      ·have h := HLE.out _ _ _ (H1.out rfl).1
       simp
       omega
     case rel =>
      have hws : ws5 = [] := by
       have h := HWE.out
       rw [← HK5.out, QR.key_mk] at h
       exact h
      subst hws
      have hke : ∀ q6 : QR, (QR.mk k5 A5 c5 [] n5 (some ⟨gS, 0, none⟩) 2 [.mk k A c ws n B d xs, q6]).key = .mk t5.q.kind [] t5.q.num [(QR.mk k A c ws n B d xs).key, q6.key] := by
       intro q6
       rw [← HK5.out, QR.key_mk, QR.key_mk (ws := [])]
       rfl
      have hst : Mod (· = b4) w8 ((((w8.setCell ⟨b4, 0, none⟩ (.int .i64 k5)).setCell ⟨b4, 1, none⟩ (.slice A5 0 c5)).setCell ⟨b4, 2, none⟩ (.int .i64 n5)).setCell ⟨b4, 3, none⟩ (.slice (some ⟨gS, 0, none⟩) 2 2)) := st4_mod
      have hw8 := HE4.out.lt
      have hg8 := HRE.out.lt
      refine ⟨.mk k5 A5 c5 [] n5 (some ⟨gS, 0, none⟩) 2 [.mk k A c ws n B d xs, .mk k6 A6 c6 ws6 n6 B6 d6 xs6], bt, l6, rfl, rfl, HRE.out.box HE4.out hst (by omega), HE2.out.mod hst (by omega), ?_, HME.out.trans' hst (fun i hi hlt => by omega), fun h => ?_, fun h => ?_⟩
      ·have h4 := HE4.out
       simp only [qC] at h4
       exact st4_blk (a := .int .i64 k5) (b := .slice A5 0 c5) (c := .int .i64 n5) (d := .slice (some ⟨gS, 0, none⟩) 2 2) h4
      ·have h9 := HPQ.out
       rw [H0.out h] at h9
       exact h9.symm
      ·obtain ⟨a1, a2, a3⟩ := H1.out h
       have h9 := HPQ.out
       rw [a1] at h9
       have hl6 := HLE.out _ _ _ a1
       have hb4n : QN (· = b4) (QR.mk k6 A6 c6 ws6 n6 B6 d6 xs6) := QN.old a3 (fun k hk => by omega)
       have hb2n : QN (· = b2) (QR.mk k6 A6 c6 ws6 n6 B6 d6 xs6) := QN.old a3 (fun k hk => by omega)
       have hqr := HQE.out.box HE4.out HQ4.out hst
       have hqr6 := (HQE6.out h).box HE4.out hb4n hst
       refine ⟨f2, by simp at hf2; omega, by omega, ?_, .mk ?_ ?_ ?_, .mk ?_ ?_, .mk ?_ ?_, .mk ?_ ?_⟩
       ·rw [hke]; exact h9
       ·exact Sl.mod HQE5.out.wsH hst (box_str HE4.out)
       ·have hE := HES.out.mod hst (by omega)
        exact ⟨_, _, _, rfl, Nat.le_refl _, by omega, rfl, fun _ => ⟨gS, 0, rfl, hE.row fun i u hi => by simpa [qV, qC] using hi⟩⟩
       ·intro a ha
        simp at ha
        rcases ha with rfl | rfl
        ·exact hqr
        ·exact hqr6
       ·intro _ g9 off he hb
        injection he with he
        injection he with he
        omega
       ·intro a ha
        simp at ha
        rcases ha with rfl | rfl
        ·exact HQ2.out
        ·exact hb2n
       ·intro _ g9 off he hb
        injection he with he
        injection he with he
        omega
       ·intro a ha
        simp at ha
        rcases ha with rfl | rfl
        ·exact HQ4.out
        ·exact hb4n
       ·exact fun _ => ⟨gS, 0, rfl, by omega⟩
       ·intro a ha
        simp at ha
        rcases ha with rfl | rfl
        ·exact HQF.out
        ·exact a3.up (by omega)
    ·have HI : Hid (r = .inr ((QR.mk k A c ws n B d xs).key, t5 :: l5)) := Lib.hid (by
      have h := HPN.out
      unfold pNearL at h
      rw [if_neg (show ¬ kdL (t5 :: l5) = 7 from hk7)] at h
      exact h.symm)
     have hk7i : (t5.kind == 7) = false := by rw [← Bool.not_eq_true, beq_iff_eq]; exact hk7
     clear hk7 HPN
     go_wp2_with fail
     have h4F := st4_blk HB2.out (a := .int .i64 k) (b := .slice A ws.length c) (c := .int .i64 n) (d := .slice B xs.length d)
     have z0 := h4F.cell 0; have z1 := h4F.cell 1; have z2 := h4F.cell 2; have z3 := h4F.cell 3; simp at z0 z1 z2 z3
     try simp only [Exit.inBlock, Exit.then]
     refine bodyPost_ret (v := .tuple #[.agg #[.int .i64 k, .slice A ws.length c, .int .i64 n, .slice B xs.length d], .bool true]) (by simp [results, Tryz.results228, go_sem, z0, z1, z2, z3]) rfl ?_
     exact pr_ret HM.out HR.out HB2.out (by omega) (by omega) (fun h => by cases h) (fun _ => ⟨HI.out, HQ.out, HQ2.out, HQF.out⟩)
end Go.Proofs.YtnfflgicngeekaaGreatDoor

/- Searches with the word not ahead of them: query.not, (*reader).not. -/
namespace Go.Proofs.YtnfflgicngeekaaGreatDoor
set_option linter.unusedVariables false
set_option linter.unusedSimpArgs false
open Go.RowKit
def NotP (w : World) (qr : QR) (e : Ending) (w' : World) : Prop := ∃ gS : Nat, w.heap.size ≤ gS ∧ e = .returned (qA (.mk 8 none 0 [] 0 (some ⟨gS, 0, none⟩) 1 [qr])) ∧ QS w' (.mk 8 none 0 [] 0 (some ⟨gS, 0, none⟩) 1 [qr]) ∧ Pure w w'
theorem qs_one {w : World} {g : Nat} {k n : Int} {q1 : QR} (h : Blk w g 29 (qC q1).toArray) (h1 : QS w q1) : QS w (.mk k none 0 [] n (some ⟨g, 0, none⟩) 1 [q1]) := by
 refine .mk Sl.nil_ ⟨_, _, _, rfl, Nat.le_refl _, by omega, ?_, fun _ => ⟨g, 0, rfl, ?_⟩⟩ ?_
 ·simp [qV, qC_len]
 ·have e : qV [q1] = qC q1 := by simp [qV]
  rw [e]
  exact h.row0
 ·intro a ha
  rw [List.mem_singleton.1 ha]
  exact h1
set_option maxRecDepth 100000 in
set_option maxHeartbeats 4000000 in
theorem notQ_calls (w : World) (qr : QR) (hQ : QS w qr) : Calls Tryz.prog 229 #[qA qr] w (NotP w qr) := by
 obtain ⟨k, A, c, ws, n, B, d, xs⟩ := qr
 have HQ := Lib.hid hQ
 clear hQ
 rw [qA_mk]
 have hR2 := (Blk.snd w (.cells #[.int .i64 k, .slice A ws.length c, .int .i64 n, .slice B xs.length d] 29) 29 #[.int .i64 8, .slice none 0 0, .int .i64 0, .slice (some ⟨w.heap.size + 1 + 1, 0, none⟩) 1 1]).alloc (.cells #[.int .i64 k, .slice A ws.length c, .int .i64 n, .slice B xs.length d] 29)
 have hR3 := Blk.thd w (.cells #[.int .i64 k, .slice A ws.length c, .int .i64 n, .slice B xs.length d] 29) (.cells #[.int .i64 8, .slice none 0 0, .int .i64 0, .slice (some ⟨w.heap.size + 1 + 1, 0, none⟩) 1 1] 29) 29 #[.int .i64 k, .slice A ws.length c, .int .i64 n, .slice B xs.length d]
 have HR3 := Lib.hid hR3
 have hm : Pure w (((w.alloc (.cells #[.int .i64 k, .slice A ws.length c, .int .i64 n, .slice B xs.length d] 29)).alloc (.cells #[.int .i64 8, .slice none 0 0, .int .i64 0, .slice (some ⟨w.heap.size + 1 + 1, 0, none⟩) 1 1] 29)).alloc (.cells #[.int .i64 k, .slice A ws.length c, .int .i64 n, .slice B xs.length d] 29)) := (((Mod.refl _ _).alloc _).alloc _).alloc _
 have HM := Lib.hid hm
 clear hm hR3
 have z0 := hR2.cell 0; have z1 := hR2.cell 1; have z2 := hR2.cell 2; have z3 := hR2.cell 3; simp at z0 z1 z2 z3
 clear hR2
 go_enter Tryz.func229, Tryz.ntmps229
 go_wp2_with fail
 try simp only [Exit.inBlock, Exit.then]
 refine bodyPost_ret (v := .agg #[.int .i64 8, .slice none 0 0, .int .i64 0, .slice (some ⟨w.heap.size + 1 + 1, 0, none⟩) 1 1]) (by simp [results, Tryz.results229, go_sem, z0, z1, z2, z3]) rfl ?_
 exact ⟨w.heap.size + 1 + 1, by omega, rfl, qs_one HR3.out (HQ.out.pure HM.out), HM.out⟩
theorem notL_cons (t : Tk) (l : List Tk) : notL (t :: l) = if t.kind = 6 then notL l + 1 else 0 := by
 unfold notL
 rw [List.takeWhile_cons]
 by_cases h : t.kind = 6
 ·rw [if_pos h, if_pos (by simpa using h)]; simp
 ·rw [if_neg h, if_neg (by simpa using h)]; rfl
theorem notN_out : ∀ (m : Nat) (q : Qry), notN (m + 1) q = .mk 8 [] 0 [notN m q]
 | 0, _ => rfl
 | m + 1, q => by
  show notN (m + 1) (.mk 8 [] 0 [q]) = _
  rw [notN_out m]
  rfl
def NrC (w0 : World) (g : Nat) (s : Str) (f : Nat) : Prop := ∀ W L, Mod (· = g) w0 W → RdrS W g s L → L.length ≤ f → Calls Tryz.prog 228 #[.pointer (some ⟨g, 0, none⟩)] W (PrP W g s (pNear (pOr f) f L))
set_option maxRecDepth 100000 in
set_option maxHeartbeats 8000000 in
theorem not_calls (w0 : World) (g : Nat) (s : Str) (f : Nat) (hf : f ≤ 1000000) (hN : NxC w0 g s) (hP : NrC w0 g s f) (w : World) (L : List Tk) (hW : Mod (· = g) w0 w) (hR : RdrS w g s L) (hL : L.length ≤ f) : Calls Tryz.prog 187 #[.pointer (some ⟨g, 0, none⟩)] w (PrP w g s (pNot (pOr f) f L)) := by
 have HN := Lib.hid hN
 have HP := Lib.hid hP
 have HW := Lib.hid hW
 have hg0 := hR.lt
 have hmz : Pure w (w.alloc (.cells #[.int .i64 0, .slice none 0 0, .int .i64 0, .slice none 0 0] 29)) := (Mod.refl _ _).alloc _
 have HB2 := Lib.hid (Blk.new w 29 #[.int .i64 0, .slice none 0 0, .int .i64 0, .slice none 0 0])
 have HM2 : Hid (Mod (· = g) w (w.alloc (.cells #[.int .i64 0, .slice none 0 0, .int .i64 0, .slice none 0 0] 29))) := Lib.hid (Mod.of_pure hmz)
 have HR2 := Lib.hid (hR.pure hmz)
 clear hN hP hW hmz hR
 obtain ⟨b2, hb2e⟩ : ∃ b2, w.heap.size = b2 := ⟨_, rfl⟩
 have hb2l : w.heap.size ≤ b2 := by omega
 go_enter Tryz.func187, Tryz.ntmps187
 go_wp2_with fail
 generalize (w.alloc (.cells #[.int .i64 0, .slice none 0 0, .int .i64 0, .slice none 0 0] 29)) = w2 at *
 rw [hb2e] at HB2
 try simp only [hb2e]
 clear hb2e
 go_loopg [4] L.length (fun gk t wr => ∃ (m : Nat) (l : List Tk), l.length = gk ∧ t = .int .i64 (m : Int) ∧ L.drop m = l ∧ notL L = m + notL l ∧ m + l.length = L.length ∧ RdrS wr g s l ∧ Blk wr b2 29 #[.int .i64 0, .slice none 0 0, .int .i64 0, .slice none 0 0] ∧ Mod (· = g) w wr)
 case atStart => exact ⟨0, L, rfl, rfl, rfl, by omega, by omega, HR2.out, HB2.out, HM2.out⟩
 case round =>
  clear HR2 HB2 HM2
  obtain ⟨m, l, rfl, rfl, hdr, hnl, hml, hR, hB2, hM⟩ := hrel
  have HDR := Lib.hid hdr
  have HNL := Lib.hid hnl
  have HR := Lib.hid hR
  have HB2 := Lib.hid hB2
  have HM := Lib.hid hM
  have hb2r := hB2.lt
  have hgr := hR.lt
  clear hdr hnl hR hB2 hM
  obtain ⟨p5, qr5, t5, l5, rfl, hB5, hp5, hQ5, hk5, ha5, h75, _⟩ := HR.out
  obtain ⟨k5, A5, c5, ws5, n5, B5, d5, xs5⟩ := qr5
  have hBr := hB5
  unfold rdC at hBr
  simp [qC] at hBr
  have u0 := hBr.cell 0; have u1 := hBr.cell 1; have u2 := hBr.cell 2; have u3 := hBr.cell 3; have u4 := hBr.cell 4; have u5 := hBr.cell 5; have u6 := hBr.cell 6; have u7 := hBr.cell 7; simp at u0 u1 u2 u3 u4 u5 u6 u7
  clear hBr hQ5 hk5 ha5 h75 hB5
  by_cases hk6 : t5.kind = 6
  ·have hn2 : notL L = m + 1 + notL l5 := by rw [HNL.out, notL_cons, if_pos hk6]; omega
   have HN2 := Lib.hid hn2
   have HD2 : Hid (L.drop (m + 1) = l5) := Lib.hid (by rw [← List.drop_drop, HDR.out]; rfl)
   have HNX := Lib.hid (HN.out wr (t5 :: l5) (HW.out.trans HM.out) HR.out (show t5.kind ≠ 0 by omega) (show t5.kind ≠ 8 by omega))
   rw [hk6] at u2
   clear hk6 hn2 HNL
   go_wp2_with fail
   refine HNX.out.mono ?_
   rintro e w4 ⟨rfl, hR4, hm4⟩
   have HR4 := Lib.hid hR4
   have HM4 := Lib.hid (HM.out.trans hm4)
   have HB4 := Lib.hid (HB2.out.modb hm4 (by omega))
   clear hR4 hm4 HNX u0 u1 u2 u3 u4 u5 u6 u7
   simp only [List.length_cons] at hml
   go_wp2_with fail
   go_roundg l5.length
   case measure => show l5.length < l5.length + 1; omega
   case rel => exact ⟨m + 1, l5, rfl, by simp, HD2.out, HN2.out, by omega, HR4.out, HB4.out, HM4.out⟩
  ·have HPN : Hid (pNot (pOr f) f L = notP m (pNear (pOr f) f (t5 :: l5))) := Lib.hid (by
    have h := HNL.out
    rw [notL_cons, if_neg hk6] at h
    unfold pNot
    rw [h, Nat.add_zero, HDR.out])
   have hk6i : (t5.kind == 6) = false := by rw [← Bool.not_eq_true, beq_iff_eq]; exact hk6
   have HPX := Lib.hid (HP.out wr (t5 :: l5) (HW.out.trans HM.out) HR.out (by omega))
   clear hk6 HNL HDR
   generalize pNot (pOr f) f L = r at *
   generalize pNear (pOr f) f (t5 :: l5) = r0 at *
   generalize wr = w3 at *
   go_wp2_with fail
   refine HPX.out.mono ?_
   rintro e w4 ⟨qr2, bt, l2, rfl, hR4, hm4, h0, h1⟩
   obtain ⟨k2, A2, c2, ws2, n2, B2, d2, xs2⟩ := qr2
   simp only [qA_mk]
   have H0 := Lib.hid h0
   have H1 := Lib.hid h1
   have hsz3 := HM.out.size
   have hsz4 := hm4.size
   have hmA : Pure w4 (w4.alloc (.cells #[.int .i64 k2, .slice A2 ws2.length c2, .int .i64 n2, .slice B2 xs2.length d2] 29)) := (Mod.refl _ _).alloc _
   have HB5 := Lib.hid ((HB2.out.modb hm4 (by omega)).alloc (.cells #[.int .i64 k2, .slice A2 ws2.length c2, .int .i64 n2, .slice B2 xs2.length d2] 29))
   have HB6 := Lib.hid (Blk.new w4 29 #[.int .i64 k2, .slice A2 ws2.length c2, .int .i64 n2, .slice B2 xs2.length d2])
   have HR5 := Lib.hid (RdrS.pure hR4 hmA)
   have HM5 := Lib.hid ((HM.out.trans hm4).transp hmA)
   have HQA := Lib.hid hmA
   clear hmA h0 h1 hm4 hR4 HPX HB2 HM HR u0 u1 u2 u3 u4 u5 u6 u7
   go_upto_region 6 with (fail)
   generalize (w4.alloc (.cells #[.int .i64 k2, .slice A2 ws2.length c2, .int .i64 n2, .slice B2 xs2.length d2] 29)) = w5 at *
   obtain ⟨b5, hb5⟩ : ∃ b5, w4.heap.size = b5 := ⟨_, rfl⟩
   rw [hb5] at HB6
   try simp only [hb5]
   have hb5l : w4.heap.size ≤ b5 := by omega
   have hb5u : b5 ≤ w4.heap.size := by omega
   clear hb5
   have hb5r := HB6.out.lt
   have hb2r5 := HB5.out.lt
   cases bt
   ·have HI : Hid (r = .inl l2) := Lib.hid (by rw [HPN.out, H0.out rfl]; rfl)
    have h5 := HB5.out
    have h6 := HB6.out
    have x0 := h5.cell 0; have xf0 := h5.frozen 0; have x1 := h5.cell 1; have xf1 := h5.frozen 1; have x2 := h5.cell 2; have xf2 := h5.frozen 2; have x3 := h5.cell 3; have xf3 := h5.frozen 3; simp at x0 x1 x2 x3
    have y0 := h6.cell 0; have y1 := h6.cell 1; have y2 := h6.cell 2; have y3 := h6.cell 3; simp at y0 y1 y2 y3
    clear h5 h6 H0 H1 HPN
    go_wp2_with fail
    have h4F := st4_blk HB5.out (a := .int .i64 k2) (b := .slice A2 ws2.length c2) (c := .int .i64 n2) (d := .slice B2 xs2.length d2)
    have z0 := h4F.cell 0; have z1 := h4F.cell 1; have z2 := h4F.cell 2; have z3 := h4F.cell 3; simp at z0 z1 z2 z3
    try simp only [Exit.inBlock, Exit.then]
    refine bodyPost_ret (v := .tuple #[.agg #[.int .i64 k2, .slice A2 ws2.length c2, .int .i64 n2, .slice B2 xs2.length d2], .bool false]) (by simp [results, Tryz.results187, go_sem, z0, z1, z2, z3]) rfl ?_
    exact pr_ret HM5.out HR5.out HB5.out (by omega) (by omega) (fun _ => HI.out) (fun h => by cases h)
   ·obtain ⟨hq1, hq2, hq3⟩ := H1.out rfl
    have HQ1 : Hid (r = .inr (notN m (QR.mk k2 A2 c2 ws2 n2 B2 d2 xs2).key, l2)) := Lib.hid (by rw [HPN.out, hq1]; rfl)
    have HQ2 := Lib.hid (hq2.pure HQA.out)
    have HQ3 : Hid (QFr w.heap.size (QR.mk k2 A2 c2 ws2 n2 B2 d2 xs2)) := Lib.hid (hq3.up (by omega))
    have HQ4 : Hid (QN (· = b2) (QR.mk k2 A2 c2 ws2 n2 B2 d2 xs2)) := Lib.hid (QN.old hq3 (fun k hk => by omega))
    have HQ5 : Hid (QN (· = b5) (QR.mk k2 A2 c2 ws2 n2 B2 d2 xs2)) := Lib.hid (QN.new hq2 (fun k hk => by omega))
    have hmb : (m : Int) ≤ 1000000 := by omega
    clear hq1 hq2 hq3 H0 H1 HPN HQA
    go_wp2_with fail
    go_loopg [26] m (fun gk i wr => ∃ (j : Nat) (qr : QR), m - j = gk ∧ j ≤ m ∧ i = .int .i64 (j : Int) ∧ qr.key = notN j (QR.mk k2 A2 c2 ws2 n2 B2 d2 xs2).key ∧ QS wr qr ∧ QN (· = b2) qr ∧ QN (· = b5) qr ∧ QFr w.heap.size qr ∧ Blk wr b5 29 (qC qr).toArray ∧ Blk wr b2 29 #[.int .i64 0, .slice none 0 0, .int .i64 0, .slice none 0 0] ∧ RdrS wr g s l2 ∧ Mod (· = g) w wr)
    case atStart => exact ⟨0, .mk k2 A2 c2 ws2 n2 B2 d2 xs2, by omega, by omega, rfl, rfl, HQ2.out, HQ4.out, HQ5.out, HQ3.out, HB6.out, HB5.out, HR5.out, HM5.out⟩
    case round =>
     clear HQ2 HQ4 HQ5 HQ3 HB6 HB5 HR5 HM5
     obtain ⟨j, qr, rfl, hj, rfl, hk, hQ, hQ2, hQ5, hQF, hB5, hB2, hR, hM⟩ := hrel
     obtain ⟨k, A, c, ws, n, B, d, xs⟩ := qr
     have HK := Lib.hid hk
     have HQ := Lib.hid hQ
     have HQ2 := Lib.hid hQ2
     have HQ5 := Lib.hid hQ5
     have HQF := Lib.hid hQF
     have HB5 := Lib.hid hB5
     have HB2 := Lib.hid hB2
     have HR := Lib.hid hR
     have HM := Lib.hid hM
     have hb5w := hB5.lt
     have hb2w := hB2.lt
     have hgw := hR.lt
     have h5 := hB5
     simp only [qC] at h5
     have y0 := h5.cell 0; have y1 := h5.cell 1; have y2 := h5.cell 2; have y3 := h5.cell 3; simp at y0 y1 y2 y3
     clear hk hQ hQ2 hQ5 hQF hB5 hB2 hR hM h5
     by_cases hlt : j < m
     ·have HNQ := Lib.hid (notQ_calls wr _ HQ.out)
      rw [qA_mk] at HNQ
      go_wp2_with fail
      refine HNQ.out.mono ?_
      rintro e w6 ⟨gS, hgS, rfl, hQS, hm6⟩
      simp only [qA_mk]
      have HQS := Lib.hid hQS
      have HB6 := Lib.hid (HB5.out.modp hm6)
      have HB7 := Lib.hid (HB2.out.modp hm6)
      have HR6 := Lib.hid (HR.out.pure hm6)
      have HM6 := Lib.hid (HM.out.transp hm6)
      have hszw := HM.out.size
      have h5 := HB6.out
      simp only [qC] at h5
      clear y0 y1 y2 y3
      have y0 := h5.cell 0; have yf0 := h5.frozen 0; have y1 := h5.cell 1; have yf1 := h5.frozen 1; have y2 := h5.cell 2; have yf2 := h5.frozen 2; have y3 := h5.cell 3; have yf3 := h5.frozen 3; simp at y0 y1 y2 y3
      clear h5 hQS hm6 HNQ HB5 HB2 HR HM
      go_wp2_with fail
      go_roundg (m - (j + 1))
      case measure => omega
      case rel =>
       have hst : Mod (· = b5) w6 ((((w6.setCell ⟨b5, 0, none⟩ (.int .i64 8)).setCell ⟨b5, 1, none⟩ (.slice none 0 0)).setCell ⟨b5, 2, none⟩ (.int .i64 0)).setCell ⟨b5, 3, none⟩ (.slice (some ⟨gS, 0, none⟩) 1 1)) := st4_mod
       have h6 := HB6.out
       simp only [qC] at h6
       refine ⟨j + 1, .mk 8 none 0 [] 0 (some ⟨gS, 0, none⟩) 1 [.mk k A c ws n B d xs], rfl, hlt, by simp, ?_, ?_, ?_, ?_, ?_, ?_, HB7.out.mod hst (by omega), HR6.out.box HB6.out hst (by omega), HM6.out.trans' hst (fun i hi hlt => by omega)⟩
       ·rw [QR.key_mk, notN_out, ← HK.out]
        rfl
       ·refine HQS.out.box HB6.out (.mk ?_ ?_) hst
        ·intro _ g9 off he hb
         injection he with he
         injection he with he
         omega
        ·intro a ha
         rw [List.mem_singleton.1 ha]
         exact HQ5.out
       ·refine .mk ?_ ?_
        ·intro _ g9 off he hb
         injection he with he
         injection he with he
         omega
        ·intro a ha
         rw [List.mem_singleton.1 ha]
         exact HQ2.out
       ·refine .mk ?_ ?_
        ·intro _ g9 off he hb
         injection he with he
         injection he with he
         omega
        ·intro a ha
         rw [List.mem_singleton.1 ha]
         exact HQ5.out
       ·refine .mk (fun _ => ⟨gS, 0, rfl, by omega⟩) ?_
        intro a ha
        rw [List.mem_singleton.1 ha]
        exact HQF.out
       ·exact st4_blk (a := .int .i64 8) (b := .slice none 0 0) (c := .int .i64 0) (d := .slice (some ⟨gS, 0, none⟩) 1 1) h6
     ·obtain rfl : j = m := by omega
      have h2 := HB2.out
      have x0 := h2.cell 0; have xf0 := h2.frozen 0; have x1 := h2.cell 1; have xf1 := h2.frozen 1; have x2 := h2.cell 2; have xf2 := h2.frozen 2; have x3 := h2.cell 3; have xf3 := h2.frozen 3; simp at x0 x1 x2 x3
      clear h2 hlt
      go_wp2_with fail
      have h4F := st4_blk HB2.out (a := .int .i64 k) (b := .slice A ws.length c) (c := .int .i64 n) (d := .slice B xs.length d)
      have z0 := h4F.cell 0; have z1 := h4F.cell 1; have z2 := h4F.cell 2; have z3 := h4F.cell 3; simp at z0 z1 z2 z3
      try simp only [Exit.inBlock, Exit.then]
      refine bodyPost_ret (v := .tuple #[.agg #[.int .i64 k, .slice A ws.length c, .int .i64 n, .slice B xs.length d], .bool true]) (by simp [results, Tryz.results187, go_sem, z0, z1, z2, z3]) rfl ?_
      exact pr_ret HM.out HR.out HB2.out (by omega) (by omega) (fun h => by cases h) (fun _ => ⟨by rw [HK.out]; exact HQ1.out, HQ.out, HQ2.out, HQF.out⟩)
end Go.Proofs.YtnfflgicngeekaaGreatDoor

/- Several searches with a word between: (*reader).several. -/
namespace Go.Proofs.YtnfflgicngeekaaGreatDoor
set_option linter.unusedVariables false
set_option linter.unusedSimpArgs false
open Go.RowKit
theorem info_qry : (Tryz.prog.info? 29).map (fun i => (i.zero, i.size, i.bytes)) = some (some (.agg #[.int .i64 0, .slice none 0 0, .int .i64 0, .slice none 0 0]), 4, 64) := by kernel_rfl
/-- What has been gathered: the searches lie in a row of one's own, and no row of theirs is written. -/
def GatQ (wr : World) (base b8 b12 sz : Nat) (A : Option Addr) (c : Nat) (qs : List QR) : Prop :=
 wr.ownsRow base 29 4 (.slice A qs.length c) qs.length (qV qs) ∧ (∀ k, (Value.slice A qs.length c).ownBlock = some k → k ≠ b8 ∧ k ≠ b12) ∧ ∀ q ∈ qs, QS wr q ∧ QN (· = b8) q ∧ QN (· = b12) q ∧ QN (fun k => (Value.slice A qs.length c).ownBlock = some k) q ∧ QFr sz q
theorem own_str {w : World} {base n : Nat} {v : Value} {xs : List Value} (h : w.ownsRow base 29 4 v n xs) : ∀ g arr fr, w.heap[g]? = some (.cells arr 9 fr) → ¬ v.ownBlock = some g := fun g arr fr hg hv => absurd (own_ty h hv hg) (by decide)
theorem GatQ.rd {w w' : World} {base b8 b12 sz c g : Nat} {A : Option Addr} {qs : List QR} {cs : Array Value} (h : GatQ w base b8 b12 sz A c qs) (hB : Blk w g 136 cs) (hm : Mod (· = g) w w') : GatQ w' base b8 b12 sz A c qs := by
 obtain ⟨h1, h2, h3⟩ := h
 refine ⟨own_mod h1 hm (fun k hk e => ?_), h2, fun q hq => ?_⟩
 ·subst e
  exact absurd (own_ty h1 hk hB) (by decide)
 ·obtain ⟨a, b, c, d, e⟩ := h3 q hq
  exact ⟨a.rd hB hm, b, c, d, e⟩
theorem GatQ.pure {w w' : World} {base b8 b12 sz c : Nat} {A : Option Addr} {qs : List QR} (h : GatQ w base b8 b12 sz A c qs) (hm : Pure w w') : GatQ w' base b8 b12 sz A c qs := by
 obtain ⟨h1, h2, h3⟩ := h
 refine ⟨own_pure h1 hm, h2, fun q hq => ?_⟩
 obtain ⟨a, b, c, d, e⟩ := h3 q hq
 exact ⟨a.pure hm, b, c, d, e⟩
/-- Another one is gathered: w5 is the world behind the append; then the box is written. -/
theorem GatQ.snoc {w w5 w6 : World} {base b8 b12 sz c g5 cap5 : Nat} {A : Option Addr} {qs : List QR} {q : QR} {cs : Array Value} (h : GatQ w base b8 b12 sz A c qs) (hq : QS w q) (hqf : QFr sz q) (hq8 : QN (· = b8) q) (hq12 : QN (· = b12) q) (hqo : QN (fun k => (Value.slice A qs.length c).ownBlock = some k) q)
  (hw5 : w5.ownsRow base 29 4 (.slice (some ⟨g5, 0, none⟩) (qs.length + 1) cap5) (qs.length + 1) (qV qs ++ qC q)) (hm5 : Mod (fun k => (Value.slice A qs.length c).ownBlock = some k) w w5) (hat : (Value.slice A qs.length c).ownBlock = some g5 ∨ w.heap.size ≤ g5) (hb8 : b8 < w.heap.size) (hb12 : b12 < w.heap.size)
  (hB : Blk w5 b12 29 cs) (hm6 : Mod (· = b12) w5 w6) : GatQ w6 base b8 b12 sz (some ⟨g5, 0, none⟩) cap5 (qs ++ [q]) := by
 obtain ⟨h1, h2, h3⟩ := h
 have hl : (qs ++ [q]).length = qs.length + 1 := by simp
 have hg5 : g5 ≠ b8 ∧ g5 ≠ b12 := by
  rcases hat with h | h
  ·exact h2 _ h
  ·constructor <;> omega
 have hob : ∀ k, (Value.slice (some ⟨g5, 0, none⟩) (qs.length + 1) cap5).ownBlock = some k → k = g5 := by
  intro k hk
  injection hk with hk
  exact hk.symm
 have hnew : ∀ x, QS w x → QN (fun k => (Value.slice A qs.length c).ownBlock = some k) x → QN (fun k => (Value.slice (some ⟨g5, 0, none⟩) (qs.length + 1) cap5).ownBlock = some k) x := by
  intro x hx hn
  rcases hat with h | h
  ·exact hn.mono (fun k hk => by rw [hob k hk]; exact h)
  ·exact QN.new hx (fun k hk => by rw [hob k hk]; exact h)
 have hfin : ∀ x, QS w x → QN (fun k => (Value.slice A qs.length c).ownBlock = some k) x → QN (· = b12) x → QS w6 x := fun x hx ho hb => (hx.modN ho hm5 (own_str h1)).box hB hb hm6
 unfold GatQ
 rw [hl, qV_snoc]
 refine ⟨own_mod hw5 hm6 (fun k hk e => hg5.2 ((hob k hk).symm.trans e)), fun k hk => by rw [hob k hk]; exact hg5, fun x hx => ?_⟩
 rcases List.mem_append.1 hx with hx | hx
 ·obtain ⟨a, b, c, d, e⟩ := h3 x hx
  exact ⟨hfin x a d c, b, c, hnew x a d, e⟩
 ·rw [List.mem_singleton.1 hx]
  exact ⟨hfin q hq hqo hq12, hq8, hq12, hnew q hq hqo, hqf⟩
def SevR (w : World) (g : Nat) (s : Str) (kind between : Int) (el : List Tk → PR) (f base b8 b12 bx : Nat) (r : PR) (gk : Nat) (wr : World) : Prop :=
 ∃ (A : Option Addr) (c f' : Nat) (qs : List QR) (l : List Tk), l.length = gk ∧ l.length + 1 ≤ f' ∧ f' ≤ f ∧ pSevL kind between el f' (qs.map QR.key) l = r ∧ qs ≠ [] ∧ qs.length + l.length ≤ 2 * f ∧ GatQ wr base b8 b12 w.heap.size A c qs ∧ RdrS wr g s l ∧ Blk wr b8 29 #[.int .i64 0, .slice none 0 0, .int .i64 0, .slice none 0 0] ∧ Blk wr b12 29 #[.int .i64 kind, .slice none 0 0, .int .i64 0, .slice A qs.length c] ∧ Blk wr bx 132 #[.pointer (some ⟨g, 0, none⟩)] ∧ Mod (· = g) w wr
set_option maxRecDepth 100000 in
set_option maxHeartbeats 8000000 in
theorem sevNot_calls (w0 : World) (g bx : Nat) (s : Str) (f : Nat) (el : List Tk → PR) (hf : f ≤ 1000000) (hN : NxC w0 g s) (hLE : LenP el) (hgx : bx ≠ g)
  (hE : ∀ W L, Mod (· = g) w0 W → Blk W bx 132 #[.pointer (some ⟨g, 0, none⟩)] → RdrS W g s L → L.length ≤ f → Calls Tryz.prog 187 #[.pointer (some ⟨g, 0, none⟩)] W (PrP W g s (el L))) (w : World) (L : List Tk) (hW : Mod (· = g) w0 w) (hX : Blk w bx 132 #[.pointer (some ⟨g, 0, none⟩)]) (hR : RdrS w g s L) (hL : L.length ≤ f) :
  Calls Tryz.prog 185 #[.pointer (some ⟨g, 0, none⟩), .int .i64 6, .int .i64 4, .func (.func 187) #[.pointer (some ⟨g, 0, none⟩)] #[]] w (PrP w g s (pSev 6 4 el f L)) := by
 obtain ⟨i0, hi0, hz0, hz1, hz2⟩ := info_parts info_qry
 have HN := Lib.hid hN
 have HE := Lib.hid hE
 have HW := Lib.hid hW
 have HLE := Lib.hid hLE
 have hg0 := hR.lt
 have hx0 := hX.lt
 have hmz : Pure w (w.alloc (.cells #[.int .i64 0, .slice none 0 0, .int .i64 0, .slice none 0 0] 29)) := (Mod.refl _ _).alloc _
 have HB2 := Lib.hid (Blk.new w 29 #[.int .i64 0, .slice none 0 0, .int .i64 0, .slice none 0 0])
 have HX2 := Lib.hid (hX.alloc (.cells #[.int .i64 0, .slice none 0 0, .int .i64 0, .slice none 0 0] 29))
 have HM2 : Hid (Mod (· = g) w (w.alloc (.cells #[.int .i64 0, .slice none 0 0, .int .i64 0, .slice none 0 0] 29))) := Lib.hid (Mod.of_pure hmz)
 have HPX := Lib.hid (hE (w.alloc (.cells #[.int .i64 0, .slice none 0 0, .int .i64 0, .slice none 0 0] 29)) L (hW.trans HM2.out) HX2.out (hR.pure hmz) hL)
 have HS1 : Hid (∀ q l, el L = .inr (q, l) → pSev 6 4 el f L = if kdL l = 4 then pSevL 6 4 el f [q] l else .inr (q, l)) := Lib.hid (fun q l h => by unfold pSev; rw [h])
 have HS2 : Hid (∀ l, el L = .inl l → pSev 6 4 el f L = .inl l) := Lib.hid (fun l h => by unfold pSev; rw [h])
 clear hN hE hW hmz hR hX hLE
 generalize pSev 6 4 el f L = r at *
 obtain ⟨b2, hb2e⟩ : ∃ b2, w.heap.size = b2 := ⟨_, rfl⟩
 have hb2l : w.heap.size ≤ b2 := by omega
 have hb2u : b2 ≤ w.heap.size := by omega
 go_enter Tryz.func185, Tryz.ntmps185
 go_wp2_with fail
 generalize (w.alloc (.cells #[.int .i64 0, .slice none 0 0, .int .i64 0, .slice none 0 0] 29)) = w2 at *
 rw [hb2e] at HB2
 try simp only [hb2e]
 clear hb2e
 refine HPX.out.mono ?_
 rintro e w3 ⟨qr2, bt, l2, rfl, hR3, hm3, h0, h1⟩
 obtain ⟨k2, A2, c2, ws2, n2, B2, d2, xs2⟩ := qr2
 simp only [qA_mk]
 have H0 := Lib.hid h0
 have H1 := Lib.hid h1
 have hb2r := HB2.out.lt
 have hs2 := HM2.out.size
 have hs3 := hm3.size
 have hmA : Pure w3 (w3.alloc (.cells #[.int .i64 k2, .slice A2 ws2.length c2, .int .i64 n2, .slice B2 xs2.length d2] 29)) := (Mod.refl _ _).alloc _
 have HB5 := Lib.hid ((HB2.out.modb hm3 (by omega)).alloc (.cells #[.int .i64 k2, .slice A2 ws2.length c2, .int .i64 n2, .slice B2 xs2.length d2] 29))
 have HX5 := Lib.hid ((HX2.out.modb hm3 hgx).alloc (.cells #[.int .i64 k2, .slice A2 ws2.length c2, .int .i64 n2, .slice B2 xs2.length d2] 29))
 have HB6 := Lib.hid (Blk.new w3 29 #[.int .i64 k2, .slice A2 ws2.length c2, .int .i64 n2, .slice B2 xs2.length d2])
 have HR5 := Lib.hid (RdrS.pure hR3 hmA)
 have HM5 := Lib.hid ((HM2.out.trans hm3).transp hmA)
 have HQA := Lib.hid hmA
 clear hmA h0 h1 hm3 hR3 HB2 HX2 HM2 HPX
 go_upto_region 2 with (fail)
 generalize (w3.alloc (.cells #[.int .i64 k2, .slice A2 ws2.length c2, .int .i64 n2, .slice B2 xs2.length d2] 29)) = w5 at *
 obtain ⟨b10, hb10⟩ : ∃ b10, w3.heap.size = b10 := ⟨_, rfl⟩
 rw [hb10] at HB6
 try simp only [hb10]
 have hb10l : w3.heap.size ≤ b10 := by omega
 have hb10u : b10 ≤ w3.heap.size := by omega
 clear hb10
 have hb10r := HB6.out.lt
 have hb2r5 := HB5.out.lt
 have hgr5 := HR5.out.lt
 have hxr5 := HX5.out.lt
 have h5 := HB5.out
 have h6 := HB6.out
 have x0 := h5.cell 0; have xf0 := h5.frozen 0; have x1 := h5.cell 1; have xf1 := h5.frozen 1; have x2 := h5.cell 2; have xf2 := h5.frozen 2; have x3 := h5.cell 3; have xf3 := h5.frozen 3; simp at x0 x1 x2 x3
 have y0 := h6.cell 0; have y1 := h6.cell 1; have y2 := h6.cell 2; have y3 := h6.cell 3; simp at y0 y1 y2 y3
 clear h5 h6
 cases bt
 ·have HI : Hid (r = .inl l2) := Lib.hid (HS2.out _ (H0.out rfl))
  clear H0 H1 HS1 HS2
  go_wp2_with fail
  have h4F := st4_blk HB5.out (a := .int .i64 k2) (b := .slice A2 ws2.length c2) (c := .int .i64 n2) (d := .slice B2 xs2.length d2)
  have z0 := h4F.cell 0; have z1 := h4F.cell 1; have z2 := h4F.cell 2; have z3 := h4F.cell 3; simp at z0 z1 z2 z3
  try simp only [Exit.inBlock, Exit.then]
  refine bodyPost_ret (v := .tuple #[.agg #[.int .i64 k2, .slice A2 ws2.length c2, .int .i64 n2, .slice B2 xs2.length d2], .bool false]) (by simp [results, Tryz.results185, go_sem, z0, z1, z2, z3]) rfl ?_
  exact pr_ret HM5.out HR5.out HB5.out (by omega) (by omega) (fun _ => HI.out) (fun h => by cases h)
 ·obtain ⟨hq1, hq2, hq3⟩ := H1.out rfl
  have HQ1 := Lib.hid (HS1.out _ _ hq1)
  have hll := HLE.out _ _ _ hq1
  have HQ2 := Lib.hid (hq2.pure HQA.out)
  have HQ3 := Lib.hid hq3
  have HQ10 : Hid (QN (· = b10) (QR.mk k2 A2 c2 ws2 n2 B2 d2 xs2)) := Lib.hid (QN.new hq2 (fun k hk => by omega))
  have HQ8 : Hid (QN (· = b2) (QR.mk k2 A2 c2 ws2 n2 B2 d2 xs2)) := Lib.hid (QN.old hq3 (fun k hk => by omega))
  clear hq1 hq2 hq3 H0 H1 HQA HS1 HS2
  obtain ⟨p5, qr5, t5, l5, rfl, hB7, hp5, hQ5, hk5, ha5, _, _⟩ := HR5.out
  obtain ⟨k5, A5, c5, ws5, n5, B5, d5, xs5⟩ := qr5
  have hBr := hB7
  unfold rdC at hBr
  simp [qC] at hBr
  have u0 := hBr.cell 0; have u1 := hBr.cell 1; have u2 := hBr.cell 2; have u3 := hBr.cell 3; have u4 := hBr.cell 4; have u5 := hBr.cell 5; have u6 := hBr.cell 6; have u7 := hBr.cell 7; simp at u0 u1 u2 u3 u4 u5 u6 u7
  clear hBr hQ5 hk5 ha5 hB7
  by_cases hkb : t5.kind = 4
  ·have HI : Hid (pSevL 6 4 el f [(QR.mk k2 A2 c2 ws2 n2 B2 d2 xs2).key] (t5 :: l5) = r) := Lib.hid (by
    rw [HQ1.out]
    exact (if_pos (show kdL (t5 :: l5) = 4 from hkb)).symm)
   rw [hkb] at u2
   clear HQ1 hkb
   have hmC : Pure w5 ((w5.alloc (.cells #[.int .i64 k2, .slice A2 ws2.length c2, .int .i64 n2, .slice B2 xs2.length d2] 29)).alloc (.cells #[.int .i64 6, .slice none 0 0, .int .i64 0, .slice (some ⟨w5.heap.size, 0, none⟩) 1 1] 29)) := ((Mod.refl _ _).alloc _).alloc _
   have HB7 := Lib.hid ((HB5.out.alloc (.cells #[.int .i64 k2, .slice A2 ws2.length c2, .int .i64 n2, .slice B2 xs2.length d2] 29)).alloc (.cells #[.int .i64 6, .slice none 0 0, .int .i64 0, .slice (some ⟨w5.heap.size, 0, none⟩) 1 1] 29))
   have HX7 := Lib.hid ((HX5.out.alloc (.cells #[.int .i64 k2, .slice A2 ws2.length c2, .int .i64 n2, .slice B2 xs2.length d2] 29)).alloc (.cells #[.int .i64 6, .slice none 0 0, .int .i64 0, .slice (some ⟨w5.heap.size, 0, none⟩) 1 1] 29))
   have HBS := Lib.hid ((Blk.new w5 29 #[.int .i64 k2, .slice A2 ws2.length c2, .int .i64 n2, .slice B2 xs2.length d2]).alloc (.cells #[.int .i64 6, .slice none 0 0, .int .i64 0, .slice (some ⟨w5.heap.size, 0, none⟩) 1 1] 29))
   have HB12 := Lib.hid (Blk.snd w5 (.cells #[.int .i64 k2, .slice A2 ws2.length c2, .int .i64 n2, .slice B2 xs2.length d2] 29) 29 #[.int .i64 6, .slice none 0 0, .int .i64 0, .slice (some ⟨w5.heap.size, 0, none⟩) 1 1])
   have HR7 := Lib.hid (HR5.out.pure hmC)
   have HM7 := Lib.hid (HM5.out.transp hmC)
   have HQ7 := Lib.hid (HQ2.out.pure hmC)
   have HQS : Hid (QN (· = w5.heap.size) (QR.mk k2 A2 c2 ws2 n2 B2 d2 xs2)) := Lib.hid (QN.new HQ2.out (fun k hk => by omega))
   have HQ12 : Hid (QN (· = w5.heap.size + 1) (QR.mk k2 A2 c2 ws2 n2 B2 d2 xs2)) := Lib.hid (QN.new HQ2.out (fun k hk => by omega))
   clear hmC
   go_upto_block 0 with (fail)
   generalize ((w5.alloc (.cells #[.int .i64 k2, .slice A2 ws2.length c2, .int .i64 n2, .slice B2 xs2.length d2] 29)).alloc (.cells #[.int .i64 6, .slice none 0 0, .int .i64 0, .slice (some ⟨w5.heap.size, 0, none⟩) 1 1] 29)) = w7 at *
   obtain ⟨gS, hgS⟩ : ∃ gS, w5.heap.size = gS := ⟨_, rfl⟩
   rw [hgS] at HBS HB12 HQS HQ12
   try simp only [hgS]
   obtain ⟨b12, hb12⟩ : ∃ b12, gS + 1 = b12 := ⟨_, rfl⟩
   rw [hb12] at HB12 HQ12
   try simp only [hb12]
   have hgSl : w5.heap.size ≤ gS := by omega
   have hbS : gS < b12 := by omega
   clear hgS hb12 x0 x1 x2 x3 xf0 xf1 xf2 xf3 y0 y1 y2 y3 u0 u1 u2 u3 u4 u5 u6 u7
   have hl5 : (t5 :: l5).length = l5.length + 1 := rfl
   have hgrS := HBS.out.lt
   have HG0 : Hid (GatQ w7 w.heap.size b2 b12 w.heap.size (some ⟨gS, 0, none⟩) 1 [.mk k2 A2 c2 ws2 n2 B2 d2 xs2]) := Lib.hid (by
    refine ⟨⟨rfl, .inr ⟨gS, 1, _, rfl, by omega, HBS.out, Nat.le_refl _, by decide, rfl, rfl⟩⟩, fun k hk => ?_, fun q hq => ?_⟩
    ·have hk2 : gS = k := Option.some.inj hk
     constructor <;> omega
    ·rw [List.mem_singleton.1 hq]
     exact ⟨HQ7.out, HQ8.out, HQ12.out, HQS.out.mono (fun k hk => by injection hk with hk; exact hk.symm), HQ3.out.up (by omega)⟩)
   clear HQ7 HQ8 HQ12 HQS HQ3 HQ2 HQ10 HBS HB5 HX5 HR5 HM5 HB6
   go_wp2_with fail
   go_loopg [] (t5 :: l5).length (fun gk wr => SevR w g s 6 4 el f w.heap.size b2 b12 bx r gk wr)
   case atStart => exact ⟨some ⟨gS, 0, none⟩, 1, f, [.mk k2 A2 c2 ws2 n2 B2 d2 xs2], t5 :: l5, rfl, by omega, Nat.le_refl _, HI.out, by simp, by show 1 + (t5 :: l5).length ≤ 2 * f; omega, HG0.out, HR7.out, HB7.out, HB12.out, HX7.out, HM7.out⟩
   case round =>
    clear HG0 HB7 HB12 HX7 HR7 HM7 HI
    obtain ⟨A, c, f2, qs, l, rfl, hlf, hff, hps, hne, hqn, hG, hR, hB8, hB12, hX, hM⟩ := hrel
    have HPS := Lib.hid hps
    have HG := Lib.hid hG
    have HR := Lib.hid hR
    have HB8 := Lib.hid hB8
    have HB12 := Lib.hid hB12
    have HX := Lib.hid hX
    have HM := Lib.hid hM
    have hb8r := hB8.lt
    have hb12r := hB12.lt
    have hxr := hX.lt
    have hgr := hR.lt
    have hszr := hM.size
    have h5 := HB8.out
    have h6 := HB12.out
    have x0 := h5.cell 0; have xf0 := h5.frozen 0; have x1 := h5.cell 1; have xf1 := h5.frozen 1; have x2 := h5.cell 2; have xf2 := h5.frozen 2; have x3 := h5.cell 3; have xf3 := h5.frozen 3; simp at x0 x1 x2 x3
    have y0 := h6.cell 0; have yf0 := h6.frozen 0; have y1 := h6.cell 1; have yf1 := h6.frozen 1; have y2 := h6.cell 2; have yf2 := h6.frozen 2; have y3 := h6.cell 3; have yf3 := h6.frozen 3; simp at y0 y1 y2 y3
    clear hps hG hR hB8 hB12 hX hM h5 h6
    obtain ⟨p9, qr9, t9, l9, rfl, hB9, hp9, hQ9, hk9, ha9, _, _⟩ := HR.out
    obtain ⟨k9, A9, c9, ws9, n9, B9, d9, xs9⟩ := qr9
    have hBr := hB9
    unfold rdC at hBr
    simp [qC] at hBr
    have u0 := hBr.cell 0; have u1 := hBr.cell 1; have u2 := hBr.cell 2; have u3 := hBr.cell 3; have u4 := hBr.cell 4; have u5 := hBr.cell 5; have u6 := hBr.cell 6; have u7 := hBr.cell 7; simp at u0 u1 u2 u3 u4 u5 u6 u7
    clear hBr hQ9 hk9 ha9 hB9
    have hl9 : (t9 :: l9).length = l9.length + 1 := rfl
    cases f2 with
    | zero => omega
    | succ f2 =>
     by_cases hkb : t9.kind = 4
     ·have HPQ : Hid ((match el l9 with | .inl l => .inl l | .inr (q, l) => pSevL 6 4 el f2 (qs.map QR.key ++ [q]) l) = r) := Lib.hid (by
       have h := HPS.out
       unfold pSevL at h
       rw [if_pos (show kdL (t9 :: l9) = 4 from hkb)] at h
       exact h)
      rw [hkb] at u2
      have HNX := Lib.hid (HN.out wr (t9 :: l9) (HW.out.trans HM.out) HR.out (show t9.kind ≠ 0 by omega) (show t9.kind ≠ 8 by omega))
      clear HPS hkb
      go_wp2_with fail
      refine HNX.out.mono ?_
      rintro e w8 ⟨rfl, hR4, hm4⟩
      obtain ⟨cs, hcs⟩ := HR.out.blk
      have HG4 := Lib.hid (HG.out.rd hcs hm4)
      have HB84 := Lib.hid (HB8.out.modb hm4 (by omega))
      have HB124 := Lib.hid (HB12.out.modb hm4 (by omega))
      have HX4 := Lib.hid (HX.out.modb hm4 hgx)
      have HM4 := Lib.hid (HM.out.trans hm4)
      have hsz4 := hm4.size
      have HEX := Lib.hid (HE.out w8 l9 (HW.out.trans HM4.out) HX4.out hR4 (by omega))
      have hcs4 := RdrS.blk hR4
      clear hcs hm4 hR4 HNX HG HB8 HB12 HX HM HR x0 x1 x2 x3 xf0 xf1 xf2 xf3 y0 y1 y2 y3 yf0 yf1 yf2 yf3 u0 u1 u2 u3 u4 u5 u6 u7
      go_wp2_with fail
      refine HEX.out.mono ?_
      rintro e w9 ⟨qr6, bt, l6, rfl, hR6, hm6, h0, h1⟩
      obtain ⟨k6, A6, c6, ws6, n6, B6, d6, xs6⟩ := qr6
      simp only [qA_mk]
      obtain ⟨cs, hcs⟩ := hcs4
      have H0 := Lib.hid h0
      have H1 := Lib.hid h1
      have hsz6 := hm6.size
      have hA : Pure w9 (w9.alloc (.cells #[.int .i64 k6, .slice A6 ws6.length c6, .int .i64 n6, .slice B6 xs6.length d6] 29)) := (Mod.refl _ _).alloc _
      have HG6 := Lib.hid ((HG4.out.rd hcs hm6).pure hA)
      have HB86 := Lib.hid ((HB84.out.modb hm6 (by omega)).alloc (.cells #[.int .i64 k6, .slice A6 ws6.length c6, .int .i64 n6, .slice B6 xs6.length d6] 29))
      have HB126 := Lib.hid ((HB124.out.modb hm6 (by omega)).alloc (.cells #[.int .i64 k6, .slice A6 ws6.length c6, .int .i64 n6, .slice B6 xs6.length d6] 29))
      have HX6 := Lib.hid ((HX4.out.modb hm6 hgx).alloc (.cells #[.int .i64 k6, .slice A6 ws6.length c6, .int .i64 n6, .slice B6 xs6.length d6] 29))
      have HB13 := Lib.hid (Blk.new w9 29 #[.int .i64 k6, .slice A6 ws6.length c6, .int .i64 n6, .slice B6 xs6.length d6])
      have HR6 := Lib.hid (RdrS.pure hR6 hA)
      have HM6 := Lib.hid ((HM4.out.trans hm6).transp hA)
      have HQ6 : Hid (bt = true → QS (w9.alloc (.cells #[.int .i64 k6, .slice A6 ws6.length c6, .int .i64 n6, .slice B6 xs6.length d6] 29)) (.mk k6 A6 c6 ws6 n6 B6 d6 xs6) ∧ QFr w8.heap.size (.mk k6 A6 c6 ws6 n6 B6 d6 xs6)) := Lib.hid (fun h => ⟨(h1 h).2.1.pure hA, (h1 h).2.2⟩)
      have hob : ∀ k, (Value.slice A qs.length c).ownBlock = some k → k < w8.heap.size := by
       intro k hk
       obtain ⟨arr, ha⟩ := own_heap HG4.out.1 hk
       exact lt_of_heap ha
      have HOB := Lib.hid hob
      clear hA hm6 hR6 h0 h1 hcs HG4 HB84 HB124 HX4 HM4 HEX hob
      go_upto_region 8 with (fail)
      generalize (w9.alloc (.cells #[.int .i64 k6, .slice A6 ws6.length c6, .int .i64 n6, .slice B6 xs6.length d6] 29)) = wA at *
      obtain ⟨b13, hb13⟩ : ∃ b13, w9.heap.size = b13 := ⟨_, rfl⟩
      rw [hb13] at HB13
      try simp only [hb13]
      have hb13l : w9.heap.size ≤ b13 := by omega
      clear hb13
      have h5 := HB86.out
      have h6 := HB126.out
      have h7 := HB13.out
      have x0 := h5.cell 0; have xf0 := h5.frozen 0; have x1 := h5.cell 1; have xf1 := h5.frozen 1; have x2 := h5.cell 2; have xf2 := h5.frozen 2; have x3 := h5.cell 3; have xf3 := h5.frozen 3; simp at x0 x1 x2 x3
      have y0 := h6.cell 0; have yf0 := h6.frozen 0; have y1 := h6.cell 1; have yf1 := h6.frozen 1; have y2 := h6.cell 2; have yf2 := h6.frozen 2; have y3 := h6.cell 3; have yf3 := h6.frozen 3; simp at y0 y1 y2 y3
      have v0 := h7.cell 0; have v1 := h7.cell 1; have v2 := h7.cell 2; have v3 := h7.cell 3; simp at v0 v1 v2 v3
      clear h5 h6 h7
      cases bt
      ·have HI : Hid (r = .inl l6) := Lib.hid (by
        have h9 := HPQ.out
        rw [H0.out rfl] at h9
        exact h9.symm)
       clear HPQ H0 H1 HQ6
       go_wp2_with fail
       have h4F := st4_blk HB86.out (a := .int .i64 k6) (b := .slice A6 ws6.length c6) (c := .int .i64 n6) (d := .slice B6 xs6.length d6)
       have z0 := h4F.cell 0; have z1 := h4F.cell 1; have z2 := h4F.cell 2; have z3 := h4F.cell 3; simp at z0 z1 z2 z3
       try simp only [Exit.inBlock, Exit.then]
       refine bodyPost_ret (v := .tuple #[.agg #[.int .i64 k6, .slice A6 ws6.length c6, .int .i64 n6, .slice B6 xs6.length d6], .bool false]) (by simp [results, Tryz.results185, go_sem, z0, z1, z2, z3]) rfl ?_
       exact pr_ret HM6.out HR6.out HB86.out (by omega) (by omega) (fun _ => HI.out) (fun h => by cases h)
      ·obtain ⟨hq1, hq2⟩ := HQ6.out rfl
       have h9 := H1.out rfl
       have hl6 := HLE.out _ _ _ h9.1
       have HPR : Hid (pSevL 6 4 el f2 (qs.map QR.key ++ [(QR.mk k6 A6 c6 ws6 n6 B6 d6 xs6).key]) l6 = r) := Lib.hid (by
        have h := HPQ.out
        rw [h9.1] at h
        exact h)
       have HQA := Lib.hid hq1
       have HQF := Lib.hid hq2
       clear hq1 hq2 h9 H0 H1 HQ6 HPQ
       have hown := HG6.out.1
       have hqc : qs.length ≤ 2 * f := by omega
       have hwA := HB13.out.lt
       go_wp2_with ((at_builtin; refine wpList_append_lies _ rfl _ _ _ rfl w.heap.size 29 i0 _ 4 64 Tryz.underlying27 hi0 hz0 hz1 hz2 rfl (by omega) (.slice A qs.length c) qs.length (qV qs) rfl (hown.alloc _) ⟨wA.heap.size, 0, none⟩ 1 1 [.int .i64 k6, .slice A6 ws6.length c6, .int .i64 n6, .slice B6 xs6.length d6] rfl rfl (World.news_of_block (cs := #[.int .i64 k6, .slice A6 ws6.length c6, .int .i64 n6, .slice B6 xs6.length d6]) (t := 29) (fr := (0, 0)) (heap_alloc_new wA _)) (by simp [Value.oneCell']) (by omega) (by simp [maxLen]; omega) (by omega) (by have := HM6.out.size; simp; omega) (wA.heap.size + 1) (by simp) ?_; intro g5 cap5 w5 hown5 hgrow hat hlt5); have hX := (HB126.out.alloc (.cells #[.int .i64 k6, .slice A6 ws6.length c6, .int .i64 n6, .slice B6 xs6.length d6] 29)).mod (mod_grown hgrow) (fun hv => (HG6.out.2.1 _ hv).2 rfl); have q0 := hX.cell 0; have qf0 := hX.frozen 0; have q1 := hX.cell 1; have qf1 := hX.frozen 1; have q2 := hX.cell 2; have qf2 := hX.frozen 2; have q3 := hX.cell 3; have qf3 := hX.frozen 3; simp at q0 q1 q2 q3)
       go_roundg l6.length
       case measure => omega
       case rel =>
        have hA : Pure wA (wA.alloc (.cells #[.int .i64 k6, .slice A6 ws6.length c6, .int .i64 n6, .slice B6 xs6.length d6] 29)) := (Mod.refl _ _).alloc _
        have hgm := mod_grown hgrow
        have hst : Mod (· = b12) w5 (w5.setCell ⟨b12, 3, none⟩ (.slice (some ⟨g5, 0, none⟩) (qs.length + 1) cap5)) := mod_set (Mod.refl _ _) 3 _
        have hGA := HG6.out.pure hA
        have hRg := (HR6.out.pure hA).mod hgm (fun hv => by have := HOB.out _ hv; obtain ⟨cs, hc⟩ := HR6.out.blk; obtain ⟨arr, ha⟩ := own_heap HG6.out.1 hv; unfold Blk at hc; rw [hc] at ha; injection ha with ha; injection ha with _ ha; exact absurd ha (by decide)) (own_str hGA.1)
        have hno : ∀ k, (Value.slice A qs.length c).ownBlock = some k → k ≠ b2 ∧ k ≠ b12 := HG6.out.2.1
        have hsA : (wA.alloc (.cells #[.int .i64 k6, .slice A6 ws6.length c6, .int .i64 n6, .slice B6 xs6.length d6] 29)).heap.size = wA.heap.size + 1 := by simp
        refine ⟨some ⟨g5, 0, none⟩, cap5, f2, qs ++ [.mk k6 A6 c6 ws6 n6 B6 d6 xs6], l6, rfl, by omega, by omega, by rw [List.map_append]; exact HPR.out, by simp, by simp; omega, ?_, RdrS.box hRg hX hst (by omega), ?_, ?_, ?_, ?_⟩
        ·exact hGA.snoc (HQA.out.pure hA) (HQF.out.up (by omega)) (QN.old HQF.out (fun k hk => by omega)) (QN.old HQF.out (fun k hk => by omega)) (QN.old HQF.out (fun k hk => HOB.out k hk)) hown5 hgm (by rcases hat with h | h; exact .inl h; exact .inr (by omega)) (by omega) (by omega) hX hst
        ·exact ((HB86.out.alloc _).mod hgm (fun hv => (hno _ hv).1 rfl)).mod hst (by omega)
        ·have h := hX.set 3 (.slice (some ⟨g5, 0, none⟩) (qs.length + 1) cap5)
         simpa using h
        ·refine ((HX6.out.alloc _).mod hgm (fun hv => ?_)).mod hst (by omega)
         obtain ⟨arr, ha⟩ := own_heap HG6.out.1 hv
         have hc := HX6.out
         unfold Blk at hc
         rw [hc] at ha
         injection ha with ha
         injection ha with _ ha
         exact absurd ha (by decide)
        ·exact ((HM6.out.transp hA).trans' hgm (fun i hi hlt => by have := own_block HG6.out.1 i hi; omega)).trans' hst (fun i hi hlt => by omega)
     ·have HI : Hid (r = .inr (.mk 6 [] 0 (qs.map QR.key), t9 :: l9)) := Lib.hid (by
       have h := HPS.out
       unfold pSevL at h
       rw [if_neg (show ¬ kdL (t9 :: l9) = 4 from hkb)] at h
       exact h.symm)
      have hkbi : (t9.kind == 4) = false := by rw [← Bool.not_eq_true, beq_iff_eq]; exact hkb
      obtain ⟨hG1, hG2, hG3⟩ := HG.out
      have HG1 := Lib.hid hG1
      have HG2 := Lib.hid hG2
      have HG3 := Lib.hid hG3
      clear hkb HPS hG1 hG2 hG3
      go_wp2_with fail
      have h4F := st4_blk HB8.out (a := .int .i64 6) (b := .slice none 0 0) (c := .int .i64 0) (d := .slice A qs.length c)
      have z0 := h4F.cell 0; have z1 := h4F.cell 1; have z2 := h4F.cell 2; have z3 := h4F.cell 3; simp at z0 z1 z2 z3
      try simp only [Exit.inBlock, Exit.then]
      refine bodyPost_ret (v := .tuple #[.agg #[.int .i64 6, .slice none 0 0, .int .i64 0, .slice A qs.length c], .bool true]) (by simp [results, Tryz.results185, go_sem, z0, z1, z2, z3]) rfl ?_
      refine pr_ret (ws := []) (A := none) HM.out HR.out HB8.out (by omega) (by omega) (fun h => by cases h) (fun _ => ⟨by rw [QR.key_mk]; exact HI.out, .mk Sl.nil_ (Sl.of_own HG1.out) (fun a ha => (HG3.out a ha).1), .mk ?_ (fun a ha => (HG3.out a ha).2.1), .mk ?_ (fun a ha => (HG3.out a ha).2.2.2.2)⟩)
      ·intro _ g3 off he hb
       rw [he] at HG2
       exact (HG2.out g3 rfl).1 hb
      ·intro _
       rcases HG1.out.2 with ⟨h1, h2⟩ | ⟨g3, cap, cur, h1, h2, _⟩
       ·exact absurd (List.eq_nil_of_length_eq_zero h2) hne
       ·injection h1 with h1 _ _
        exact ⟨g3, 0, h1, h2⟩
  ·have HI : Hid (r = .inr ((QR.mk k2 A2 c2 ws2 n2 B2 d2 xs2).key, t5 :: l5)) := Lib.hid (by
    rw [HQ1.out]
    exact if_neg (show ¬ kdL (t5 :: l5) = 4 from hkb))
   have hkbi : (t5.kind == 4) = false := by rw [← Bool.not_eq_true, beq_iff_eq]; exact hkb
   clear hkb
   go_wp2_with fail
   have h4F := st4_blk HB5.out (a := .int .i64 k2) (b := .slice A2 ws2.length c2) (c := .int .i64 n2) (d := .slice B2 xs2.length d2)
   have z0 := h4F.cell 0; have z1 := h4F.cell 1; have z2 := h4F.cell 2; have z3 := h4F.cell 3; simp at z0 z1 z2 z3
   try simp only [Exit.inBlock, Exit.then]
   refine bodyPost_ret (v := .tuple #[.agg #[.int .i64 k2, .slice A2 ws2.length c2, .int .i64 n2, .slice B2 xs2.length d2], .bool true]) (by simp [results, Tryz.results185, go_sem, z0, z1, z2, z3]) rfl ?_
   exact pr_ret HM5.out HR5.out HB5.out (by omega) (by omega) (fun h => by cases h) (fun _ => ⟨HI.out, HQ2.out, HQ8.out, HQ3.out.up (by omega)⟩)
set_option maxRecDepth 100000 in
set_option maxHeartbeats 8000000 in
theorem sevOr_calls (w0 : World) (g bx : Nat) (s : Str) (f : Nat) (el : List Tk → PR) (hf : f ≤ 1000000) (hN : NxC w0 g s) (hLE : LenP el) (hgx : bx ≠ g)
  (hE : ∀ W L, Mod (· = g) w0 W → Blk W bx 132 #[.pointer (some ⟨g, 0, none⟩)] → RdrS W g s L → L.length ≤ f → Calls Tryz.prog 186 #[.pointer (some ⟨bx, 0, none⟩)] W (PrP W g s (el L))) (w : World) (L : List Tk) (hW : Mod (· = g) w0 w) (hX : Blk w bx 132 #[.pointer (some ⟨g, 0, none⟩)]) (hR : RdrS w g s L) (hL : L.length ≤ f) :
  Calls Tryz.prog 185 #[.pointer (some ⟨g, 0, none⟩), .int .i64 7, .int .i64 5, .func (.func 186) #[] #[.pointer (some ⟨bx, 0, none⟩)]] w (PrP w g s (pSev 7 5 el f L)) := by
 obtain ⟨i0, hi0, hz0, hz1, hz2⟩ := info_parts info_qry
 have HN := Lib.hid hN
 have HE := Lib.hid hE
 have HW := Lib.hid hW
 have HLE := Lib.hid hLE
 have hg0 := hR.lt
 have hx0 := hX.lt
 have hmz : Pure w (w.alloc (.cells #[.int .i64 0, .slice none 0 0, .int .i64 0, .slice none 0 0] 29)) := (Mod.refl _ _).alloc _
 have HB2 := Lib.hid (Blk.new w 29 #[.int .i64 0, .slice none 0 0, .int .i64 0, .slice none 0 0])
 have HX2 := Lib.hid (hX.alloc (.cells #[.int .i64 0, .slice none 0 0, .int .i64 0, .slice none 0 0] 29))
 have HM2 : Hid (Mod (· = g) w (w.alloc (.cells #[.int .i64 0, .slice none 0 0, .int .i64 0, .slice none 0 0] 29))) := Lib.hid (Mod.of_pure hmz)
 have HPX := Lib.hid (hE (w.alloc (.cells #[.int .i64 0, .slice none 0 0, .int .i64 0, .slice none 0 0] 29)) L (hW.trans HM2.out) HX2.out (hR.pure hmz) hL)
 have HS1 : Hid (∀ q l, el L = .inr (q, l) → pSev 7 5 el f L = if kdL l = 5 then pSevL 7 5 el f [q] l else .inr (q, l)) := Lib.hid (fun q l h => by unfold pSev; rw [h])
 have HS2 : Hid (∀ l, el L = .inl l → pSev 7 5 el f L = .inl l) := Lib.hid (fun l h => by unfold pSev; rw [h])
 clear hN hE hW hmz hR hX hLE
 generalize pSev 7 5 el f L = r at *
 obtain ⟨b2, hb2e⟩ : ∃ b2, w.heap.size = b2 := ⟨_, rfl⟩
 have hb2l : w.heap.size ≤ b2 := by omega
 have hb2u : b2 ≤ w.heap.size := by omega
 go_enter Tryz.func185, Tryz.ntmps185
 go_wp2_with fail
 generalize (w.alloc (.cells #[.int .i64 0, .slice none 0 0, .int .i64 0, .slice none 0 0] 29)) = w2 at *
 rw [hb2e] at HB2
 try simp only [hb2e]
 clear hb2e
 refine HPX.out.mono ?_
 rintro e w3 ⟨qr2, bt, l2, rfl, hR3, hm3, h0, h1⟩
 obtain ⟨k2, A2, c2, ws2, n2, B2, d2, xs2⟩ := qr2
 simp only [qA_mk]
 have H0 := Lib.hid h0
 have H1 := Lib.hid h1
 have hb2r := HB2.out.lt
 have hs2 := HM2.out.size
 have hs3 := hm3.size
 have hmA : Pure w3 (w3.alloc (.cells #[.int .i64 k2, .slice A2 ws2.length c2, .int .i64 n2, .slice B2 xs2.length d2] 29)) := (Mod.refl _ _).alloc _
 have HB5 := Lib.hid ((HB2.out.modb hm3 (by omega)).alloc (.cells #[.int .i64 k2, .slice A2 ws2.length c2, .int .i64 n2, .slice B2 xs2.length d2] 29))
 have HX5 := Lib.hid ((HX2.out.modb hm3 hgx).alloc (.cells #[.int .i64 k2, .slice A2 ws2.length c2, .int .i64 n2, .slice B2 xs2.length d2] 29))
 have HB6 := Lib.hid (Blk.new w3 29 #[.int .i64 k2, .slice A2 ws2.length c2, .int .i64 n2, .slice B2 xs2.length d2])
 have HR5 := Lib.hid (RdrS.pure hR3 hmA)
 have HM5 := Lib.hid ((HM2.out.trans hm3).transp hmA)
 have HQA := Lib.hid hmA
 clear hmA h0 h1 hm3 hR3 HB2 HX2 HM2 HPX
 go_upto_region 2 with (fail)
 generalize (w3.alloc (.cells #[.int .i64 k2, .slice A2 ws2.length c2, .int .i64 n2, .slice B2 xs2.length d2] 29)) = w5 at *
 obtain ⟨b10, hb10⟩ : ∃ b10, w3.heap.size = b10 := ⟨_, rfl⟩
 rw [hb10] at HB6
 try simp only [hb10]
 have hb10l : w3.heap.size ≤ b10 := by omega
 have hb10u : b10 ≤ w3.heap.size := by omega
 clear hb10
 have hb10r := HB6.out.lt
 have hb2r5 := HB5.out.lt
 have hgr5 := HR5.out.lt
 have hxr5 := HX5.out.lt
 have h5 := HB5.out
 have h6 := HB6.out
 have x0 := h5.cell 0; have xf0 := h5.frozen 0; have x1 := h5.cell 1; have xf1 := h5.frozen 1; have x2 := h5.cell 2; have xf2 := h5.frozen 2; have x3 := h5.cell 3; have xf3 := h5.frozen 3; simp at x0 x1 x2 x3
 have y0 := h6.cell 0; have y1 := h6.cell 1; have y2 := h6.cell 2; have y3 := h6.cell 3; simp at y0 y1 y2 y3
 clear h5 h6
 cases bt
 ·have HI : Hid (r = .inl l2) := Lib.hid (HS2.out _ (H0.out rfl))
  clear H0 H1 HS1 HS2
  go_wp2_with fail
  have h4F := st4_blk HB5.out (a := .int .i64 k2) (b := .slice A2 ws2.length c2) (c := .int .i64 n2) (d := .slice B2 xs2.length d2)
  have z0 := h4F.cell 0; have z1 := h4F.cell 1; have z2 := h4F.cell 2; have z3 := h4F.cell 3; simp at z0 z1 z2 z3
  try simp only [Exit.inBlock, Exit.then]
  refine bodyPost_ret (v := .tuple #[.agg #[.int .i64 k2, .slice A2 ws2.length c2, .int .i64 n2, .slice B2 xs2.length d2], .bool false]) (by simp [results, Tryz.results185, go_sem, z0, z1, z2, z3]) rfl ?_
  exact pr_ret HM5.out HR5.out HB5.out (by omega) (by omega) (fun _ => HI.out) (fun h => by cases h)
 ·obtain ⟨hq1, hq2, hq3⟩ := H1.out rfl
  have HQ1 := Lib.hid (HS1.out _ _ hq1)
  have hll := HLE.out _ _ _ hq1
  have HQ2 := Lib.hid (hq2.pure HQA.out)
  have HQ3 := Lib.hid hq3
  have HQ10 : Hid (QN (· = b10) (QR.mk k2 A2 c2 ws2 n2 B2 d2 xs2)) := Lib.hid (QN.new hq2 (fun k hk => by omega))
  have HQ8 : Hid (QN (· = b2) (QR.mk k2 A2 c2 ws2 n2 B2 d2 xs2)) := Lib.hid (QN.old hq3 (fun k hk => by omega))
  clear hq1 hq2 hq3 H0 H1 HQA HS1 HS2
  obtain ⟨p5, qr5, t5, l5, rfl, hB7, hp5, hQ5, hk5, ha5, _, _⟩ := HR5.out
  obtain ⟨k5, A5, c5, ws5, n5, B5, d5, xs5⟩ := qr5
  have hBr := hB7
  unfold rdC at hBr
  simp [qC] at hBr
  have u0 := hBr.cell 0; have u1 := hBr.cell 1; have u2 := hBr.cell 2; have u3 := hBr.cell 3; have u4 := hBr.cell 4; have u5 := hBr.cell 5; have u6 := hBr.cell 6; have u7 := hBr.cell 7; simp at u0 u1 u2 u3 u4 u5 u6 u7
  clear hBr hQ5 hk5 ha5 hB7
  by_cases hkb : t5.kind = 5
  ·have HI : Hid (pSevL 7 5 el f [(QR.mk k2 A2 c2 ws2 n2 B2 d2 xs2).key] (t5 :: l5) = r) := Lib.hid (by
    rw [HQ1.out]
    exact (if_pos (show kdL (t5 :: l5) = 5 from hkb)).symm)
   rw [hkb] at u2
   clear HQ1 hkb
   have hmC : Pure w5 ((w5.alloc (.cells #[.int .i64 k2, .slice A2 ws2.length c2, .int .i64 n2, .slice B2 xs2.length d2] 29)).alloc (.cells #[.int .i64 7, .slice none 0 0, .int .i64 0, .slice (some ⟨w5.heap.size, 0, none⟩) 1 1] 29)) := ((Mod.refl _ _).alloc _).alloc _
   have HB7 := Lib.hid ((HB5.out.alloc (.cells #[.int .i64 k2, .slice A2 ws2.length c2, .int .i64 n2, .slice B2 xs2.length d2] 29)).alloc (.cells #[.int .i64 7, .slice none 0 0, .int .i64 0, .slice (some ⟨w5.heap.size, 0, none⟩) 1 1] 29))
   have HX7 := Lib.hid ((HX5.out.alloc (.cells #[.int .i64 k2, .slice A2 ws2.length c2, .int .i64 n2, .slice B2 xs2.length d2] 29)).alloc (.cells #[.int .i64 7, .slice none 0 0, .int .i64 0, .slice (some ⟨w5.heap.size, 0, none⟩) 1 1] 29))
   have HBS := Lib.hid ((Blk.new w5 29 #[.int .i64 k2, .slice A2 ws2.length c2, .int .i64 n2, .slice B2 xs2.length d2]).alloc (.cells #[.int .i64 7, .slice none 0 0, .int .i64 0, .slice (some ⟨w5.heap.size, 0, none⟩) 1 1] 29))
   have HB12 := Lib.hid (Blk.snd w5 (.cells #[.int .i64 k2, .slice A2 ws2.length c2, .int .i64 n2, .slice B2 xs2.length d2] 29) 29 #[.int .i64 7, .slice none 0 0, .int .i64 0, .slice (some ⟨w5.heap.size, 0, none⟩) 1 1])
   have HR7 := Lib.hid (HR5.out.pure hmC)
   have HM7 := Lib.hid (HM5.out.transp hmC)
   have HQ7 := Lib.hid (HQ2.out.pure hmC)
   have HQS : Hid (QN (· = w5.heap.size) (QR.mk k2 A2 c2 ws2 n2 B2 d2 xs2)) := Lib.hid (QN.new HQ2.out (fun k hk => by omega))
   have HQ12 : Hid (QN (· = w5.heap.size + 1) (QR.mk k2 A2 c2 ws2 n2 B2 d2 xs2)) := Lib.hid (QN.new HQ2.out (fun k hk => by omega))
   clear hmC
   go_upto_block 0 with (fail)
   generalize ((w5.alloc (.cells #[.int .i64 k2, .slice A2 ws2.length c2, .int .i64 n2, .slice B2 xs2.length d2] 29)).alloc (.cells #[.int .i64 7, .slice none 0 0, .int .i64 0, .slice (some ⟨w5.heap.size, 0, none⟩) 1 1] 29)) = w7 at *
   obtain ⟨gS, hgS⟩ : ∃ gS, w5.heap.size = gS := ⟨_, rfl⟩
   rw [hgS] at HBS HB12 HQS HQ12
   try simp only [hgS]
   obtain ⟨b12, hb12⟩ : ∃ b12, gS + 1 = b12 := ⟨_, rfl⟩
   rw [hb12] at HB12 HQ12
   try simp only [hb12]
   have hgSl : w5.heap.size ≤ gS := by omega
   have hbS : gS < b12 := by omega
   clear hgS hb12 x0 x1 x2 x3 xf0 xf1 xf2 xf3 y0 y1 y2 y3 u0 u1 u2 u3 u4 u5 u6 u7
   have hl5 : (t5 :: l5).length = l5.length + 1 := rfl
   have hgrS := HBS.out.lt
   have HG0 : Hid (GatQ w7 w.heap.size b2 b12 w.heap.size (some ⟨gS, 0, none⟩) 1 [.mk k2 A2 c2 ws2 n2 B2 d2 xs2]) := Lib.hid (by
    refine ⟨⟨rfl, .inr ⟨gS, 1, _, rfl, by omega, HBS.out, Nat.le_refl _, by decide, rfl, rfl⟩⟩, fun k hk => ?_, fun q hq => ?_⟩
    ·have hk2 : gS = k := Option.some.inj hk
     constructor <;> omega
    ·rw [List.mem_singleton.1 hq]
     exact ⟨HQ7.out, HQ8.out, HQ12.out, HQS.out.mono (fun k hk => by injection hk with hk; exact hk.symm), HQ3.out.up (by omega)⟩)
   clear HQ7 HQ8 HQ12 HQS HQ3 HQ2 HQ10 HBS HB5 HX5 HR5 HM5 HB6
   go_wp2_with fail
   go_loopg [] (t5 :: l5).length (fun gk wr => SevR w g s 7 5 el f w.heap.size b2 b12 bx r gk wr)
   case atStart => exact ⟨some ⟨gS, 0, none⟩, 1, f, [.mk k2 A2 c2 ws2 n2 B2 d2 xs2], t5 :: l5, rfl, by omega, Nat.le_refl _, HI.out, by simp, by show 1 + (t5 :: l5).length ≤ 2 * f; omega, HG0.out, HR7.out, HB7.out, HB12.out, HX7.out, HM7.out⟩
   case round =>
    clear HG0 HB7 HB12 HX7 HR7 HM7 HI
    obtain ⟨A, c, f2, qs, l, rfl, hlf, hff, hps, hne, hqn, hG, hR, hB8, hB12, hX, hM⟩ := hrel
    have HPS := Lib.hid hps
    have HG := Lib.hid hG
    have HR := Lib.hid hR
    have HB8 := Lib.hid hB8
    have HB12 := Lib.hid hB12
    have HX := Lib.hid hX
    have HM := Lib.hid hM
    have hb8r := hB8.lt
    have hb12r := hB12.lt
    have hxr := hX.lt
    have hgr := hR.lt
    have hszr := hM.size
    have h5 := HB8.out
    have h6 := HB12.out
    have x0 := h5.cell 0; have xf0 := h5.frozen 0; have x1 := h5.cell 1; have xf1 := h5.frozen 1; have x2 := h5.cell 2; have xf2 := h5.frozen 2; have x3 := h5.cell 3; have xf3 := h5.frozen 3; simp at x0 x1 x2 x3
    have y0 := h6.cell 0; have yf0 := h6.frozen 0; have y1 := h6.cell 1; have yf1 := h6.frozen 1; have y2 := h6.cell 2; have yf2 := h6.frozen 2; have y3 := h6.cell 3; have yf3 := h6.frozen 3; simp at y0 y1 y2 y3
    clear hps hG hR hB8 hB12 hX hM h5 h6
    obtain ⟨p9, qr9, t9, l9, rfl, hB9, hp9, hQ9, hk9, ha9, _, _⟩ := HR.out
    obtain ⟨k9, A9, c9, ws9, n9, B9, d9, xs9⟩ := qr9
    have hBr := hB9
    unfold rdC at hBr
    simp [qC] at hBr
    have u0 := hBr.cell 0; have u1 := hBr.cell 1; have u2 := hBr.cell 2; have u3 := hBr.cell 3; have u4 := hBr.cell 4; have u5 := hBr.cell 5; have u6 := hBr.cell 6; have u7 := hBr.cell 7; simp at u0 u1 u2 u3 u4 u5 u6 u7
    clear hBr hQ9 hk9 ha9 hB9
    have hl9 : (t9 :: l9).length = l9.length + 1 := rfl
    cases f2 with
    | zero => omega
    | succ f2 =>
     by_cases hkb : t9.kind = 5
     ·have HPQ : Hid ((match el l9 with | .inl l => .inl l | .inr (q, l) => pSevL 7 5 el f2 (qs.map QR.key ++ [q]) l) = r) := Lib.hid (by
       have h := HPS.out
       unfold pSevL at h
       rw [if_pos (show kdL (t9 :: l9) = 5 from hkb)] at h
       exact h)
      rw [hkb] at u2
      have HNX := Lib.hid (HN.out wr (t9 :: l9) (HW.out.trans HM.out) HR.out (show t9.kind ≠ 0 by omega) (show t9.kind ≠ 8 by omega))
      clear HPS hkb
      go_wp2_with fail
      refine HNX.out.mono ?_
      rintro e w8 ⟨rfl, hR4, hm4⟩
      obtain ⟨cs, hcs⟩ := HR.out.blk
      have HG4 := Lib.hid (HG.out.rd hcs hm4)
      have HB84 := Lib.hid (HB8.out.modb hm4 (by omega))
      have HB124 := Lib.hid (HB12.out.modb hm4 (by omega))
      have HX4 := Lib.hid (HX.out.modb hm4 hgx)
      have HM4 := Lib.hid (HM.out.trans hm4)
      have hsz4 := hm4.size
      have HEX := Lib.hid (HE.out w8 l9 (HW.out.trans HM4.out) HX4.out hR4 (by omega))
      have hcs4 := RdrS.blk hR4
      clear hcs hm4 hR4 HNX HG HB8 HB12 HX HM HR x0 x1 x2 x3 xf0 xf1 xf2 xf3 y0 y1 y2 y3 yf0 yf1 yf2 yf3 u0 u1 u2 u3 u4 u5 u6 u7
      go_wp2_with fail
      refine HEX.out.mono ?_
      rintro e w9 ⟨qr6, bt, l6, rfl, hR6, hm6, h0, h1⟩
      obtain ⟨k6, A6, c6, ws6, n6, B6, d6, xs6⟩ := qr6
      simp only [qA_mk]
      obtain ⟨cs, hcs⟩ := hcs4
      have H0 := Lib.hid h0
      have H1 := Lib.hid h1
      have hsz6 := hm6.size
      have hA : Pure w9 (w9.alloc (.cells #[.int .i64 k6, .slice A6 ws6.length c6, .int .i64 n6, .slice B6 xs6.length d6] 29)) := (Mod.refl _ _).alloc _
      have HG6 := Lib.hid ((HG4.out.rd hcs hm6).pure hA)
      have HB86 := Lib.hid ((HB84.out.modb hm6 (by omega)).alloc (.cells #[.int .i64 k6, .slice A6 ws6.length c6, .int .i64 n6, .slice B6 xs6.length d6] 29))
      have HB126 := Lib.hid ((HB124.out.modb hm6 (by omega)).alloc (.cells #[.int .i64 k6, .slice A6 ws6.length c6, .int .i64 n6, .slice B6 xs6.length d6] 29))
      have HX6 := Lib.hid ((HX4.out.modb hm6 hgx).alloc (.cells #[.int .i64 k6, .slice A6 ws6.length c6, .int .i64 n6, .slice B6 xs6.length d6] 29))
      have HB13 := Lib.hid (Blk.new w9 29 #[.int .i64 k6, .slice A6 ws6.length c6, .int .i64 n6, .slice B6 xs6.length d6])
      have HR6 := Lib.hid (RdrS.pure hR6 hA)
      have HM6 := Lib.hid ((HM4.out.trans hm6).transp hA)
      have HQ6 : Hid (bt = true → QS (w9.alloc (.cells #[.int .i64 k6, .slice A6 ws6.length c6, .int .i64 n6, .slice B6 xs6.length d6] 29)) (.mk k6 A6 c6 ws6 n6 B6 d6 xs6) ∧ QFr w8.heap.size (.mk k6 A6 c6 ws6 n6 B6 d6 xs6)) := Lib.hid (fun h => ⟨(h1 h).2.1.pure hA, (h1 h).2.2⟩)
      have hob : ∀ k, (Value.slice A qs.length c).ownBlock = some k → k < w8.heap.size := by
       intro k hk
       obtain ⟨arr, ha⟩ := own_heap HG4.out.1 hk
       exact lt_of_heap ha
      have HOB := Lib.hid hob
      clear hA hm6 hR6 h0 h1 hcs HG4 HB84 HB124 HX4 HM4 HEX hob
      go_upto_region 8 with (fail)
      generalize (w9.alloc (.cells #[.int .i64 k6, .slice A6 ws6.length c6, .int .i64 n6, .slice B6 xs6.length d6] 29)) = wA at *
      obtain ⟨b13, hb13⟩ : ∃ b13, w9.heap.size = b13 := ⟨_, rfl⟩
      rw [hb13] at HB13
      try simp only [hb13]
      have hb13l : w9.heap.size ≤ b13 := by omega
      clear hb13
      have h5 := HB86.out
      have h6 := HB126.out
      have h7 := HB13.out
      have x0 := h5.cell 0; have xf0 := h5.frozen 0; have x1 := h5.cell 1; have xf1 := h5.frozen 1; have x2 := h5.cell 2; have xf2 := h5.frozen 2; have x3 := h5.cell 3; have xf3 := h5.frozen 3; simp at x0 x1 x2 x3
      have y0 := h6.cell 0; have yf0 := h6.frozen 0; have y1 := h6.cell 1; have yf1 := h6.frozen 1; have y2 := h6.cell 2; have yf2 := h6.frozen 2; have y3 := h6.cell 3; have yf3 := h6.frozen 3; simp at y0 y1 y2 y3
      have v0 := h7.cell 0; have v1 := h7.cell 1; have v2 := h7.cell 2; have v3 := h7.cell 3; simp at v0 v1 v2 v3
      clear h5 h6 h7
      cases bt
      ·have HI : Hid (r = .inl l6) := Lib.hid (by
        have h9 := HPQ.out
        rw [H0.out rfl] at h9
        exact h9.symm)
       clear HPQ H0 H1 HQ6
       go_wp2_with fail
       have h4F := st4_blk HB86.out (a := .int .i64 k6) (b := .slice A6 ws6.length c6) (c := .int .i64 n6) (d := .slice B6 xs6.length d6)
       have z0 := h4F.cell 0; have z1 := h4F.cell 1; have z2 := h4F.cell 2; have z3 := h4F.cell 3; simp at z0 z1 z2 z3
       try simp only [Exit.inBlock, Exit.then]
       refine bodyPost_ret (v := .tuple #[.agg #[.int .i64 k6, .slice A6 ws6.length c6, .int .i64 n6, .slice B6 xs6.length d6], .bool false]) (by simp [results, Tryz.results185, go_sem, z0, z1, z2, z3]) rfl ?_
       exact pr_ret HM6.out HR6.out HB86.out (by omega) (by omega) (fun _ => HI.out) (fun h => by cases h)
      ·obtain ⟨hq1, hq2⟩ := HQ6.out rfl
       have h9 := H1.out rfl
       have hl6 := HLE.out _ _ _ h9.1
       have HPR : Hid (pSevL 7 5 el f2 (qs.map QR.key ++ [(QR.mk k6 A6 c6 ws6 n6 B6 d6 xs6).key]) l6 = r) := Lib.hid (by
        have h := HPQ.out
        rw [h9.1] at h
        exact h)
       have HQA := Lib.hid hq1
       have HQF := Lib.hid hq2
       clear hq1 hq2 h9 H0 H1 HQ6 HPQ
       have hown := HG6.out.1
       have hqc : qs.length ≤ 2 * f := by omega
       have hwA := HB13.out.lt
       go_wp2_with ((at_builtin; refine wpList_append_lies _ rfl _ _ _ rfl w.heap.size 29 i0 _ 4 64 Tryz.underlying27 hi0 hz0 hz1 hz2 rfl (by omega) (.slice A qs.length c) qs.length (qV qs) rfl (hown.alloc _) ⟨wA.heap.size, 0, none⟩ 1 1 [.int .i64 k6, .slice A6 ws6.length c6, .int .i64 n6, .slice B6 xs6.length d6] rfl rfl (World.news_of_block (cs := #[.int .i64 k6, .slice A6 ws6.length c6, .int .i64 n6, .slice B6 xs6.length d6]) (t := 29) (fr := (0, 0)) (heap_alloc_new wA _)) (by simp [Value.oneCell']) (by omega) (by simp [maxLen]; omega) (by omega) (by have := HM6.out.size; simp; omega) (wA.heap.size + 1) (by simp) ?_; intro g5 cap5 w5 hown5 hgrow hat hlt5); have hX := (HB126.out.alloc (.cells #[.int .i64 k6, .slice A6 ws6.length c6, .int .i64 n6, .slice B6 xs6.length d6] 29)).mod (mod_grown hgrow) (fun hv => (HG6.out.2.1 _ hv).2 rfl); have q0 := hX.cell 0; have qf0 := hX.frozen 0; have q1 := hX.cell 1; have qf1 := hX.frozen 1; have q2 := hX.cell 2; have qf2 := hX.frozen 2; have q3 := hX.cell 3; have qf3 := hX.frozen 3; simp at q0 q1 q2 q3)
       go_roundg l6.length
       case measure => omega
       case rel =>
        have hA : Pure wA (wA.alloc (.cells #[.int .i64 k6, .slice A6 ws6.length c6, .int .i64 n6, .slice B6 xs6.length d6] 29)) := (Mod.refl _ _).alloc _
        have hgm := mod_grown hgrow
        have hst : Mod (· = b12) w5 (w5.setCell ⟨b12, 3, none⟩ (.slice (some ⟨g5, 0, none⟩) (qs.length + 1) cap5)) := mod_set (Mod.refl _ _) 3 _
        have hGA := HG6.out.pure hA
        have hRg := (HR6.out.pure hA).mod hgm (fun hv => by have := HOB.out _ hv; obtain ⟨cs, hc⟩ := HR6.out.blk; obtain ⟨arr, ha⟩ := own_heap HG6.out.1 hv; unfold Blk at hc; rw [hc] at ha; injection ha with ha; injection ha with _ ha; exact absurd ha (by decide)) (own_str hGA.1)
        have hno : ∀ k, (Value.slice A qs.length c).ownBlock = some k → k ≠ b2 ∧ k ≠ b12 := HG6.out.2.1
        have hsA : (wA.alloc (.cells #[.int .i64 k6, .slice A6 ws6.length c6, .int .i64 n6, .slice B6 xs6.length d6] 29)).heap.size = wA.heap.size + 1 := by simp
        refine ⟨some ⟨g5, 0, none⟩, cap5, f2, qs ++ [.mk k6 A6 c6 ws6 n6 B6 d6 xs6], l6, rfl, by omega, by omega, by rw [List.map_append]; exact HPR.out, by simp, by simp; omega, ?_, RdrS.box hRg hX hst (by omega), ?_, ?_, ?_, ?_⟩
        ·exact hGA.snoc (HQA.out.pure hA) (HQF.out.up (by omega)) (QN.old HQF.out (fun k hk => by omega)) (QN.old HQF.out (fun k hk => by omega)) (QN.old HQF.out (fun k hk => HOB.out k hk)) hown5 hgm (by rcases hat with h | h; exact .inl h; exact .inr (by omega)) (by omega) (by omega) hX hst
        ·exact ((HB86.out.alloc _).mod hgm (fun hv => (hno _ hv).1 rfl)).mod hst (by omega)
        ·have h := hX.set 3 (.slice (some ⟨g5, 0, none⟩) (qs.length + 1) cap5)
         simpa using h
        ·refine ((HX6.out.alloc _).mod hgm (fun hv => ?_)).mod hst (by omega)
         obtain ⟨arr, ha⟩ := own_heap HG6.out.1 hv
         have hc := HX6.out
         unfold Blk at hc
         rw [hc] at ha
         injection ha with ha
         injection ha with _ ha
         exact absurd ha (by decide)
        ·exact ((HM6.out.transp hA).trans' hgm (fun i hi hlt => by have := own_block HG6.out.1 i hi; omega)).trans' hst (fun i hi hlt => by omega)
     ·have HI : Hid (r = .inr (.mk 7 [] 0 (qs.map QR.key), t9 :: l9)) := Lib.hid (by
       have h := HPS.out
       unfold pSevL at h
       rw [if_neg (show ¬ kdL (t9 :: l9) = 5 from hkb)] at h
       exact h.symm)
      have hkbi : (t9.kind == 5) = false := by rw [← Bool.not_eq_true, beq_iff_eq]; exact hkb
      obtain ⟨hG1, hG2, hG3⟩ := HG.out
      have HG1 := Lib.hid hG1
      have HG2 := Lib.hid hG2
      have HG3 := Lib.hid hG3
      clear hkb HPS hG1 hG2 hG3
      go_wp2_with fail
      have h4F := st4_blk HB8.out (a := .int .i64 7) (b := .slice none 0 0) (c := .int .i64 0) (d := .slice A qs.length c)
      have z0 := h4F.cell 0; have z1 := h4F.cell 1; have z2 := h4F.cell 2; have z3 := h4F.cell 3; simp at z0 z1 z2 z3
      try simp only [Exit.inBlock, Exit.then]
      refine bodyPost_ret (v := .tuple #[.agg #[.int .i64 7, .slice none 0 0, .int .i64 0, .slice A qs.length c], .bool true]) (by simp [results, Tryz.results185, go_sem, z0, z1, z2, z3]) rfl ?_
      refine pr_ret (ws := []) (A := none) HM.out HR.out HB8.out (by omega) (by omega) (fun h => by cases h) (fun _ => ⟨by rw [QR.key_mk]; exact HI.out, .mk Sl.nil_ (Sl.of_own HG1.out) (fun a ha => (HG3.out a ha).1), .mk ?_ (fun a ha => (HG3.out a ha).2.1), .mk ?_ (fun a ha => (HG3.out a ha).2.2.2.2)⟩)
      ·intro _ g3 off he hb
       rw [he] at HG2
       exact (HG2.out g3 rfl).1 hb
      ·intro _
       rcases HG1.out.2 with ⟨h1, h2⟩ | ⟨g3, cap, cur, h1, h2, _⟩
       ·exact absurd (List.eq_nil_of_length_eq_zero h2) hne
       ·injection h1 with h1 _ _
        exact ⟨g3, 0, h1, h2⟩
  ·have HI : Hid (r = .inr ((QR.mk k2 A2 c2 ws2 n2 B2 d2 xs2).key, t5 :: l5)) := Lib.hid (by
    rw [HQ1.out]
    exact if_neg (show ¬ kdL (t5 :: l5) = 5 from hkb))
   have hkbi : (t5.kind == 5) = false := by rw [← Bool.not_eq_true, beq_iff_eq]; exact hkb
   clear hkb
   go_wp2_with fail
   have h4F := st4_blk HB5.out (a := .int .i64 k2) (b := .slice A2 ws2.length c2) (c := .int .i64 n2) (d := .slice B2 xs2.length d2)
   have z0 := h4F.cell 0; have z1 := h4F.cell 1; have z2 := h4F.cell 2; have z3 := h4F.cell 3; simp at z0 z1 z2 z3
   try simp only [Exit.inBlock, Exit.then]
   refine bodyPost_ret (v := .tuple #[.agg #[.int .i64 k2, .slice A2 ws2.length c2, .int .i64 n2, .slice B2 xs2.length d2], .bool true]) (by simp [results, Tryz.results185, go_sem, z0, z1, z2, z3]) rfl ?_
   exact pr_ret HM5.out HR5.out HB5.out (by omega) (by omega) (fun h => by cases h) (fun _ => ⟨HI.out, HQ2.out, HQ8.out, HQ3.out.up (by omega)⟩)
end Go.Proofs.YtnfflgicngeekaaGreatDoor

/- Searches that are copied; a part of a search in memory is put anew. -/
namespace Go.Proofs.YtnfflgicngeekaaGreatDoor
set_option linter.unusedVariables false
set_option linter.unusedSimpArgs false
open Go.RowKit

def aB : Option Addr → List Nat
 | none => []
 | some a => [a.block]
/-- The blocks of a search's rows. -/
def qBl : QR → List Nat
 | .mk _ A _ _ _ B _ xs => aB A ++ aB B ++ (xs.map qBl).flatten
theorem qBl_mk {k n : Int} {A B : Option Addr} {c d : Nat} {ws : List Str} {xs : List QR} {i : Nat} : i ∈ qBl (.mk k A c ws n B d xs) ↔ i ∈ aB A ∨ i ∈ aB B ∨ ∃ a ∈ xs, i ∈ qBl a := by
 rw [qBl]
 simp only [List.mem_append, List.mem_flatten, List.mem_map, or_assoc]
 constructor
 ·rintro (h | h | ⟨l, ⟨a, ha, rfl⟩, h⟩)
  ·exact .inl h
  ·exact .inr (.inl h)
  ·exact .inr (.inr ⟨a, ha, h⟩)
 ·rintro (h | h | ⟨a, ha, h⟩)
  ·exact .inl h
  ·exact .inr (.inl h)
  ·exact .inr (.inr ⟨_, ⟨a, ha, rfl⟩, h⟩)
/-- No two rows of the search lie in one block. -/
inductive QD : QR → Prop
 | mk {k n : Int} {A B : Option Addr} {c d : Nat} {ws : List Str} {xs : List QR} (hAB : ∀ i ∈ aB A, i ∉ aB B) (hAx : ∀ i ∈ aB A, ∀ a ∈ xs, i ∉ qBl a) (hBx : ∀ i ∈ aB B, ∀ a ∈ xs, i ∉ qBl a) (hxx : ∀ (i j : Nat) (hi : i < xs.length) (hj : j < xs.length), i ≠ j → ∀ m ∈ qBl xs[i], m ∉ qBl xs[j]) (hs : ∀ a ∈ xs, QD a) : QD (.mk k A c ws n B d xs)
/-- All rows are the search's own, from base on. -/
inductive QC (base : Nat) (w : World) : QR → Prop
 | mk {k n : Int} {A B : Option Addr} {c d : Nat} {ws : List Str} {xs : List QR} (hA : w.ownsRow base 9 1 (.slice A ws.length c) ws.length (strsV ws)) (hB : w.ownsRow base 29 4 (.slice B xs.length d) xs.length (qV xs)) (hs : ∀ a ∈ xs, QC base w a) : QC base w (.mk k A c ws n B d xs)
theorem own_up {w : World} {b1 b2 : Nat} {e : TypeId} {size n : Nat} {v : Value} {xs : List Value} (h : w.ownsRow b2 e size v n xs) (hb : b1 ≤ b2) : w.ownsRow b1 e size v n xs :=
 ⟨h.1, h.2.imp id (fun ⟨g, cap, cur, e1, e2, e3⟩ => ⟨g, cap, cur, e1, Nat.le_trans hb e2, e3⟩)⟩
theorem own_aB {w : World} {base : Nat} {e : TypeId} {size n m c : Nat} {A : Option Addr} {xs : List Value} (h : w.ownsRow base e size (.slice A m c) n xs) {i : Nat} (hi : i ∈ aB A) : base ≤ i ∧ i < w.heap.size ∧ ∃ cur, w.heap[i]? = some (.cells cur e (0, 0)) := by
 rcases h.2 with ⟨h1, _⟩ | ⟨g, cap, cur, h1, h2, h3, _⟩
 ·injection h1 with h1 _ _
  subst h1
  cases hi
 ·injection h1 with h1 _ _
  subst h1
  have : i = g := by simpa [aB] using hi
  subst this
  exact ⟨h2, lt_of_heap h3, cur, h3⟩
theorem own_modB {w w' : World} {S : Nat → Prop} {base : Nat} {e : TypeId} {size n m c : Nat} {A : Option Addr} {xs : List Value} (h : w.ownsRow base e size (.slice A m c) n xs) (hm : Mod S w w') (hs : ∀ i ∈ aB A, ¬ S i) : w'.ownsRow base e size (.slice A m c) n xs :=
 own_mod h hm (fun g hg => by
  cases A with
  | none => cases hg
  | some a => exact hs g (by
    have : some a.block = some g := hg
    injection this with this
    subst this
    exact List.mem_singleton.2 rfl))
theorem QC.up {b1 b2 : Nat} {w : World} {q : QR} (h : QC b2 w q) (hb : b1 ≤ b2) : QC b1 w q := by
 induction h with
 | mk hA hB hs ih => exact .mk (own_up hA hb) (own_up hB hb) ih
theorem QC.qs {base : Nat} {w : World} {q : QR} (h : QC base w q) : QS w q := by
 induction h with
 | mk hA hB hs ih => exact .mk (Sl.of_own hA) (Sl.of_own hB) ih
theorem QC.fr {base : Nat} {w : World} {q : QR} (h : QC base w q) : QFr base q := by
 induction h with
 | mk hA hB hs ih =>
  rename_i xs
  refine .mk (fun hx => ?_) ih
  rcases hB.2 with ⟨_, h2⟩ | ⟨g, cap, cur, h1, h2, _⟩
  ·exact absurd (List.eq_nil_of_length_eq_zero h2) hx
  ·injection h1 with h1 _ _
   exact ⟨g, 0, h1, h2⟩
theorem QC.z {base : Nat} {w : World} {q : QR} (h : QC base w q) : QZ q := by
 induction h with
 | mk hA hB hs ih =>
  rename_i xs
  refine .mk (fun g off sp hx => ?_) ih
  rcases hB.2 with ⟨h1, _⟩ | ⟨g, cap, cur, h1, h2, _⟩
  ·injection h1 with h1 _ _
   rw [h1] at hx
   cases hx
  ·injection h1 with h1 _ _
   rw [h1] at hx
   injection hx with hx
   injection hx with _ _ hx
   exact hx.symm
theorem QC.ge {base : Nat} {w : World} {q : QR} (h : QC base w q) : ∀ i ∈ qBl q, base ≤ i ∧ i < w.heap.size := by
 induction h with
 | mk hA hB hs ih =>
  intro i hi
  rcases qBl_mk.1 hi with h | h | ⟨a, ha, h⟩
  ·exact ⟨(own_aB hA h).1, (own_aB hA h).2.1⟩
  ·exact ⟨(own_aB hB h).1, (own_aB hB h).2.1⟩
  ·exact ih a ha i h
theorem QC.mod {base : Nat} {w w' : World} {S : Nat → Prop} {q : QR} (h : QC base w q) (hm : Mod S w w') (hs : ∀ i ∈ qBl q, ¬ S i) : QC base w' q := by
 induction h with
 | mk hA hB hs' ih =>
  exact .mk (own_modB hA hm (fun i hi => hs i (qBl_mk.2 (.inl hi)))) (own_modB hB hm (fun i hi => hs i (qBl_mk.2 (.inr (.inl hi))))) (fun a ha => ih a ha (fun i hi => hs i (qBl_mk.2 (.inr (.inr ⟨a, ha, hi⟩)))))
theorem Sl.modB {w w' : World} {S : Nat → Prop} {e : TypeId} {size n c : Nat} {A : Option Addr} {xs : List Value} (h : Sl w e size (.slice A n c) xs) (hm : Mod S w w') (hs : ∀ i ∈ aB A, ¬ S i) : Sl w' e size (.slice A n c) xs := by
 obtain ⟨A', n', c', he, h1, h2, h3, h4⟩ := h
 injection he with e1 e2 e3
 subst e1 e2 e3
 refine ⟨_, _, _, rfl, h1, h2, h3, fun hn => ?_⟩
 obtain ⟨g, off, hA, hr⟩ := h4 hn
 subst hA
 exact ⟨g, off, rfl, hr.mod hm (hs g (List.mem_singleton.2 rfl))⟩
theorem QS.modBl {w w' : World} {S : Nat → Prop} {q : QR} (h : QS w q) (hm : Mod S w w') (hs : ∀ i ∈ qBl q, ¬ S i) : QS w' q := by
 induction h with
 | mk hA hB hs' ih =>
  exact .mk (hA.modB hm (fun i hi => hs i (qBl_mk.2 (.inl hi)))) (hB.modB hm (fun i hi => hs i (qBl_mk.2 (.inr (.inl hi))))) (fun a ha => ih a ha (fun i hi => hs i (qBl_mk.2 (.inr (.inr ⟨a, ha, hi⟩)))))
theorem QB.mono {M M' : Nat} {q : Qry} (h : QB M q) (hM : M ≤ M') : QB M' q := by
 induction h with
 | mk h1 h2 h3 h4 h5 h6 h7 _ ih => exact .mk h1 h2 h3 h4 (by omega) (fun x hx => Nat.le_trans (h6 x hx) hM) (by omega) ih

/-- The four cells of a search at a place of a block. -/
def CellsAt (arr : Array Value) (o : Nat) (q : QR) : Prop := ∀ j u, (qC q)[j]? = some u → arr[o + j]? = some u
/-- A search that lies in memory, with its bounds. -/
structure QOk (w : World) (base M : Nat) (q : QR) : Prop where
 qs : QS w q
 fr : QFr base q
 z : QZ q
 b : QB M q.key
/-- Whatever search is put into four cells (block g, from o on), where all blocks of R are kept, and the other cells of block g: the whole search, in block r, is a search again. -/
def Hole (r base M T : Nat) (w : World) (g o : Nat) (arr : Array Value) (R : Nat → Prop) : Prop :=
 ∀ (w' : World) (arr' : Array Value) (q' : QR), Mod (fun k => ¬ R k) w w' → Blk w' g 29 arr' → arr'.size = arr.size → CellsAt arr' o q' → (∀ i u, (i < o ∨ o + 4 ≤ i) → arr[i]? = some u → arr'[i]? = some u) → QOk w' base M q' →
  ∃ q2, QOk w' base M q2 ∧ qSize q2.key ≤ T + qSize q'.key ∧ Blk w' r 29 (qC q2).toArray
theorem cellsAt_all {arr : Array Value} {q : QR} (h : CellsAt arr 0 q) (hs : arr.size = 4) : arr = (qC q).toArray := by
 have hl := qC_len q
 apply Array.ext
 ·simp [hs, hl]
 ·intro i h1 h2
  have h3 : i < (qC q).length := by simpa using h2
  have := h i ((qC q)[i]) (List.getElem?_eq_getElem h3)
  rw [Nat.zero_add, Array.getElem?_eq_getElem h1] at this
  exact (Option.some.inj this).trans (by simp)
theorem hole_root {r base M : Nat} {w : World} {q : QR} : Hole r base M 0 w r 0 (qC q).toArray (fun _ => False) := by
 intro w' arr' q' hm hB hs hc _ hq
 have hs4 : arr'.size = 4 := by rw [hs]; simp [qC_len]
 rw [cellsAt_all hc hs4] at hB
 exact ⟨q', hq, by omega, hB⟩
theorem Hole.mod {r base M T : Nat} {w w1 : World} {g o : Nat} {arr : Array Value} {R : Nat → Prop} {S : Nat → Prop} (h : Hole r base M T w g o arr R) (hm : Mod S w w1) (hS : ∀ k, S k → ¬ R k) : Hole r base M T w1 g o arr R := by
 intro w' arr' q' hm' hB hs hc ho hq
 exact h w' arr' q' ((hm.mono hS).trans hm') hB hs hc ho hq

/-- The state of the way down: four cells with a search of own rows. -/
def SpI (r lo base M Z : Nat) (w : World) (g o : Nat) (q : QR) : Prop :=
 ∃ (arr : Array Value) (R : Nat → Prop) (T : Nat), Blk w g 29 arr ∧ o + 4 ≤ arr.size ∧ CellsAt arr o q ∧ Hole r base (M + 1) T w g o arr R ∧ ¬ R g ∧ (∀ k ∈ qBl q, ¬ R k ∧ k ≠ g) ∧ (∀ k, R k → lo ≤ k) ∧ (∀ k, R k → k < w.heap.size) ∧ (lo ≤ g ∧ lo ≤ base) ∧ QC base w q ∧ QD q ∧ QB M q.key ∧ T + qSize q.key ≤ Z
theorem spI_root {r lo base M Z : Nat} {w : World} {q : QR} (hB : Blk w r 29 (qC q).toArray) (hr : lo ≤ r) (hlb : lo ≤ base) (hq : QC base w q) (hrq : r ∉ qBl q) (hd : QD q) (hM : QB M q.key) (hZ : qSize q.key ≤ Z) : SpI r lo base M Z w r 0 q :=
 ⟨_, fun _ => False, 0, hB, by simp [qC_len], fun j u h => by simpa using h, hole_root, id, fun k hk => ⟨id, fun e => hrq (e ▸ hk)⟩, fun _ h => h.elim, fun _ h => h.elim, ⟨hr, hlb⟩, hq, hd, hM, by omega⟩
theorem SpI.mod {r lo base M Z : Nat} {w w1 : World} {g o : Nat} {q : QR} {S : Nat → Prop} (h : SpI r lo base M Z w g o q) (hm : Mod S w w1) (hS : ∀ k, S k → k < lo) : SpI r lo base M Z w1 g o q := by
 obtain ⟨arr, R, T, h1, h2, h3, h4, h5, h6, h7, h7', h8, h9, h10, h11, h12⟩ := h
 exact ⟨arr, R, T, h1.mod hm (fun h => by have := hS _ h; have := h8.1; omega), h2, h3, h4.mod hm (fun k hk hr => by have := hS _ hk; have := h7 _ hr; omega), h5, h6, h7, fun k hk => Nat.lt_of_lt_of_le (h7' k hk) hm.size, h8, h9.mod hm (fun k hk hs => by have := hS _ hs; have := (h9.ge k hk).1; have := h8.2; omega), h10, h11, h12⟩
theorem qsize_mem {xs : List Qry} {i : Nat} (hi : i < xs.length) (y : Qry) : ((xs.set i y).map qSize).sum + qSize xs[i] = (xs.map qSize).sum + qSize y := by
 induction xs generalizing i with
 | nil => simp at hi
 | cons x t ih =>
  cases i with
  | zero => simp; omega
  | succ i =>
   have := ih (i := i) (by simpa using hi)
   simp only [List.set_cons_succ, List.map_cons, List.sum_cons, List.getElem_cons_succ]
   omega
theorem cells_row {cur : Array Value} {xs : List QR} (h : cur.toList.take (xs.length * 4) = qV xs) {i : Nat} (hi : i < xs.length) : CellsAt cur (i * 4) xs[i] := by
 intro j u hu
 have hj : j < 4 := by
  have := (List.getElem?_eq_some_iff.1 hu).1
  rw [qC_len] at this
  exact this
 have e := qV_get xs i hi j hj
 rw [hu, ← h, List.getElem?_take_of_lt (by omega)] at e
 simpa using e
theorem qV_set {xs : List QR} {i : Nat} (hi : i < xs.length) (q : QR) {m : Nat} {u : Value} (h : (qV (xs.set i q))[m]? = some u) : (i * 4 ≤ m ∧ m < i * 4 + 4 ∧ (qC q)[m - i * 4]? = some u) ∨ ((m < i * 4 ∨ i * 4 + 4 ≤ m) ∧ (qV xs)[m]? = some u) := by
 have hm : m < xs.length * 4 := by
  have := (List.getElem?_eq_some_iff.1 h).1
  rwa [qV_len, List.length_set] at this
 have hj : m / 4 < xs.length := by omega
 have hmm : m / 4 * 4 + m % 4 = m := by omega
 have hj' : m / 4 < (xs.set i q).length := by simpa using hj
 have e := qV_get (xs.set i q) (m / 4) hj' (m % 4) (by omega)
 rw [hmm, h] at e
 have e2 := qV_get xs (m / 4) hj (m % 4) (by omega)
 rw [hmm] at e2
 by_cases hij : i = m / 4
 ·left
  refine ⟨by omega, by omega, ?_⟩
  have e3 : (xs.set i q)[m / 4] = q := by
   rw [List.getElem_set]
   simp [hij]
  rw [e3] at e
  rw [e]
  congr 1
  omega
 ·right
  refine ⟨by omega, ?_⟩
  have e3 : (xs.set i q)[m / 4] = xs[m / 4] := by
   rw [List.getElem_set]
   simp [hij]
  rw [e3] at e
  rw [e2, ← e]
theorem map_set_key (xs : List QR) (i : Nat) (q : QR) : (xs.set i q).map QR.key = (xs.map QR.key).set i q.key := by
 rw [List.map_set]
theorem mem_set {xs : List QR} {i : Nat} {q a : QR} (h : a ∈ xs.set i q) : a = q ∨ ∃ (j : Nat) (hj : j < xs.length), j ≠ i ∧ xs[j] = a := by
 obtain ⟨j, hj, rfl⟩ := List.mem_iff_getElem.1 h
 have hj' : j < xs.length := by simpa using hj
 rw [List.getElem_set]
 split
 ·exact .inl rfl
 ·exact .inr ⟨j, hj', by omega, rfl⟩
theorem SpI.down {r lo base M Z : Nat} {w : World} {g o : Nat} {k n : Int} {A B : Option Addr} {c d : Nat} {ws : List Str} {xs : List QR} (h : SpI r lo base M Z w g o (.mk k A c ws n B d xs)) (i : Nat) (hi : i < xs.length) : ∃ gB, B = some ⟨gB, 0, none⟩ ∧ SpI r lo base M Z w gB (i * 4) xs[i] := by
 obtain ⟨arr, R, T, hB, ho, hc, hH, hgR, hq, hRb, hRl, hgb, hQC, hQD, hM, hZ⟩ := h
 have hge := hQC.ge
 cases hQC with
 | mk hA hBo hs =>
 cases hQD with
 | mk hAB hAx hBx hxx hds =>
 have hBo' := hBo
 rcases hBo.2 with ⟨_, h0⟩ | ⟨gB, cap, cur, e1, e2, e3, e4, e5, e6, e7⟩
 ·omega
 injection e1 with e1 _ e1c
 subst e1 e1c
 have hgB : gB ∈ aB (some ⟨gB, 0, none⟩) := by simp [aB]
 have hmi : xs[i] ∈ xs := List.getElem_mem hi
 have hgBq : gB ∈ qBl (.mk k A c ws n (some ⟨gB, 0, none⟩) d xs) := qBl_mk.2 (.inr (.inl hgB))
 rw [QR.key_mk] at hM
 have hlk : i < (xs.map QR.key).length := by simpa using hi
 have hsz : ∀ y : QR, qSize (QR.mk k A c ws n (some ⟨gB, 0, none⟩) d (xs.set i y)).key + qSize xs[i].key = qSize (QR.mk k A c ws n (some ⟨gB, 0, none⟩) d xs).key + qSize y.key := fun y => by
  have e := qsize_mem hlk y.key
  rw [QR.key_mk, QR.key_mk, qSize, qSize, map_set_key]
  simp only [List.getElem_map] at e
  omega
 have hle : qSize xs[i].key ≤ qSize (QR.mk k A c ws n (some ⟨gB, 0, none⟩) d xs).key := by
  have e := hsz (.mk 0 none 0 [] 0 none 0 [])
  rw [QR.key_mk] at e
  rw [QR.key_mk, QR.key_mk] at e
  have : qSize (Qry.mk 0 [] 0 (([] : List QR).map QR.key)) = 1 := by simp [qSize]
  rw [this] at e
  have h1 : 1 ≤ qSize (Qry.mk k ws n ((xs.set i (.mk 0 none 0 [] 0 none 0 [])).map QR.key)) := by rw [qSize]; omega
  rw [QR.key_mk]
  omega
 obtain ⟨hgb, hlb⟩ := hgb
 refine ⟨gB, rfl, cur, fun m => m = g ∨ R m ∨ (m ∈ qBl (.mk k A c ws n (some ⟨gB, 0, none⟩) d xs) ∧ m ≠ gB ∧ m ∉ qBl xs[i]), T + (qSize (QR.mk k A c ws n (some ⟨gB, 0, none⟩) d xs).key - qSize xs[i].key), e3, by omega, cells_row e7 hi, ?_, ?_, ?_, ?_, ?_, ⟨by omega, hlb⟩, hs _ hmi, hds _ hmi, QB.allH hM _ (List.mem_map.2 ⟨_, hmi, rfl⟩), by omega⟩
 ·intro w' arr' q' hm hB' hs' hc' ho' hq'
  have hBg : Blk w' g 29 arr := hB.mod hm (fun h => h (.inl rfl))
  have hok' : QOk w' base (M + 1) (.mk k A c ws n (some ⟨gB, 0, none⟩) d (xs.set i q')) := by
   refine ⟨?_, ?_, ?_, ?_⟩
   ·refine .mk ((Sl.of_own hA).modB hm (fun m hm' h => h (.inr (.inr ⟨qBl_mk.2 (.inl hm'), fun e => hAB m hm' (e ▸ hgB), hAx m hm' _ hmi⟩)))) ?_ (fun a ha => ?_)
    ·refine ⟨_, _, _, rfl, by simpa using e4, by unfold maxLen at e5; omega, by rw [qV_len], fun _ => ⟨gB, 0, rfl, arr', (0, 0), hB', fun m u hu => ?_⟩⟩
     rw [Nat.zero_add]
     rcases qV_set hi q' hu with ⟨h1, h2, h3⟩ | ⟨h1, h2⟩
     ·have := hc' _ _ h3
      rwa [show i * 4 + (m - i * 4) = m by omega] at this
     ·refine ho' m u h1 ?_
      rw [← e7] at h2
      have hml := (List.getElem?_eq_some_iff.1 h2).1
      rw [List.length_take] at hml
      rw [List.getElem?_take_of_lt (by omega)] at h2
      simpa using h2
    ·rcases mem_set ha with rfl | ⟨j, hj, hji, rfl⟩
     ·exact hq'.qs
     ·exact (hs _ (List.getElem_mem hj)).qs.modBl hm (fun m hm' h => h (.inr (.inr ⟨qBl_mk.2 (.inr (.inr ⟨_, List.getElem_mem hj, hm'⟩)), fun e => hBx gB hgB _ (List.getElem_mem hj) (e ▸ hm'), hxx j i hj hi hji m hm'⟩)))
   ·refine .mk (fun _ => ⟨gB, 0, rfl, e2⟩) (fun a ha => ?_)
    rcases mem_set ha with rfl | ⟨j, hj, hji, rfl⟩
    ·exact hq'.fr
    ·exact (hs _ (List.getElem_mem hj)).fr
   ·refine .mk (fun g' off sp hx => ?_) (fun a ha => ?_)
    ·injection hx with hx
     injection hx with _ _ hx
     exact hx.symm
    ·rcases mem_set ha with rfl | ⟨j, hj, hji, rfl⟩
     ·exact hq'.z
     ·exact (hs _ (List.getElem_mem hj)).z
   ·rw [QR.key_mk]
    refine .mk hM.knH.1 hM.knH.2.1 hM.knH.2.2.1 hM.knH.2.2.2 (by have := hM.wsH.1; omega) (fun x hx => by have := hM.wsH.2 x hx; omega) (by have := hM.xsH; simpa using Nat.le_succ_of_le this) (fun a ha => ?_)
    obtain ⟨y, hy, rfl⟩ := List.mem_map.1 ha
    rcases mem_set hy with rfl | ⟨j, hj, hji, rfl⟩
    ·exact hq'.b
    ·exact (hM.allH _ (List.mem_map.2 ⟨_, List.getElem_mem hj, rfl⟩)).mono (by omega)
  obtain ⟨q3, hok, hsz3, hblk⟩ := hH w' arr (.mk k A c ws n (some ⟨gB, 0, none⟩) d (xs.set i q')) (hm.mono (fun k hk hr => hk (.inr (.inl hr)))) hBg rfl (fun j u hu => hc j u (by simpa [qC] using hu)) (fun i u _ h => h) hok'
  exact ⟨q3, hok, by have := hsz q'; omega, hblk⟩
 ·rintro (h | h | ⟨_, h, _⟩)
  ·exact (hq gB hgBq).2 h
  ·exact (hq gB hgBq).1 h
  ·exact h rfl
 ·intro m hm
  have hmq : m ∈ qBl (.mk k A c ws n (some ⟨gB, 0, none⟩) d xs) := qBl_mk.2 (.inr (.inr ⟨_, hmi, hm⟩))
  refine ⟨?_, fun e => hBx gB hgB _ hmi (e ▸ hm)⟩
  rintro (h | h | ⟨_, _, h⟩)
  ·exact (hq m hmq).2 h
  ·exact (hq m hmq).1 h
  ·exact h hm
 ·rintro m (h | h | ⟨h, _⟩)
  ·omega
  ·exact hRb m h
  ·exact Nat.le_trans hlb (hge m h).1
 ·rintro m (h | h | ⟨h, _⟩)
  ·rw [h]; exact hB.lt
  ·exact hRl m h
  ·exact (hge m h).2
theorem SpI.cells {r lo base M Z : Nat} {w : World} {g o : Nat} {q : QR} (h : SpI r lo base M Z w g o q) {j : Nat} {u : Value} (hj : (qC q)[j]? = some u) : w.cell? ⟨g, o + j, none⟩ = some u ∧ w.frozen? ⟨g, o + j, none⟩ = false := by
 obtain ⟨arr, R, T, hB, ho, hc, _⟩ := h
 exact ⟨by rw [hB.cell]; exact hc j u hj, hB.frozen _⟩
/-- The end of the way: the cells are filled anew. -/
theorem SpI.fin {r lo base M Z e : Nat} {w w' : World} {g o : Nat} {q q' : QR} {S : Nat → Prop} {arr' : Array Value} (h : SpI r lo base M Z w g o q) (hm : Mod S w w') (hS : ∀ k, S k → k = g ∨ k ∈ qBl q ∨ k < lo)
  (hB' : ∀ arr, Blk w g 29 arr → arr'.size = arr.size ∧ (∀ i u, (i < o ∨ o + 4 ≤ i) → arr[i]? = some u → arr'[i]? = some u)) (hB2 : Blk w' g 29 arr') (hc : CellsAt arr' o q') (hok : QOk w' base (M + 1) q') (hz : qSize q'.key ≤ qSize q.key + e) : ∃ q2, QOk w' base (M + 1) q2 ∧ qSize q2.key ≤ Z + e ∧ Blk w' r 29 (qC q2).toArray := by
 obtain ⟨arr, R, T, hB, ho, hc0, hH, hgR, hq, hRb, hRl, hgb, hQC, hQD, hM, hZ⟩ := h
 obtain ⟨h1, h2⟩ := hB' arr hB
 obtain ⟨q2, h3, h4, h5⟩ := hH w' arr' q' (hm.mono (fun k hk hr => by
  rcases hS k hk with rfl | h | h
  ·exact hgR hr
  ·exact (hq k h).1 hr
  ·have := hRb k hr; omega)) hB2 h1 hc h2 hok
 exact ⟨q2, h3, by omega, h5⟩
theorem SpI.blk {r lo base M Z : Nat} {w : World} {g o : Nat} {q : QR} (h : SpI r lo base M Z w g o q) : ∃ arr, Blk w g 29 arr ∧ o + 4 ≤ arr.size ∧ CellsAt arr o q ∧ lo ≤ g ∧ g ∉ qBl q ∧ QC base w q ∧ QD q ∧ QB M q.key := by
 obtain ⟨arr, R, T, hB, ho, hc0, hH, hgR, hq, hRb, hRl, hgb, hQC, hQD, hM, hZ⟩ := h
 exact ⟨arr, hB, ho, hc0, hgb.1, fun h => (hq g h).2 rfl, hQC, hQD, hM⟩

end Go.Proofs.YtnfflgicngeekaaGreatDoor

/- slices.Clone of searches. -/
namespace Go.Proofs.YtnfflgicngeekaaGreatDoor
set_option linter.unusedVariables false
set_option linter.unusedSimpArgs false
open Go.RowKit Go.Sort Go.Shelf
def ClnQq (w : World) (l : List QR) (e : Ending) (w' : World) : Prop := ∃ v, e = .returned v ∧ w'.ownsRow w.heap.size 29 4 v l.length (qV l) ∧ Pure w w'
theorem qV_oneQ (l : List QR) : ∀ u ∈ qV l, u.oneCell' = true := by
 intro u hu
 obtain ⟨x, _, hx⟩ := List.mem_flatMap.1 hu
 obtain ⟨k, A, c, ws, n, B, d, xs⟩ := x
 simp only [qC, List.mem_cons, List.not_mem_nil, or_false] at hx
 rcases hx with rfl | rfl | rfl | rfl <;> rfl
theorem own_formQ {w : World} {base size n : Nat} {e : TypeId} {v : Value} {xs : List Value} (h : w.ownsRow base e size v n xs) : ∃ A c, v = .slice A n c := by
 rcases h.2 with ⟨h1, h2⟩ | ⟨g, cap, cur, h1, _⟩
 ·exact ⟨none, 0, by rw [h1, h2]⟩
 ·exact ⟨_, _, h1⟩
set_option maxRecDepth 100000 in
theorem clnQ_calls (w : World) (A : Option Addr) (d : Nat) (l : List QR) (hv : Sl w 29 4 (.slice A l.length d) (qV l)) (hz : ∀ g off sp, A = some ⟨g, off, sp⟩ → sp = none) (hl : l.length ≤ 100000) : Calls Tryz.prog 171 #[.slice A l.length d] w (ClnQq w l) := by
 obtain ⟨i0, hi0, hz0, hz1, hz2⟩ := info_parts info_qry
 obtain ⟨_, _, _, hf, hc1, hc2, hl2, hr⟩ := hv
 cases hf
 cases A with
 | none =>
  have e : l = [] := by
   rcases Nat.eq_zero_or_pos l.length with h | h
   ·exact List.eq_nil_of_length_eq_zero h
   ·obtain ⟨_, _, h, _⟩ := hr h
    cases h
  subst e
  refine (AnyE.slices_Clone_nil Tryz.clnQry 0 d w).mono ?_
  rintro e w' ⟨rfl, rfl⟩
  exact ⟨_, rfl, World.ownsRow_nil _ _ _ _, Mod.refl _ _⟩
 | some a =>
  obtain ⟨g, off, sp⟩ := a
  obtain rfl := hz _ _ _ rfl
  refine (AnyE.slices_Clone Tryz.clnQry i0 (.agg #[.int .i64 0, .slice none 0 0, .int .i64 0, .slice none 0 0]) 4 64 hi0 hz0 hz1 hz2 rfl (by omega) Tryz.sizeOf29 g off l.length d (qV l) w (qV_len l) (by unfold maxLen; omega) (by omega) (fun j u hj => ?_) (qV_oneQ l)).mono ?_
  ·have : 0 < l.length := by
    rcases Nat.eq_zero_or_pos l.length with h | h
    ·rw [List.eq_nil_of_length_eq_zero h] at hj; simp [qV] at hj
    ·exact h
   obtain ⟨g2, o2, h2, hrow⟩ := hr this
   obtain ⟨rfl, rfl⟩ : g = g2 ∧ off = o2 := by
    have := Option.some.inj h2
    exact ⟨congrArg Addr.block this, congrArg Addr.off this⟩
   exact hrow.cell hj
  ·rintro e w' ⟨v', rfl, hown, _, hb⟩
   exact ⟨v', rfl, hown, Mod.of_below hb⟩

end Go.Proofs.YtnfflgicngeekaaGreatDoor

/- How large a search is: the reference. -/
namespace Go.Proofs.YtnfflgicngeekaaGreatDoor
set_option linter.unusedVariables false
set_option linter.unusedSimpArgs false
open Go.RowKit

theorem foldr_max_snoc (l : List Nat) (x : Nat) : (l ++ [x]).foldr max 0 = max (l.foldr max 0) x := by
 induction l with
 | nil => simp
 | cons a l ih =>
  show max a ((l ++ [x]).foldr max 0) = max (max a (l.foldr max 0)) x
  rw [ih, Nat.max_assoc]
def qTop (f : Qry → Nat) (ks : List Qry) (j : Nat) : Nat := ((ks.take j).map f).foldr max 0
theorem qTop_zero (f : Qry → Nat) (ks : List Qry) : qTop f ks 0 = 0 := by simp [qTop]
theorem qTop_succ (f : Qry → Nat) {ks : List Qry} {j : Nat} (h : j < ks.length) : qTop f ks (j + 1) = max (qTop f ks j) (f ks[j]) := by
 unfold qTop
 rw [List.take_succ_eq_append_getElem h, List.map_append, List.map_singleton, foldr_max_snoc]
theorem qTop_all (f : Qry → Nat) (ks : List Qry) : qTop f ks ks.length = (ks.map f).foldr max 0 := by simp [qTop]
theorem foldr_le_sum (l : List Nat) : l.foldr max 0 ≤ l.sum := by
 induction l with
 | nil => simp
 | cons a l ih => simp only [List.foldr_cons, List.sum_cons]; omega
theorem sum_le_map {l : List Qry} {f g : Qry → Nat} (h : ∀ q ∈ l, f q ≤ g q) : (l.map f).sum ≤ (l.map g).sum := by
 induction l with
 | nil => simp
 | cons a l ih =>
  have h1 := h a (by simp)
  have h2 := ih (fun q hq => h q (by simp [hq]))
  simp only [List.map_cons, List.sum_cons]
  omega
theorem qDeep_le : ∀ q : Qry, qDeep q ≤ qSize q := by
 refine Qry.ind (fun k ws n xs ih => ?_)
 rw [qDeep, qSize]
 have h1 := foldr_le_sum (xs.map qDeep)
 have h2 := sum_le_map ih
 omega
theorem qNear_le : ∀ q : Qry, qNear q ≤ qSize q := by
 refine Qry.ind (fun k ws n xs ih => ?_)
 rw [qNear, qSize]
 have h1 := foldr_le_sum (xs.map qNear)
 have h2 := sum_le_map ih
 split <;> omega
theorem qTop_le {f : Qry → Nat} (hf : ∀ q, f q ≤ qSize q) (ks : List Qry) (j : Nat) : qTop f ks j ≤ (ks.map qSize).sum := by
 have h1 := foldr_le_sum ((ks.take j).map f)
 have h2 : ((ks.take j).map f).sum ≤ ((ks.take j).map qSize).sum := sum_le_map (fun q _ => hf q)
 have h3 := qSum_le ks j
 unfold qSum at h3
 unfold qTop
 omega
def RszP (w : World) (q : Qry) (e : Ending) (w' : World) : Prop := e = .returned (.tuple #[.int .i64 (qSize q : Int), .int .i64 (qDeep q : Int)]) ∧ Pure w w'
set_option maxRecDepth 100000 in
set_option maxHeartbeats 8000000 in
theorem rsize_calls : ∀ (qr : QR) (w : World), QS w qr → qSize qr.key ≤ 1000000 → Calls Tryz.prog 104 #[qA qr] w (RszP w qr.key) := by
 refine QR.ind (fun k A c ws n B dd xs ih => ?_)
 intro w hQ hz
 have HIH := Lib.hid ih
 rw [QR.key_mk] at hz ⊢
 rw [qSize] at hz
 have HQ := Lib.hid hQ
 have HQX := Lib.hid hQ.xsH
 have hxl := sum_ge_length (l := xs.map QR.key)
 rw [List.length_map] at hxl
 have HFIN : Hid (1 + qSum (xs.map QR.key) xs.length = qSize (.mk k ws n (xs.map QR.key)) ∧ qTop qDeep (xs.map QR.key) xs.length + 1 = qDeep (.mk k ws n (xs.map QR.key))) := Lib.hid (by
  have h1 := qSum_all (xs.map QR.key)
  have h2 := qTop_all qDeep (xs.map QR.key)
  rw [List.length_map] at h1 h2
  rw [qSize, qDeep, h1, h2]
  exact ⟨rfl, by omega⟩)
 have hB0 := Blk.new w 29 #[.int .i64 k, .slice A ws.length c, .int .i64 n, .slice B xs.length dd]
 have HP0 := Lib.hid (pure_alloc w (.cells #[.int .i64 k, .slice A ws.length c, .int .i64 n, .slice B xs.length dd] 29))
 show Calls Tryz.prog 104 #[.agg #[.int .i64 k, .slice A ws.length c, .int .i64 n, .slice B xs.length dd]] w (RszP w _)
 obtain ⟨q0, hq0⟩ : ∃ q0, Qry.mk k ws n (xs.map QR.key) = q0 := ⟨_, rfl⟩
 rw [hq0] at HFIN ⊢
 clear hQ ih hq0
 go_enter Tryz.func104, Tryz.ntmps104
 go_upto_region 1 with (fail)
 generalize (w.alloc (.cells #[.int .i64 k, .slice A ws.length c, .int .i64 n, .slice B xs.length dd] 29)) = w1 at *
 generalize w.heap.size = g0 at *
 have x0 := hB0.cell 0; have x1 := hB0.cell 1; have x2 := hB0.cell 2; have x3 := hB0.cell 3; simp at x0 x1 x2 x3
 clear hB0
 go_wp2_with fail
 go_loopg [4, 5, 13] xs.length (fun gk m d i wr => ∃ j : Nat, xs.length - j = gk ∧ j ≤ xs.length ∧ i = .int .i64 (j : Int) ∧ m = .int .i64 ((1 + qSum (xs.map QR.key) j : Nat) : Int) ∧ d = .int .i64 (qTop qDeep (xs.map QR.key) j : Int) ∧ Pure w wr)
 case atStart => exact ⟨0, by omega, by omega, rfl, by rw [qSum_zero]; rfl, by rw [qTop_zero]; rfl, HP0.out⟩
 case round =>
  obtain ⟨j, rfl, hj, rfl, rfl, rfl, hm⟩ := hrel
  have HM : Hid (Pure w wr) := Lib.hid hm
  clear hm
  have hs0 := qSum_le (xs.map QR.key) j
  have ht0 := qTop_le qDeep_le (xs.map QR.key) j
  by_cases hlt : j < xs.length
  ·obtain ⟨k', A', c', ws', n', B', dd', xs', hq⟩ := QR.ex xs[j]
   have hxs := HQX.out.pure HM.out
   obtain ⟨g, off, hA, q0, q1, q2, q3⟩ := qcells hxs hlt hq
   obtain rfl := hA
   have hji : ((j : Nat) : Int) < (xs.length : Int) := by omega
   have HQJ : Hid (QS wr (.mk k' A' c' ws' n' B' dd' xs')) := Lib.hid (by rw [← hq]; exact (HQ.out.allH _ (List.getElem_mem hlt)).pure HM.out)
   have HMEM : Hid (QR.mk k' A' c' ws' n' B' dd' xs' ∈ xs) := Lib.hid (by rw [← hq]; exact List.getElem_mem hlt)
   have hjk : j < (xs.map QR.key).length := by rw [List.length_map]; exact hlt
   have hkey : (xs.map QR.key)[j] = (QR.mk k' A' c' ws' n' B' dd' xs').key := by rw [List.getElem_map, hq]
   have hsum := qSum_succ hjk
   have htop := qTop_succ qDeep hjk
   have hs1 := qSum_le (xs.map QR.key) (j + 1)
   rw [hkey] at hsum htop
   have HPA := Lib.hid (pure_alloc wr (.cells #[.int .i64 k', .slice A' ws'.length c', .int .i64 n', .slice B' xs'.length dd'] 29))
   have HC := Lib.hid (HIH.out _ HMEM.out _ (HQJ.out.pure HPA.out) (by omega))
   rw [show qA (QR.mk k' A' c' ws' n' B' dd' xs') = .agg #[.int .i64 k', .slice A' ws'.length c', .int .i64 n', .slice B' xs'.length dd'] from rfl] at HC
   have hdl := qDeep_le (QR.mk k' A' c' ws' n' B' dd' xs').key
   have HSUM := Lib.hid hsum
   have HTOP := Lib.hid htop
   unfold RszP at HC
   generalize qSize (QR.mk k' A' c' ws' n' B' dd' xs').key = sz at *
   generalize qDeep (QR.mk k' A' c' ws' n' B' dd' xs').key = dp at *
   generalize hS : qSum (xs.map QR.key) j = S at *
   generalize hT : qTop qDeep (xs.map QR.key) j = T at *
   have hszb : S + sz ≤ 999999 := by omega
   clear hsum htop hS hT hkey hxs hq HQJ HMEM HIH HFIN
   go_wp2_with fail
   refine HC.out.mono ?_
   rintro e w3 ⟨rfl, hm3⟩
   have HM3 : Hid (Pure w w3) := Lib.hid ((HM.out.trans HPA.out).trans hm3)
   clear hm3 HC HPA HM q0 q1 q2 q3
   go_wp2_with fail
   go_roundg (xs.length - (j + 1))
   case measure => omega
   case rel =>
    refine ⟨j + 1, rfl, by omega, by simp, ?_, ?_, HM3.out⟩
    ·rw [HSUM.out]; simp; omega
    ·rw [HTOP.out]; congr 1; omega
  ·obtain rfl : j = xs.length := by omega
   have hjj : ¬ ((xs.length : Nat) : Int) < (xs.length : Int) := by omega
   obtain ⟨e1, e2⟩ := HFIN.out
   have HR : Hid (∀ W, Pure w W → RszP w q0 (.returned (.tuple #[.int .i64 ((1 + qSum (xs.map QR.key) xs.length : Nat) : Int), .int .i64 ((qTop qDeep (xs.map QR.key) xs.length : Nat) + 1 : Int)])) W) := Lib.hid (fun W h => ⟨by rw [← e1, ← e2]; rfl, h⟩)
   clear HFIN HQ HQX HIH e1 e2
   generalize qSum (xs.map QR.key) xs.length = S at *
   generalize qTop qDeep (xs.map QR.key) xs.length = T at *
   go_wp2_with fail
   try simp only [Exit.inBlock, Exit.then]
   refine bodyPost_ret (v := .tuple #[.int .i64 ((1 + S : Nat) : Int), .int .i64 ((T : Int) + 1)]) (by simp [results, Tryz.results104, go_sem]) rfl ?_
   exact HR.out _ HM.out

set_option maxRecDepth 100000 in
set_option maxHeartbeats 8000000 in
theorem rnear_calls : ∀ (qr : QR) (w : World), QS w qr → qSize qr.key ≤ 1000000 → Calls Tryz.prog 105 #[qA qr] w (IntPost w (qNear qr.key : Int)) := by
 refine QR.ind (fun k A c ws n B dd xs ih => ?_)
 intro w hQ hz
 have HIH := Lib.hid ih
 rw [QR.key_mk] at hz ⊢
 rw [qSize] at hz
 have HQ := Lib.hid hQ
 have HQX := Lib.hid hQ.xsH
 have hxl := sum_ge_length (l := xs.map QR.key)
 rw [List.length_map] at hxl
 obtain ⟨nk, hnk⟩ : ∃ nk, nearK k = nk := ⟨_, rfl⟩
 have HKN : Hid ((decide (k = 4) || decide (k = 5)) = nk) := Lib.hid hnk
 have HFIN : Hid (qTop qNear (xs.map QR.key) xs.length + (if nk = true then 1 else 0) = qNear (.mk k ws n (xs.map QR.key))) := Lib.hid (by
  have h2 := qTop_all qNear (xs.map QR.key)
  rw [List.length_map] at h2
  rw [qNear, h2, hnk])
 have hB0 := Blk.new w 29 #[.int .i64 k, .slice A ws.length c, .int .i64 n, .slice B xs.length dd]
 have HP0 := Lib.hid (pure_alloc w (.cells #[.int .i64 k, .slice A ws.length c, .int .i64 n, .slice B xs.length dd] 29))
 show Calls Tryz.prog 105 #[.agg #[.int .i64 k, .slice A ws.length c, .int .i64 n, .slice B xs.length dd]] w (IntPost w _)
 obtain ⟨q0, hq0⟩ : ∃ q0, Qry.mk k ws n (xs.map QR.key) = q0 := ⟨_, rfl⟩
 rw [hq0] at HFIN ⊢
 clear hQ ih hq0 hnk
 go_enter Tryz.func105, Tryz.ntmps105
 go_upto_region 1 with (fail)
 generalize (w.alloc (.cells #[.int .i64 k, .slice A ws.length c, .int .i64 n, .slice B xs.length dd] 29)) = w1 at *
 generalize w.heap.size = g0 at *
 have HB := Lib.hid hB0
 have x0 := hB0.cell 0; have x1 := hB0.cell 1; have x2 := hB0.cell 2; have x3 := hB0.cell 3; simp at x0 x1 x2 x3
 clear hB0
 go_wp2_with fail
 go_loopg [3, 9] xs.length (fun gk d i wr => ∃ j : Nat, xs.length - j = gk ∧ j ≤ xs.length ∧ i = .int .i64 (j : Int) ∧ d = .int .i64 (qTop qNear (xs.map QR.key) j : Int) ∧ Pure w1 wr)
 case atStart => exact ⟨0, by omega, by omega, rfl, by rw [qTop_zero]; rfl, Mod.refl _ _⟩
 case round =>
  obtain ⟨j, rfl, hj, rfl, rfl, hm⟩ := hrel
  have HM : Hid (Pure w wr) := Lib.hid (HP0.out.trans hm)
  have HMR : Hid (Pure w1 wr) := Lib.hid hm
  clear hm
  have ht0 := qTop_le qNear_le (xs.map QR.key) j
  by_cases hlt : j < xs.length
  ·obtain ⟨k', A', c', ws', n', B', dd', xs', hq⟩ := QR.ex xs[j]
   have hxs := HQX.out.pure HM.out
   obtain ⟨g, off, hA, q0, q1, q2, q3⟩ := qcells hxs hlt hq
   obtain rfl := hA
   have hji : ((j : Nat) : Int) < (xs.length : Int) := by omega
   have HQJ : Hid (QS wr (.mk k' A' c' ws' n' B' dd' xs')) := Lib.hid (by rw [← hq]; exact (HQ.out.allH _ (List.getElem_mem hlt)).pure HM.out)
   have HMEM : Hid (QR.mk k' A' c' ws' n' B' dd' xs' ∈ xs) := Lib.hid (by rw [← hq]; exact List.getElem_mem hlt)
   have hjk : j < (xs.map QR.key).length := by rw [List.length_map]; exact hlt
   have hkey : (xs.map QR.key)[j] = (QR.mk k' A' c' ws' n' B' dd' xs').key := by rw [List.getElem_map, hq]
   have hsum := qSum_succ hjk
   have htop := qTop_succ qNear hjk
   have hs1 := qSum_le (xs.map QR.key) (j + 1)
   rw [hkey] at hsum htop
   have HPA := Lib.hid (pure_alloc wr (.cells #[.int .i64 k', .slice A' ws'.length c', .int .i64 n', .slice B' xs'.length dd'] 29))
   have HC := Lib.hid (HIH.out _ HMEM.out _ (HQJ.out.pure HPA.out) (by omega))
   rw [show qA (QR.mk k' A' c' ws' n' B' dd' xs') = .agg #[.int .i64 k', .slice A' ws'.length c', .int .i64 n', .slice B' xs'.length dd'] from rfl] at HC
   have hdl := qNear_le (QR.mk k' A' c' ws' n' B' dd' xs').key
   have HTOP := Lib.hid htop
   generalize qNear (QR.mk k' A' c' ws' n' B' dd' xs').key = dp at *
   generalize hT : qTop qNear (xs.map QR.key) j = T at *
   clear hsum htop hT hkey hxs hq HQJ HMEM HIH HFIN hs1
   go_wp2_with fail
   refine HC.out.mono ?_
   rintro e w3 ⟨rfl, hm3⟩
   have HM3 : Hid (Pure w1 w3) := Lib.hid ((HMR.out.trans HPA.out).trans hm3)
   clear hm3 HC HPA HM HMR q0 q1 q2 q3
   go_wp2_with fail
   go_roundg (xs.length - (j + 1))
   case measure => omega
   case rel => exact ⟨j + 1, rfl, by omega, by simp, by rw [HTOP.out]; congr 1; omega, HM3.out⟩
  ·obtain rfl : j = xs.length := by omega
   have hjj : ¬ ((xs.length : Nat) : Int) < (xs.length : Int) := by omega
   have e1 := HFIN.out
   have hbr := HB.out.modp HMR.out
   clear x0 x1 x2 x3 HFIN HQ HQX HIH HB HMR
   have x0 := hbr.cell 0; have x1 := hbr.cell 1; have x2 := hbr.cell 2; have x3 := hbr.cell 3; simp at x0 x1 x2 x3
   clear hbr
   generalize qTop qNear (xs.map QR.key) xs.length = T at *
   generalize qNear q0 = rr at *
   have ek := HKN.out
   by_cases h4 : k = 4
   ·rw [decide_eq_true h4, Bool.true_or] at ek
    subst ek h4
    obtain rfl : T + 1 = rr := by simpa using e1
    clear e1 HKN
    go_wp2_with fail
    go_ret
    exact ⟨by simp, HM.out⟩
   ·have h4i : (k == 4) = false := by simpa using h4
    by_cases h5 : k = 5
    ·rw [decide_eq_true h5, Bool.or_true] at ek
     subst ek h5
     obtain rfl : T + 1 = rr := by simpa using e1
     clear e1 HKN
     go_wp2_with fail
     go_ret
     exact ⟨by simp, HM.out⟩
    ·have h5i : (k == 5) = false := by simpa using h5
     rw [decide_eq_false h4, decide_eq_false h5] at ek
     obtain rfl : false = nk := ek
     obtain rfl : T = rr := by simpa using e1
     clear e1 HKN
     go_wp2_with fail
     go_ret
     exact ⟨rfl, HM.out⟩

end Go.Proofs.YtnfflgicngeekaaGreatDoor

/- A copy of a search, with rows of its own. -/
namespace Go.Proofs.YtnfflgicngeekaaGreatDoor
set_option linter.unusedVariables false
set_option linter.unusedSimpArgs false
open Go.RowKit

/-- What copyQuery leads to. -/
def CpP (w : World) (qr : QR) (e : Ending) (w' : World) : Prop := ∃ q', e = .returned (qA q') ∧ q'.key = qr.key ∧ QC w.heap.size w' q' ∧ QD q' ∧ Pure w w'
section
variable {k : Int} {A : Option Addr} {c : Nat} {ws : List Str} {n : Int} {B : Option Addr} {d : Nat} {xs : List QR}
theorem QZ.hereH (h : QZ (.mk k A c ws n B d xs)) : ∀ g off sp, B = some ⟨g, off, sp⟩ → sp = none := by cases h; assumption
theorem QZ.allH (h : QZ (.mk k A c ws n B d xs)) : ∀ a ∈ xs, QZ a := by cases h; assumption
end
/-- The copies that have been made, in the row of one's own: the others are still the old ones. -/
def CpI (w : World) (base b1 : Nat) (k n : Int) (A3 : Option Addr) (c3 : Nat) (ws : List Str) (B4 : Option Addr) (d4 : Nat) (xs : List QR) (j : Nat) (wr : World) : Prop :=
 ∃ ys : List QR, ys.length = j ∧ ys.map QR.key = (xs.take j).map QR.key ∧ wr.ownsRow base 29 4 (.slice B4 xs.length d4) xs.length (qV (ys ++ xs.drop j)) ∧ wr.ownsRow base 9 1 (.slice A3 ws.length c3) ws.length (strsV ws) ∧ Blk wr b1 29 #[.int .i64 k, .slice A3 ws.length c3, .int .i64 n, .slice B4 xs.length d4] ∧
  (∀ y ∈ ys, QC base wr y ∧ QD y ∧ (∀ i ∈ aB A3, i ∉ qBl y) ∧ (∀ i ∈ aB B4, i ∉ qBl y)) ∧ (∀ (i j : Nat) (hi : i < ys.length) (hj : j < ys.length), i ≠ j → ∀ m ∈ qBl ys[i], m ∉ qBl ys[j]) ∧ Pure w wr ∧ base ≤ wr.heap.size
theorem flatK_setQ {α : Type} {enc : α → List Value} {k : Nat} (hk : ∀ x, (enc x).length = k) : ∀ (xs : List α) (i j : Nat) (u : Value) (x' : α), j < k → (h : i < xs.length) → enc x' = (enc xs[i]).set j u → (xs.flatMap enc).set (i * k + j) u = (xs.set i x').flatMap enc
 | [], i, j, u, x', hj, h, e => absurd h (by simp)
 | x :: t, 0, j, u, x', hj, h, e => by
  show (enc x ++ t.flatMap enc).set (0 * k + j) u = enc x' ++ t.flatMap enc
  rw [Nat.zero_mul, Nat.zero_add, List.set_append_left _ _ (by rw [hk]; exact hj), e]; rfl
 | x :: t, i + 1, j, u, x', hj, h, e => by
  show (enc x ++ t.flatMap enc).set ((i + 1) * k + j) u = enc x ++ (t.set i x').flatMap enc
  have e1 : (i + 1) * k + j - (enc x).length = i * k + j := by rw [hk, Nat.add_mul]; omega
  rw [List.set_append_right _ _ (by rw [hk, Nat.add_mul]; omega), e1, flatK_setQ hk t i j u x' hj (by simpa using h) (by simpa using e)]
theorem qV_sets (l : List QR) (i : Nat) (h : i < l.length) (k n : Int) (A B : Option Addr) (c d : Nat) (ws : List Str) (xs : List QR) : ((((qV l).set (i * 4) (.int .i64 k)).set (i * 4 + 1) (.slice A ws.length c)).set (i * 4 + 2) (.int .i64 n)).set (i * 4 + 3) (.slice B xs.length d) = qV (l.set i (.mk k A c ws n B d xs)) := by
 have hl : ∀ y : QR, i < (l.set i y).length := fun y => by simpa using h
 obtain ⟨k0, A0, c0, ws0, n0, B0, d0, xs0, e0⟩ := QR.ex l[i]
 have s1 := flatK_setQ qC_len l i 0 (.int .i64 k) (.mk k A0 c0 ws0 n0 B0 d0 xs0) (by omega) h (by rw [e0]; rfl)
 have s2 := flatK_setQ qC_len (l.set i (.mk k A0 c0 ws0 n0 B0 d0 xs0)) i 1 (.slice A ws.length c) (.mk k A c ws n0 B0 d0 xs0) (by omega) (hl _) (by simp [qC])
 have s3 := flatK_setQ qC_len (l.set i (.mk k A c ws n0 B0 d0 xs0)) i 2 (.int .i64 n) (.mk k A c ws n B0 d0 xs0) (by omega) (hl _) (by simp [qC])
 have s4 := flatK_setQ qC_len (l.set i (.mk k A c ws n B0 d0 xs0)) i 3 (.slice B xs.length d) (.mk k A c ws n B d xs) (by omega) (hl _) (by simp [qC])
 simp only [List.set_set] at s2 s3 s4
 show ((((l.flatMap qC).set (i * 4 + 0) _).set (i * 4 + 1) _).set (i * 4 + 2) _).set (i * 4 + 3) _ = _
 rw [s1, s2, s3, s4]
 rfl
/-- Four cells of an own row of searches are stored. -/
theorem own_st4 {w : World} {base g n cap : Nat} {l : List QR} (h : w.ownsRow base 29 4 (.slice (some ⟨g, 0, none⟩) n cap) n (qV l)) (i : Nat) (hi : i < l.length) (k m : Int) (A B : Option Addr) (c d : Nat) (ws : List Str) (xs : List QR) :
  ((((w.setCell ⟨g, i * 4, none⟩ (.int .i64 k)).setCell ⟨g, i * 4 + 1, none⟩ (.slice A ws.length c)).setCell ⟨g, i * 4 + 2, none⟩ (.int .i64 m)).setCell ⟨g, i * 4 + 3, none⟩ (.slice B xs.length d)).ownsRow base 29 4 (.slice (some ⟨g, 0, none⟩) n cap) n (qV (l.set i (.mk k A c ws m B d xs))) := by
 obtain ⟨h1, _⟩ := h.stored (i * 4) (.int .i64 k)
 obtain ⟨h2, _⟩ := h1.stored (i * 4 + 1) (.slice A ws.length c)
 obtain ⟨h3, _⟩ := h2.stored (i * 4 + 2) (.int .i64 m)
 obtain ⟨h4, _⟩ := h3.stored (i * 4 + 3) (.slice B xs.length d)
 rwa [qV_sets l i hi] at h4
theorem st4_modo {w : World} {g o : Nat} {a b c d : Value} : Mod (· = g) w ((((w.setCell ⟨g, o, none⟩ a).setCell ⟨g, o + 1, none⟩ b).setCell ⟨g, o + 2, none⟩ c).setCell ⟨g, o + 3, none⟩ d) :=
 ((((Mod.refl (· = g) w).setCell (p := ⟨g, o, none⟩) (.inl rfl) a).setCell (p := ⟨g, o + 1, none⟩) (.inl rfl) b).setCell (p := ⟨g, o + 2, none⟩) (.inl rfl) c).setCell (p := ⟨g, o + 3, none⟩) (.inl rfl) d
theorem own_tyB {w : World} {base n m size c g : Nat} {e t : TypeId} {A : Option Addr} {xs : List Value} {arr : Array Value} {fr : Nat × Nat} (h : w.ownsRow base e size (.slice A m c) n xs) (hv : g ∈ aB A) (hg : w.heap[g]? = some (.cells arr t fr)) : t = e := by
 obtain ⟨_, _, cur, hc⟩ := own_aB h hv
 rw [hg] at hc
 injection hc with hc
 injection hc with _ hc
theorem CpI.step {w wr w5 : World} {base b1 j : Nat} {k n : Int} {A3 : Option Addr} {c3 : Nat} {ws : List Str} {gB d4 : Nat} {xs : List QR} {k' n' : Int} {A' B' : Option Addr} {c' d' : Nat} {ws' : List Str} {xs' : List QR} (h : CpI w base b1 k n A3 c3 ws (some ⟨gB, 0, none⟩) d4 xs j wr) (hj : j < xs.length) (hm : Pure wr w5) {W : Nat} (hW : wr.heap.size ≤ W) (hq : QC W w5 (.mk k' A' c' ws' n' B' d' xs')) (hd : QD (.mk k' A' c' ws' n' B' d' xs')) (hk : (QR.mk k' A' c' ws' n' B' d' xs').key = xs[j].key) (hb1 : b1 < base) (hwb : w.heap.size ≤ base) :
  CpI w base b1 k n A3 c3 ws (some ⟨gB, 0, none⟩) d4 xs (j + 1) ((((w5.setCell ⟨gB, j * 4, none⟩ (.int .i64 k')).setCell ⟨gB, j * 4 + 1, none⟩ (.slice A' ws'.length c')).setCell ⟨gB, j * 4 + 2, none⟩ (.int .i64 n')).setCell ⟨gB, j * 4 + 3, none⟩ (.slice B' xs'.length d')) := by
 obtain ⟨ys, h1, h2, h3, h4, h5, h6, h7, h8, h9⟩ := h
 have hgl := (own_aB h3 (i := gB) (by simp [aB])).2.1
 have hgw := (own_aB h3 (i := gB) (by simp [aB])).1
 obtain ⟨_, _, curB, hcB⟩ := own_aB h3 (i := gB) (by simp [aB])
 have hmS := st4_modo (w := w5) (g := gB) (o := j * 4) (a := .int .i64 k') (b := .slice A' ws'.length c') (c := .int .i64 n') (d := .slice B' xs'.length d')
 have hbl := h5.lt
 have hws := hm.size
 have hge := hq.ge
 have hlen : j < (ys ++ xs.drop j).length := by simp; omega
 have hset : (ys ++ xs.drop j).set j (QR.mk k' A' c' ws' n' B' d' xs') = (ys ++ [QR.mk k' A' c' ws' n' B' d' xs']) ++ xs.drop (j + 1) := by
  rw [List.set_append_right _ _ (by omega), h1, Nat.sub_self, List.drop_eq_getElem_cons hj, List.set_cons_zero]
  simp
 have hA3 : ∀ i ∈ aB A3, i ≠ gB := fun i hi e => by
  subst e
  exact absurd (own_tyB h4 hi hcB) (by decide)
 have hnew : ∀ i ∈ qBl (QR.mk k' A' c' ws' n' B' d' xs'), wr.heap.size ≤ i := fun i hi => Nat.le_trans hW (hge i hi).1
 refine ⟨ys ++ [.mk k' A' c' ws' n' B' d' xs'], by simp [h1], ?_, ?_, ?_, ?_, ?_, ?_, ?_, ?_⟩
 ·rw [List.take_succ_eq_append_getElem hj, List.map_append, List.map_append, h2, List.map_singleton, List.map_singleton, hk]
 ·have h := own_st4 (own_pure h3 hm) j hlen k' n' A' B' c' d' ws' xs'
  rwa [hset] at h
 ·exact own_modB (own_pure h4 hm) hmS (fun i hi e => hA3 i hi e)
 ·exact (h5.mod hm id).mod hmS (fun e => by omega)
 ·intro y hy
  rcases List.mem_append.1 hy with hy | hy
  ·obtain ⟨a1, a2, a4, a5⟩ := h6 y hy
   exact ⟨(a1.mod hm (fun _ _ h => h)).mod hmS (fun i hi e => a5 gB (by simp [aB]) (e ▸ hi)), a2, a4, a5⟩
  ·rw [List.mem_singleton.1 hy]
   refine ⟨(hq.up (by omega)).mod hmS (fun i hi e => by have := hnew i hi; omega), hd, fun i hi h => by have := hnew _ h; have := (own_aB h4 hi).2.1; omega, fun i hi h => (have e : i = gB := (by simpa [aB] using hi); by have := hnew _ h; omega)⟩
 ·intro i i' hi hi' hne m hm1 hm2
  have hy : ∀ (a : Nat) (ha : a < ys.length), ∀ m ∈ qBl ys[a], m < wr.heap.size := fun a ha m hm => ((h6 _ (List.getElem_mem ha)).1.ge m hm).2
  rw [List.length_append, List.length_singleton] at hi hi'
  by_cases e1 : i < ys.length
  ·rw [List.getElem_append_left e1] at hm1
   by_cases e2 : i' < ys.length
   ·rw [List.getElem_append_left e2] at hm2
    exact h7 i i' e1 e2 hne m hm1 hm2
   ·rw [List.getElem_append_right (by omega)] at hm2
    simp only [List.getElem_singleton] at hm2
    have := hnew m hm2
    have := hy i e1 m hm1
    omega
  ·rw [List.getElem_append_right (by omega)] at hm1
   simp only [List.getElem_singleton] at hm1
   have := hnew m hm1
   by_cases e2 : i' < ys.length
   ·rw [List.getElem_append_left e2] at hm2
    have := hy i' e2 m hm2
    omega
   ·omega
 ·exact (h8.trans hm).trans' hmS (fun i hi hlt => by omega)
 ·have := hmS.size; omega
/-- All copies have been made. -/
theorem CpI.fin {w wr : World} {base b1 : Nat} {k n : Int} {A3 B4 : Option Addr} {c3 d4 : Nat} {ws : List Str} {xs : List QR} (h : CpI w base b1 k n A3 c3 ws B4 d4 xs xs.length wr) : ∃ ys : List QR, ys.length = xs.length ∧ (QR.mk k A3 c3 ws n B4 d4 ys).key = .mk k ws n (xs.map QR.key) ∧ QC base wr (.mk k A3 c3 ws n B4 d4 ys) ∧ QD (.mk k A3 c3 ws n B4 d4 ys) ∧ Blk wr b1 29 #[.int .i64 k, .slice A3 ws.length c3, .int .i64 n, .slice B4 xs.length d4] ∧ Pure w wr := by
 obtain ⟨ys, h1, h2, h3, h4, h5, h6, h7, h8, h9⟩ := h
 rw [List.drop_length, List.append_nil] at h3
 rw [List.take_length] at h2
 refine ⟨ys, h1, by rw [QR.key_mk, h2], .mk h4 (by rw [h1]; exact h3) (fun a ha => (h6 a ha).1), .mk ?_ (fun i hi a ha => (h6 a ha).2.2.1 i hi) (fun i hi a ha => (h6 a ha).2.2.2 i hi) h7 (fun a ha => (h6 a ha).2.1), h5, h8⟩
 intro i hi hi2
 obtain ⟨_, _, cur, hc⟩ := own_aB h3 hi2
 exact absurd (own_tyB h4 hi hc) (by decide)

set_option maxRecDepth 100000 in
set_option maxHeartbeats 8000000 in
theorem copyQ_calls : ∀ (qr : QR) (w : World), QS w qr → QZ qr → QB 1000 qr.key → Calls Tryz.prog 103 #[qA qr] w (CpP w qr) := by
 refine QR.ind (fun k A c ws n B d xs ih => ?_)
 intro w hQ hZ hB
 rw [QR.key_mk] at hB
 have HIH := Lib.hid ih
 have HQ := Lib.hid hQ
 have HZ := Lib.hid hZ
 have HKB := Lib.hid hB
 have hwl := hB.wsH.1
 have hxl : xs.length ≤ 1000 := by simpa using hB.xsH
 have hb1 := (Blk.new w 29 #[.int .i64 k, .slice A ws.length c, .int .i64 n, .slice B xs.length d]).alloc (.cells #[.int .i64 0, .slice none 0 0, .int .i64 0, .slice none 0 0] 29)
 have hb2 := Blk.snd w (.cells #[.int .i64 k, .slice A ws.length c, .int .i64 n, .slice B xs.length d] 29) 29 #[.int .i64 0, .slice none 0 0, .int .i64 0, .slice none 0 0]
 have HM : Hid (Pure w ((w.alloc (.cells #[.int .i64 k, .slice A ws.length c, .int .i64 n, .slice B xs.length d] 29)).alloc (.cells #[.int .i64 0, .slice none 0 0, .int .i64 0, .slice none 0 0] 29))) := Lib.hid (((Mod.refl _ _).alloc _).alloc _)
 have HB1 := Lib.hid hb1
 have HB2 := Lib.hid hb2
 have hbu : w.heap.size + 1 ≤ w.heap.size + 1 := Nat.le_refl _
 clear hb1 hb2 hQ hZ hB ih
 rw [qA_mk]
 go_enter Tryz.func103, Tryz.ntmps103
 go_upto_region 1 with (fail)
 generalize ((w.alloc (.cells #[.int .i64 k, .slice A ws.length c, .int .i64 n, .slice B xs.length d] 29)).alloc (.cells #[.int .i64 0, .slice none 0 0, .int .i64 0, .slice none 0 0] 29)) = w2 at *
 obtain ⟨b1, hb1⟩ : ∃ b, w.heap.size = b := ⟨_, rfl⟩
 rw [hb1] at HB1 HB2
 simp only [hb1]
 have hbl1 : w.heap.size ≤ b1 := by omega
 obtain ⟨b2, hb2⟩ : ∃ b, b1 + 1 = b := ⟨_, rfl⟩
 rw [hb2] at HB2
 simp only [hb2]
 have hbl : w.heap.size ≤ b2 := by omega
 have hb12 : b1 < b2 := by omega
 clear hb1 hb2 hbu
 have h1 := HB1.out
 have hlt2 := HB2.out.lt
 have u0 := h1.cell 0; have uf0 := h1.frozen 0; have u1 := h1.cell 1; have uf1 := h1.frozen 1; have u2 := h1.cell 2; have uf2 := h1.frozen 2; have u3 := h1.cell 3; have uf3 := h1.frozen 3; simp at u0 u1 u2 u3
 clear h1
 have HCW := Lib.hid (fun W (h : Pure w W) => cloneC_calls W _ ws (HQ.out.wsH.pure h) (by omega))
 have HCQ := Lib.hid (fun W (h : Pure w W) => clnQ_calls W B d xs (HQ.out.xsH.pure h) HZ.out.hereH (by omega))
 go_region_with (first
  | (go_at_call 140; (refine (HCW.out _ (HM.out.trans (by (repeat' (first | with_reducible assumption | with_reducible exact Mod.refl _ _ | with_reducible refine Mod.alloc ?_ _ | with_reducible refine Mod.drew ?_ | with_reducible refine Mod.drewN ?_ _ | ((with_reducible apply Mod.q_set); (dsimp only); omega) | ((with_reducible apply Mod.q_trans); (with_reducible assumption)) | ((with_reducible apply Mod.q_transp); (with_reducible assumption))))))).mono ?_); rintro e w3 ⟨v3, rfl, hown3, hm3⟩; obtain ⟨A3, c3, rfl⟩ := own_formQ hown3; have hm3' : Pure w2 w3 := Mod.trans (by (repeat' (first | with_reducible assumption | with_reducible exact Mod.refl _ _ | with_reducible refine Mod.alloc ?_ _ | with_reducible refine Mod.drew ?_ | with_reducible refine Mod.drewN ?_ _ | ((with_reducible apply Mod.q_set); (dsimp only); omega) | ((with_reducible apply Mod.q_trans); (with_reducible assumption)) | ((with_reducible apply Mod.q_transp); (with_reducible assumption))))) hm3; have hc3 := HB1.out.modp hm3'; have y0 := hc3.cell 0; have yf0 := hc3.frozen 0; have y1 := hc3.cell 1; have yf1 := hc3.frozen 1; have y2 := hc3.cell 2; have yf2 := hc3.frozen 2; have y3 := hc3.cell 3; have yf3 := hc3.frozen 3; simp at y0 y1 y2 y3)
  | (go_at_call 171; (refine (HCQ.out _ ((HM.out.trans hm3').trans (by (repeat' (first | with_reducible assumption | with_reducible exact Mod.refl _ _ | with_reducible refine Mod.alloc ?_ _ | with_reducible refine Mod.drew ?_ | with_reducible refine Mod.drewN ?_ _ | ((with_reducible apply Mod.q_set); (dsimp only); omega) | ((with_reducible apply Mod.q_trans); (with_reducible assumption)) | ((with_reducible apply Mod.q_transp); (with_reducible assumption))))))).mono ?_); rintro e w4 ⟨v4, rfl, hown4, hm4⟩; obtain ⟨B4, d4, rfl⟩ := own_formQ hown4; have hm34 : Pure w3 w4 := Mod.trans (by (repeat' (first | with_reducible assumption | with_reducible exact Mod.refl _ _ | with_reducible refine Mod.alloc ?_ _ | with_reducible refine Mod.drew ?_ | with_reducible refine Mod.drewN ?_ _ | ((with_reducible apply Mod.q_set); (dsimp only); omega) | ((with_reducible apply Mod.q_trans); (with_reducible assumption)) | ((with_reducible apply Mod.q_transp); (with_reducible assumption))))) hm4; have hc4 := HB1.out.modp (hm3'.trans hm34); have z0 := hc4.cell 0; have zf0 := hc4.frozen 0; have z1 := hc4.cell 1; have zf1 := hc4.frozen 1; have z2 := hc4.cell 2; have zf2 := hc4.frozen 2; have z3 := hc4.cell 3; have zf3 := hc4.frozen 3; simp at z0 z1 z2 z3))
 all_goals
  have hm24 := hm3'.trans hm34
  have hs23 := hm3'.size
  have hs34 := hm34.size
  have h9 := (hc4.set 1 (.slice A3 ws.length c3)).set 3 (.slice B4 xs.length d4)
  simp at h9
  have hm9 := mod_set (mod_set (Mod.refl (· = b1) w4) 1 (.slice A3 ws.length c3)) 3 (.slice B4 xs.length d4)
  have hs9 := hm9.size
  have hb13 := hc3.lt
  have hA9 := own_modB (own_pure hown3 hm34) hm9 (fun i hi e => by
   subst e
   exact absurd (own_tyB hown3 hi hc3) (by decide))
  have hB9 := own_modB hown4 hm9 (fun i hi e => by have := (own_aB hown4 hi).1; omega)
  have HB9 := Lib.hid ((HB2.out.modp hm24).mod hm9 (by omega))
  have HCI : Hid (CpI w w2.heap.size b1 k n A3 c3 ws B4 d4 xs 0 ((w4.setCell ⟨b1, 1, none⟩ (.slice A3 ws.length c3)).setCell ⟨b1, 3, none⟩ (.slice B4 xs.length d4))) := Lib.hid ⟨[], rfl, rfl, own_up hB9 (by omega), own_up hA9 (Nat.le_refl _), h9, fun y hy => (by cases hy), fun i j hi => absurd hi (by simp), (HM.out.trans hm24).trans' hm9 (fun i hi hlt => by omega), by omega⟩
  have hxb : xs.length ≤ xs.length := Nat.le_refl _
  generalize ((w4.setCell ⟨b1, 1, none⟩ (.slice A3 ws.length c3)).setCell ⟨b1, 3, none⟩ (.slice B4 xs.length d4)) = w9 at *
  obtain ⟨base, hbase⟩ : ∃ base, w2.heap.size = base := ⟨_, rfl⟩
  rw [hbase] at HCI hlt2
  have hwb : w.heap.size ≤ base := by omega
  clear hbase hA9 hB9 hm9 hs9 hc4 hc3 hown3 hown4 hm3 hm4 hm3' hm34 hm24 hs23 hs34 hb13 HCW HCQ HB1 HB2 HM u0 u1 u2 u3 uf0 uf1 uf2 uf3 y0 y1 y2 y3 yf0 yf1 yf2 yf3 z0 z1 z2 z3 zf0 zf1 zf2 zf3
  have z0 := h9.cell 0; have z1 := h9.cell 1; have z2 := h9.cell 2; have z3 := h9.cell 3; simp at z0 z1 z2 z3
  clear h9
  go_wp2_with fail
  go_loopg [16] xs.length (fun gk i wr => ∃ j : Nat, xs.length - j = gk ∧ j ≤ xs.length ∧ i = .int .i64 (j : Int) ∧ CpI w base b1 k n A3 c3 ws B4 d4 xs j wr ∧ Blk wr b2 29 #[.int .i64 0, .slice none 0 0, .int .i64 0, .slice none 0 0])
  case atStart => exact ⟨0, by omega, by omega, rfl, HCI.out, HB9.out⟩
  case round =>
   clear HCI HB9 z0 z1 z2 z3
   obtain ⟨j, rfl, hj, rfl, hC, hB2⟩ := hrel
   have HC := Lib.hid hC
   have HB2 := Lib.hid hB2
   obtain ⟨ys, hy1, hy2, hy3, hy4, hy5, hy6, hy7, hy8, hy9⟩ := hC
   have hb1r := hy5.lt
   have hb2r := hB2.lt
   by_cases hlt : j < xs.length
   ·obtain ⟨k', A', c', ws', n', B', d', xs', hq⟩ := QR.ex xs[j]
    have hlj : j < (ys ++ xs.drop j).length := by simp; omega
    have hqj : (ys ++ xs.drop j)[j] = .mk k' A' c' ws' n' B' d' xs' := by
     rw [List.getElem_append_right (by omega)]
     simp only [hy1, Nat.sub_self, List.getElem_drop, Nat.add_zero]
     exact hq
    obtain ⟨g, off, hA, q0, q1, q2, q3⟩ := qcells (Sl.of_own hy3) hlj hqj
    subst hA
    obtain rfl : off = 0 := by
     rcases hy3.2 with ⟨h1, _⟩ | ⟨g', cap, cur, h1, _⟩
     ·cases h1
     ·injection h1 with h1 _ _
      injection h1 with h1
      exact congrArg Addr.off h1
    simp only [Nat.zero_add] at q0 q1 q2 q3
    have f0 := hy3.frozenAt (j * 4)
    have f1 := hy3.frozenAt (j * 4 + 1)
    have f2 := hy3.frozenAt (j * 4 + 2)
    have f3 := hy3.frozenAt (j * 4 + 3)
    have hgr := (own_aB hy3 (i := g) (by simp [aB])).2.1
    have hgb := (own_aB hy3 (i := g) (by simp [aB])).1
    have hji : ((j : Nat) : Int) < (xs.length : Int) := by omega
    have hQ4 : Blk (wr.alloc (.cells #[.int .i64 k', .slice A' ws'.length c', .int .i64 n', .slice B' xs'.length d'] 29)) wr.heap.size 29 #[.int .i64 k', .slice A' ws'.length c', .int .i64 n', .slice B' xs'.length d'] := Blk.new _ _ _
    have hpa := pure_alloc wr (.cells #[.int .i64 k', .slice A' ws'.length c', .int .i64 n', .slice B' xs'.length d'] 29)
    have HPA := Lib.hid hpa
    have hX5 := hy5.modp hpa
    have hm8 := hy8
    have HQJ : Hid (QS wr (.mk k' A' c' ws' n' B' d' xs') ∧ QZ (.mk k' A' c' ws' n' B' d' xs') ∧ QB 1000 (QR.mk k' A' c' ws' n' B' d' xs').key ∧ QR.mk k' A' c' ws' n' B' d' xs' ∈ xs) := Lib.hid (by
     rw [← hq]
     exact ⟨(HQ.out.allH _ (List.getElem_mem hlt)).pure hm8, HZ.out.allH _ (List.getElem_mem hlt), HKB.out.allH _ (List.mem_map.2 ⟨_, List.getElem_mem hlt, rfl⟩), List.getElem_mem hlt⟩)
    have HKJ : Hid ((QR.mk k' A' c' ws' n' B' d' xs').key = xs[j].key) := Lib.hid (by rw [hq])
    have HCC := Lib.hid (fun W (h : Pure wr W) => HIH.out _ HQJ.out.2.2.2 W (HQJ.out.1.pure h) HQJ.out.2.1 HQJ.out.2.2.1)
    rw [qA_mk] at HCC
    have r0 := keepp q0 hpa
    have r1 := keepp q1 hpa
    have r2 := keepp q2 hpa
    have r3 := keepp q3 hpa
    have e0 := hpa.keepf q0 f0 id
    have e1 := hpa.keepf q1 f1 id
    have e2 := hpa.keepf q2 f2 id
    have e3 := hpa.keepf q3 f3 id
    have x0 := hX5.cell 0; have x1 := hX5.cell 1; have x2 := hX5.cell 2; have x3 := hX5.cell 3; simp at x0 x1 x2 x3
    have y0 := hy5.cell 0; have y1 := hy5.cell 1; have y2 := hy5.cell 2; have y3 := hy5.cell 3; simp at y0 y1 y2 y3
    clear hy1 hy2 hy3 hy4 hy6 hy7 hy8 hqj hq hlj hX5 hy5 hm8
    go_upto_region 5 with (fail)
    go_region_with (go_at_call 103; (refine (HCC.out _ (by (repeat' (first | with_reducible assumption | with_reducible exact Mod.refl _ _ | with_reducible refine Mod.alloc ?_ _ | with_reducible refine Mod.drew ?_ | with_reducible refine Mod.drewN ?_ _ | ((with_reducible apply Mod.q_set); (dsimp only); omega) | ((with_reducible apply Mod.q_trans); (with_reducible assumption)) | ((with_reducible apply Mod.q_transp); (with_reducible assumption)))))).mono ?_); rintro e w5 ⟨q5, rfl, hk5, hc5, hd5, hm5⟩; obtain ⟨k5, A5, c5, ws5, n5, B5, d5, xs5⟩ := q5; simp only [qA_mk]; have hm5' : Pure wr w5 := Mod.trans (by (repeat' (first | with_reducible assumption | with_reducible exact Mod.refl _ _ | with_reducible refine Mod.alloc ?_ _ | with_reducible refine Mod.drew ?_ | with_reducible refine Mod.drewN ?_ _ | ((with_reducible apply Mod.q_set); (dsimp only); omega) | ((with_reducible apply Mod.q_trans); (with_reducible assumption)) | ((with_reducible apply Mod.q_transp); (with_reducible assumption))))) hm5; have v0 := keepp q0 hm5'; have v1 := keepp q1 hm5'; have v2 := keepp q2 hm5'; have v3 := keepp q3 hm5'; have g0 := hm5'.keepf q0 f0 id; have g1 := hm5'.keepf q1 f1 id; have g2 := hm5'.keepf q2 f2 id; have g3 := hm5'.keepf q3 f3 id; have t3 := keepp y3 hm5')
    all_goals
     have HCS := Lib.hid (HC.out.step hlt hm5' (by simp) hc5 hd5 (hk5.trans HKJ.out) (by omega) hwb)
     have HBS := Lib.hid ((HB2.out.modp hm5').mod (st4_modo (g := g) (o := j * 4) (a := .int .i64 k5) (b := .slice A5 ws5.length c5) (c := .int .i64 n5) (d := .slice B5 xs5.length d5)) (by omega))
     generalize ((((w5.setCell ⟨g, j * 4, none⟩ (.int .i64 k5)).setCell ⟨g, j * 4 + 1, none⟩ (.slice A5 ws5.length c5)).setCell ⟨g, j * 4 + 2, none⟩ (.int .i64 n5)).setCell ⟨g, j * 4 + 3, none⟩ (.slice B5 xs5.length d5)) = w6 at *
     clear v0 v1 v2 v3 g0 g1 g2 g3 t3 hm5 hm5' hc5 hd5 hk5
     go_wp2_with fail
     go_roundg (xs.length - (j + 1))
     case measure => omega
     case rel => exact ⟨j + 1, rfl, by omega, by simp, HCS.out, HBS.out⟩
   ·obtain rfl : j = xs.length := by omega
    have hjj : ¬ ((xs.length : Nat) : Int) < (xs.length : Int) := by omega
    obtain ⟨ys', e1, e2, hQC, hQD, hblk, hpure⟩ := HC.out.fin
    have hb2b := HB2.out
    have x0 := hblk.cell 0; have x1 := hblk.cell 1; have x2 := hblk.cell 2; have x3 := hblk.cell 3; simp at x0 x1 x2 x3
    have v0 := hb2b.cell 0; have vf0 := hb2b.frozen 0; have v1 := hb2b.cell 1; have vf1 := hb2b.frozen 1; have v2 := hb2b.cell 2; have vf2 := hb2b.frozen 2; have v3 := hb2b.cell 3; have vf3 := hb2b.frozen 3; simp at v0 v1 v2 v3
    have h4F := st4_blk (a := .int .i64 k) (b := .slice A3 ws.length c3) (c := .int .i64 n) (d := .slice B4 xs.length d4) hb2b
    have hMF : Mod (· = b2) wr ((((wr.setCell ⟨b2, 0, none⟩ (.int .i64 k)).setCell ⟨b2, 1, none⟩ (.slice A3 ws.length c3)).setCell ⟨b2, 2, none⟩ (.int .i64 n)).setCell ⟨b2, 3, none⟩ (.slice B4 xs.length d4)) := st4_mod
    have HF : Hid (CpP w (.mk k A c ws n B d xs) (.returned (.agg #[.int .i64 k, .slice A3 ws.length c3, .int .i64 n, .slice B4 xs.length d4])) ((((wr.setCell ⟨b2, 0, none⟩ (.int .i64 k)).setCell ⟨b2, 1, none⟩ (.slice A3 ws.length c3)).setCell ⟨b2, 2, none⟩ (.int .i64 n)).setCell ⟨b2, 3, none⟩ (.slice B4 xs.length d4))) := Lib.hid ⟨.mk k A3 c3 ws n B4 d4 ys', by rw [qA_mk, e1], by rw [e2, QR.key_mk], (hQC.up hwb).mod hMF (fun i hi e => by have := (hQC.ge i hi).1; omega), hQD, hpure.trans' hMF (fun i hi hlt => by omega)⟩
    clear hy1 hy2 hy3 hy4 hy5 hy6 hy7 hy8 hQC hQD hblk hpure hb2b hMF e1 e2 HC HB2 HKB HIH HQ HZ
    go_wp2_with fail
    have z0 := h4F.cell 0; have z1 := h4F.cell 1; have z2 := h4F.cell 2; have z3 := h4F.cell 3; simp at z0 z1 z2 z3
    try simp only [Exit.inBlock, Exit.then]
    refine bodyPost_ret (v := .agg #[.int .i64 k, .slice A3 ws.length c3, .int .i64 n, .slice B4 xs.length d4]) (by simp [results, Tryz.results103, go_sem, z0, z1, z2, z3]) rfl ?_
    exact HF.out

end Go.Proofs.YtnfflgicngeekaaGreatDoor

/- A part of a copied search is changed: what is then in memory. -/
namespace Go.Proofs.YtnfflgicngeekaaGreatDoor
set_option linter.unusedVariables false
set_option linter.unusedSimpArgs false
open Go.RowKit

theorem QN.or {S : Nat → Prop} {q : QR} {g g' : Nat} (h : QN S q) (hg : QN (· = g) q) (hS : S g') : QN (fun i => i = g' ∨ i = g) q := by
 induction h with
 | mk h hs ih =>
  cases hg with
  | mk h2 hs2 => exact .mk (fun hx gg off e hh => hh.elim (fun e1 => h hx gg off e (e1 ▸ hS)) (fun e1 => h2 hx gg off e e1)) (fun a ha => ih a ha (hs2 a ha))
theorem QN.or2 {q : QR} {g g' : Nat} (h : QN (· = g') q) (hg : QN (· = g) q) : QN (fun i => i = g' ∨ i = g) q := h.or hg rfl
section
variable {r lo base M Z e : Nat} {w w1 w2 : World} {g o : Nat} {q q' : QR} {S : Nat → Prop}
theorem SpI.at (h : SpI r lo base M Z w g o q) (hm : Mod S w w1) (hS : ∀ k, S k → k ∈ qBl q ∨ k < lo) : ∃ arr, Blk w g 29 arr ∧ Blk w1 g 29 arr ∧ o + 4 ≤ arr.size ∧ CellsAt arr o q := by
 obtain ⟨arr, h1, h2, h3, h4, h5, _⟩ := h.blk
 exact ⟨arr, h1, h1.mod hm (fun hg => by rcases hS g hg with h | h; exact h5 h; omega), h2, h3⟩
theorem SpI.cells1 (h : SpI r lo base M Z w g o q) (hm : Mod S w w1) (hS : ∀ k, S k → k ∈ qBl q ∨ k < lo) {j : Nat} {u : Value} (hj : (qC q)[j]? = some u) : w1.cell? ⟨g, o + j, none⟩ = some u ∧ w1.frozen? ⟨g, o + j, none⟩ = false := by
 obtain ⟨arr, _, hB, ho, hc⟩ := h.at hm hS
 exact ⟨by rw [hB.cell]; exact hc j u hj, hB.frozen _⟩
/-- One of the four cells is stored. -/
theorem SpI.put1 (h : SpI r lo base M Z w g o q) (hm : Mod S w w1) (hS : ∀ k, S k → k ∈ qBl q ∨ k < lo) (j : Nat) (hj : j < 4) (u : Value) (hq' : qC q' = (qC q).set j u) (hok : QOk (w1.setCell ⟨g, o + j, none⟩ u) base (M + 1) q') (hz : qSize q'.key ≤ qSize q.key + e) : ∃ q2, QOk (w1.setCell ⟨g, o + j, none⟩ u) base (M + 1) q2 ∧ qSize q2.key ≤ Z + e ∧ Blk (w1.setCell ⟨g, o + j, none⟩ u) r 29 (qC q2).toArray := by
 obtain ⟨arr, hB0, hB, ho, hc⟩ := h.at hm hS
 have hB2 := hB.set (o + j) u
 refine h.fin (S := fun k => k = g ∨ S k) ((hm.mono (fun k hk => .inr hk)).trans ((Mod.refl (fun k => k = g ∨ S k) w1).setCell (p := ⟨g, o + j, none⟩) (.inl (.inl rfl)) u)) (fun k hk => hk.elim .inl (fun h => .inr (hS k h))) (fun arr2 hA2 => ?_) hB2 (fun i v hv => ?_) hok hz
 ·have e2 : arr2 = arr := by
   unfold Blk at hA2 hB0
   rw [hA2] at hB0
   injection hB0 with hB0
   injection hB0
  subst e2
  refine ⟨by simp, fun i v hi hv => ?_⟩
  rw [Array.getElem?_setIfInBounds_ne (by omega)]
  exact hv
 ·have hi : i < 4 := by
   have := (List.getElem?_eq_some_iff.1 hv).1
   rwa [qC_len] at this
  rw [hq', List.getElem?_set] at hv
  by_cases hij : j = i
  ·subst hij
   rw [if_pos rfl, if_pos (by rw [qC_len]; exact hj)] at hv
   rw [Array.getElem?_setIfInBounds_self_of_lt (by omega)]
   exact hv
  ·rw [if_neg hij] at hv
   rw [Array.getElem?_setIfInBounds_ne (by omega)]
   exact hc i v hv
/-- All four cells are stored. -/
theorem SpI.put4 (h : SpI r lo base M Z w g o q) (hm : Mod S w w1) (hS : ∀ k, S k → k ∈ qBl q ∨ k < lo) {a b c d : Value} (hq' : qC q' = [a, b, c, d]) (hok : QOk ((((w1.setCell ⟨g, o, none⟩ a).setCell ⟨g, o + 1, none⟩ b).setCell ⟨g, o + 2, none⟩ c).setCell ⟨g, o + 3, none⟩ d) base (M + 1) q') (hz : qSize q'.key ≤ qSize q.key + e) : ∃ q2, QOk ((((w1.setCell ⟨g, o, none⟩ a).setCell ⟨g, o + 1, none⟩ b).setCell ⟨g, o + 2, none⟩ c).setCell ⟨g, o + 3, none⟩ d) base (M + 1) q2 ∧ qSize q2.key ≤ Z + e ∧ Blk ((((w1.setCell ⟨g, o, none⟩ a).setCell ⟨g, o + 1, none⟩ b).setCell ⟨g, o + 2, none⟩ c).setCell ⟨g, o + 3, none⟩ d) r 29 (qC q2).toArray := by
 obtain ⟨arr, hB0, hB, ho, hc⟩ := h.at hm hS
 have hB2 := (((hB.set o a).set (o + 1) b).set (o + 2) c).set (o + 3) d
 have hm4 : Mod (fun k => k = g ∨ S k) w1 _ := (st4_modo (w := w1) (g := g) (o := o) (a := a) (b := b) (c := c) (d := d)).mono (fun k hk => .inl hk)
 refine h.fin (S := fun k => k = g ∨ S k) ((hm.mono (fun k hk => .inr hk)).trans hm4) (fun k hk => hk.elim .inl (fun h => .inr (hS k h))) (fun arr2 hA2 => ?_) hB2 (fun i v hv => ?_) hok hz
 ·have e2 : arr2 = arr := by
   unfold Blk at hA2 hB0
   rw [hA2] at hB0
   injection hB0 with hB0
   injection hB0
  subst e2
  refine ⟨by simp, fun i v hi hv => ?_⟩
  rw [Array.getElem?_setIfInBounds_ne (by omega), Array.getElem?_setIfInBounds_ne (by omega), Array.getElem?_setIfInBounds_ne (by omega), Array.getElem?_setIfInBounds_ne (by omega)]
  exact hv
 ·have hi : i < 4 := by
   have := (List.getElem?_eq_some_iff.1 hv).1
   rwa [qC_len] at this
  rw [hq'] at hv
  match i, hi with
  | 0, _ =>
   rw [Array.getElem?_setIfInBounds_ne (by omega), Array.getElem?_setIfInBounds_ne (by omega), Array.getElem?_setIfInBounds_ne (by omega)]
   have h0 : (arr.setIfInBounds o a)[o]? = some a := Array.getElem?_setIfInBounds_self_of_lt (by omega)
   have hv2 : a = v := by simpa using hv
   subst hv2
   exact h0
  | 1, _ =>
   rw [Array.getElem?_setIfInBounds_ne (by omega), Array.getElem?_setIfInBounds_ne (by omega), Array.getElem?_setIfInBounds_self_of_lt (by simp; omega)]
   simpa using hv
  | 2, _ =>
   rw [Array.getElem?_setIfInBounds_ne (by omega), Array.getElem?_setIfInBounds_self_of_lt (by simp; omega)]
   simpa using hv
  | 3, _ =>
   rw [Array.getElem?_setIfInBounds_self_of_lt (by simp; omega)]
   simpa using hv
end
section
variable {base M : Nat} {w w1 w2 : World} {g : Nat} {k n : Int} {A B : Option Addr} {c d : Nat} {ws : List Str} {xs : List QR} {S : Nat → Prop}
theorem qB_up (hM : QB M (QR.mk k A c ws n B d xs).key) {k' n' : Int} (hk : -4000000000000 ≤ k' ∧ k' ≤ 4000000000000) (hn : -4000000000000 ≤ n' ∧ n' ≤ 4000000000000) {ws' : List Str} {ks : List Qry} (hw : ws'.length ≤ M + 1) (hw2 : ∀ x ∈ ws', x ∈ ws ∨ x.length ≤ 100) (h100 : 100 ≤ M) (hl : ks.length ≤ M + 1) (hks : ∀ x ∈ ks, x ∈ xs.map QR.key ∨ QB 100 x) : QB (M + 1) (.mk k' ws' n' ks) := by
 rw [QR.key_mk] at hM
 exact .mk hk.1 hk.2 hn.1 hn.2 hw (fun x hx => by
  rcases hw2 x hx with h | h
  ·have := hM.wsH.2 x h; omega
  ·omega) hl (fun a ha => by
  rcases hks a ha with h | h
  ·exact (hM.allH a h).mono (by omega)
  ·exact h.mono (by omega))
/-- The kind, or the number, is another one. -/
theorem QC.num (h : QC base w (.mk k A c ws n B d xs)) (hM : QB M (QR.mk k A c ws n B d xs).key) (h100 : 100 ≤ M) (hm : Mod S w w1) (hS : ∀ i ∈ qBl (.mk k A c ws n B d xs), ¬ S i) {k' n' : Int} (hk : -4000000000000 ≤ k' ∧ k' ≤ 4000000000000) (hn : -4000000000000 ≤ n' ∧ n' ≤ 4000000000000) : QOk w1 base (M + 1) (.mk k' A c ws n' B d xs) := by
 have h1 := h.mod hm hS
 have h2 : QC base w1 (.mk k' A c ws n' B d xs) := by
  cases h1 with
  | mk hA hB hs => exact .mk hA hB hs
 have hl := hM
 rw [QR.key_mk] at hl
 refine ⟨h2.qs, h2.fr, h2.z, ?_⟩
 rw [QR.key_mk]
 exact qB_up hM hk hn (by have := hl.wsH.1; omega) (fun x hx => .inl hx) h100 (by have := hl.xsH; omega) (fun x hx => .inl hx)
/-- A word more. -/
theorem QC.word (h : QC base w (.mk k A c ws n B d xs)) (hd : QD (.mk k A c ws n B d xs)) (hM : QB M (QR.mk k A c ws n B d xs).key) (h100 : 100 ≤ M) {A' : Option Addr} {c' : Nat} {s : Str} (hs : s.length ≤ 100) (hm1 : Mod (fun i => (Value.slice A ws.length c).ownBlock = some i) w w1) (ho : w1.ownsRow base 9 1 (.slice A' (ws.length + 1) c') (ws.length + 1) (strsV (ws ++ [s]))) (hm2 : Mod (· = g) w1 w2) (hg : g ∉ qBl (.mk k A c ws n B d xs)) (hgA : g ∉ aB A') : QOk w2 base (M + 1) (.mk k A' c' (ws ++ [s]) n B d xs) := by
 have hob : ∀ i, (Value.slice A ws.length c).ownBlock = some i → i ∈ aB A := fun i hi => by
  cases A with
  | none => cases hi
  | some a =>
   have : some a.block = some i := hi
   injection this with this
   simp [aB, this]
 have hl := hM
 rw [QR.key_mk] at hl
 cases h with
 | mk hA hB hsx =>
 cases hd with
 | mk hAB hAx hBx hxx hds =>
  have h2 : QC base w2 (.mk k A' c' (ws ++ [s]) n B d xs) := by
   refine .mk ?_ (own_modB (own_modB hB hm1 (fun i hi hv => hAB i (hob i hv) hi)) hm2 (fun i hi e => hg (qBl_mk.2 (.inr (.inl (e ▸ hi)))))) (fun a ha => ((hsx a ha).mod hm1 (fun i hi hv => hAx i (hob i hv) a ha hi)).mod hm2 (fun i hi e => hg (qBl_mk.2 (.inr (.inr ⟨a, ha, e ▸ hi⟩)))))
   rw [List.length_append, List.length_singleton]
   exact own_modB ho hm2 (fun i hi e => hgA (e ▸ hi))
  refine ⟨h2.qs, h2.fr, h2.z, ?_⟩
  rw [QR.key_mk]
  exact qB_up hM ⟨hl.knH.1, hl.knH.2.1⟩ ⟨hl.knH.2.2.1, hl.knH.2.2.2⟩ (by have := hl.wsH.1; simp; omega) (fun x hx => by
   rcases List.mem_append.1 hx with h | h
   ·exact .inl h
   ·rw [List.mem_singleton.1 h]; exact .inr hs) h100 (by have := hl.xsH; omega) (fun x hx => .inl hx)
/-- A search more. -/
theorem QC.arg (h : QC base w (.mk k A c ws n B d xs)) (hd : QD (.mk k A c ws n B d xs)) (hM : QB M (QR.mk k A c ws n B d xs).key) (h100 : 100 ≤ M) {g' c' : Nat} {x : QR} (hx : QS w x) (hxf : QFr base x) (hxz : QZ x) (hxb : QB 100 x.key) (hxB : QN (fun i => (Value.slice B xs.length d).ownBlock = some i) x) (hxg : QN (· = g) x) (hm1 : Mod (fun i => (Value.slice B xs.length d).ownBlock = some i) w w1) (hat : (Value.slice B xs.length d).ownBlock = some g' ∨ w.heap.size ≤ g') (hm2 : Mod (fun i => i = g' ∨ i = g) w1 w2) (ho : w2.ownsRow base 29 4 (.slice (some ⟨g', 0, none⟩) (xs.length + 1) c') (xs.length + 1) (qV (xs ++ [x]))) (hg : g ∉ qBl (.mk k A c ws n B d xs))
  (hgs : ∀ arr fr, w1.heap[g]? ≠ some (.cells arr 9 fr)) (hgs' : ∀ arr fr, w1.heap[g']? ≠ some (.cells arr 9 fr)) : QOk w2 base (M + 1) (.mk k A c ws n (some ⟨g', 0, none⟩) c' (xs ++ [x])) := by
 have hob : ∀ i, (Value.slice B xs.length d).ownBlock = some i → i ∈ aB B := fun i hi => by
  cases B with
  | none => cases hi
  | some a =>
   have : some a.block = some i := hi
   injection this with this
   simp [aB, this]
 have hl := hM
 rw [QR.key_mk] at hl
 have hge := h.ge
 cases h with
 | mk hA hB hsx =>
 cases hd with
 | mk hAB hAx hBx hxx hds =>
  have hne : ∀ i, (i ∈ aB A ∨ ∃ a ∈ xs, i ∈ qBl a) → ¬ (i = g' ∨ i = g) := fun i hi e => by
   have hiq : i ∈ qBl (.mk k A c ws n B d xs) := qBl_mk.2 (hi.elim .inl (fun h => .inr (.inr h)))
   rcases e with rfl | rfl
   ·rcases hat with h | h
    ·rcases hi with hi | ⟨a, ha, hi⟩
     ·exact hAB _ hi (hob _ h)
     ·exact hBx _ (hob _ h) a ha hi
    ·have := (hge _ hiq).2; omega
   ·exact hg hiq
  have hx1 : QS w1 x := hx.modN hxB hm1 (fun i arr fr hi hv => by
   have := own_ty hB hv hi
   exact absurd this (by decide))
  have hxN : QN (fun i => i = g' ∨ i = g) x := by
   rcases hat with h | h
   ·exact hxB.or hxg h
   ·exact (QN.new hx (S := fun i => i = g') (fun i hi => by omega)).or2 hxg
  have hx2 : QS w2 x := hx1.modN hxN hm2 (fun i arr fr hi e => by
   rcases e with rfl | rfl
   ·exact hgs' arr fr hi
   ·exact hgs arr fr hi)
  refine ⟨.mk (Sl.of_own (own_modB (own_modB hA hm1 (fun i hi hv => hAB i hi (hob i hv))) hm2 (fun i hi => hne i (.inl hi)))) ?_ (fun a ha => ?_), .mk (fun _ => ⟨g', 0, rfl, (own_aB ho (i := g') (by simp [aB])).1⟩) (fun a ha => ?_), .mk (fun _ _ _ e => ?_) (fun a ha => ?_), ?_⟩
  ·rw [List.length_append, List.length_singleton]
   exact Sl.of_own ho
  ·rcases List.mem_append.1 ha with h | h
   ·exact (((hsx a h).mod hm1 (fun i hi hv => hBx i (hob i hv) a h hi)).mod hm2 (fun i hi => hne i (.inr ⟨a, h, hi⟩))).qs
   ·rw [List.mem_singleton.1 h]; exact hx2
  ·rcases List.mem_append.1 ha with h | h
   ·exact (hsx a h).fr
   ·rw [List.mem_singleton.1 h]; exact hxf
  ·injection e with e
   injection e with _ _ e
   exact e.symm
  ·rcases List.mem_append.1 ha with h | h
   ·exact (hsx a h).z
   ·rw [List.mem_singleton.1 h]; exact hxz
  ·rw [QR.key_mk]
   exact qB_up hM ⟨hl.knH.1, hl.knH.2.1⟩ ⟨hl.knH.2.2.1, hl.knH.2.2.2⟩ (by have := hl.wsH.1; omega) (fun x hx => .inl hx) h100 (by have := hl.xsH; simp at this ⊢; omega) (fun y hy => by
    rw [List.map_append] at hy
    rcases List.mem_append.1 hy with h | h
    ·exact .inl h
    ·rw [List.map_singleton, List.mem_singleton] at h
     rw [h]; exact .inr hxb)
end
/-- A changed search is handed back. -/
def SpP (w : World) (b N M Z : Nat) (e : Ending) (w' : World) : Prop := ∃ qr : QR, e = .returned (qA qr) ∧ QS w' qr ∧ QFr w.heap.size qr ∧ QZ qr ∧ QB M qr.key ∧ qSize qr.key ≤ Z ∧ Strm w' b N ∧ Mod (· = b) w w'
theorem SpP.fin {w wz : World} {b N N' M Z b4 base : Nat} {k n : Int} {A B : Option Addr} {c d : Nat} {ws : List Str} {xs : List QR} (hok : QOk wz base M (.mk k A c ws n B d xs)) {x0 x1 x2 x3 : Value} (hb4 : Blk wz b4 29 #[x0, x1, x2, x3]) (hlt : b4 < base) (hwb : w.heap.size ≤ b4) (hbb : b < b4) (hS : Strm wz b N') (hN : N' ≤ N) (hM : Mod (· = b) w wz) (hz : qSize (QR.mk k A c ws n B d xs).key ≤ Z) :
  SpP w b N M Z (.returned (.agg #[.int .i64 k, .slice A ws.length c, .int .i64 n, .slice B xs.length d])) ((((wz.setCell ⟨b4, 0, none⟩ (.int .i64 k)).setCell ⟨b4, 1, none⟩ (.slice A ws.length c)).setCell ⟨b4, 2, none⟩ (.int .i64 n)).setCell ⟨b4, 3, none⟩ (.slice B xs.length d)) := by
 have hst : ∀ g arr fr, wz.heap[g]? = some (.cells arr 9 fr) → ¬ g = b4 := fun g arr fr hg he => by
  subst he
  unfold Blk at hb4
  rw [hg] at hb4
  injection hb4 with h
  injection h with _ h
  exact absurd h (by decide)
 exact ⟨_, rfl, hok.qs.modF hok.fr st4_mod hst (fun g hg => by show ¬ g = b4; omega), hok.fr.up (by omega), hok.z, hok.b, hz, ((((hS.setCell (p := ⟨b4, 0, none⟩) (by show b < b4; omega) _).setCell (p := ⟨b4, 1, none⟩) (by show b < b4; omega) _).setCell (p := ⟨b4, 2, none⟩) (by show b < b4; omega) _).setCell (p := ⟨b4, 3, none⟩) (by show b < b4; omega) _).more hN, mod_up hM st4_mod hwb⟩
theorem qsize_child {k n : Int} {A B : Option Addr} {c d : Nat} {ws : List Str} {xs : List QR} {i : Nat} (hi : i < xs.length) : qSize xs[i].key < qSize (QR.mk k A c ws n B d xs).key := by
 rw [QR.key_mk, qSize]
 have := mem_sum (l := xs.map QR.key) (a := xs[i].key) (List.mem_map.2 ⟨_, List.getElem_mem hi, rfl⟩)
 omega
/-- What the loop on the way down keeps. -/
def SpC (r base M Z : Nat) (w : World) (b b4 N : Nat) (g o : Nat) (q : QR) (xs : List QR) (p : Value) (wx : World) : Prop :=
 ∃ f : Bool, p = .bool f ∧ (f = true → xs ≠ []) ∧ SpI r r base M Z wx g o q ∧ Blk wx b4 29 #[.int .i64 0, .slice none 0 0, .int .i64 0, .slice none 0 0] ∧ Strm wx b N ∧ Mod (· = b) w wx ∧ base ≤ wx.heap.size

end Go.Proofs.YtnfflgicngeekaaGreatDoor
