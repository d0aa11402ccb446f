/- Texts of the proof of DecisionTexts, put together: DlnA, DlnB, RdG, DkyP, RdH, LayClS, Nea, LawDecisionTexts, LaidD. -/
import Derived.Test.YtaidkmnbjbnciaaGreatDoorDecisionTextsZ20
import Derived.Test.YtaidkmnbjbnciaaGreatDoorDecisionTextsZ25
import Derived.Test.YtaidkmnbjbnciaaGreatDoorDecisionTextsZ28
import Derived.Test.YtaidkmnbjbnciaaGreatDoorDecisionTextsZ30
import Derived.Test.YtaidkmnbjbnciaaGreatDoorDecisionTextsZ32
import Derived.Test.YtaidkmnbjbnciaaGreatDoorDecisionTextsZ34
import Derived.Test.YtaidkmnbjbnciaaGreatDoorDecisionTextsZ35
import Derived.Test.YtaidkmnbjbnciaaGreatDoorDecisionTextsZ36
import Derived.Test.YtaidkmnbjbnciaaGreatDoorDecisionTextsZ37
import Derived.Test.YtaidkmnbjbnciaaGreatDoorDecisionTextsZ38
import Derived.Test.YtaidkmnbjbnciaaGreatDoorDecisionTextsZ40
import Derived.Ground.NamesProg
import Derived.Shelf.Strconv.Clone
import Derived.Test.YtaidkmnbjbnciaaGreatDoorProg
import Derived.Lib.ItoaNum
/- decisionLine of the program, for any words. -/
namespace Go.Proofs.YtaidkmnbjbnciaaGreatDoor
set_option linter.unusedVariables false
set_option linter.unusedSimpArgs false
open Go.RowKit

/-- The loop over the words of choices. -/
def DlRel (w : World) (gr g8 : Nat) (l : List Str) (v1 v2 : Int) (a3 a4 : Str) (se : Bool) (m : Nat) (gk : Nat) (i : Value) (wr : World) : Prop :=
 ∃ (k cap : Nat) (A : Option Addr) (cs : List ChoR) (r : List ValK), m - k = gk ∧ k ≤ m ∧ i = .int .i64 (k : Int) ∧ cs.length = k ∧ valsRd (l.take k) = some r ∧ VkR wr gr A cap cs r ∧ Blk wr g8 53 #[.int .i64 v1, .int .i64 v2, .string ⟨a3.toArray⟩, .string ⟨a4.toArray⟩, .bool se, .slice A cs.length cap] ∧ Blk wr gr 53 #[.int .i64 0, .int .i64 0, .string ⟨#[]⟩, .string ⟨#[]⟩, .bool false, .slice none 0 0] ∧ Pure w wr

set_option maxRecDepth 100000 in
set_option maxHeartbeats 16000000 in
theorem decLine_calls (w : World) (g n : Nat) (ws : List Str) (hn0 : ws.length = n) (hB : Blk w g 9 (strsV ws).toArray) (hn : n ≤ 100001) (hl : ∀ x ∈ ws, x.length ≤ 100000) (hM : MlnS w) : Calls Tryz.prog 91 #[.slice (some ⟨g, 0, none⟩) n n] w (DlPost w (decRd ws)) := by
 have HG := Lib.hid (Blk.new w 53 #[.int .i64 0, .int .i64 0, .string ⟨#[]⟩, .string ⟨#[]⟩, .bool false, .slice none 0 0])
 have hp := pure_alloc w (.cells #[.int .i64 0, .int .i64 0, .string ⟨#[]⟩, .string ⟨#[]⟩, .bool false, .slice none 0 0] 53)
 have HP := Lib.hid hp
 have hz1 : (w.alloc (.cells #[.int .i64 0, .int .i64 0, .string ⟨#[]⟩, .string ⟨#[]⟩, .bool false, .slice none 0 0] 53)).heap.size = w.heap.size + 1 := by simp
 have hgw := hB.lt
 have HR := Lib.hid (hB.modp hp)
 have HMS : Hid (∀ W, Pure w W → MlnS W) := Lib.hid (fun W h => hM.pure h)
 have HL := Lib.hid hl
 have HB0 := Lib.hid hB
 clear hp hB hM hl
 go_enter Tryz.func91, Tryz.ntmps91
 go_upto_region 1 with (fail)
 generalize (w.alloc (.cells #[.int .i64 0, .int .i64 0, .string ⟨#[]⟩, .string ⟨#[]⟩, .bool false, .slice none 0 0] 53)) = w1 at *
 generalize hgr : w.heap.size = gr at *
 have hgr2 := Nat.le_of_eq hgr
 have hgr3 := Nat.le_of_eq hgr.symm
 clear hgr
 have HN := Lib.hid hn0
 clear hn0
 go_cut [35] (fun p wx => p = .bool (badD ws) ∧ w1 = wx)
 case first =>
  by_cases h4 : n < 6
  ·have HB : Hid (badD ws = true) := Lib.hid (by unfold badD; rw [decide_eq_true (show ws.length < 6 by rw [HN.out]; exact h4)]; rfl)
   have h4i : (n : Int) < 6 := by omega
   clear h4
   go_wp2_with fail
   go_meet
   exact ⟨by rw [HB.out], rfl⟩
  ·obtain ⟨a0, a1, a2, a3, a4, a5, t, rfl⟩ := six (ws := ws) (by have := HN.out; omega)
   have hR := HR.out
   have d0 := hR.cell 0
   have d5 := hR.cell 5
   simp [strsV] at d0 d5
   have h4i : ¬ (n : Int) < 6 := by omega
   have i0 : (0 : Int) < (n : Int) := by omega
   have i5 : (5 : Int) < (n : Int) := by omega
   have j0 : 0 < n := by omega
   have j5 : 5 < n := by omega
   have HBE : Hid (badD (a0 :: a1 :: a2 :: a3 :: a4 :: a5 :: t) = (decide (a0 ≠ wDecision) || (decide (a5 ≠ wFirst) && decide (a5 ≠ wSecond)))) := Lib.hid (by unfold badD; rw [decide_eq_false (show ¬ (a0 :: a1 :: a2 :: a3 :: a4 :: a5 :: t).length < 6 by simp)]; rfl)
   clear hR
   generalize badD (a0 :: a1 :: a2 :: a3 :: a4 :: a5 :: t) = bb at *
   by_cases e0 : a0 = wDecision
   ·subst e0
    by_cases e1 : a5 = wFirst
    ·subst e1
     have HB : Hid (bb = false) := Lib.hid (by rw [HBE.out]; decide)
     unfold wDecision wFirst at *
     clear h4
     go_wp2_with fail
     go_meet
     exact ⟨by rw [HB.out], rfl⟩
    ·have f1 : (a5 == [102, 105, 114, 115, 116]) = false := by simpa [wFirst] using e1
     have f1' : (a5 != [102, 105, 114, 115, 116]) = true := by simpa [wFirst] using e1
     by_cases e2 : a5 = wSecond
     ·subst e2
      have HB : Hid (bb = false) := Lib.hid (by rw [HBE.out]; decide)
      unfold wDecision wSecond at *
      clear h4 e1
      go_wp2_with fail
      go_meet
      exact ⟨by rw [HB.out], rfl⟩
     ·have f2 : (a5 == [115, 101, 99, 111, 110, 100]) = false := by simpa [wSecond] using e2
      have f2' : (a5 != [115, 101, 99, 111, 110, 100]) = true := by simpa [wSecond] using e2
      have HB : Hid (bb = true) := Lib.hid (by rw [HBE.out]; simp [e1, e2])
      unfold wDecision at *
      clear h4 e1 e2
      go_wp2_with fail
      go_meet
      exact ⟨by rw [HB.out], rfl⟩
   ·have f0 : (a0 == [100, 101, 99, 105, 115, 105, 111, 110]) = false := by simpa [wDecision] using e0
    have f0' : (a0 != [100, 101, 99, 105, 115, 105, 111, 110]) = true := by simpa [wDecision] using e0
    have HB : Hid (bb = true) := Lib.hid (by rw [HBE.out]; simp [e0])
    clear h4 e0
    go_wp2_with fail
    go_meet
    exact ⟨by rw [HB.out], rfl⟩
 case rest =>
  obtain ⟨rfl, rfl⟩ := hcut
  cases hbad : badD ws
  rotate_left
  ·have HNO := Lib.hid (badD_none hbad)
   have hG := HG.out
   have z0 := hG.cell 0; have zf0 := hG.frozen 0; have z1 := hG.cell 1; have zf1 := hG.frozen 1; have z2 := hG.cell 2; have zf2 := hG.frozen 2; have z3 := hG.cell 3; have zf3 := hG.frozen 3; have z4 := hG.cell 4; have zf4 := hG.frozen 4; have z5 := hG.cell 5; have zf5 := hG.frozen 5; simp at z0 z1 z2 z3 z4 z5
   clear hG hbad
   go_wp2_with fail
   have hGE := (((((HG.out.set 0 (.int .i64 0)).set 1 (.int .i64 0)).set 2 (.string ⟨#[]⟩)).set 3 (.string ⟨#[]⟩)).set 4 (.bool false)).set 5 (.slice none 0 0)
   have u0 := hGE.cell 0; have u1 := hGE.cell 1; have u2 := hGE.cell 2; have u3 := hGE.cell 3; have u4 := hGE.cell 4; have u5 := hGE.cell 5; simp at u0 u1 u2 u3 u4 u5
   try simp only [Exit.inBlock, Exit.then]
   refine bodyPost_ret (v := .tuple #[.agg #[.int .i64 0, .int .i64 0, .string ⟨#[]⟩, .string ⟨#[]⟩, .bool false, .slice none 0 0], .bool false]) (by simp [results, Tryz.results91, go_sem, u0, u1, u2, u3, u4, u5]) rfl ?_
   rw [HNO.out]
   exact ⟨⟨0, 0, [], [], false, none, 0, []⟩, rfl, vals_nil _, fun q hq => (by cases hq), (((((HP.out.setCell (p := ⟨gr, 0, none⟩) (.inr (by show w.heap.size ≤ gr; omega)) _).setCell (p := ⟨gr, 1, none⟩) (.inr (by show w.heap.size ≤ gr; omega)) _).setCell (p := ⟨gr, 2, none⟩) (.inr (by show w.heap.size ≤ gr; omega)) _).setCell (p := ⟨gr, 3, none⟩) (.inr (by show w.heap.size ≤ gr; omega)) _).setCell (p := ⟨gr, 4, none⟩) (.inr (by show w.heap.size ≤ gr; omega)) _).setCell (p := ⟨gr, 5, none⟩) (.inr (by show w.heap.size ≤ gr; omega)) _⟩
  obtain ⟨h6, hdec⟩ := badD_some hbad
  obtain ⟨a0, a1, a2, a3, a4, a5, t, rfl⟩ := six h6
  obtain ⟨se, hse⟩ : ∃ se, decide (a5 = wSecond) = se := ⟨_, rfl⟩
  have HD : Hid (decRd (a0 :: a1 :: a2 :: a3 :: a4 :: a5 :: t) = (match numQ 9 a1 with | none => none | some a => match numQ 9 a2 with | none => none | some b => (valsRd t).map fun v => (a, b, a3, a4, se, v))) := Lib.hid (by rw [hdec, ← hse]; rfl)
  have HSE : Hid ((a5 == [115, 101, 99, 111, 110, 100]) = se) := Lib.hid (by rw [← hse]; exact Bool.beq_eq_decide_eq a5 _)
  obtain ⟨n6, hn6⟩ : ∃ n6, t.length = n6 := ⟨_, rfl⟩
  have hn7 : n = n6 + 6 := by have := HN.out; simp at this; omega
  subst hn7
  have HT6 := Lib.hid hn6
  have HN1 := Lib.hid (number_calls w1 a1 9 (by omega) (by have := HL.out a1 (by simp); omega))
  have HN2 := Lib.hid (fun W => number_calls W a2 9 (by omega) (by have := HL.out a2 (by simp); omega))
  have hR := HR.out
  have d1 := hR.cell 1
  have d2 := hR.cell 2
  simp [strsV] at d1 d2
  clear hR hbad hdec hse h6 hn6
  generalize decRd (a0 :: a1 :: a2 :: a3 :: a4 :: a5 :: t) = o at *
  generalize numQ 9 a1 = o1 at *
  generalize numQ 9 a2 = o2 at *
  have i1 : (1 : Int) < (n6 : Int) + 6 := by omega
  have i2 : (2 : Int) < (n6 : Int) + 6 := by omega
  have i3 : (3 : Int) < (n6 : Int) + 6 := by omega
  have i4 : (4 : Int) < (n6 : Int) + 6 := by omega
  have i5 : (5 : Int) < (n6 : Int) + 6 := by omega
  go_wp2_with fail
  refine HN1.out.mono ?_
  rintro e w2 ⟨v1, rfl, hv1, hb1a, hb1b, hm2⟩
  have HV1 := Lib.hid hv1
  have HM2 := Lib.hid hm2
  have d2 := (HR.out.modp hm2).cell 2
  simp [strsV] at d2
  have HN3 := Lib.hid (HN2.out w2)
  clear hv1 hm2 HN1 HN2 d1
  obtain ⟨s1, hs1⟩ : ∃ s1, o1.isSome = s1 := ⟨_, rfl⟩
  have HS1 := Lib.hid hs1
  rw [hs1]
  clear hs1
  go_wp2_with fail
  refine HN3.out.mono ?_
  rintro e w3 ⟨v2, rfl, hv2, hb2a, hb2b, hm3⟩
  have HV2 := Lib.hid hv2
  obtain ⟨s2, hs2⟩ : ∃ s2, o2.isSome = s2 := ⟨_, rfl⟩
  have HS2 := Lib.hid hs2
  rw [hs2]
  have HR3 := Lib.hid ((HR.out.modp HM2.out).modp hm3)
  have HG3 := Lib.hid ((HG.out.modp HM2.out).modp hm3)
  have HP3 := Lib.hid ((HP.out.trans HM2.out).trans hm3)
  have hz3 := HP3.out.size
  have hgrw := HG3.out.lt
  have hgw3 := HR3.out.lt
  clear hv2 hm3 HN3 d2 hs2 HR HG HP HM2
  go_upto_region 5 with (fail)
  have HGs := Lib.hid (show ∀ (D : Nat → Bool) (zzi : Nat) (zq zq' : World), (fun _ zq => (fun Z => TwoE Z g gr 9 (strsV (a0 :: a1 :: a2 :: a3 :: a4 :: a5 :: t)).toArray 53 #[.int .i64 0, .int .i64 0, .string ⟨#[]⟩, .string ⟨#[]⟩, .bool false, .slice none 0 0]) zq) D zq → Mod (fun _ => False) zq zq' → (fun _ zq => (fun Z => TwoE Z g gr 9 (strsV (a0 :: a1 :: a2 :: a3 :: a4 :: a5 :: t)).toArray 53 #[.int .i64 0, .int .i64 0, .string ⟨#[]⟩, .string ⟨#[]⟩, .bool false, .slice none 0 0]) zq) (upd D zzi true) zq' from by intro D zzi zq zq' h hm; (exact h.modp hm))
  refine wp_region_inv (by kernel_rfl) (by kernel_rfl) (InvF (R := Mod (fun _ => False)) [.is (.int .i64 v1),
    .is (.int .i64 v2),
    .is (.slice (some ⟨g, 0, none⟩) (n6 + 6) (n6 + 6)),
    .is (.pointer (some ⟨g, 3, none⟩)),
    .is (.string ⟨a3.toArray⟩),
    .is (.slice (some ⟨g, 0, none⟩) (n6 + 6) (n6 + 6)),
    .is (.pointer (some ⟨g, 4, none⟩)),
    .is (.string ⟨a4.toArray⟩),
    .is (.slice (some ⟨g, 0, none⟩) (n6 + 6) (n6 + 6)),
    .is (.pointer (some ⟨g, 5, none⟩)),
    .is (.string ⟨a5.toArray⟩),
    .is (.bool se),
    .is (.agg #[.int .i64 v1, .int .i64 v2, .string ⟨a3.toArray⟩, .string ⟨a4.toArray⟩, .bool se, .slice none 0 0]),
    ⟨fun zv zw => ∃ (g_13 : Nat), zv = .pointer (some ⟨g_13, 0, none⟩) ∧ w3.heap.size ≤ g_13 ∧ Blk zw g_13 53 #[.int .i64 0, .int .i64 0, .string ⟨#[]⟩, .string ⟨#[]⟩, .bool false, .slice none 0 0], (by rintro zv zw zx ⟨g_13, rfl, c0, q0⟩ hm; exact ⟨g_13, rfl, c0, (q0.modp hm)⟩), none, some 14⟩,
    ⟨fun zv zw => ∃ (g_14 : Nat), zv = .pointer (some ⟨g_14, 0, none⟩) ∧ w3.heap.size ≤ g_14 ∧ Blk zw g_14 53 #[.int .i64 v1, .int .i64 v2, .string ⟨a3.toArray⟩, .string ⟨a4.toArray⟩, .bool se, .slice none 0 0], (by rintro zv zw zx ⟨g_14, rfl, c0, q0⟩ hm; exact ⟨g_14, rfl, c0, (q0.modp hm)⟩), some 13, none⟩]
    (PB w3 (fun _ => False) w3.heap.size (fun _ zq => (fun Z => TwoE Z g gr 9 (strsV (a0 :: a1 :: a2 :: a3 :: a4 :: a5 :: t)).toArray 53 #[.int .i64 0, .int .i64 0, .string ⟨#[]⟩, .string ⟨#[]⟩, .bool false, .slice none 0 0]) zq))) (InvF.start (PB.start (Mod.refl _ _) (Nat.le_refl _) (⟨HR3.out.drew, HG3.out.drew⟩))) ?_ ?_
  ·refine .cons ?_ (.cons ?_ (.cons ?_ (.cons ?_ (.cons ?_ (.cons ?_ (.cons ?_ (.cons ?_ (.cons ?_ (.cons ?_ (.cons ?_ (.cons ?_ (.cons ?_ (.cons ?_ (.cons ?_ .nil))))))))))))))
   ·intro D V zw1 a hR hI K hK
    obtain ⟨hM1, hB1, hG1⟩ := hI.1
    have ze4 := hR.frame.other (t := 4) (by kernel_rfl) rfl
    rw [if_pos (by rfl)]
    go_simp
    exact hK (.int .i64 v1) _ (hI.next hR (by kernel_rfl) (Mod.refl _ _) (PB.quiet hI.1 (Mod.refl _ _) (HGs.out D 0 zw1 zw1 (hI.1).g (Mod.refl _ _))) (upd_same V 0 _))
   ·intro D V zw1 a hR hI K hK
    obtain ⟨hM1, hB1, hG1⟩ := hI.1
    have ze6 := hR.frame.other (t := 6) (by kernel_rfl) rfl
    rw [if_pos (by rfl)]
    go_simp
    exact hK (.int .i64 v2) _ (hI.next hR (by kernel_rfl) (Mod.refl _ _) (PB.quiet hI.1 (Mod.refl _ _) (HGs.out D 1 zw1 zw1 (hI.1).g (Mod.refl _ _))) (upd_same V 1 _))
   ·intro D V zw1 a hR hI K hK
    obtain ⟨hM1, hB1, hG1⟩ := hI.1
    have ze0 := hR.frame.other (t := 0) (by kernel_rfl) rfl
    rw [if_pos (by rfl)]
    go_simp
    exact hK (.slice (some ⟨g, 0, none⟩) (n6 + 6) (n6 + 6)) _ (hI.next hR (by kernel_rfl) (Mod.refl _ _) (PB.quiet hI.1 (Mod.refl _ _) (HGs.out D 2 zw1 zw1 (hI.1).g (Mod.refl _ _))) (upd_same V 2 _))
   ·intro D V zw1 a hR hI K hK
    obtain ⟨hM1, hB1, hG1⟩ := hI.1
    have zd2 := hR.pred 2 (by kernel_rfl)
    have zF2 : V 2 = .slice (some ⟨g, 0, none⟩) (n6 + 6) (n6 + 6) := hI.2 2 zd2 rfl
    have zf2 := zF2; clear zF2
    have ze53 := hR.frame.done (t := 53) (j := 2) (by kernel_rfl) hR.ok zd2
    rw [if_pos (by rfl)]
    go_simp
    exact hK (.pointer (some ⟨g, 3, none⟩)) _ (hI.next hR (by kernel_rfl) (Mod.refl _ _) (PB.quiet hI.1 (Mod.refl _ _) (HGs.out D 3 zw1 zw1 (hI.1).g (Mod.refl _ _))) (upd_same V 3 _))
   ·intro D V zw1 a hR hI K hK
    obtain ⟨hM1, hB1, hG1⟩ := hI.1
    have zd3 := hR.pred 3 (by kernel_rfl)
    have zF3 : V 3 = .pointer (some ⟨g, 3, none⟩) := hI.2 3 zd3 rfl
    have zf3 := zF3; clear zF3
    have ze54 := hR.frame.done (t := 54) (j := 3) (by kernel_rfl) hR.ok zd3
    have zx0 := hG1.1.cell 3; simp [strsV] at zx0
    rw [if_pos (by rfl)]
    go_simp
    exact hK (.string ⟨a3.toArray⟩) _ (hI.next hR (by kernel_rfl) (Mod.refl _ _) (PB.quiet hI.1 (Mod.refl _ _) (HGs.out D 4 zw1 zw1 (hI.1).g (Mod.refl _ _))) (upd_same V 4 _))
   ·intro D V zw1 a hR hI K hK
    obtain ⟨hM1, hB1, hG1⟩ := hI.1
    have ze0 := hR.frame.other (t := 0) (by kernel_rfl) rfl
    rw [if_pos (by rfl)]
    go_simp
    exact hK (.slice (some ⟨g, 0, none⟩) (n6 + 6) (n6 + 6)) _ (hI.next hR (by kernel_rfl) (Mod.refl _ _) (PB.quiet hI.1 (Mod.refl _ _) (HGs.out D 5 zw1 zw1 (hI.1).g (Mod.refl _ _))) (upd_same V 5 _))
   ·intro D V zw1 a hR hI K hK
    obtain ⟨hM1, hB1, hG1⟩ := hI.1
    have zd5 := hR.pred 5 (by kernel_rfl)
    have zF5 : V 5 = .slice (some ⟨g, 0, none⟩) (n6 + 6) (n6 + 6) := hI.2 5 zd5 rfl
    have zf5 := zF5; clear zF5
    have ze56 := hR.frame.done (t := 56) (j := 5) (by kernel_rfl) hR.ok zd5
    rw [if_pos (by rfl)]
    go_simp
    exact hK (.pointer (some ⟨g, 4, none⟩)) _ (hI.next hR (by kernel_rfl) (Mod.refl _ _) (PB.quiet hI.1 (Mod.refl _ _) (HGs.out D 6 zw1 zw1 (hI.1).g (Mod.refl _ _))) (upd_same V 6 _))
   ·intro D V zw1 a hR hI K hK
    obtain ⟨hM1, hB1, hG1⟩ := hI.1
    have zd6 := hR.pred 6 (by kernel_rfl)
    have zF6 : V 6 = .pointer (some ⟨g, 4, none⟩) := hI.2 6 zd6 rfl
    have zf6 := zF6; clear zF6
    have ze57 := hR.frame.done (t := 57) (j := 6) (by kernel_rfl) hR.ok zd6
    have zx0 := hG1.1.cell 4; simp [strsV] at zx0
    rw [if_pos (by rfl)]
    go_simp
    exact hK (.string ⟨a4.toArray⟩) _ (hI.next hR (by kernel_rfl) (Mod.refl _ _) (PB.quiet hI.1 (Mod.refl _ _) (HGs.out D 7 zw1 zw1 (hI.1).g (Mod.refl _ _))) (upd_same V 7 _))
   ·intro D V zw1 a hR hI K hK
    obtain ⟨hM1, hB1, hG1⟩ := hI.1
    have ze0 := hR.frame.other (t := 0) (by kernel_rfl) rfl
    rw [if_pos (by rfl)]
    go_simp
    exact hK (.slice (some ⟨g, 0, none⟩) (n6 + 6) (n6 + 6)) _ (hI.next hR (by kernel_rfl) (Mod.refl _ _) (PB.quiet hI.1 (Mod.refl _ _) (HGs.out D 8 zw1 zw1 (hI.1).g (Mod.refl _ _))) (upd_same V 8 _))
   ·intro D V zw1 a hR hI K hK
    obtain ⟨hM1, hB1, hG1⟩ := hI.1
    have zd8 := hR.pred 8 (by kernel_rfl)
    have zF8 : V 8 = .slice (some ⟨g, 0, none⟩) (n6 + 6) (n6 + 6) := hI.2 8 zd8 rfl
    have zf8 := zF8; clear zF8
    have ze59 := hR.frame.done (t := 59) (j := 8) (by kernel_rfl) hR.ok zd8
    rw [if_pos (by rfl)]
    go_simp
    exact hK (.pointer (some ⟨g, 5, none⟩)) _ (hI.next hR (by kernel_rfl) (Mod.refl _ _) (PB.quiet hI.1 (Mod.refl _ _) (HGs.out D 9 zw1 zw1 (hI.1).g (Mod.refl _ _))) (upd_same V 9 _))
   ·intro D V zw1 a hR hI K hK
    obtain ⟨hM1, hB1, hG1⟩ := hI.1
    have zd9 := hR.pred 9 (by kernel_rfl)
    have zF9 : V 9 = .pointer (some ⟨g, 5, none⟩) := hI.2 9 zd9 rfl
    have zf9 := zF9; clear zF9
    have ze60 := hR.frame.done (t := 60) (j := 9) (by kernel_rfl) hR.ok zd9
    have zx0 := hG1.1.cell 5; simp [strsV] at zx0
    rw [if_pos (by rfl)]
    go_simp
    exact hK (.string ⟨a5.toArray⟩) _ (hI.next hR (by kernel_rfl) (Mod.refl _ _) (PB.quiet hI.1 (Mod.refl _ _) (HGs.out D 10 zw1 zw1 (hI.1).g (Mod.refl _ _))) (upd_same V 10 _))
   ·intro D V zw1 a hR hI K hK
    obtain ⟨hM1, hB1, hG1⟩ := hI.1
    have zd10 := hR.pred 10 (by kernel_rfl)
    have zF10 : V 10 = .string ⟨a5.toArray⟩ := hI.2 10 zd10 rfl
    have zf10 := zF10; clear zF10
    have ze61 := hR.frame.done (t := 61) (j := 10) (by kernel_rfl) hR.ok zd10
    have zse := HSE.out
    rw [if_pos (by rfl)]
    go_simp
    exact hK (.bool se) _ (hI.next hR (by kernel_rfl) (Mod.refl _ _) (PB.quiet hI.1 (Mod.refl _ _) (HGs.out D 11 zw1 zw1 (hI.1).g (Mod.refl _ _))) (upd_same V 11 _))
   ·intro D V zw1 a hR hI K hK
    obtain ⟨hM1, hB1, hG1⟩ := hI.1
    have zd0 := hR.pred 0 (by kernel_rfl)
    have zF0 : V 0 = .int .i64 v1 := hI.2 0 zd0 rfl
    have zf0 := zF0; clear zF0
    have zd1 := hR.pred 1 (by kernel_rfl)
    have zF1 : V 1 = .int .i64 v2 := hI.2 1 zd1 rfl
    have zf1 := zF1; clear zF1
    have zd4 := hR.pred 4 (by kernel_rfl)
    have zF4 : V 4 = .string ⟨a3.toArray⟩ := hI.2 4 zd4 rfl
    have zf4 := zF4; clear zF4
    have zd7 := hR.pred 7 (by kernel_rfl)
    have zF7 : V 7 = .string ⟨a4.toArray⟩ := hI.2 7 zd7 rfl
    have zf7 := zF7; clear zF7
    have zd11 := hR.pred 11 (by kernel_rfl)
    have zF11 : V 11 = .bool se := hI.2 11 zd11 rfl
    have zf11 := zF11; clear zF11
    have ze51 := hR.frame.done (t := 51) (j := 0) (by kernel_rfl) hR.ok zd0
    have ze52 := hR.frame.done (t := 52) (j := 1) (by kernel_rfl) hR.ok zd1
    have ze55 := hR.frame.done (t := 55) (j := 4) (by kernel_rfl) hR.ok zd4
    have ze58 := hR.frame.done (t := 58) (j := 7) (by kernel_rfl) hR.ok zd7
    have ze62 := hR.frame.done (t := 62) (j := 11) (by kernel_rfl) hR.ok zd11
    rw [if_pos (by rfl)]
    go_simp
    exact hK (_) _ (hI.next hR (by kernel_rfl) (Mod.refl _ _) (PB.quiet hI.1 (Mod.refl _ _) (HGs.out D 12 zw1 zw1 (hI.1).g (Mod.refl _ _))) (upd_same V 12 _))
   ·intro D V zw1 a hR hI K hK
    obtain ⟨hM1, hB1, hG1⟩ := hI.1
    rw [if_pos (by rfl)]
    go_simp
    exact hK (_) _ (hI.next hR (by kernel_rfl) ((Mod.refl _ _).alloc _) (PB.quiet hI.1 (pure_alloc _ _) (HGs.out D 13 _ _ (hI.1).g ((Mod.refl _ _).alloc _))) (⟨_, upd_same V 13 _, (by omega), (Blk.new _ _ _)⟩))
   ·intro D V zw1 a hR hI K hK
    obtain ⟨hM1, hB1, hG1⟩ := hI.1
    have zd13 := hR.pred 13 (by kernel_rfl)
    have zF13 : ∃ (g_13 : Nat), V 13 = .pointer (some ⟨g_13, 0, none⟩) ∧ w3.heap.size ≤ g_13 ∧ Blk zw1 g_13 53 #[.int .i64 0, .int .i64 0, .string ⟨#[]⟩, .string ⟨#[]⟩, .bool false, .slice none 0 0] := hI.2 13 zd13 (by show (!D 14) = true; rw [hR.not]; rfl)
    obtain ⟨g_13, zf13, c13_0, b13_0⟩ := zF13
    have zd12 := hR.pred 12 (by kernel_rfl)
    have zF12 : V 12 = .agg #[.int .i64 v1, .int .i64 v2, .string ⟨a3.toArray⟩, .string ⟨a4.toArray⟩, .bool se, .slice none 0 0] := hI.2 12 zd12 rfl
    have zf12 := zF12; clear zF12
    have ze8 := hR.frame.done (t := 8) (j := 13) (by kernel_rfl) hR.ok zd13
    have ze63 := hR.frame.done (t := 63) (j := 12) (by kernel_rfl) hR.ok zd12
    rw [if_pos (by rfl)]
    have zx0 := b13_0.cell 0; have zy0 := b13_0.frozen 0
    have zx1 := b13_0.cell 1; have zy1 := b13_0.frozen 1
    have zx2 := b13_0.cell 2; have zy2 := b13_0.frozen 2
    have zx3 := b13_0.cell 3; have zy3 := b13_0.frozen 3
    have zx4 := b13_0.cell 4; have zy4 := b13_0.frozen 4
    have zx5 := b13_0.cell 5; have zy5 := b13_0.frozen 5
    simp at zx0 zy0 zx1 zy1 zx2 zy2 zx3 zy3 zx4 zy4 zx5 zy5
    go_simp
    refine hK undef _ (InvF.last ?_ ?_ ?_)
    ·exact ⟨((((((hM1.setCell (.inr (by show _ ≤ g_13; omega)) _).setCell (.inr (by show _ ≤ g_13; omega)) _).setCell (.inr (by show _ ≤ g_13; omega)) _).setCell (.inr (by show _ ≤ g_13; omega)) _).setCell (.inr (by show _ ≤ g_13; omega)) _).setCell (.inr (by show _ ≤ g_13; omega)) _), (by simpa using hB1), ((((((hG1.far (by show g ≠ g_13; omega) (by show gr ≠ g_13; omega) _).far (by show g ≠ g_13; omega) (by show gr ≠ g_13; omega) _).far (by show g ≠ g_13; omega) (by show gr ≠ g_13; omega) _).far (by show g ≠ g_13; omega) (by show gr ≠ g_13; omega) _).far (by show g ≠ g_13; omega) (by show gr ≠ g_13; omega) _).far (by show g ≠ g_13; omega) (by show gr ≠ g_13; omega) _)⟩
    ·exact ⟨g_13, (upd_ne V (i := 14) (k := 13) undef (by omega)).trans zf13, (by first | assumption | omega), (by have hset := ((((((b13_0.set 0 (.int .i64 v1)).set 1 (.int .i64 v2)).set 2 (.string ⟨a3.toArray⟩)).set 3 (.string ⟨a4.toArray⟩)).set 4 (.bool se)).set 5 (.slice none 0 0)); simpa using hset)⟩
    ·intro k hk hDk hlv
     have hkl := hR.lt k hDk
     have hv := hI.2 k hDk (liveB_of hlv)
     match k, hk, hDk, hlv, hkl, hv with
     | 0, _, _, _, _, hv => exact hv
     | 1, _, _, _, _, hv => exact hv
     | 2, _, _, _, _, hv => exact hv
     | 3, _, _, _, _, hv => exact hv
     | 4, _, _, _, _, hv => exact hv
     | 5, _, _, _, _, hv => exact hv
     | 6, _, _, _, _, hv => exact hv
     | 7, _, _, _, _, hv => exact hv
     | 8, _, _, _, _, hv => exact hv
     | 9, _, _, _, _, hv => exact hv
     | 10, _, _, _, _, hv => exact hv
     | 11, _, _, _, _, hv => exact hv
     | 12, _, _, _, _, hv => exact hv
     | 13, _, _, hlv, _, _ => exact absurd hlv (by show ¬ (!upd D 14 true 14) = true; rw [upd_same]; decide)
     | 14, hk, _, _, _, _ => exact absurd rfl hk
     | k + 15, _, _, _, hkl, _ => exact absurd hkl (by simp)
  ·intro D V w4 hD hI
   obtain ⟨hM1, hB1, hG1⟩ := hI.1
   have hMx := hM1
   clear hM1
   have hBx := hB1
   clear hB1
   have hGx := hG1
   clear hG1
   have zF0 : V 0 = .int .i64 v1 := hI.2 0 (hD 0 (by decide)) rfl
   have zf0 := zF0; clear zF0
   have zF1 : V 1 = .int .i64 v2 := hI.2 1 (hD 1 (by decide)) rfl
   have zf1 := zF1; clear zF1
   have zF2 : V 2 = .slice (some ⟨g, 0, none⟩) (n6 + 6) (n6 + 6) := hI.2 2 (hD 2 (by decide)) rfl
   have zf2 := zF2; clear zF2
   have zF3 : V 3 = .pointer (some ⟨g, 3, none⟩) := hI.2 3 (hD 3 (by decide)) rfl
   have zf3 := zF3; clear zF3
   have zF4 : V 4 = .string ⟨a3.toArray⟩ := hI.2 4 (hD 4 (by decide)) rfl
   have zf4 := zF4; clear zF4
   have zF5 : V 5 = .slice (some ⟨g, 0, none⟩) (n6 + 6) (n6 + 6) := hI.2 5 (hD 5 (by decide)) rfl
   have zf5 := zF5; clear zF5
   have zF6 : V 6 = .pointer (some ⟨g, 4, none⟩) := hI.2 6 (hD 6 (by decide)) rfl
   have zf6 := zF6; clear zF6
   have zF7 : V 7 = .string ⟨a4.toArray⟩ := hI.2 7 (hD 7 (by decide)) rfl
   have zf7 := zF7; clear zF7
   have zF8 : V 8 = .slice (some ⟨g, 0, none⟩) (n6 + 6) (n6 + 6) := hI.2 8 (hD 8 (by decide)) rfl
   have zf8 := zF8; clear zF8
   have zF9 : V 9 = .pointer (some ⟨g, 5, none⟩) := hI.2 9 (hD 9 (by decide)) rfl
   have zf9 := zF9; clear zF9
   have zF10 : V 10 = .string ⟨a5.toArray⟩ := hI.2 10 (hD 10 (by decide)) rfl
   have zf10 := zF10; clear zF10
   have zF11 : V 11 = .bool se := hI.2 11 (hD 11 (by decide)) rfl
   have zf11 := zF11; clear zF11
   have zF12 : V 12 = .agg #[.int .i64 v1, .int .i64 v2, .string ⟨a3.toArray⟩, .string ⟨a4.toArray⟩, .bool se, .slice none 0 0] := hI.2 12 (hD 12 (by decide)) rfl
   have zf12 := zF12; clear zF12
   have zF14 : ∃ (g_14 : Nat), V 13 = .pointer (some ⟨g_14, 0, none⟩) ∧ w3.heap.size ≤ g_14 ∧ Blk w4 g_14 53 #[.int .i64 v1, .int .i64 v2, .string ⟨a3.toArray⟩, .string ⟨a4.toArray⟩, .bool se, .slice none 0 0] := hI.2 14 (hD 14 (by decide)) rfl
   obtain ⟨g_14, zf14, c14_0, b14_0⟩ := zF14
   clear hI hD HGs
   simp only [frAll, Act.put, List.setIfInBounds_toArray, List.set_cons_zero, List.set_cons_succ, Nat.zero_add, Nat.reduceAdd, zf0, zf1, zf2, zf3, zf4, zf5, zf6, zf7, zf8, zf9, zf10, zf11, zf12, zf14]
   clear zf0 zf1 zf2 zf3 zf4 zf5 zf6 zf7 zf8 zf9 zf10 zf11 zf12 zf14
   clear V D
   have HX4 := Lib.hid b14_0
   have HR4 := Lib.hid hGx.1
   have HG4 := Lib.hid hGx.2
   have HP4 := Lib.hid (HP3.out.trans hMx)
   have hg8 := c14_0
   clear b14_0 c14_0 hGx hMx hBx HR3 HG3 HP3
   try clear b13_0 c13_0
   generalize g_14 = g8 at *
   have hz4 := HP4.out.size
   have hg8w := HX4.out.lt
   have j6 : 6 ≤ n6 + 6 := by omega
   go_upto_region 6 with (fail)
   go_cut [65, 66, 67] (fun p q i wx => ∃ A', p = .slice A' n6 n6 ∧ (0 < n6 → A' = some ⟨g, 6, none⟩) ∧ q = .int .i64 (n6 : Int) ∧ i = .int .i64 0 ∧ w4 = wx)
   case first =>
    by_cases hz : n6 = 0
    ·subst hz
     go_wp2_with fail
     go_meet
     exact ⟨_, rfl, fun h => absurd h (by omega), rfl, rfl, rfl⟩
    ·go_wp2_with fail
     go_meet
     exact ⟨_, rfl, fun h => rfl, rfl, rfl, rfl⟩
   case rest =>
    obtain ⟨A6, rfl, hA6, rfl, rfl, rfl⟩ := hcut
    have HA6 := Lib.hid hA6
    have HTL : Hid (∀ x ∈ t, x.length ≤ 100000) := Lib.hid (fun x hx => HL.out x (by simp [hx]))
    have hgne : gr ≠ g8 := by omega
    have hwg8 : w.heap.size ≤ g8 := by omega
    clear hA6 i1 i2 i3 i4 i5 HL HR4 HSE HN
    go_wp2_with fail
    go_loopg [67] n6 (fun gk i wr => DlRel w gr g8 t v1 v2 a3 a4 se n6 gk i wr)
    case atStart => exact ⟨0, 0, none, [], [], by omega, by omega, rfl, rfl, rfl, ⟨World.ownsRow_nil _ _ _ _, fun x h => absurd h (by simp), rfl⟩, HX4.out, HG4.out, HP4.out⟩
    case round =>
     clear HX4 HG4 HP4
     obtain ⟨k, cap, A, cs, r, rfl, hk, rfl, hck, hvr, hVk, hX, hG, hm⟩ := hrel
     have HCK := Lib.hid hck
     have HVK := Lib.hid hVk
     have HXX := Lib.hid hX
     have HGG := Lib.hid hG
     have HMM := Lib.hid hm
     rw [hck] at hX
     clear hck hVk hG
     by_cases hlt : k < n6
     ·have hkt : k < t.length := by have := HT6.out; omega
      obtain rfl := HA6.out (by omega)
      have hq := (HB0.out.modp hm).row0.cell (six_get (a0 := a0) (a1 := a1) (a2 := a2) (a3 := a3) (a4 := a4) (a5 := a5) hkt)
      rw [Nat.zero_add] at hq
      have HVN := Lib.hid (fun h => valsRd_fail (List.getElem_mem hkt) h)
      have HVS := Lib.hid (fun c h => valsRd_step hkt hvr (c := c) h)
      have hsl := HTL.out _ (List.getElem_mem hkt)
      have HCT := Lib.hid (cutE_calls wr t[k] (HMS.out _ hm) hsl)
      generalize t[k] = s at *
      clear hX hm hvr
      obtain ⟨F, hF⟩ : ∃ F, CutF s = F := ⟨_, rfl⟩
      obtain ⟨R, hR⟩ : ∃ R, CutR s = R := ⟨_, rfl⟩
      obtain ⟨I, hI⟩ : ∃ I, CutI s = I := ⟨_, rfl⟩
      have HV0 : Hid (I = false → valRd s = none) := Lib.hid (fun h => valRd_no (by rw [hI]; exact h))
      have HVY : Hid (I = true → valRd s = if F = [] ∨ [] ∈ spl 44 R then none else some (F, spl 44 R)) := Lib.hid (fun h => by rw [← hF, ← hR]; exact valRd_yes (by rw [hI]; exact h))
      have hRl : R.length ≤ 100000 := by rw [← hR]; have := cutR_len s; omega
      rw [hF, hR, hI] at HCT
      clear hF hR hI
      go_wp2_with fail
      refine HCT.out.mono ?_
      rintro e wA ⟨rfl, hmA⟩
      have HMA := Lib.hid (HMM.out.trans hmA)
      have HSP := Lib.hid (split_calls wA R [44] (HMS.out _ HMA.out) (by omega) (by decide))
      rw [split_byte] at HSP
      have hspl := spl_count 44 R
      obtain ⟨sp, hsp⟩ : ∃ sp, spl 44 R = sp := ⟨_, rfl⟩
      rw [hsp] at HSP HVY hspl
      have HVK2 := Lib.hid (HVK.out.pure hmA)
      have HXX2 := Lib.hid (HXX.out.modp hmA)
      have HGG2 := Lib.hid (HGG.out.modp hmA)
      clear hq HCT hmA hsp HVK HXX HGG HMM
      go_wp2_with fail
      refine HSP.out.mono ?_
      rintro e wB ⟨rfl, rfl⟩
      have hpa := pure_alloc wA (.cells (strsV sp).toArray 9)
      have HBS := Lib.hid (Blk.new wA 9 (strsV sp).toArray)
      have HVK3 := Lib.hid (HVK2.out.pure hpa)
      have HXX3 := Lib.hid (HXX2.out.modp hpa)
      have HGG3 := Lib.hid (HGG2.out.modp hpa)
      have HMM3 := Lib.hid (HMA.out.trans hpa)
      clear hpa HVK2 HXX2 HGG2 HMA HSP
      generalize (wA.alloc (.cells (strsV sp).toArray 9)) = wB at *
      generalize wA.heap.size = gS at *
      go_upto_region 11 with (fail)
      have hpb := pure_alloc wB (.cells #[.string ⟨F.toArray⟩, .slice (some ⟨gS, 0, none⟩) sp.length sp.length] 134)
      have HCC := Lib.hid (Blk.new wB 134 #[.string ⟨F.toArray⟩, .slice (some ⟨gS, 0, none⟩) sp.length sp.length])
      have HBS4 := Lib.hid (HBS.out.modp hpb)
      have HVK4 := Lib.hid (HVK3.out.pure hpb)
      have HXX4 := Lib.hid (HXX3.out.modp hpb)
      have HGG4 := Lib.hid (HGG3.out.modp hpb)
      have HMM4 := Lib.hid (HMM3.out.trans hpb)
      clear hpb HVK3 HXX3 HGG3 HMM3 HBS
      generalize (wB.alloc (.cells #[.string ⟨F.toArray⟩, .slice (some ⟨gS, 0, none⟩) sp.length sp.length] 134)) = wD at *
      generalize wB.heap.size = gC at *
      have HSL : Hid (Sl wD 9 1 (.slice (some ⟨gS, 0, none⟩) sp.length sp.length) (strsV sp)) := Lib.hid ⟨_, _, _, rfl, Nat.le_refl _, by omega, by simp [strsV], fun _ => ⟨gS, 0, rfl, HBS4.out.row0⟩⟩
      go_cut [91] (fun p wx => ∃ fl : Bool, p = .bool fl ∧ Pure wD wx ∧ (fl = true → valsRd t = none) ∧ (fl = false → valsRd (t.take (k + 1)) = some (r ++ [(F, sp)])))
      case first =>
       cases I
       ·have HNO := Lib.hid (HVN.out (HV0.out rfl))
        clear HVN HV0 HVY HVS
        go_wp2_with fail
        go_meet
        exact ⟨true, rfl, Mod.refl _ _, fun _ => HNO.out, fun h => by cases h⟩
       by_cases hF0 : F = []
       ·subst hF0
        have HNO := Lib.hid (HVN.out (by rw [HVY.out rfl, if_pos (.inl rfl)]))
        clear HVN HV0 HVY HVS
        go_wp2_with fail
        go_meet
        exact ⟨true, rfl, Mod.refl _ _, fun _ => HNO.out, fun h => by cases h⟩
       have hF1 : (F == []) = false := by simpa using hF0
       have hF2 : F.isEmpty = false := by cases F with | nil => exact absurd rfl hF0 | cons a b => rfl
       have HF0 := Lib.hid hF0
       have HCN := Lib.hid (containsQs_calls wD (.slice (some ⟨gS, 0, none⟩) sp.length sp.length) sp [] HSL.out)
       rw [any_memT] at HCN
       have hcc := HCC.out
       have y0 := hcc.cell 0; have y1 := hcc.cell 1; simp at y0 y1
       clear hF0 hcc HV0
       by_cases hin : [] ∈ sp
       ·have HNO := Lib.hid (HVN.out (by rw [HVY.out rfl, if_pos (.inr hin)]))
        have h1 : decide (([] : Str) ∈ sp) = true := decide_eq_true hin
        rw [h1] at HCN
        clear HVN HVY HVS h1 hin
        go_wp2_with fail
        refine HCN.out.mono ?_
        rintro e wE ⟨rfl, hmE⟩
        clear HCN
        go_wp2_with fail
        go_meet
        exact ⟨true, rfl, hmE, fun _ => HNO.out, fun h => by cases h⟩
       ·have HYE := Lib.hid (HVS.out (F, sp) (by rw [HVY.out rfl, if_neg (fun h => h.elim HF0.out hin)]))
        have h1 : decide (([] : Str) ∈ sp) = false := decide_eq_false hin
        rw [h1] at HCN
        clear HVN HVY HVS h1 hin
        go_wp2_with fail
        refine HCN.out.mono ?_
        rintro e wE ⟨rfl, hmE⟩
        clear HCN
        go_wp2_with fail
        go_meet
        exact ⟨false, rfl, hmE, fun h => (by cases h), fun _ => HYE.out⟩
      case rest =>
       obtain ⟨fl, rfl, hm8, hno, hyes⟩ := hcut
       have HM8 := Lib.hid (HMM4.out.trans hm8)
       have HX8 := Lib.hid (HXX4.out.modp hm8)
       have HG8 := Lib.hid (HGG4.out.modp hm8)
       have HC8 := Lib.hid (HCC.out.modp hm8)
       have HV8 := Lib.hid (HVK4.out.pure hm8)
       have HS8 := Lib.hid (HSL.out.pure hm8)
       have HNO := Lib.hid hno
       have HYE := Lib.hid hyes
       clear hm8 hno hyes HVN HV0 HVY HVS HVK4 HXX4 HGG4 HMM4 HCC HSL HBS4
       cases fl
       rotate_left
       ·have HON := Lib.hid (dl_no HD.out (HNO.out rfl))
        have hX := HX8.out
        have hG := HG8.out
        have y0 := hX.cell 0; have y1 := hX.cell 1; have y2 := hX.cell 2; have y3 := hX.cell 3; have y4 := hX.cell 4; have y5 := hX.cell 5; simp at y0 y1 y2 y3 y4 y5
        have z0 := hG.cell 0; have zf0 := hG.frozen 0; have z1 := hG.cell 1; have zf1 := hG.frozen 1; have z2 := hG.cell 2; have zf2 := hG.frozen 2; have z3 := hG.cell 3; have zf3 := hG.frozen 3; have z4 := hG.cell 4; have zf4 := hG.frozen 4; have z5 := hG.cell 5; have zf5 := hG.frozen 5; simp at z0 z1 z2 z3 z4 z5
        clear hX hG HNO HYE
        go_wp2_with fail
        have hGE := (((((HG8.out.set 0 (.int .i64 v1)).set 1 (.int .i64 v2)).set 2 (.string ⟨a3.toArray⟩)).set 3 (.string ⟨a4.toArray⟩)).set 4 (.bool se)).set 5 (.slice A cs.length cap)
        have u0 := hGE.cell 0; have u1 := hGE.cell 1; have u2 := hGE.cell 2; have u3 := hGE.cell 3; have u4 := hGE.cell 4; have u5 := hGE.cell 5; simp at u0 u1 u2 u3 u4 u5
        try simp only [Exit.inBlock, Exit.then]
        refine bodyPost_ret (v := .tuple #[.agg #[.int .i64 v1, .int .i64 v2, .string ⟨a3.toArray⟩, .string ⟨a4.toArray⟩, .bool se, .slice A cs.length cap], .bool false]) (by simp [results, Tryz.results91, go_sem, u0, u1, u2, u3, u4, u5]) rfl ?_
        rw [HON.out]
        have hmz : Mod (· = gr) wc ((((((wc.setCell ⟨gr, 0, none⟩ (.int .i64 v1)).setCell ⟨gr, 1, none⟩ (.int .i64 v2)).setCell ⟨gr, 2, none⟩ (.string ⟨a3.toArray⟩)).setCell ⟨gr, 3, none⟩ (.string ⟨a4.toArray⟩)).setCell ⟨gr, 4, none⟩ (.bool se)).setCell ⟨gr, 5, none⟩ (.slice A cs.length cap)) := ((((((Mod.refl (· = gr) wc).setCell (.inl rfl) _).setCell (.inl rfl) _).setCell (.inl rfl) _).setCell (.inl rfl) _).setCell (.inl rfl) _).setCell (.inl rfl) _
        exact ⟨⟨v1, v2, a3, a4, se, A, cap, cs⟩, rfl, (HV8.out.far hmz HG8.out (by decide) (by decide)).vals, fun q hq => (by cases hq), HM8.out.trans' hmz (fun i hi hlt => by omega)⟩
       have HYR := Lib.hid (HYE.out rfl)
       clear HNO HYE
       have hck := HCK.out
       obtain ⟨i0, hi0, hz0, hz1, hz2⟩ := info_parts info_cho
       have hownS := HV8.out.1
       rw [hck] at hownS
       have hmS := HM8.out
       have hX := HX8.out
       have hC := HC8.out
       rw [hck] at hX
       have y0 := hX.cell 0; have y1 := hX.cell 1; have y2 := hX.cell 2; have y3 := hX.cell 3; have y4 := hX.cell 4; have y5 := hX.cell 5; simp at y0 y1 y2 y3 y4 y5
       have z0 := hC.cell 0; have z1 := hC.cell 1; simp at z0 z1
       clear hX hC hck
       go_wp2_with ((at_builtin; refine wpList_append_lies _ rfl _ _ _ rfl gr 134 i0 _ 2 40 Tryz.underlying51 hi0 hz0 hz1 hz2 rfl (by omega) (.slice A k cap) k (choV cs) rfl (hownS.alloc _) ⟨wc.heap.size, 0, none⟩ 1 1 [.string ⟨F.toArray⟩, .slice (some ⟨gS, 0, none⟩) sp.length sp.length] rfl rfl (World.news_of_block (cs := #[.string ⟨F.toArray⟩, .slice (some ⟨gS, 0, none⟩) sp.length sp.length]) (t := 134) (fr := (0, 0)) (heap_alloc_new wc _)) (by simp [Value.oneCell']) (by omega) (by simp [maxLen]; omega) (by omega) (by have := hmS.size; simp; omega) (wc.heap.size + 1) (by simp) ?_; intro g5 cap5 w5 hown5 hgrow hat hlt5); have hB6 := (HX8.out.alloc (.cells #[.string ⟨F.toArray⟩, .slice (some ⟨gS, 0, none⟩) sp.length sp.length] 134)).mod (mod_grown hgrow) (fun hv => by have h2 := HX8.out.alloc (.cells #[.string ⟨F.toArray⟩, .slice (some ⟨gS, 0, none⟩) sp.length sp.length] 134); unfold Blk at h2; exact absurd (own_ty (hownS.alloc (.cells #[.string ⟨F.toArray⟩, .slice (some ⟨gS, 0, none⟩) sp.length sp.length] 134)) hv h2) (by decide)); have q5 := hB6.cell 5; have qf5 := hB6.frozen 5; simp at q5)
       have hpal := pure_alloc wc (.cells #[.string ⟨F.toArray⟩, .slice (some ⟨gS, 0, none⟩) sp.length sp.length] 134)
       have hG6 := (HG8.out.modp hpal).mod (mod_grown hgrow) (fun hv => by have h2 := HG8.out.modp hpal; unfold Blk at h2; exact absurd (own_ty (hownS.alloc (.cells #[.string ⟨F.toArray⟩, .slice (some ⟨gS, 0, none⟩) sp.length sp.length] 134)) hv h2) (by decide))
       have hV6 := VkR.app (x := ⟨F, some ⟨gS, 0, none⟩, sp.length, sp⟩) (HV8.out.pure hpal) (by rw [HCK.out]; exact mod_grown hgrow) (HS8.out.pure hpal) (show k + 1 = cs.length + 1 by rw [HCK.out]) hown5
       have hm6 : Mod (· = g8) w5 (w5.setCell ⟨g8, 5, none⟩ (.slice (some ⟨g5, 0, none⟩) (k + 1) cap5)) := (Mod.refl (· = g8) w5).setCell (.inl rfl) _
       have hob := own_block (hownS.alloc (.cells #[.string ⟨F.toArray⟩, .slice (some ⟨gS, 0, none⟩) sp.length sp.length] 134))
       have hp6 : Pure w w5 := (hmS.trans hpal).trans' (mod_grown hgrow) (fun i hi hlt => by have := hob i hi; omega)
       go_roundg (n6 - (k + 1))
       case measure => omega
       case rel =>
        refine ⟨k + 1, cap5, some ⟨g5, 0, none⟩, cs ++ [⟨F, some ⟨gS, 0, none⟩, sp.length, sp⟩], r ++ [(F, sp)], rfl, by omega, by simp, by simp [HCK.out], HYR.out, ?_, ?_, hG6.mod hm6 hgne, hp6.trans' hm6 (fun i hi hlt => by omega)⟩
        ·have h := hV6.far hm6 hB6 (by decide) (by decide)
         unfold VkR at h ⊢
         rw [show (cs ++ [(⟨F, some ⟨gS, 0, none⟩, sp.length, sp⟩ : ChoR)]).length = k + 1 by simp [HCK.out]] at h ⊢
         exact h
        ·have h := hB6.set 5 (.slice (some ⟨g5, 0, none⟩) (k + 1) cap5)
         rw [show (cs ++ [(⟨F, some ⟨gS, 0, none⟩, sp.length, sp⟩ : ChoR)]).length = k + 1 by simp [HCK.out]]
         simpa using h
     ·obtain rfl : k = n6 := by omega
      have hvr2 : valsRd t = some r := by rw [List.take_of_length_le (by have := HT6.out; omega)] at hvr; exact hvr
      have HSUM := Lib.hid (dl_sum (A := A) (c := cap) HD.out HV1.out HV2.out hvr2 HVK.out.2.2)
      have HCT2 := Lib.hid HCK.out
      have hG := HGG.out
      have y0 := hX.cell 0; have y1 := hX.cell 1; have y2 := hX.cell 2; have y3 := hX.cell 3; have y4 := hX.cell 4; have y5 := hX.cell 5; simp at y0 y1 y2 y3 y4 y5
      have z0 := hG.cell 0; have zf0 := hG.frozen 0; have z1 := hG.cell 1; have zf1 := hG.frozen 1; have z2 := hG.cell 2; have zf2 := hG.frozen 2; have z3 := hG.cell 3; have zf3 := hG.frozen 3; have z4 := hG.cell 4; have zf4 := hG.frozen 4; have z5 := hG.cell 5; have zf5 := hG.frozen 5; simp at z0 z1 z2 z3 z4 z5
      rw [HS1.out, HS2.out] at HSUM
      clear hX hG hvr hvr2 hm hk hlt HCK HA6
      have hmz : Mod (· = gr) wr ((((((wr.setCell ⟨gr, 0, none⟩ (.int .i64 v1)).setCell ⟨gr, 1, none⟩ (.int .i64 v2)).setCell ⟨gr, 2, none⟩ (.string ⟨a3.toArray⟩)).setCell ⟨gr, 3, none⟩ (.string ⟨a4.toArray⟩)).setCell ⟨gr, 4, none⟩ (.bool se)).setCell ⟨gr, 5, none⟩ (.slice A k cap)) := ((((((Mod.refl (· = gr) wr).setCell (.inl rfl) _).setCell (.inl rfl) _).setCell (.inl rfl) _).setCell (.inl rfl) _).setCell (.inl rfl) _).setCell (.inl rfl) _
      have HFIN : Hid (DlPost w o (.returned (.tuple #[.agg #[.int .i64 v1, .int .i64 v2, .string ⟨a3.toArray⟩, .string ⟨a4.toArray⟩, .bool se, .slice A k cap], .bool (s1 && s2)])) ((((((wr.setCell ⟨gr, 0, none⟩ (.int .i64 v1)).setCell ⟨gr, 1, none⟩ (.int .i64 v2)).setCell ⟨gr, 2, none⟩ (.string ⟨a3.toArray⟩)).setCell ⟨gr, 3, none⟩ (.string ⟨a4.toArray⟩)).setCell ⟨gr, 4, none⟩ (.bool se)).setCell ⟨gr, 5, none⟩ (.slice A k cap))) := Lib.hid (by
       refine ⟨⟨v1, v2, a3, a4, se, A, cap, cs⟩, ?_, (HVK.out.far hmz HGG.out (by decide) (by decide)).vals, HSUM.out.2, HMM.out.trans' hmz (fun i hi hlt => by omega)⟩
       rw [HSUM.out.1]
       simp only [HCT2.out])
      have hGE := (((((HGG.out.set 0 (.int .i64 v1)).set 1 (.int .i64 v2)).set 2 (.string ⟨a3.toArray⟩)).set 3 (.string ⟨a4.toArray⟩)).set 4 (.bool se)).set 5 (.slice A k cap)
      have u0 := hGE.cell 0; have u1 := hGE.cell 1; have u2 := hGE.cell 2; have u3 := hGE.cell 3; have u4 := hGE.cell 4; have u5 := hGE.cell 5; simp at u0 u1 u2 u3 u4 u5
      clear hmz hGE HSUM HVK HGG HMM HXX HV1 HV2 HD HS1 HS2
      cases s1
      ·go_wp2_with fail
       try simp only [Exit.inBlock, Exit.then]
       refine bodyPost_ret (v := .tuple #[.agg #[.int .i64 v1, .int .i64 v2, .string ⟨a3.toArray⟩, .string ⟨a4.toArray⟩, .bool se, .slice A k cap], .bool false]) (by simp [results, Tryz.results91, go_sem, u0, u1, u2, u3, u4, u5]) rfl ?_
       exact HFIN.out
      ·go_wp2_with fail
       try simp only [Exit.inBlock, Exit.then]
       refine bodyPost_ret (v := .tuple #[.agg #[.int .i64 v1, .int .i64 v2, .string ⟨a3.toArray⟩, .string ⟨a4.toArray⟩, .bool se, .slice A k cap], .bool s2]) (by simp [results, Tryz.results91, go_sem, u0, u1, u2, u3, u4, u5]) rfl ?_
       exact HFIN.out

end Go.Proofs.YtaidkmnbjbnciaaGreatDoor

/- decisionLine of the reference. -/
namespace Go.Proofs.YtaidkmnbjbnciaaGreatDoor
set_option linter.unusedVariables false
set_option linter.unusedSimpArgs false
open Go.RowKit

def wFS : List Str := [wFirst, wSecond]
/-- Which of the two words. -/
def sxIx (s : Str) : Int := if s = wFirst then 0 else if s = wSecond then 1 else -1
theorem sxIx_idx (s : Str) : idxQ (fun x => s == x) wFS 0 = sxIx s := by
 unfold sxIx wFS idxQ idxQ idxQ
 by_cases h1 : s = wFirst
 ·simp [h1]
 ·by_cases h2 : s = wSecond
  ·simp [h2, wFirst, wSecond]
  ·simp [h1, h2]
theorem sxIx_one (s : Str) : (sxIx s == 1) = decide (s = wSecond) := by
 unfold sxIx
 by_cases h1 : s = wFirst
 ·subst h1; decide
 ·rw [if_neg h1]
  by_cases h2 : s = wSecond
  ·simp [h2]
  ·simp [h2]
theorem sxIx_ge (s : Str) : 0 ≤ sxIx s ↔ (s = wFirst ∨ s = wSecond) := by
 unfold sxIx
 by_cases h1 : s = wFirst
 ·simp [h1]
 ·rw [if_neg h1]
  by_cases h2 : s = wSecond
  ·simp [h2]
  ·simp [h1, h2]
def lnRd (s : Str) : Option DecK := if [] ∈ wordsL s then none else decRd (wordsL s)
theorem lnRd_some {s : Str} {a0 a1 a2 a3 a4 a5 : Str} {t : List Str} (hw : wordsL s = a0 :: a1 :: a2 :: a3 :: a4 :: a5 :: t) (h0 : a0 = wDecision) (hn : [] ∉ wordsL s) : lnRd s = if 0 ≤ sxIx a5 then (match numQ 9 a1 with | none => none | some a => match numQ 9 a2 with | none => none | some b => (valsRd t).map fun v => (a, b, a3, a4, decide (a5 = wSecond), v)) else none := by
 unfold lnRd
 rw [if_neg hn, hw]
 unfold decRd
 by_cases h : 0 ≤ sxIx a5
 ·rw [if_pos h, if_pos ⟨by simp, h0, (sxIx_ge a5).1 h⟩]
  rfl
 ·rw [if_neg h, if_neg (fun hh => h ((sxIx_ge a5).2 hh.2.2))]
theorem dlr_sum {o1 o2 : Option Int} {l : List Str} {r : List ValK} {cs : List ChoR} {v1 v2 sx : Int} {a3 a4 : Str} {se : Bool} {A : Option Addr} {c : Nat} {o : Option DecK}
  (ho : o = if 0 ≤ sx then (match o1 with | none => none | some a => match o2 with | none => none | some b => (valsRd l).map fun v => (a, b, a3, a4, se, v)) else none) (h1 : ∀ n, o1 = some n → v1 = n) (h2 : ∀ n, o2 = some n → v2 = n) (hr : valsRd l = some r) (hc : cs.map (fun x => (x.field, x.ch)) = r) :
  o.isSome = ((o1.isSome && o2.isSome) && decide (0 ≤ sx)) ∧ ∀ q, o = some q → (⟨v1, v2, a3, a4, se, A, c, cs⟩ : DecR).key = q := by
 by_cases hs : 0 ≤ sx
 ·rw [if_pos hs] at ho
  have h := dl_sum (A := A) (c := c) ho h1 h2 hr hc
  rw [decide_eq_true hs, Bool.and_true]
  exact h
 ·rw [if_neg hs] at ho
  rw [ho, decide_eq_false hs, Bool.and_false]
  exact ⟨rfl, fun q hq => by cases hq⟩
theorem dlr_no {o1 o2 : Option Int} {l : List Str} {a3 a4 : Str} {se : Bool} {sx : Int} {o : Option DecK}
  (ho : o = if 0 ≤ sx then (match o1 with | none => none | some a => match o2 with | none => none | some b => (valsRd l).map fun v => (a, b, a3, a4, se, v)) else none) (hr : valsRd l = none) : o = none := by
 by_cases hs : 0 ≤ sx
 ·rw [if_pos hs] at ho
  exact dl_no ho hr
 ·rw [if_neg hs] at ho
  exact ho

set_option maxRecDepth 100000 in
set_option maxHeartbeats 16000000 in
theorem decLineR_calls (w : World) (s : Str) (hs : s.length ≤ 100000) (hM : MlnS w) (hPW : Pow w) : Calls Tryz.prog 93 #[.string ⟨s.toArray⟩] w (DlPost w (lnRd s)) := by
 have HG := Lib.hid (Blk.new w 53 #[.int .i64 0, .int .i64 0, .string ⟨#[]⟩, .string ⟨#[]⟩, .bool false, .slice none 0 0])
 have hp := pure_alloc w (.cells #[.int .i64 0, .int .i64 0, .string ⟨#[]⟩, .string ⟨#[]⟩, .bool false, .slice none 0 0] 53)
 have HP := Lib.hid hp
 have hz1 : (w.alloc (.cells #[.int .i64 0, .int .i64 0, .string ⟨#[]⟩, .string ⟨#[]⟩, .bool false, .slice none 0 0] 53)).heap.size = w.heap.size + 1 := by simp
 have HMS : Hid (∀ W, Pure w W → MlnS W) := Lib.hid (fun W h => hM.pure h)
 have HPW : Hid (∀ W, Pure w W → Pow W) := Lib.hid (fun W h => hPW.pure h)
 have HSP0 := Lib.hid (split_calls (w.alloc (.cells #[.int .i64 0, .int .i64 0, .string ⟨#[]⟩, .string ⟨#[]⟩, .bool false, .slice none 0 0] 53)) s [32] (hM.pure hp) (by omega) (by decide))
 obtain ⟨ws, hws⟩ : ∃ ws, Lib.split s [32] = ws := ⟨_, rfl⟩
 have hnb := spl_count 32 s
 have hLL : ∀ x ∈ ws, x.length ≤ 100000 := fun x hx => by
  rw [← hws, split_byte] at hx
  have := spl_len hx
  omega
 rw [← split_byte, hws] at hnb
 rw [hws] at HSP0
 have HL := Lib.hid hLL
 have HWS : Hid (wordsL s = ws) := Lib.hid hws
 clear hp hM hPW hws hLL
 obtain ⟨n, hn0⟩ : ∃ n, ws.length = n := ⟨_, rfl⟩
 rw [hn0] at HSP0 hnb
 go_enter Tryz.func93, Tryz.ntmps93
 go_wp2_with fail
 refine HSP0.out.mono ?_
 rintro e wA ⟨rfl, rfl⟩
 have hpa := pure_alloc (w.alloc (.cells #[.int .i64 0, .int .i64 0, .string ⟨#[]⟩, .string ⟨#[]⟩, .bool false, .slice none 0 0] 53)) (.cells (strsV ws).toArray 9)
 have HR := Lib.hid (Blk.snd w (.cells #[.int .i64 0, .int .i64 0, .string ⟨#[]⟩, .string ⟨#[]⟩, .bool false, .slice none 0 0] 53) 9 (strsV ws).toArray)
 have HG := Lib.hid (HG.out.modp hpa)
 have HP := Lib.hid (HP.out.trans hpa)
 clear hpa HSP0
 go_upto_region 2 with (fail)
 have hzz : ((w.alloc (.cells #[.int .i64 0, .int .i64 0, .string ⟨#[]⟩, .string ⟨#[]⟩, .bool false, .slice none 0 0] 53)).alloc (.cells (strsV ws).toArray 9)).heap.size = w.heap.size + 2 := by simp
 generalize ((w.alloc (.cells #[.int .i64 0, .int .i64 0, .string ⟨#[]⟩, .string ⟨#[]⟩, .bool false, .slice none 0 0] 53)).alloc (.cells (strsV ws).toArray 9)) = w1 at *
 generalize hg : w.heap.size + 1 = g at *
 generalize hgr : w.heap.size = gr at *
 have hgr2 := Nat.le_of_eq hgr
 have hgr3 := Nat.le_of_eq hgr.symm
 have hgw := HR.out.lt
 clear hgr hg
 have HN := Lib.hid hn0
 have HSLW : Hid (∀ W, Pure w1 W → Sl W 9 1 (.slice (some ⟨g, 0, none⟩) n n) (strsV ws)) := Lib.hid (fun W h => ⟨_, _, _, rfl, Nat.le_refl _, by omega, by simp [strsV, hn0], fun _ => ⟨g, 0, rfl, (HR.out.modp h).row0⟩⟩)
 clear hn0
 go_cut [31] (fun p wx => ∃ fl : Bool, p = .bool fl ∧ Pure w1 wx ∧ (fl = true → lnRd s = none) ∧ (fl = false → 6 ≤ ws.length ∧ ws.getD 0 [] = wDecision ∧ [] ∉ ws))
 case first =>
  by_cases h4 : n < 6
  ·have HB : Hid (lnRd s = none) := Lib.hid (by
    unfold lnRd
    rw [HWS.out]
    split
    ·rfl
    ·unfold decRd; rw [if_neg (fun hh => by have h1 := hh.1; have h2 := HN.out; omega)])
   have h4i : (n : Int) < 6 := by omega
   clear h4
   go_wp2_with fail
   go_meet
   exact ⟨true, rfl, Mod.refl _ _, fun _ => HB.out, fun h => by cases h⟩
  ·obtain ⟨a0, a1, a2, a3, a4, a5, t, rfl⟩ := six (ws := ws) (by have := HN.out; omega)
   have hR := HR.out
   have d0 := hR.cell 0
   simp [strsV] at d0
   have h4i : ¬ (n : Int) < 6 := by omega
   have i0 : (0 : Int) < (n : Int) := by omega
   have j0 : 0 < n := by omega
   have HCN := Lib.hid (containsQs_calls w1 (.slice (some ⟨g, 0, none⟩) n n) (a0 :: a1 :: a2 :: a3 :: a4 :: a5 :: t) [] (HSLW.out _ (Mod.refl _ _)))
   rw [any_memT] at HCN
   have HD0 : Hid (a0 ≠ wDecision → lnRd s = none) := Lib.hid (fun h => by
    unfold lnRd
    rw [HWS.out]
    split
    ·rfl
    ·unfold decRd; rw [if_neg (fun hh => h hh.2.1)])
   have HD1 : Hid ([] ∈ (a0 :: a1 :: a2 :: a3 :: a4 :: a5 :: t) → lnRd s = none) := Lib.hid (fun h => by
    unfold lnRd
    rw [HWS.out, if_pos h])
   have HD2 : Hid (6 ≤ (a0 :: a1 :: a2 :: a3 :: a4 :: a5 :: t).length) := Lib.hid (by simp)
   clear hR h4 HN
   by_cases e0 : a0 = wDecision
   ·subst e0
    have HW0 : Hid ((wDecision :: a1 :: a2 :: a3 :: a4 :: a5 :: t).getD 0 [] = wDecision) := Lib.hid rfl
    generalize (wDecision :: a1 :: a2 :: a3 :: a4 :: a5 :: t) = ws at *
    unfold wDecision at d0
    by_cases hin : [] ∈ ws
    ·have h1 : decide (([] : Str) ∈ ws) = true := decide_eq_true hin
     rw [h1] at HCN
     have HB := Lib.hid (HD1.out hin)
     clear h1 hin HD0 HD1
     go_wp2_with fail
     refine HCN.out.mono ?_
     rintro e w4 ⟨rfl, hm⟩
     clear HCN
     go_wp2_with fail
     go_meet
     exact ⟨true, rfl, hm, fun _ => HB.out, fun h => by cases h⟩
    ·have h1 : decide (([] : Str) ∈ ws) = false := decide_eq_false hin
     rw [h1] at HCN
     have HIN := Lib.hid hin
     clear h1 hin HD0 HD1
     go_wp2_with fail
     refine HCN.out.mono ?_
     rintro e w4 ⟨rfl, hm⟩
     clear HCN
     go_wp2_with fail
     go_meet
     exact ⟨false, rfl, hm, fun h => (by cases h), fun _ => ⟨HD2.out, HW0.out, HIN.out⟩⟩
   ·have f0 : (a0 == [100, 101, 99, 105, 115, 105, 111, 110]) = false := by simpa [wDecision] using e0
    have f0' : (a0 != [100, 101, 99, 105, 115, 105, 111, 110]) = true := by simpa [wDecision] using e0
    have HB := Lib.hid (HD0.out e0)
    clear e0 HD0 HD1 HCN
    go_wp2_with fail
    go_meet
    exact ⟨true, rfl, Mod.refl _ _, fun _ => HB.out, fun h => by cases h⟩
 case rest =>
  obtain ⟨fl, rfl, hmc, hno, hyes⟩ := hcut
  have HR := Lib.hid (HR.out.modp hmc)
  have HG := Lib.hid (HG.out.modp hmc)
  have HP := Lib.hid (HP.out.trans hmc)
  clear HSLW
  obtain ⟨w1, hw1⟩ : ∃ W, W = wc := ⟨wc, rfl⟩
  subst hw1
  cases fl
  rotate_left
  ·have HNO := Lib.hid (hno rfl)
   clear hmc hno hyes
   have hG := HG.out
   have z0 := hG.cell 0; have zf0 := hG.frozen 0; have z1 := hG.cell 1; have zf1 := hG.frozen 1; have z2 := hG.cell 2; have zf2 := hG.frozen 2; have z3 := hG.cell 3; have zf3 := hG.frozen 3; have z4 := hG.cell 4; have zf4 := hG.frozen 4; have z5 := hG.cell 5; have zf5 := hG.frozen 5; simp at z0 z1 z2 z3 z4 z5
   clear hG
   go_wp2_with fail
   have hGE := (((((HG.out.set 0 (.int .i64 0)).set 1 (.int .i64 0)).set 2 (.string ⟨#[]⟩)).set 3 (.string ⟨#[]⟩)).set 4 (.bool false)).set 5 (.slice none 0 0)
   have u0 := hGE.cell 0; have u1 := hGE.cell 1; have u2 := hGE.cell 2; have u3 := hGE.cell 3; have u4 := hGE.cell 4; have u5 := hGE.cell 5; simp at u0 u1 u2 u3 u4 u5
   try simp only [Exit.inBlock, Exit.then]
   refine bodyPost_ret (v := .tuple #[.agg #[.int .i64 0, .int .i64 0, .string ⟨#[]⟩, .string ⟨#[]⟩, .bool false, .slice none 0 0], .bool false]) (by simp [results, Tryz.results93, go_sem, u0, u1, u2, u3, u4, u5]) rfl ?_
   rw [HNO.out]
   exact ⟨⟨0, 0, [], [], false, none, 0, []⟩, rfl, vals_nil _, fun q hq => (by cases hq), (((((HP.out.setCell (p := ⟨gr, 0, none⟩) (.inr (by show w.heap.size ≤ gr; omega)) _).setCell (p := ⟨gr, 1, none⟩) (.inr (by show w.heap.size ≤ gr; omega)) _).setCell (p := ⟨gr, 2, none⟩) (.inr (by show w.heap.size ≤ gr; omega)) _).setCell (p := ⟨gr, 3, none⟩) (.inr (by show w.heap.size ≤ gr; omega)) _).setCell (p := ⟨gr, 4, none⟩) (.inr (by show w.heap.size ≤ gr; omega)) _).setCell (p := ⟨gr, 5, none⟩) (.inr (by show w.heap.size ≤ gr; omega)) _⟩
  obtain ⟨h6, hw0, hnin⟩ := hyes rfl
  obtain ⟨a0, a1, a2, a3, a4, a5, t, rfl⟩ := six h6
  have HD1 := Lib.hid (lnRd_some HWS.out hw0 (by rw [HWS.out]; exact hnin))
  obtain ⟨se, hse⟩ : ∃ se, decide (a5 = wSecond) = se := ⟨_, rfl⟩
  obtain ⟨sx, hsx⟩ : ∃ sx, sxIx a5 = sx := ⟨_, rfl⟩
  have HSE : Hid ((sx == 1) = se) := Lib.hid (by rw [← hse, ← hsx]; exact sxIx_one a5)
  have HIX := Lib.hid (fun W (v : Value) (h : Sl W 9 1 v (strsV wFS)) => (by have := indexQs_calls W v wFS a5 h; rw [sxIx_idx, hsx] at this; exact this : Calls Tryz.prog 76 #[v, .string ⟨a5.toArray⟩] W (IntPost W sx)))
  rw [hse, hsx] at HD1
  have HD := HD1
  obtain ⟨n6, hn6⟩ : ∃ n6, t.length = n6 := ⟨_, rfl⟩
  have hn7 : n = n6 + 6 := by have := HN.out; simp at this; omega
  subst hn7
  have HT6 := Lib.hid hn6
  have HN1 := Lib.hid (numberR_calls w1 a1 (by have := HL.out a1 (by simp); omega) (HPW.out _ HP.out))
  have HN2 := Lib.hid (fun W (h : Pure w W) => numberR_calls W a2 (by have := HL.out a2 (by simp); omega) (HPW.out _ h))
  have hR := HR.out
  have d1 := hR.cell 1
  have d2 := hR.cell 2
  simp [strsV] at d1 d2
  clear hR hse hsx h6 hn6 hmc hno hyes hw0 hnin HD1
  generalize lnRd s = o at *
  generalize numQ 9 a1 = o1 at *
  generalize numQ 9 a2 = o2 at *
  have i1 : (1 : Int) < (n6 : Int) + 6 := by omega
  have i2 : (2 : Int) < (n6 : Int) + 6 := by omega
  have i3 : (3 : Int) < (n6 : Int) + 6 := by omega
  have i4 : (4 : Int) < (n6 : Int) + 6 := by omega
  have i5 : (5 : Int) < (n6 : Int) + 6 := by omega
  go_wp2_with fail
  refine HN1.out.mono ?_
  rintro e w2 ⟨v1, rfl, hv1, hb1a, hb1b, hm2⟩
  have HV1 := Lib.hid hv1
  have HM2 := Lib.hid hm2
  have d2 := (HR.out.modp hm2).cell 2
  simp [strsV] at d2
  have HN3 := Lib.hid (HN2.out w2 (HP.out.trans hm2))
  clear hv1 hm2 HN1 HN2 d1
  obtain ⟨s1, hs1⟩ : ∃ s1, o1.isSome = s1 := ⟨_, rfl⟩
  have HS1 := Lib.hid hs1
  rw [hs1]
  clear hs1
  go_wp2_with fail
  refine HN3.out.mono ?_
  rintro e wI ⟨v2, rfl, hv2, hb2a, hb2b, hm3⟩
  have HV2 := Lib.hid hv2
  obtain ⟨s2, hs2⟩ : ∃ s2, o2.isSome = s2 := ⟨_, rfl⟩
  have HS2 := Lib.hid hs2
  rw [hs2]
  have HRI := Lib.hid ((HR.out.modp HM2.out).modp hm3)
  have HMI := Lib.hid (HM2.out.trans hm3)
  clear hv2 hm3 HN3 d2 hs2 HM2
  have hpI := pure_alloc wI (.cells #[.string ⟨#[102, 105, 114, 115, 116]⟩, .string ⟨#[115, 101, 99, 111, 110, 100]⟩] 9)
  have d5 := (HRI.out.modp hpI).cell 5
  simp [strsV] at d5
  have HIW := Lib.hid (HIX.out (wI.alloc (.cells #[.string ⟨#[102, 105, 114, 115, 116]⟩, .string ⟨#[115, 101, 99, 111, 110, 100]⟩] 9)) (.slice (some ⟨wI.heap.size, 0, none⟩) 2 2) ⟨_, _, _, rfl, by omega, by omega, rfl, fun _ => ⟨wI.heap.size, 0, rfl, (Blk.new wI 9 #[.string ⟨#[102, 105, 114, 115, 116]⟩, .string ⟨#[115, 101, 99, 111, 110, 100]⟩]).row0⟩⟩)
  have HMI2 := Lib.hid (HMI.out.trans hpI)
  clear hpI HIX HMI
  go_wp2_with fail
  refine HIW.out.mono ?_
  rintro e w3 ⟨rfl, hm3⟩
  have HM3 := Lib.hid (HMI2.out.trans hm3)
  have HR3 := Lib.hid (HR.out.modp HM3.out)
  have HG3 := Lib.hid (HG.out.modp HM3.out)
  have HP3 := Lib.hid (HP.out.trans HM3.out)
  have HB0 := HR3
  have HMB := HP3
  have hz3 := HP3.out.size
  have hgrw := HG3.out.lt
  have hgw3 := HR3.out.lt
  clear hm3 d5 HIW HMI2 HRI HR HG HP HM3
  go_upto_region 7 with (fail)
  have HGs := Lib.hid (show ∀ (D : Nat → Bool) (zzi : Nat) (zq zq' : World), (fun _ zq => (fun Z => TwoE Z g gr 9 (strsV (a0 :: a1 :: a2 :: a3 :: a4 :: a5 :: t)).toArray 53 #[.int .i64 0, .int .i64 0, .string ⟨#[]⟩, .string ⟨#[]⟩, .bool false, .slice none 0 0]) zq) D zq → Mod (fun _ => False) zq zq' → (fun _ zq => (fun Z => TwoE Z g gr 9 (strsV (a0 :: a1 :: a2 :: a3 :: a4 :: a5 :: t)).toArray 53 #[.int .i64 0, .int .i64 0, .string ⟨#[]⟩, .string ⟨#[]⟩, .bool false, .slice none 0 0]) zq) (upd D zzi true) zq' from by intro D zzi zq zq' h hm; (exact h.modp hm))
  refine wp_region_inv (by kernel_rfl) (by kernel_rfl) (InvF (R := Mod (fun _ => False)) [.is (.int .i64 v1),
    .is (.int .i64 v2),
    .is (.slice (some ⟨g, 0, none⟩) (n6 + 6) (n6 + 6)),
    .is (.pointer (some ⟨g, 3, none⟩)),
    .is (.string ⟨a3.toArray⟩),
    .is (.slice (some ⟨g, 0, none⟩) (n6 + 6) (n6 + 6)),
    .is (.pointer (some ⟨g, 4, none⟩)),
    .is (.string ⟨a4.toArray⟩),
    .is (.int .i64 sx),
    .is (.bool se),
    .is (.agg #[.int .i64 v1, .int .i64 v2, .string ⟨a3.toArray⟩, .string ⟨a4.toArray⟩, .bool se, .slice none 0 0]),
    ⟨fun zv zw => ∃ (g_11 : Nat), zv = .pointer (some ⟨g_11, 0, none⟩) ∧ w3.heap.size ≤ g_11 ∧ Blk zw g_11 53 #[.int .i64 0, .int .i64 0, .string ⟨#[]⟩, .string ⟨#[]⟩, .bool false, .slice none 0 0], (by rintro zv zw zx ⟨g_11, rfl, c0, q0⟩ hm; exact ⟨g_11, rfl, c0, (q0.modp hm)⟩), none, some 12⟩,
    ⟨fun zv zw => ∃ (g_12 : Nat), zv = .pointer (some ⟨g_12, 0, none⟩) ∧ w3.heap.size ≤ g_12 ∧ Blk zw g_12 53 #[.int .i64 v1, .int .i64 v2, .string ⟨a3.toArray⟩, .string ⟨a4.toArray⟩, .bool se, .slice none 0 0], (by rintro zv zw zx ⟨g_12, rfl, c0, q0⟩ hm; exact ⟨g_12, rfl, c0, (q0.modp hm)⟩), some 11, none⟩]
    (PB w3 (fun _ => False) w3.heap.size (fun _ zq => (fun Z => TwoE Z g gr 9 (strsV (a0 :: a1 :: a2 :: a3 :: a4 :: a5 :: t)).toArray 53 #[.int .i64 0, .int .i64 0, .string ⟨#[]⟩, .string ⟨#[]⟩, .bool false, .slice none 0 0]) zq))) (InvF.start (PB.start (Mod.refl _ _) (Nat.le_refl _) (⟨HR3.out.drew, HG3.out.drew⟩))) ?_ ?_
  ·refine .cons ?_ (.cons ?_ (.cons ?_ (.cons ?_ (.cons ?_ (.cons ?_ (.cons ?_ (.cons ?_ (.cons ?_ (.cons ?_ (.cons ?_ (.cons ?_ (.cons ?_ .nil))))))))))))
   ·intro D V zw1 a hR hI K hK
    obtain ⟨hM1, hB1, hG1⟩ := hI.1
    have ze5 := hR.frame.other (t := 5) (by kernel_rfl) rfl
    rw [if_pos (by rfl)]
    go_simp
    exact hK (.int .i64 v1) _ (hI.next hR (by kernel_rfl) (Mod.refl _ _) (PB.quiet hI.1 (Mod.refl _ _) (HGs.out D 0 zw1 zw1 (hI.1).g (Mod.refl _ _))) (upd_same V 0 _))
   ·intro D V zw1 a hR hI K hK
    obtain ⟨hM1, hB1, hG1⟩ := hI.1
    have ze7 := hR.frame.other (t := 7) (by kernel_rfl) rfl
    rw [if_pos (by rfl)]
    go_simp
    exact hK (.int .i64 v2) _ (hI.next hR (by kernel_rfl) (Mod.refl _ _) (PB.quiet hI.1 (Mod.refl _ _) (HGs.out D 1 zw1 zw1 (hI.1).g (Mod.refl _ _))) (upd_same V 1 _))
   ·intro D V zw1 a hR hI K hK
    obtain ⟨hM1, hB1, hG1⟩ := hI.1
    have ze4 := hR.frame.other (t := 4) (by kernel_rfl) rfl
    rw [if_pos (by rfl)]
    go_simp
    exact hK (.slice (some ⟨g, 0, none⟩) (n6 + 6) (n6 + 6)) _ (hI.next hR (by kernel_rfl) (Mod.refl _ _) (PB.quiet hI.1 (Mod.refl _ _) (HGs.out D 2 zw1 zw1 (hI.1).g (Mod.refl _ _))) (upd_same V 2 _))
   ·intro D V zw1 a hR hI K hK
    obtain ⟨hM1, hB1, hG1⟩ := hI.1
    have zd2 := hR.pred 2 (by kernel_rfl)
    have zF2 : V 2 = .slice (some ⟨g, 0, none⟩) (n6 + 6) (n6 + 6) := hI.2 2 zd2 rfl
    have zf2 := zF2; clear zF2
    have ze54 := hR.frame.done (t := 54) (j := 2) (by kernel_rfl) hR.ok zd2
    rw [if_pos (by rfl)]
    go_simp
    exact hK (.pointer (some ⟨g, 3, none⟩)) _ (hI.next hR (by kernel_rfl) (Mod.refl _ _) (PB.quiet hI.1 (Mod.refl _ _) (HGs.out D 3 zw1 zw1 (hI.1).g (Mod.refl _ _))) (upd_same V 3 _))
   ·intro D V zw1 a hR hI K hK
    obtain ⟨hM1, hB1, hG1⟩ := hI.1
    have zd3 := hR.pred 3 (by kernel_rfl)
    have zF3 : V 3 = .pointer (some ⟨g, 3, none⟩) := hI.2 3 zd3 rfl
    have zf3 := zF3; clear zF3
    have ze55 := hR.frame.done (t := 55) (j := 3) (by kernel_rfl) hR.ok zd3
    have zx0 := hG1.1.cell 3; simp [strsV] at zx0
    rw [if_pos (by rfl)]
    go_simp
    exact hK (.string ⟨a3.toArray⟩) _ (hI.next hR (by kernel_rfl) (Mod.refl _ _) (PB.quiet hI.1 (Mod.refl _ _) (HGs.out D 4 zw1 zw1 (hI.1).g (Mod.refl _ _))) (upd_same V 4 _))
   ·intro D V zw1 a hR hI K hK
    obtain ⟨hM1, hB1, hG1⟩ := hI.1
    have ze4 := hR.frame.other (t := 4) (by kernel_rfl) rfl
    rw [if_pos (by rfl)]
    go_simp
    exact hK (.slice (some ⟨g, 0, none⟩) (n6 + 6) (n6 + 6)) _ (hI.next hR (by kernel_rfl) (Mod.refl _ _) (PB.quiet hI.1 (Mod.refl _ _) (HGs.out D 5 zw1 zw1 (hI.1).g (Mod.refl _ _))) (upd_same V 5 _))
   ·intro D V zw1 a hR hI K hK
    obtain ⟨hM1, hB1, hG1⟩ := hI.1
    have zd5 := hR.pred 5 (by kernel_rfl)
    have zF5 : V 5 = .slice (some ⟨g, 0, none⟩) (n6 + 6) (n6 + 6) := hI.2 5 zd5 rfl
    have zf5 := zF5; clear zF5
    have ze57 := hR.frame.done (t := 57) (j := 5) (by kernel_rfl) hR.ok zd5
    rw [if_pos (by rfl)]
    go_simp
    exact hK (.pointer (some ⟨g, 4, none⟩)) _ (hI.next hR (by kernel_rfl) (Mod.refl _ _) (PB.quiet hI.1 (Mod.refl _ _) (HGs.out D 6 zw1 zw1 (hI.1).g (Mod.refl _ _))) (upd_same V 6 _))
   ·intro D V zw1 a hR hI K hK
    obtain ⟨hM1, hB1, hG1⟩ := hI.1
    have zd6 := hR.pred 6 (by kernel_rfl)
    have zF6 : V 6 = .pointer (some ⟨g, 4, none⟩) := hI.2 6 zd6 rfl
    have zf6 := zF6; clear zF6
    have ze58 := hR.frame.done (t := 58) (j := 6) (by kernel_rfl) hR.ok zd6
    have zx0 := hG1.1.cell 4; simp [strsV] at zx0
    rw [if_pos (by rfl)]
    go_simp
    exact hK (.string ⟨a4.toArray⟩) _ (hI.next hR (by kernel_rfl) (Mod.refl _ _) (PB.quiet hI.1 (Mod.refl _ _) (HGs.out D 7 zw1 zw1 (hI.1).g (Mod.refl _ _))) (upd_same V 7 _))
   ·intro D V zw1 a hR hI K hK
    obtain ⟨hM1, hB1, hG1⟩ := hI.1
    have ze9 := hR.frame.other (t := 9) (by kernel_rfl) rfl
    rw [if_pos (by rfl)]
    go_simp
    exact hK (.int .i64 sx) _ (hI.next hR (by kernel_rfl) (Mod.refl _ _) (PB.quiet hI.1 (Mod.refl _ _) (HGs.out D 8 zw1 zw1 (hI.1).g (Mod.refl _ _))) (upd_same V 8 _))
   ·intro D V zw1 a hR hI K hK
    obtain ⟨hM1, hB1, hG1⟩ := hI.1
    have zd8 := hR.pred 8 (by kernel_rfl)
    have zF8 : V 8 = .int .i64 sx := hI.2 8 zd8 rfl
    have zf8 := zF8; clear zF8
    have ze60 := hR.frame.done (t := 60) (j := 8) (by kernel_rfl) hR.ok zd8
    have zse := HSE.out
    rw [if_pos (by rfl)]
    go_simp
    exact hK (.bool se) _ (hI.next hR (by kernel_rfl) (Mod.refl _ _) (PB.quiet hI.1 (Mod.refl _ _) (HGs.out D 9 zw1 zw1 (hI.1).g (Mod.refl _ _))) (upd_same V 9 _))
   ·intro D V zw1 a hR hI K hK
    obtain ⟨hM1, hB1, hG1⟩ := hI.1
    have zd0 := hR.pred 0 (by kernel_rfl)
    have zF0 : V 0 = .int .i64 v1 := hI.2 0 zd0 rfl
    have zf0 := zF0; clear zF0
    have zd1 := hR.pred 1 (by kernel_rfl)
    have zF1 : V 1 = .int .i64 v2 := hI.2 1 zd1 rfl
    have zf1 := zF1; clear zF1
    have zd4 := hR.pred 4 (by kernel_rfl)
    have zF4 : V 4 = .string ⟨a3.toArray⟩ := hI.2 4 zd4 rfl
    have zf4 := zF4; clear zF4
    have zd7 := hR.pred 7 (by kernel_rfl)
    have zF7 : V 7 = .string ⟨a4.toArray⟩ := hI.2 7 zd7 rfl
    have zf7 := zF7; clear zF7
    have zd9 := hR.pred 9 (by kernel_rfl)
    have zF9 : V 9 = .bool se := hI.2 9 zd9 rfl
    have zf9 := zF9; clear zF9
    have ze52 := hR.frame.done (t := 52) (j := 0) (by kernel_rfl) hR.ok zd0
    have ze53 := hR.frame.done (t := 53) (j := 1) (by kernel_rfl) hR.ok zd1
    have ze56 := hR.frame.done (t := 56) (j := 4) (by kernel_rfl) hR.ok zd4
    have ze59 := hR.frame.done (t := 59) (j := 7) (by kernel_rfl) hR.ok zd7
    have ze61 := hR.frame.done (t := 61) (j := 9) (by kernel_rfl) hR.ok zd9
    rw [if_pos (by rfl)]
    go_simp
    exact hK (_) _ (hI.next hR (by kernel_rfl) (Mod.refl _ _) (PB.quiet hI.1 (Mod.refl _ _) (HGs.out D 10 zw1 zw1 (hI.1).g (Mod.refl _ _))) (upd_same V 10 _))
   ·intro D V zw1 a hR hI K hK
    obtain ⟨hM1, hB1, hG1⟩ := hI.1
    rw [if_pos (by rfl)]
    go_simp
    exact hK (_) _ (hI.next hR (by kernel_rfl) ((Mod.refl _ _).alloc _) (PB.quiet hI.1 (pure_alloc _ _) (HGs.out D 11 _ _ (hI.1).g ((Mod.refl _ _).alloc _))) (⟨_, upd_same V 11 _, (by omega), (Blk.new _ _ _)⟩))
   ·intro D V zw1 a hR hI K hK
    obtain ⟨hM1, hB1, hG1⟩ := hI.1
    have zd11 := hR.pred 11 (by kernel_rfl)
    have zF11 : ∃ (g_11 : Nat), V 11 = .pointer (some ⟨g_11, 0, none⟩) ∧ w3.heap.size ≤ g_11 ∧ Blk zw1 g_11 53 #[.int .i64 0, .int .i64 0, .string ⟨#[]⟩, .string ⟨#[]⟩, .bool false, .slice none 0 0] := hI.2 11 zd11 (by show (!D 12) = true; rw [hR.not]; rfl)
    obtain ⟨g_11, zf11, c11_0, b11_0⟩ := zF11
    have zd10 := hR.pred 10 (by kernel_rfl)
    have zF10 : V 10 = .agg #[.int .i64 v1, .int .i64 v2, .string ⟨a3.toArray⟩, .string ⟨a4.toArray⟩, .bool se, .slice none 0 0] := hI.2 10 zd10 rfl
    have zf10 := zF10; clear zF10
    have ze10 := hR.frame.done (t := 10) (j := 11) (by kernel_rfl) hR.ok zd11
    have ze62 := hR.frame.done (t := 62) (j := 10) (by kernel_rfl) hR.ok zd10
    rw [if_pos (by rfl)]
    have zx0 := b11_0.cell 0; have zy0 := b11_0.frozen 0
    have zx1 := b11_0.cell 1; have zy1 := b11_0.frozen 1
    have zx2 := b11_0.cell 2; have zy2 := b11_0.frozen 2
    have zx3 := b11_0.cell 3; have zy3 := b11_0.frozen 3
    have zx4 := b11_0.cell 4; have zy4 := b11_0.frozen 4
    have zx5 := b11_0.cell 5; have zy5 := b11_0.frozen 5
    simp at zx0 zy0 zx1 zy1 zx2 zy2 zx3 zy3 zx4 zy4 zx5 zy5
    go_simp
    refine hK undef _ (InvF.last ?_ ?_ ?_)
    ·exact ⟨((((((hM1.setCell (.inr (by show _ ≤ g_11; omega)) _).setCell (.inr (by show _ ≤ g_11; omega)) _).setCell (.inr (by show _ ≤ g_11; omega)) _).setCell (.inr (by show _ ≤ g_11; omega)) _).setCell (.inr (by show _ ≤ g_11; omega)) _).setCell (.inr (by show _ ≤ g_11; omega)) _), (by simpa using hB1), ((((((hG1.far (by show g ≠ g_11; omega) (by show gr ≠ g_11; omega) _).far (by show g ≠ g_11; omega) (by show gr ≠ g_11; omega) _).far (by show g ≠ g_11; omega) (by show gr ≠ g_11; omega) _).far (by show g ≠ g_11; omega) (by show gr ≠ g_11; omega) _).far (by show g ≠ g_11; omega) (by show gr ≠ g_11; omega) _).far (by show g ≠ g_11; omega) (by show gr ≠ g_11; omega) _)⟩
    ·exact ⟨g_11, (upd_ne V (i := 12) (k := 11) undef (by omega)).trans zf11, (by first | assumption | omega), (by have hset := ((((((b11_0.set 0 (.int .i64 v1)).set 1 (.int .i64 v2)).set 2 (.string ⟨a3.toArray⟩)).set 3 (.string ⟨a4.toArray⟩)).set 4 (.bool se)).set 5 (.slice none 0 0)); simpa using hset)⟩
    ·intro k hk hDk hlv
     have hkl := hR.lt k hDk
     have hv := hI.2 k hDk (liveB_of hlv)
     match k, hk, hDk, hlv, hkl, hv with
     | 0, _, _, _, _, hv => exact hv
     | 1, _, _, _, _, hv => exact hv
     | 2, _, _, _, _, hv => exact hv
     | 3, _, _, _, _, hv => exact hv
     | 4, _, _, _, _, hv => exact hv
     | 5, _, _, _, _, hv => exact hv
     | 6, _, _, _, _, hv => exact hv
     | 7, _, _, _, _, hv => exact hv
     | 8, _, _, _, _, hv => exact hv
     | 9, _, _, _, _, hv => exact hv
     | 10, _, _, _, _, hv => exact hv
     | 11, _, _, hlv, _, _ => exact absurd hlv (by show ¬ (!upd D 12 true 12) = true; rw [upd_same]; decide)
     | 12, hk, _, _, _, _ => exact absurd rfl hk
     | k + 13, _, _, _, hkl, _ => exact absurd hkl (by simp)
  ·intro D V w4 hD hI
   obtain ⟨hM1, hB1, hG1⟩ := hI.1
   have hMx := hM1
   clear hM1
   have hBx := hB1
   clear hB1
   have hGx := hG1
   clear hG1
   have zF0 : V 0 = .int .i64 v1 := hI.2 0 (hD 0 (by decide)) rfl
   have zf0 := zF0; clear zF0
   have zF1 : V 1 = .int .i64 v2 := hI.2 1 (hD 1 (by decide)) rfl
   have zf1 := zF1; clear zF1
   have zF2 : V 2 = .slice (some ⟨g, 0, none⟩) (n6 + 6) (n6 + 6) := hI.2 2 (hD 2 (by decide)) rfl
   have zf2 := zF2; clear zF2
   have zF3 : V 3 = .pointer (some ⟨g, 3, none⟩) := hI.2 3 (hD 3 (by decide)) rfl
   have zf3 := zF3; clear zF3
   have zF4 : V 4 = .string ⟨a3.toArray⟩ := hI.2 4 (hD 4 (by decide)) rfl
   have zf4 := zF4; clear zF4
   have zF5 : V 5 = .slice (some ⟨g, 0, none⟩) (n6 + 6) (n6 + 6) := hI.2 5 (hD 5 (by decide)) rfl
   have zf5 := zF5; clear zF5
   have zF6 : V 6 = .pointer (some ⟨g, 4, none⟩) := hI.2 6 (hD 6 (by decide)) rfl
   have zf6 := zF6; clear zF6
   have zF7 : V 7 = .string ⟨a4.toArray⟩ := hI.2 7 (hD 7 (by decide)) rfl
   have zf7 := zF7; clear zF7
   have zF8 : V 8 = .int .i64 sx := hI.2 8 (hD 8 (by decide)) rfl
   have zf8 := zF8; clear zF8
   have zF9 : V 9 = .bool se := hI.2 9 (hD 9 (by decide)) rfl
   have zf9 := zF9; clear zF9
   have zF10 : V 10 = .agg #[.int .i64 v1, .int .i64 v2, .string ⟨a3.toArray⟩, .string ⟨a4.toArray⟩, .bool se, .slice none 0 0] := hI.2 10 (hD 10 (by decide)) rfl
   have zf10 := zF10; clear zF10
   have zF12 : ∃ (g_12 : Nat), V 11 = .pointer (some ⟨g_12, 0, none⟩) ∧ w3.heap.size ≤ g_12 ∧ Blk w4 g_12 53 #[.int .i64 v1, .int .i64 v2, .string ⟨a3.toArray⟩, .string ⟨a4.toArray⟩, .bool se, .slice none 0 0] := hI.2 12 (hD 12 (by decide)) rfl
   obtain ⟨g_12, zf12, c12_0, b12_0⟩ := zF12
   clear hI hD HGs
   simp only [frAll, Act.put, List.setIfInBounds_toArray, List.set_cons_zero, List.set_cons_succ, Nat.zero_add, Nat.reduceAdd, zf0, zf1, zf2, zf3, zf4, zf5, zf6, zf7, zf8, zf9, zf10, zf12]
   clear zf0 zf1 zf2 zf3 zf4 zf5 zf6 zf7 zf8 zf9 zf10 zf12
   clear V D
   have HX4 := Lib.hid b12_0
   have HR4 := Lib.hid hGx.1
   have HG4 := Lib.hid hGx.2
   have HP4 := Lib.hid (HP3.out.trans hMx)
   have hg8 := c12_0
   clear b12_0 c12_0 hGx hMx hBx HR3 HG3 HP3
   try clear b11_0 c11_0
   generalize g_12 = g8 at *
   have hz4 := HP4.out.size
   have hg8w := HX4.out.lt
   have j6 : 6 ≤ n6 + 6 := by omega
   go_upto_region 8 with (fail)
   go_cut [64, 65, 66] (fun p q i wx => ∃ A', p = .slice A' n6 n6 ∧ (0 < n6 → A' = some ⟨g, 6, none⟩) ∧ q = .int .i64 (n6 : Int) ∧ i = .int .i64 0 ∧ w4 = wx)
   case first =>
    by_cases hz : n6 = 0
    ·subst hz
     go_wp2_with fail
     go_meet
     exact ⟨_, rfl, fun h => absurd h (by omega), rfl, rfl, rfl⟩
    ·go_wp2_with fail
     go_meet
     exact ⟨_, rfl, fun h => rfl, rfl, rfl, rfl⟩
   case rest =>
    obtain ⟨A6, rfl, hA6, rfl, rfl, rfl⟩ := hcut
    have HA6 := Lib.hid hA6
    have HTL : Hid (∀ x ∈ t, x.length ≤ 100000) := Lib.hid (fun x hx => HL.out x (by simp [hx]))
    have hgne : gr ≠ g8 := by omega
    have hwg8 : w.heap.size ≤ g8 := by omega
    have hgg8 : g ≠ g8 := by omega
    clear hA6 i1 i2 i3 i4 i5 HL HSE HN HMB HB0 HPW
    go_wp2_with fail
    go_loopg [66] n6 (fun gk i wr => DlRel w gr g8 t v1 v2 a3 a4 se n6 gk i wr ∧ Blk wr g 9 (strsV (a0 :: a1 :: a2 :: a3 :: a4 :: a5 :: t)).toArray)
    case atStart => exact ⟨⟨0, 0, none, [], [], by omega, by omega, rfl, rfl, rfl, ⟨World.ownsRow_nil _ _ _ _, fun x h => absurd h (by simp), rfl⟩, HX4.out, HG4.out, HP4.out⟩, HR4.out⟩
    case round =>
     clear HX4 HG4 HP4 HR4
     obtain ⟨⟨k, cap, A, cs, r, rfl, hk, rfl, hck, hvr, hVk, hX, hG, hm⟩, hgb⟩ := hrel
     have HCK := Lib.hid hck
     have HVK := Lib.hid hVk
     have HXX := Lib.hid hX
     have HGG := Lib.hid hG
     have HMM := Lib.hid hm
     have HGB := Lib.hid hgb
     clear hgb
     rw [hck] at hX
     clear hck hVk hG
     by_cases hlt : k < n6
     ·have hkt : k < t.length := by have := HT6.out; omega
      obtain rfl := HA6.out (by omega)
      have hq := HGB.out.row0.cell (six_get (a0 := a0) (a1 := a1) (a2 := a2) (a3 := a3) (a4 := a4) (a5 := a5) hkt)
      rw [Nat.zero_add] at hq
      have HVN := Lib.hid (fun h => valsRd_fail (List.getElem_mem hkt) h)
      have HVS := Lib.hid (fun c h => valsRd_step hkt hvr (c := c) h)
      have hsl := HTL.out _ (List.getElem_mem hkt)
      have HCT := Lib.hid (cutE_calls wr t[k] (HMS.out _ hm) hsl)
      generalize t[k] = s at *
      clear hX hm hvr
      obtain ⟨F, hF⟩ : ∃ F, CutF s = F := ⟨_, rfl⟩
      obtain ⟨R, hR⟩ : ∃ R, CutR s = R := ⟨_, rfl⟩
      obtain ⟨I, hI⟩ : ∃ I, CutI s = I := ⟨_, rfl⟩
      have HV0 : Hid (I = false → valRd s = none) := Lib.hid (fun h => valRd_no (by rw [hI]; exact h))
      have HVY : Hid (I = true → valRd s = if F = [] ∨ [] ∈ spl 44 R then none else some (F, spl 44 R)) := Lib.hid (fun h => by rw [← hF, ← hR]; exact valRd_yes (by rw [hI]; exact h))
      have hRl : R.length ≤ 100000 := by rw [← hR]; have := cutR_len s; omega
      rw [hF, hR, hI] at HCT
      clear hF hR hI
      go_wp2_with fail
      refine HCT.out.mono ?_
      rintro e wA ⟨rfl, hmA⟩
      have HMA := Lib.hid (HMM.out.trans hmA)
      have HSP := Lib.hid (split_calls wA R [44] (HMS.out _ HMA.out) (by omega) (by decide))
      rw [split_byte] at HSP
      have hspl := spl_count 44 R
      obtain ⟨sp, hsp⟩ : ∃ sp, spl 44 R = sp := ⟨_, rfl⟩
      rw [hsp] at HSP HVY hspl
      have HVK2 := Lib.hid (HVK.out.pure hmA)
      have HXX2 := Lib.hid (HXX.out.modp hmA)
      have HGG2 := Lib.hid (HGG.out.modp hmA)
      have HGB2 := Lib.hid (HGB.out.modp hmA)
      clear hq HCT hmA hsp HVK HXX HGG HMM HGB
      go_wp2_with fail
      refine HSP.out.mono ?_
      rintro e wB ⟨rfl, rfl⟩
      have hpa := pure_alloc wA (.cells (strsV sp).toArray 9)
      have HBS := Lib.hid (Blk.new wA 9 (strsV sp).toArray)
      have HVK3 := Lib.hid (HVK2.out.pure hpa)
      have HXX3 := Lib.hid (HXX2.out.modp hpa)
      have HGG3 := Lib.hid (HGG2.out.modp hpa)
      have HGB3 := Lib.hid (HGB2.out.modp hpa)
      have HMM3 := Lib.hid (HMA.out.trans hpa)
      clear hpa HVK2 HXX2 HGG2 HMA HSP HGB2
      generalize (wA.alloc (.cells (strsV sp).toArray 9)) = wB at *
      generalize wA.heap.size = gS at *
      have HSL : Hid (Sl wB 9 1 (.slice (some ⟨gS, 0, none⟩) sp.length sp.length) (strsV sp)) := Lib.hid ⟨_, _, _, rfl, Nat.le_refl _, by omega, by simp [strsV], fun _ => ⟨gS, 0, rfl, HBS.out.row0⟩⟩
      go_upto_region 13 with (fail)
      go_cut [87] (fun p wx => ∃ fl : Bool, p = .bool fl ∧ Pure wB wx ∧ (fl = true → valsRd t = none) ∧ (fl = false → valsRd (t.take (k + 1)) = some (r ++ [(F, sp)])))
      case first =>
       cases I
       ·have HNO := Lib.hid (HVN.out (HV0.out rfl))
        clear HVN HV0 HVY HVS
        go_wp2_with fail
        go_meet
        exact ⟨true, rfl, Mod.refl _ _, fun _ => HNO.out, fun h => by cases h⟩
       by_cases hF0 : F = []
       ·subst hF0
        have HNO := Lib.hid (HVN.out (by rw [HVY.out rfl, if_pos (.inl rfl)]))
        clear HVN HV0 HVY HVS
        go_wp2_with fail
        go_meet
        exact ⟨true, rfl, Mod.refl _ _, fun _ => HNO.out, fun h => by cases h⟩
       have hF1 : (F == []) = false := by simpa using hF0
       have hF2 : F.isEmpty = false := by cases F with | nil => exact absurd rfl hF0 | cons a b => rfl
       have HF0 := Lib.hid hF0
       have HCN := Lib.hid (containsQs_calls wB (.slice (some ⟨gS, 0, none⟩) sp.length sp.length) sp [] HSL.out)
       rw [any_memT] at HCN
       clear hF0 HV0
       by_cases hin : [] ∈ sp
       ·have HNO := Lib.hid (HVN.out (by rw [HVY.out rfl, if_pos (.inr hin)]))
        have h1 : decide (([] : Str) ∈ sp) = true := decide_eq_true hin
        rw [h1] at HCN
        clear HVN HVY HVS h1 hin
        go_wp2_with fail
        refine HCN.out.mono ?_
        rintro e wE ⟨rfl, hmE⟩
        clear HCN
        go_wp2_with fail
        go_meet
        exact ⟨true, rfl, hmE, fun _ => HNO.out, fun h => by cases h⟩
       ·have HYE := Lib.hid (HVS.out (F, sp) (by rw [HVY.out rfl, if_neg (fun h => h.elim HF0.out hin)]))
        have h1 : decide (([] : Str) ∈ sp) = false := decide_eq_false hin
        rw [h1] at HCN
        clear HVN HVY HVS h1 hin
        go_wp2_with fail
        refine HCN.out.mono ?_
        rintro e wE ⟨rfl, hmE⟩
        clear HCN
        go_wp2_with fail
        go_meet
        exact ⟨false, rfl, hmE, fun h => (by cases h), fun _ => HYE.out⟩
      case rest =>
       obtain ⟨fl, rfl, hm8, hno, hyes⟩ := hcut
       have HM8 := Lib.hid (HMM3.out.trans hm8)
       have HX8 := Lib.hid (HXX3.out.modp hm8)
       have HG8 := Lib.hid (HGG3.out.modp hm8)
       have HGB8 := Lib.hid (HGB3.out.modp hm8)
       have HV8 := Lib.hid (HVK3.out.pure hm8)
       have HS8 := Lib.hid (HSL.out.pure hm8)
       have HNO := Lib.hid hno
       have HYE := Lib.hid hyes
       clear hm8 hno hyes HVN HV0 HVY HVS HVK3 HXX3 HGG3 HMM3 HSL HBS HGB3
       cases fl
       rotate_left
       ·have HON := Lib.hid (dlr_no HD.out (HNO.out rfl))
        have hG := HG8.out
        have z0 := hG.cell 0; have zf0 := hG.frozen 0; have z1 := hG.cell 1; have zf1 := hG.frozen 1; have z2 := hG.cell 2; have zf2 := hG.frozen 2; have z3 := hG.cell 3; have zf3 := hG.frozen 3; have z4 := hG.cell 4; have zf4 := hG.frozen 4; have z5 := hG.cell 5; have zf5 := hG.frozen 5; simp at z0 z1 z2 z3 z4 z5
        clear hG HNO HYE HX8 HV8 HS8
        go_wp2_with fail
        have hGE := (((((HG8.out.set 0 (.int .i64 0)).set 1 (.int .i64 0)).set 2 (.string ⟨#[]⟩)).set 3 (.string ⟨#[]⟩)).set 4 (.bool false)).set 5 (.slice none 0 0)
        have u0 := hGE.cell 0; have u1 := hGE.cell 1; have u2 := hGE.cell 2; have u3 := hGE.cell 3; have u4 := hGE.cell 4; have u5 := hGE.cell 5; simp at u0 u1 u2 u3 u4 u5
        try simp only [Exit.inBlock, Exit.then]
        refine bodyPost_ret (v := .tuple #[.agg #[.int .i64 0, .int .i64 0, .string ⟨#[]⟩, .string ⟨#[]⟩, .bool false, .slice none 0 0], .bool false]) (by simp [results, Tryz.results93, go_sem, u0, u1, u2, u3, u4, u5]) rfl ?_
        rw [HON.out]
        have hmz : Mod (· = gr) wc ((((((wc.setCell ⟨gr, 0, none⟩ (.int .i64 0)).setCell ⟨gr, 1, none⟩ (.int .i64 0)).setCell ⟨gr, 2, none⟩ (.string ⟨#[]⟩)).setCell ⟨gr, 3, none⟩ (.string ⟨#[]⟩)).setCell ⟨gr, 4, none⟩ (.bool false)).setCell ⟨gr, 5, none⟩ (.slice none 0 0)) := ((((((Mod.refl (· = gr) wc).setCell (.inl rfl) _).setCell (.inl rfl) _).setCell (.inl rfl) _).setCell (.inl rfl) _).setCell (.inl rfl) _).setCell (.inl rfl) _
        exact ⟨⟨0, 0, [], [], false, none, 0, []⟩, rfl, vals_nil _, fun q hq => (by cases hq), HM8.out.trans' hmz (fun i hi hlt => by omega)⟩
       have HYR := Lib.hid (HYE.out rfl)
       clear HNO HYE
       have hck := HCK.out
       obtain ⟨i0, hi0, hz0, hz1, hz2⟩ := info_parts info_cho
       have hownS := HV8.out.1
       rw [hck] at hownS
       have hmS := HM8.out
       have hX := HX8.out
       rw [hck] at hX
       have y0 := hX.cell 0; have y1 := hX.cell 1; have y2 := hX.cell 2; have y3 := hX.cell 3; have y4 := hX.cell 4; have y5 := hX.cell 5; simp at y0 y1 y2 y3 y4 y5
       clear hX hck
       go_wp2_with ((at_builtin; refine wpList_append_lies _ rfl _ _ _ rfl gr 134 i0 _ 2 40 Tryz.underlying51 hi0 hz0 hz1 hz2 rfl (by omega) (.slice A k cap) k (choV cs) rfl (hownS.alloc _) ⟨wc.heap.size, 0, none⟩ 1 1 [.string ⟨F.toArray⟩, .slice (some ⟨gS, 0, none⟩) sp.length sp.length] rfl rfl (World.news_of_block (cs := #[.string ⟨F.toArray⟩, .slice (some ⟨gS, 0, none⟩) sp.length sp.length]) (t := 134) (fr := (0, 0)) (heap_alloc_new wc _)) (by simp [Value.oneCell']) (by omega) (by simp [maxLen]; omega) (by omega) (by have := hmS.size; simp; omega) (wc.heap.size + 1) (by simp) ?_; intro g5 cap5 w5 hown5 hgrow hat hlt5); have hB6 := (HX8.out.alloc (.cells #[.string ⟨F.toArray⟩, .slice (some ⟨gS, 0, none⟩) sp.length sp.length] 134)).mod (mod_grown hgrow) (fun hv => by have h2 := HX8.out.alloc (.cells #[.string ⟨F.toArray⟩, .slice (some ⟨gS, 0, none⟩) sp.length sp.length] 134); unfold Blk at h2; exact absurd (own_ty (hownS.alloc (.cells #[.string ⟨F.toArray⟩, .slice (some ⟨gS, 0, none⟩) sp.length sp.length] 134)) hv h2) (by decide)); have q5 := hB6.cell 5; have qf5 := hB6.frozen 5; simp at q5)
       have hpal := pure_alloc wc (.cells #[.string ⟨F.toArray⟩, .slice (some ⟨gS, 0, none⟩) sp.length sp.length] 134)
       have hG6 := (HG8.out.modp hpal).mod (mod_grown hgrow) (fun hv => by have h2 := HG8.out.modp hpal; unfold Blk at h2; exact absurd (own_ty (hownS.alloc (.cells #[.string ⟨F.toArray⟩, .slice (some ⟨gS, 0, none⟩) sp.length sp.length] 134)) hv h2) (by decide))
       have hgb6 := (HGB8.out.modp hpal).mod (mod_grown hgrow) (fun hv => by have h2 := HGB8.out.modp hpal; unfold Blk at h2; exact absurd (own_ty (hownS.alloc (.cells #[.string ⟨F.toArray⟩, .slice (some ⟨gS, 0, none⟩) sp.length sp.length] 134)) hv h2) (by decide))
       have hV6 := VkR.app (x := ⟨F, some ⟨gS, 0, none⟩, sp.length, sp⟩) (HV8.out.pure hpal) (by rw [HCK.out]; exact mod_grown hgrow) (HS8.out.pure hpal) (show k + 1 = cs.length + 1 by rw [HCK.out]) hown5
       have hm6 : Mod (· = g8) w5 (w5.setCell ⟨g8, 5, none⟩ (.slice (some ⟨g5, 0, none⟩) (k + 1) cap5)) := (Mod.refl (· = g8) w5).setCell (.inl rfl) _
       have hob := own_block (hownS.alloc (.cells #[.string ⟨F.toArray⟩, .slice (some ⟨gS, 0, none⟩) sp.length sp.length] 134))
       have hp6 : Pure w w5 := (hmS.trans hpal).trans' (mod_grown hgrow) (fun i hi hlt => by have := hob i hi; omega)
       go_roundg (n6 - (k + 1))
       case measure => omega
       case rel =>
        refine ⟨⟨k + 1, cap5, some ⟨g5, 0, none⟩, cs ++ [⟨F, some ⟨gS, 0, none⟩, sp.length, sp⟩], r ++ [(F, sp)], rfl, by omega, by simp, by simp [HCK.out], HYR.out, ?_, ?_, hG6.mod hm6 hgne, hp6.trans' hm6 (fun i hi hlt => by omega)⟩, hgb6.mod hm6 hgg8⟩
        ·have h := hV6.far hm6 hB6 (by decide) (by decide)
         unfold VkR at h ⊢
         rw [show (cs ++ [(⟨F, some ⟨gS, 0, none⟩, sp.length, sp⟩ : ChoR)]).length = k + 1 by simp [HCK.out]] at h ⊢
         exact h
        ·have h := hB6.set 5 (.slice (some ⟨g5, 0, none⟩) (k + 1) cap5)
         rw [show (cs ++ [(⟨F, some ⟨gS, 0, none⟩, sp.length, sp⟩ : ChoR)]).length = k + 1 by simp [HCK.out]]
         simpa using h
     ·obtain rfl : k = n6 := by omega
      have hvr2 : valsRd t = some r := by rw [List.take_of_length_le (by have := HT6.out; omega)] at hvr; exact hvr
      have HSUM := Lib.hid (dlr_sum (A := A) (c := cap) HD.out HV1.out HV2.out hvr2 HVK.out.2.2)
      have HCT2 := Lib.hid HCK.out
      have hG := HGG.out
      have y0 := hX.cell 0; have y1 := hX.cell 1; have y2 := hX.cell 2; have y3 := hX.cell 3; have y4 := hX.cell 4; have y5 := hX.cell 5; simp at y0 y1 y2 y3 y4 y5
      have z0 := hG.cell 0; have zf0 := hG.frozen 0; have z1 := hG.cell 1; have zf1 := hG.frozen 1; have z2 := hG.cell 2; have zf2 := hG.frozen 2; have z3 := hG.cell 3; have zf3 := hG.frozen 3; have z4 := hG.cell 4; have zf4 := hG.frozen 4; have z5 := hG.cell 5; have zf5 := hG.frozen 5; simp at z0 z1 z2 z3 z4 z5
      rw [HS1.out, HS2.out] at HSUM
      clear hX hG hvr hvr2 hm hk hlt HCK HA6
      have hmz : Mod (· = gr) wr ((((((wr.setCell ⟨gr, 0, none⟩ (.int .i64 v1)).setCell ⟨gr, 1, none⟩ (.int .i64 v2)).setCell ⟨gr, 2, none⟩ (.string ⟨a3.toArray⟩)).setCell ⟨gr, 3, none⟩ (.string ⟨a4.toArray⟩)).setCell ⟨gr, 4, none⟩ (.bool se)).setCell ⟨gr, 5, none⟩ (.slice A k cap)) := ((((((Mod.refl (· = gr) wr).setCell (.inl rfl) _).setCell (.inl rfl) _).setCell (.inl rfl) _).setCell (.inl rfl) _).setCell (.inl rfl) _).setCell (.inl rfl) _
      have HFIN : Hid (DlPost w o (.returned (.tuple #[.agg #[.int .i64 v1, .int .i64 v2, .string ⟨a3.toArray⟩, .string ⟨a4.toArray⟩, .bool se, .slice A k cap], .bool ((s1 && s2) && decide (0 ≤ sx))])) ((((((wr.setCell ⟨gr, 0, none⟩ (.int .i64 v1)).setCell ⟨gr, 1, none⟩ (.int .i64 v2)).setCell ⟨gr, 2, none⟩ (.string ⟨a3.toArray⟩)).setCell ⟨gr, 3, none⟩ (.string ⟨a4.toArray⟩)).setCell ⟨gr, 4, none⟩ (.bool se)).setCell ⟨gr, 5, none⟩ (.slice A k cap))) := Lib.hid (by
       refine ⟨⟨v1, v2, a3, a4, se, A, cap, cs⟩, ?_, (HVK.out.far hmz HGG.out (by decide) (by decide)).vals, HSUM.out.2, HMM.out.trans' hmz (fun i hi hlt => by omega)⟩
       rw [HSUM.out.1]
       simp only [HCT2.out])
      have hGE := (((((HGG.out.set 0 (.int .i64 v1)).set 1 (.int .i64 v2)).set 2 (.string ⟨a3.toArray⟩)).set 3 (.string ⟨a4.toArray⟩)).set 4 (.bool se)).set 5 (.slice A k cap)
      have u0 := hGE.cell 0; have u1 := hGE.cell 1; have u2 := hGE.cell 2; have u3 := hGE.cell 3; have u4 := hGE.cell 4; have u5 := hGE.cell 5; simp at u0 u1 u2 u3 u4 u5
      clear hmz hGE HSUM HVK HGG HMM HXX HV1 HV2 HD HS1 HS2
      obtain ⟨sg, hsg⟩ : ∃ sg, decide (0 ≤ sx) = sg := ⟨_, rfl⟩
      rw [hsg] at HFIN
      cases s1 <;> cases s2
      all_goals try simp only [Bool.true_and, Bool.false_and, Bool.and_true, Bool.and_false] at HFIN
      ·go_wp2_with fail
       try simp only [Exit.inBlock, Exit.then]
       refine bodyPost_ret (v := .tuple #[.agg #[.int .i64 v1, .int .i64 v2, .string ⟨a3.toArray⟩, .string ⟨a4.toArray⟩, .bool se, .slice A k cap], .bool false]) (by simp [results, Tryz.results93, go_sem, u0, u1, u2, u3, u4, u5]) rfl ?_
       exact HFIN.out
      ·go_wp2_with fail
       try simp only [Exit.inBlock, Exit.then]
       refine bodyPost_ret (v := .tuple #[.agg #[.int .i64 v1, .int .i64 v2, .string ⟨a3.toArray⟩, .string ⟨a4.toArray⟩, .bool se, .slice A k cap], .bool false]) (by simp [results, Tryz.results93, go_sem, u0, u1, u2, u3, u4, u5]) rfl ?_
       exact HFIN.out
      ·go_wp2_with fail
       try simp only [Exit.inBlock, Exit.then]
       refine bodyPost_ret (v := .tuple #[.agg #[.int .i64 v1, .int .i64 v2, .string ⟨a3.toArray⟩, .string ⟨a4.toArray⟩, .bool se, .slice A k cap], .bool false]) (by simp [results, Tryz.results93, go_sem, u0, u1, u2, u3, u4, u5]) rfl ?_
       exact HFIN.out
      ·go_wp2_with fail
       try simp only [Exit.inBlock, Exit.then]
       refine bodyPost_ret (v := .tuple #[.agg #[.int .i64 v1, .int .i64 v2, .string ⟨a3.toArray⟩, .string ⟨a4.toArray⟩, .bool se, .slice A k cap], .bool sg]) (by simp [results, Tryz.results93, go_sem, u0, u1, u2, u3, u4, u5]) rfl ?_
       exact HFIN.out

end Go.Proofs.YtaidkmnbjbnciaaGreatDoor

/- The closures that read decisions. -/
namespace Go.Proofs.YtaidkmnbjbnciaaGreatDoor
set_option linter.unusedVariables false
set_option linter.unusedSimpArgs false
open Go.RowKit

/-- What lies in the box of decisions while lines are read. -/
def RdDI (base gl : Nat) (k : Nat) (S : List DecK) (W : World) : Prop := ∃ (A : Option Addr) (c : Nat) (ds : List DecR),
 Blk W gl 42 #[.slice A ds.length c] ∧ W.ownsRow base 53 6 (.slice A ds.length c) ds.length (decV ds) ∧ DecS W ds ∧ ds.map DecR.key = S ∧ ds.length ≤ k ∧ base ≤ gl
theorem RdDI.pure {base gl k : Nat} {S : List DecK} {W W' : World} (h : RdDI base gl k S W) (hm : Pure W W') : RdDI base gl k S W' := by
 obtain ⟨A, c, ds, h1, h2, h3, h4, h5, h6⟩ := h
 exact ⟨A, c, ds, h1.modp hm, own_pure h2 hm, h3.pure hm, h4, h5, h6⟩
theorem RdDI.push {W W5 W6 : World} {base gl k g5 c c5 n' : Nat} {A : Option Addr} {ds : List DecR} {S : List DecK} {x : DecR} {o : Option DecK} {S' : List DecK} {cl : Array Value} (hown : W.ownsRow base 53 6 (.slice A ds.length c) ds.length (decV ds)) (hs : DecS W ds) (hx : Vals W (.slice x.A x.vals.length x.c) x.vals) (hgrow : W.grownBy W5 (Value.slice A ds.length c).ownBlock) (hn : n' = ds.length + 1)
  (hown5 : W5.ownsRow base 53 6 (.slice (some ⟨g5, 0, none⟩) n' c5) n' (decV ds ++ decC x)) (hB : Blk W5 gl 42 cl) (hB6 : Blk W6 gl 42 #[.slice (some ⟨g5, 0, none⟩) n' c5]) (hm : Mod (· = gl) W5 W6) (hk : ds.map DecR.key = S) (hl : ds.length ≤ k) (hb : base ≤ gl)
  (ho : (o.map fun q => S ++ [q]) = some S') (hq : ∀ q, o = some q → x.key = q) : RdDI base gl (k + 1) S' W6 := by
 cases o with
 | none => cases ho
 | some q =>
  cases ho
  subst hn
  have t1 : ∀ i arr fr, W.heap[i]? = some (.cells arr 134 fr) → ¬ (Value.slice A ds.length c).ownBlock = some i := fun i arr fr hi hv => absurd (own_ty hown hv hi) (by decide)
  have t2 : ∀ i arr fr, W.heap[i]? = some (.cells arr 9 fr) → ¬ (Value.slice A ds.length c).ownBlock = some i := fun i arr fr hi hv => absurd (own_ty hown hv hi) (by decide)
  have h5 : DecS W5 (ds ++ [x]) := DecS.mod (DecS.snoc hs hx) (mod_grown hgrow) t1 t2
  refine ⟨some ⟨g5, 0, none⟩, c5, ds ++ [x], ?_, ?_, h5.mod hm (fun i arr fr hi => blk_tyR hB hi (by decide)) (fun i arr fr hi => blk_tyR hB hi (by decide)), ?_, ?_, hb⟩
  ·rw [List.length_append, List.length_singleton]; exact hB6
  ·rw [List.length_append, List.length_singleton, decV_snoc]
   exact own_mod hown5 hm (fun i hi he => by subst he; exact absurd (own_ty hown5 hi hB) (by decide))
  ·rw [List.map_append, hk, List.map_singleton, hq q rfl]
  ·rw [List.length_append, List.length_singleton]; omega

set_option maxRecDepth 100000 in
set_option maxHeartbeats 8000000 in
theorem rdClo_calls (w : World) (base gl k : Nat) (S : List DecK) (g : Nat) (ws : List Str) (hk : k ≤ 100000) (hI : RdDI base gl k S w) (hB : Blk w g 9 (strsV ws).toArray) (hn : ws.length ≤ 100001) (hl : ∀ x ∈ ws, x.length ≤ 100000) (hM : MlnS w) :
  Calls Tryz.prog 90 #[.slice (some ⟨g, 0, none⟩) ws.length ws.length, .pointer (some ⟨gl, 0, none⟩)] w (TkPost base (RdDI base gl (k + 1)) ((decRd ws).map fun q => S ++ [q]) w) := by
 have HD := Lib.hid (decLine_calls w g ws.length ws rfl hB hn hl hM)
 obtain ⟨A, c, ds, h1, h2, h3, h4, h5, h6⟩ := hI
 have HB := Lib.hid h1
 have HO := Lib.hid h2
 have HS := Lib.hid h3
 have HK := Lib.hid h4
 have hdl : ds.length ≤ 100000 := by omega
 have hglw := h1.lt
 obtain ⟨n, hn⟩ : ∃ n, ds.length = n := ⟨_, rfl⟩
 have HN := Lib.hid hn
 obtain ⟨o, ho⟩ : ∃ o, decRd ws = o := ⟨_, rfl⟩
 rw [ho] at HD ⊢
 rw [hn] at h5 hdl
 obtain ⟨arg, harg⟩ : ∃ v : Value, .slice (some ⟨g, 0, none⟩) ws.length ws.length = v := ⟨_, rfl⟩
 rw [harg] at HD ⊢
 clear h1 h2 h3 h4 hn ho
 go_enter Tryz.func90, Tryz.ntmps90
 go_wp2_with fail
 refine HD.out.mono ?_
 rintro e w1 ⟨x, rfl, hv, hq, hm⟩
 have HQ := Lib.hid hq
 have HV := Lib.hid hv
 have HM := Lib.hid hm
 obtain ⟨ok, hok⟩ : ∃ b, o.isSome = b := ⟨_, rfl⟩
 have HOK := Lib.hid hok
 rw [hok]
 clear hq hv hm hok HD
 go_upto_region 2 with (fail)
 have hpa := pure_alloc w1 (.cells #[.int .i64 x.no, .int .i64 x.at_, .string ⟨x.rev.toArray⟩, .string ⟨x.item.toArray⟩, .bool x.sec, .slice x.A x.vals.length x.c] 53)
 have HX2 := Lib.hid (Blk.new w1 53 #[.int .i64 x.no, .int .i64 x.at_, .string ⟨x.rev.toArray⟩, .string ⟨x.item.toArray⟩, .bool x.sec, .slice x.A x.vals.length x.c])
 have HM2 := Lib.hid (HM.out.trans hpa)
 have HV2 := Lib.hid (Vals.pure HV.out hpa)
 clear hpa HM HV
 generalize (w1.alloc (.cells #[.int .i64 x.no, .int .i64 x.at_, .string ⟨x.rev.toArray⟩, .string ⟨x.item.toArray⟩, .bool x.sec, .slice x.A x.vals.length x.c] 53)) = W at *
 generalize w1.heap.size = g4 at *
 have hB2 := HB.out.modp HM2.out
 rw [HN.out] at hB2
 have HB2 := Lib.hid hB2
 have HO2 := Lib.hid (own_pure HO.out HM2.out)
 have HS2 := Lib.hid (HS.out.pure HM2.out)
 have hX2 := HX2.out
 have x0 := hB2.cell 0; simp at x0
 have y0 := hX2.cell 0; have y1 := hX2.cell 1; have y2 := hX2.cell 2; have y3 := hX2.cell 3; have y4 := hX2.cell 4; have y5 := hX2.cell 5; simp at y0 y1 y2 y3 y4 y5
 clear hB2 hX2 HB HO HS
 obtain ⟨i0, hi0, hz0, hz1, hz2⟩ := info_parts info_dec
 have hownS := HO2.out
 rw [HN.out] at hownS
 have hmS := HM2.out
 have hbW : base ≤ W.heap.size := by have := HB2.out.lt; omega
 go_wp2_with ((at_builtin; refine wpList_append_lies _ rfl _ _ _ rfl base 53 i0 _ 6 80 Tryz.underlying42 hi0 hz0 hz1 hz2 rfl (by omega) (.slice A n c) n (decV ds) rfl (hownS.alloc _) ⟨W.heap.size, 0, none⟩ 1 1 [.int .i64 x.no, .int .i64 x.at_, .string ⟨x.rev.toArray⟩, .string ⟨x.item.toArray⟩, .bool x.sec, .slice x.A x.vals.length x.c] rfl rfl (World.news_of_block (cs := #[.int .i64 x.no, .int .i64 x.at_, .string ⟨x.rev.toArray⟩, .string ⟨x.item.toArray⟩, .bool x.sec, .slice x.A x.vals.length x.c]) (t := 53) (fr := (0, 0)) (heap_alloc_new W _)) (by simp [Value.oneCell']) (by omega) (by simp [maxLen]; omega) (by omega) (by have := hmS.size; simp; omega) (W.heap.size + 1) (by simp) ?_; intro g5 cap5 w5 hown5 hgrow hat hlt5); have hB6 := (HB2.out.alloc (.cells #[.int .i64 x.no, .int .i64 x.at_, .string ⟨x.rev.toArray⟩, .string ⟨x.item.toArray⟩, .bool x.sec, .slice x.A x.vals.length x.c] 53)).mod (mod_grown hgrow) (fun hv => by have h2 := HB2.out.alloc (.cells #[.int .i64 x.no, .int .i64 x.at_, .string ⟨x.rev.toArray⟩, .string ⟨x.item.toArray⟩, .bool x.sec, .slice x.A x.vals.length x.c] 53); unfold Blk at h2; exact absurd (own_ty (hownS.alloc (.cells #[.int .i64 x.no, .int .i64 x.at_, .string ⟨x.rev.toArray⟩, .string ⟨x.item.toArray⟩, .bool x.sec, .slice x.A x.vals.length x.c] 53)) hv h2) (by decide)); have q0 := hB6.cell 0; have qf0 := hB6.frozen 0; simp at q0)
 go_ret
 have hpal := pure_alloc W (.cells #[.int .i64 x.no, .int .i64 x.at_, .string ⟨x.rev.toArray⟩, .string ⟨x.item.toArray⟩, .bool x.sec, .slice x.A x.vals.length x.c] 53)
 have HOA := hownS.alloc (.cells #[.int .i64 x.no, .int .i64 x.at_, .string ⟨x.rev.toArray⟩, .string ⟨x.item.toArray⟩, .bool x.sec, .slice x.A x.vals.length x.c] 53)
 have hm8 : Mod (· = gl) w5 (w5.setCell ⟨gl, 0, none⟩ (.slice (some ⟨g5, 0, none⟩) (n + 1) cap5)) := (Mod.refl (· = gl) w5).setCell (.inl rfl) _
 have K1 : KeepS base W w5 := (KeepS.of_pure hpal).trans (KeepS.grown HOA hgrow (by decide))
 have K2 : KeepS base w5 (w5.setCell ⟨gl, 0, none⟩ (.slice (some ⟨g5, 0, none⟩) (n + 1) cap5)) := KeepS.of_one hm8 h6 hB6 (by decide)
 have hB8 := hB6.set 0 (.slice (some ⟨g5, 0, none⟩) (n + 1) cap5)
 refine ⟨(by rw [Option.isSome_map, HOK.out]; rfl), (KeepS.of_pure HM2.out).trans (K1.trans K2), fun S' hS => ?_⟩
 exact RdDI.push (x := x) (c := c) (n' := n + 1) (by have := HO2.out.alloc (.cells #[.int .i64 x.no, .int .i64 x.at_, .string ⟨x.rev.toArray⟩, .string ⟨x.item.toArray⟩, .bool x.sec, .slice x.A x.vals.length x.c] 53); exact this) (HS2.out.pure hpal) (Vals.pure HV2.out hpal) (by rw [HN.out]; exact hgrow) (by rw [HN.out]) hown5 hB6 (by simpa using hB8) hm8 HK.out (by rw [HN.out]; exact h5) h6 hS HQ.out

set_option maxRecDepth 100000 in
set_option maxHeartbeats 8000000 in
theorem rdCloR_calls (w : World) (base gl k : Nat) (S : List DecK) (l : Str) (hk : k ≤ 100000) (hI : RdDI base gl k S w) (hl : l.length ≤ 100000) (hM : MlnS w) (hP : Pow w) :
  Calls Tryz.prog 92 #[.string ⟨l.toArray⟩, .pointer (some ⟨gl, 0, none⟩)] w (TkPost base (RdDI base gl (k + 1)) ((lnRd l).map fun q => S ++ [q]) w) := by
 have HD := Lib.hid (decLineR_calls w l hl hM hP)
 obtain ⟨A, c, ds, h1, h2, h3, h4, h5, h6⟩ := hI
 have HB := Lib.hid h1
 have HO := Lib.hid h2
 have HS := Lib.hid h3
 have HK := Lib.hid h4
 have hdl : ds.length ≤ 100000 := by omega
 have hglw := h1.lt
 obtain ⟨n, hn⟩ : ∃ n, ds.length = n := ⟨_, rfl⟩
 have HN := Lib.hid hn
 obtain ⟨o, ho⟩ : ∃ o, lnRd l = o := ⟨_, rfl⟩
 rw [ho] at HD ⊢
 rw [hn] at h5 hdl
 obtain ⟨arg, harg⟩ : ∃ v : Value, .string ⟨l.toArray⟩ = v := ⟨_, rfl⟩
 rw [harg] at HD ⊢
 clear h1 h2 h3 h4 hn ho
 go_enter Tryz.func92, Tryz.ntmps92
 go_wp2_with fail
 refine HD.out.mono ?_
 rintro e w1 ⟨x, rfl, hv, hq, hm⟩
 have HQ := Lib.hid hq
 have HV := Lib.hid hv
 have HM := Lib.hid hm
 obtain ⟨ok, hok⟩ : ∃ b, o.isSome = b := ⟨_, rfl⟩
 have HOK := Lib.hid hok
 rw [hok]
 clear hq hv hm hok HD
 go_upto_region 2 with (fail)
 have hpa := pure_alloc w1 (.cells #[.int .i64 x.no, .int .i64 x.at_, .string ⟨x.rev.toArray⟩, .string ⟨x.item.toArray⟩, .bool x.sec, .slice x.A x.vals.length x.c] 53)
 have HX2 := Lib.hid (Blk.new w1 53 #[.int .i64 x.no, .int .i64 x.at_, .string ⟨x.rev.toArray⟩, .string ⟨x.item.toArray⟩, .bool x.sec, .slice x.A x.vals.length x.c])
 have HM2 := Lib.hid (HM.out.trans hpa)
 have HV2 := Lib.hid (Vals.pure HV.out hpa)
 clear hpa HM HV
 generalize (w1.alloc (.cells #[.int .i64 x.no, .int .i64 x.at_, .string ⟨x.rev.toArray⟩, .string ⟨x.item.toArray⟩, .bool x.sec, .slice x.A x.vals.length x.c] 53)) = W at *
 generalize w1.heap.size = g4 at *
 have hB2 := HB.out.modp HM2.out
 rw [HN.out] at hB2
 have HB2 := Lib.hid hB2
 have HO2 := Lib.hid (own_pure HO.out HM2.out)
 have HS2 := Lib.hid (HS.out.pure HM2.out)
 have hX2 := HX2.out
 have x0 := hB2.cell 0; simp at x0
 have y0 := hX2.cell 0; have y1 := hX2.cell 1; have y2 := hX2.cell 2; have y3 := hX2.cell 3; have y4 := hX2.cell 4; have y5 := hX2.cell 5; simp at y0 y1 y2 y3 y4 y5
 clear hB2 hX2 HB HO HS
 obtain ⟨i0, hi0, hz0, hz1, hz2⟩ := info_parts info_dec
 have hownS := HO2.out
 rw [HN.out] at hownS
 have hmS := HM2.out
 have hbW : base ≤ W.heap.size := by have := HB2.out.lt; omega
 go_wp2_with ((at_builtin; refine wpList_append_lies _ rfl _ _ _ rfl base 53 i0 _ 6 80 Tryz.underlying42 hi0 hz0 hz1 hz2 rfl (by omega) (.slice A n c) n (decV ds) rfl (hownS.alloc _) ⟨W.heap.size, 0, none⟩ 1 1 [.int .i64 x.no, .int .i64 x.at_, .string ⟨x.rev.toArray⟩, .string ⟨x.item.toArray⟩, .bool x.sec, .slice x.A x.vals.length x.c] rfl rfl (World.news_of_block (cs := #[.int .i64 x.no, .int .i64 x.at_, .string ⟨x.rev.toArray⟩, .string ⟨x.item.toArray⟩, .bool x.sec, .slice x.A x.vals.length x.c]) (t := 53) (fr := (0, 0)) (heap_alloc_new W _)) (by simp [Value.oneCell']) (by omega) (by simp [maxLen]; omega) (by omega) (by have := hmS.size; simp; omega) (W.heap.size + 1) (by simp) ?_; intro g5 cap5 w5 hown5 hgrow hat hlt5); have hB6 := (HB2.out.alloc (.cells #[.int .i64 x.no, .int .i64 x.at_, .string ⟨x.rev.toArray⟩, .string ⟨x.item.toArray⟩, .bool x.sec, .slice x.A x.vals.length x.c] 53)).mod (mod_grown hgrow) (fun hv => by have h2 := HB2.out.alloc (.cells #[.int .i64 x.no, .int .i64 x.at_, .string ⟨x.rev.toArray⟩, .string ⟨x.item.toArray⟩, .bool x.sec, .slice x.A x.vals.length x.c] 53); unfold Blk at h2; exact absurd (own_ty (hownS.alloc (.cells #[.int .i64 x.no, .int .i64 x.at_, .string ⟨x.rev.toArray⟩, .string ⟨x.item.toArray⟩, .bool x.sec, .slice x.A x.vals.length x.c] 53)) hv h2) (by decide)); have q0 := hB6.cell 0; have qf0 := hB6.frozen 0; simp at q0)
 go_ret
 have hpal := pure_alloc W (.cells #[.int .i64 x.no, .int .i64 x.at_, .string ⟨x.rev.toArray⟩, .string ⟨x.item.toArray⟩, .bool x.sec, .slice x.A x.vals.length x.c] 53)
 have HOA := hownS.alloc (.cells #[.int .i64 x.no, .int .i64 x.at_, .string ⟨x.rev.toArray⟩, .string ⟨x.item.toArray⟩, .bool x.sec, .slice x.A x.vals.length x.c] 53)
 have hm8 : Mod (· = gl) w5 (w5.setCell ⟨gl, 0, none⟩ (.slice (some ⟨g5, 0, none⟩) (n + 1) cap5)) := (Mod.refl (· = gl) w5).setCell (.inl rfl) _
 have K1 : KeepS base W w5 := (KeepS.of_pure hpal).trans (KeepS.grown HOA hgrow (by decide))
 have K2 : KeepS base w5 (w5.setCell ⟨gl, 0, none⟩ (.slice (some ⟨g5, 0, none⟩) (n + 1) cap5)) := KeepS.of_one hm8 h6 hB6 (by decide)
 have hB8 := hB6.set 0 (.slice (some ⟨g5, 0, none⟩) (n + 1) cap5)
 refine ⟨(by rw [Option.isSome_map, HOK.out]; rfl), (KeepS.of_pure HM2.out).trans (K1.trans K2), fun S' hS => ?_⟩
 exact RdDI.push (x := x) (c := c) (n' := n + 1) (by have := HO2.out.alloc (.cells #[.int .i64 x.no, .int .i64 x.at_, .string ⟨x.rev.toArray⟩, .string ⟨x.item.toArray⟩, .bool x.sec, .slice x.A x.vals.length x.c] 53); exact this) (HS2.out.pure hpal) (Vals.pure HV2.out hpal) (by rw [HN.out]; exact hgrow) (by rw [HN.out]) hown5 hB6 (by simpa using hB8) hm8 HK.out (by rw [HN.out]; exact h5) h6 hS HQ.out

end Go.Proofs.YtaidkmnbjbnciaaGreatDoor

/- What is wrong with decisions does not hang on the places of slices (plain). -/
namespace Go.Proofs.YtaidkmnbjbnciaaGreatDoor
set_option linter.unusedVariables false
set_option linter.unusedSimpArgs false
open Go.RowKit

def ChoR.ck (x : ChoR) : ValK := (x.field, x.ch)
theorem valE_key {al : List AskR} : ∀ {xs ys : List ChoR} {p : Int}, xs.map ChoR.ck = ys.map ChoR.ck → valE al p xs = valE al p ys
 | [], [], _, _ => rfl
 | [], _ :: _, _, h => by simp at h
 | _ :: _, [], _, h => by simp at h
 | x :: s, y :: t, p, h => by
  simp only [List.map_cons, List.cons.injEq] at h
  obtain ⟨h1, h2⟩ := h
  unfold ChoR.ck at h1
  injection h1 with h3 h4
  unfold valE
  rw [h3, h4]
  cases askIx al y.field with
  | none => rfl
  | some k => simp only [valE_key (p := (k : Int)) h2]
theorem valsE_key {L : LayR} {xs ys : List ChoR} (h : xs.map ChoR.ck = ys.map ChoR.ck) : valsE L xs = valsE L ys := by
 have hl : xs.length = ys.length := by have := congrArg List.length h; simpa using this
 unfold valsE
 rw [hl, valE_key h]
theorem chIn_key {f : Str} : ∀ {xs ys : List ChoR}, xs.map ChoR.ck = ys.map ChoR.ck → chIn xs f = chIn ys f
 | [], [], _ => rfl
 | [], _ :: _, h => by simp at h
 | _ :: _, [], h => by simp at h
 | x :: s, y :: t, h => by
  simp only [List.map_cons, List.cons.injEq] at h
  obtain ⟨h1, h2⟩ := h
  unfold ChoR.ck at h1
  injection h1 with h3 h4
  have ih := chIn_key (f := f) h2
  unfold chIn at ih ⊢
  simp only [List.find?_cons, h3]
  cases decide (y.field = f) with
  | true => simp [h4]
  | false => exact ih
theorem brkI_key {L : LayR} {xs ys : List ChoR} (h : xs.map ChoR.ck = ys.map ChoR.ck) (k : Nat) : brkI L xs k = brkI L ys k := by
 have e : ∀ r, brkB xs r = brkB ys r := fun r => by unfold brkB; rw [chIn_key h, chIn_key h]
 unfold brkI
 simp only [e]
theorem decE_key {L : LayR} {no : Int} {x y : DecR} (h : x.key = y.key) : decE L no x = decE L no y := by
 unfold DecR.key at h
 injection h with h1 h
 injection h with h2 h
 injection h with h3 h
 injection h with h4 h
 injection h with h5 h6
 have hl : x.vals.length = y.vals.length := by have := congrArg List.length h6; simpa using this
 have h7 : x.vals.map ChoR.ck = y.vals.map ChoR.ck := h6
 unfold decE
 rw [h1, h2, h3, h4, valsE_key h7, brkI_key h7, hl]
theorem decsE_key {L : LayR} {xs ys : List DecR} (h : xs.map DecR.key = ys.map DecR.key) : decsE L xs = decsE L ys := by
 have hl : xs.length = ys.length := by have := congrArg List.length h; simpa using this
 have e : ∀ (l : List DecR) (k : Nat), (l.getD k decN).key = ((l.map DecR.key)[k]?).getD decN.key := fun l k => by
  rw [List.getElem?_map]
  unfold List.getD
  cases l[k]? <;> rfl
 have hf : (fun k : Nat => decE L ((k : Int) + 1) (xs.getD k decN)) = fun k : Nat => decE L ((k : Int) + 1) (ys.getD k decN) := by
  funext k
  exact decE_key (by rw [e, e, h])
 unfold decsE
 rw [hf, hl]
def dOf (q : DecK) : DecR := ⟨q.1, q.2.1, q.2.2.1, q.2.2.2.1, q.2.2.2.2.1, none, 0, q.2.2.2.2.2.map fun c => ⟨c.1, none, 0, c.2⟩⟩
theorem dOf_key (q : DecK) : (dOf q).key = q := by
 obtain ⟨a, b, c, d, e, v⟩ := q
 simp [dOf, DecR.key, Function.comp_def]
/-- What is wrong with what has been read. -/
def decsK (L : LayR) (S : List DecK) : Int := decsE L (S.map dOf)
theorem decsK_of {L : LayR} {S : List DecK} {ds : List DecR} (h : ds.map DecR.key = S) : decsE L ds = decsK L S := by
 unfold decsK
 refine decsE_key ?_
 rw [List.map_map, h]
 conv => lhs; rw [← List.map_id S]
 exact List.map_congr_left (fun q _ => (dOf_key q).symm)

end Go.Proofs.YtaidkmnbjbnciaaGreatDoor

/- Reading decisions: Read of the program, DecisionsRead of the reference. -/
namespace Go.Proofs.YtaidkmnbjbnciaaGreatDoor
set_option linter.unusedVariables false
set_option linter.unusedSimpArgs false
open Go.RowKit

theorem Pow.keep {base : Nat} {w w' : World} (h : Pow w) (hm : KeepS base w w') (hb : 5 < base) : Pow w' := h.mod hm (fun hs => by have := hs.1; omega)
/-- What a reading of decisions answers: the decisions, the line, the error. -/
def RdDRes (L : LayR) (r : Nat ⊕ List DecK) (e : Ending) (w' : World) : Prop :=
 (∀ i, r = .inl i → e = .returned (.tuple #[.slice none 0 0, .int .i64 (i : Int), .int .i64 9])) ∧
 ∀ S, r = .inr S → (decsK L S ≠ 0 ∧ e = .returned (.tuple #[.slice none 0 0, .int .i64 0, .int .i64 (decsK L S)])) ∨
  (decsK L S = 0 ∧ ∃ (A : Option Addr) (c : Nat) (ds : List DecR), ds.map DecR.key = S ∧ Decs w' (.slice A ds.length c) ds ∧ e = .returned (.tuple #[.slice A ds.length c, .int .i64 0, .int .i64 0]))
def RdDPost (L : LayR) (w : World) (s : Str) (e : Ending) (w' : World) : Prop := Pure w w' ∧ RdDRes L (rdG lnD (wholeQ s) (linesQ s) 0 []) e w'
def RdPPost (L : LayR) (w : World) (s : Str) (e : Ending) (w' : World) : Prop := Pure w w' ∧ ((layE L ≠ 0 ∧ e = .returned (.tuple #[.slice none 0 0, .int .i64 0, .int .i64 (layE L)])) ∨ (layE L = 0 ∧ RdDRes L (rdG lnD (wholeQ s) (linesQ s) 0 []) e w'))
theorem rdDI_nil {w : World} (base gl : Nat) (hB : Blk w gl 42 #[.slice none 0 0]) (hb : base ≤ gl) : RdDI base gl 0 [] w := ⟨none, 0, [], hB, ⟨rfl, .inl ⟨rfl, rfl⟩⟩, fun x hx => absurd hx (by simp), rfl, by simp, hb⟩
theorem lnRd_lnD (S : List DecK) (l : Str) : (lnRd l).map (fun q => S ++ [q]) = lnD S l := by
 unfold lnRd lnD wdF tkD
 split <;> rfl
/-- The decisions that have been read, and what is wrong with them. -/
theorem RdDI.out {base gl k : Nat} {S : List DecK} {W : World} (h : RdDI base gl k S W) : ∃ (A : Option Addr) (c : Nat) (ds : List DecR), Blk W gl 42 #[.slice A ds.length c] ∧ Decs W (.slice A ds.length c) ds ∧ ds.map DecR.key = S := by
 obtain ⟨A, c, ds, h1, h2, h3, h4, h5, h6⟩ := h
 exact ⟨A, c, ds, h1, ⟨Sl.of_own h2, h3⟩, h4⟩
theorem rd_decB {s : Str} {S : List DecK} {ds : List DecR} (h : rdG lnD (wholeQ s) (linesQ s) 0 [] = .inr S) (hs : s.length ≤ 1000) (hk : ds.map DecR.key = S) : (∀ d ∈ ds, DecB d) ∧ ds.length ≤ 4000 := by
 obtain ⟨h1, h2⟩ := rdD_B h hs
 have hl : ds.length = S.length := by rw [← hk]; simp
 refine ⟨fun d hd => decB_key (M := 1000) (h2 _ ?_) (by omega), by omega⟩
 rw [← hk]
 exact List.mem_map.2 ⟨d, hd, rfl⟩

set_option maxRecDepth 100000 in
set_option maxHeartbeats 8000000 in
theorem readD_calls (w : World) (vl : Value) (L : LayR) (s : Str) (hL : LayV w L vl) (hb : LayB L) (hs : s.length ≤ 1000) (hM : MlnS w) : Calls Tryz.prog 22 #[vl, .string ⟨s.toArray⟩] w (RdPPost L w s) := by
 have HLF := Lib.hid (fun W (h : Pure w W) => checkLayout_calls W vl L (hL.pure h) hb)
 have HDC := Lib.hid (fun W (h : Pure w W) A3 n3 c3 ds hD hz hn => dcheck_calls W vl L A3 n3 c3 ds (hL.pure h) hb hD hz hn)
 have HMS : Hid (∀ W, Pure w W → MlnS W) := Lib.hid (fun W h => hM.pure h)
 have hmlt := hM.lt
 obtain ⟨A, n, c, A2, n2, c2, rfl, hA, hR⟩ := hL
 have HB0 := Lib.hid (Blk.new w 29 #[.slice A n c, .slice A2 n2 c2])
 have HP0 := Lib.hid (pure_alloc w (.cells #[.slice A n c, .slice A2 n2 c2] 29))
 have hz0 : (w.alloc (.cells #[.slice A n c, .slice A2 n2 c2] 29)).heap.size = w.heap.size + 1 := by simp
 have HDB := Lib.hid (fun S (ds : List DecR) h k => rd_decB (s := s) (S := S) (ds := ds) h hs k)
 have HLN := Lib.hid (fun (W : World) (gl : Nat) (h : Pure w W) (h2 : w.heap.size ≤ gl) (hB : Blk W gl 42 #[.slice none 0 0]) => plines_calls W s gl 90 (.pointer (some ⟨gl, 0, none⟩)) tkD (RdDI gl gl) []
  (fun W2 hW => (hM.pure h).keep hW (by omega)) (by omega) (rdDI_nil gl gl hB (Nat.le_refl _)) (fun k S W W' h hm => h.pure hm) (fun v W => rfl)
  (fun k S W2 g ws hk hW hR hB h1 h2 h3 h4 => rdClo_calls W2 _ _ k S g ws (by have := linesQ_count s; omega) hR hB h2 (fun x hx => by have := h3 x hx; omega) ((hM.pure h).keep hW (by omega))))
 have hgt : ¬ (200000 : Int) < (s.length : Int) := by omega
 have hds : (⟨s.toArray⟩ : ByteArray).size = s.length := rfl
 unfold RdPPost
 generalize hr : rdG lnD (wholeQ s) (linesQ s) 0 [] = r at *
 rw [show rdG (wdF tkD) (wholeQ s) (linesQ s) 0 [] = r from hr] at HLN
 generalize hle : layE L = le at *
 clear hA hR hb hM hle hr
 go_enter Tryz.func22, Tryz.ntmps22
 go_upto_region 1 with (fail)
 generalize (w.alloc (.cells #[.slice A n c, .slice A2 n2 c2] 29)) = w1 at *
 generalize hg1 : w.heap.size = g1 at *
 have hg2 := Nat.le_of_eq hg1
 clear hg1
 have hB0 := HB0.out
 have c0 := hB0.cell 0; have c1 := hB0.cell 1; simp at c0 c1
 clear hB0
 go_wp2_with fail
 refine (HLF.out _ HP0.out).mono ?_
 rintro e w2 ⟨rfl, hm⟩
 have HP1 := Lib.hid (HP0.out.trans hm)
 have HB1 := Lib.hid (HB0.out.modp hm)
 clear HLF c0 c1 hm HB0 HP0
 have HF1 : Hid (∀ (W : World) (g : Nat), Blk W g 31 #[.int .i64 le, .int .i64 0] → Calls Tryz.prog 88 #[.slice (some ⟨g, 0, none⟩) 2 2] W (IntPost W le)) := Lib.hid (fun W g h => by
  have := firstE_calls W g 2 [le, 0] h.row0 (by simp)
  rwa [show firstErr [le, 0] = le by simp [firstErr]; intro h; exact h.symm] at this)
 go_wp2_with fail
 refine (whenQ_calls _ _ _ 0 (by simp; omega)).mono ?_
 rintro e w3 ⟨rfl, hm⟩
 have HP2 := Lib.hid (HP1.out.trans hm)
 have HB2 := Lib.hid (HB1.out.modp hm)
 clear hm HP1 HB1
 go_wp2_with fail
 refine (HF1.out _ _ (Blk.new' rfl)).mono ?_
 rintro e w4 ⟨rfl, hm⟩
 have HP1 := Lib.hid (HP2.out.trans ((pure_alloc _ _).trans hm))
 have HB1 := Lib.hid ((HB2.out.alloc _).modp hm)
 clear hm HP2 HB2 HF1
 have hz4 := HP1.out.size
 have hgw4 := HB1.out.lt
 by_cases h0 : le = 0
 rotate_left
 ·have h1 : (le != 0) = true := by simpa using h0
  clear HDC HMS HDB HLN
  go_wp2_with fail
  try simp only [Exit.inBlock, Exit.then]
  refine bodyPost_ret (v := .tuple #[.slice none 0 0, .int .i64 0, .int .i64 le]) (by simp [results, Tryz.results22, go_sem]) rfl ?_
  exact ⟨HP1.out, .inl ⟨h0, rfl⟩⟩
 subst h0
 have hpl := pure_alloc w4 (.cells #[.slice none 0 0] 42)
 have HLX := Lib.hid (HLN.out (w4.alloc (.cells #[.slice none 0 0] 42)) w4.heap.size (HP1.out.trans hpl) (by omega) (Blk.new _ _ _))
 have HB2 := Lib.hid (HB1.out.modp hpl)
 have HP2 := Lib.hid (HP1.out.trans hpl)
 clear hpl HLN HB1
 go_wp2_with fail
 refine HLX.out.mono ?_
 rintro e w5 ⟨hm, hl, hr⟩
 have HP3 := Lib.hid (KeepS.pure hm HP2.out (by omega))
 have HB3 := Lib.hid (HB2.out.mod hm (fun h => by have := h.1; omega))
 have HL := Lib.hid hl
 have HR := Lib.hid hr
 clear hm hl hr HLX HB2 HP2
 generalize w4.heap.size = gl at *
 cases r with
 | inl i =>
  obtain rfl := HL.out i rfl
  clear HL HR HDC HMS HDB
  have hi : (0 : Int) ≤ (i : Int) := by omega
  go_wp2_with fail
  try simp only [Exit.inBlock, Exit.then]
  refine bodyPost_ret (v := .tuple #[.slice none 0 0, .int .i64 (i : Int), .int .i64 9]) (by simp [results, Tryz.results22, go_sem]) rfl ?_
  exact ⟨HP3.out, fun j hj => (by cases hj; rfl), fun S hS => (by cases hS)⟩
 | inr S =>
  obtain ⟨rfl, hI⟩ := HR.out S rfl
  obtain ⟨A5, c5, ds, hX, hD, hk⟩ := hI.out
  obtain ⟨hz, hn⟩ := HDB.out S ds rfl hk
  have HCK := Lib.hid (HDC.out w5 HP3.out A5 ds.length c5 ds hD hz hn)
  rw [decsK_of hk] at HCK
  have HD := Lib.hid hD
  have HX := Lib.hid hX
  have HK := Lib.hid hk
  have hB3 := HB3.out
  have x0 := hX.cell 0; simp at x0
  have y0 := hB3.cell 0; have y1 := hB3.cell 1; simp at y0 y1
  clear HL HR hI hX hD hk hz hn HDC HMS HDB hB3
  obtain ⟨q, hq⟩ : ∃ q, decsK L S = q := ⟨_, rfl⟩
  have HQ := Lib.hid hq
  rw [hq] at HCK
  clear hq
  go_wp2_with fail
  refine HCK.out.mono ?_
  rintro e w6 ⟨rfl, hm6⟩
  have hX6 := HX.out.modp hm6
  have x0 := hX6.cell 0; simp at x0
  have HD6 := Lib.hid (HD.out.pure hm6)
  have HP6 := Lib.hid (HP3.out.trans hm6)
  clear hX6 hm6 y0 y1 HCK HD HX HP3 HB3
  by_cases hq0 : q = 0
  ·subst hq0
   go_wp2_with fail
   try simp only [Exit.inBlock, Exit.then]
   refine bodyPost_ret (v := .tuple #[.slice A5 ds.length c5, .int .i64 0, .int .i64 0]) (by simp [results, Tryz.results22, go_sem]) rfl ?_
   refine ⟨HP6.out, fun j hj => (by cases hj), fun S' hS => ?_⟩
   cases hS
   exact .inr ⟨HQ.out, A5, c5, ds, HK.out, HD6.out, rfl⟩
  ·have hq1 : (q != 0) = true := by simpa using hq0
   go_wp2_with fail
   try simp only [Exit.inBlock, Exit.then]
   refine bodyPost_ret (v := .tuple #[.slice none 0 0, .int .i64 0, .int .i64 q]) (by simp [results, Tryz.results22, go_sem]) rfl ?_
   refine ⟨HP6.out, fun j hj => (by cases hj), fun S' hS => ?_⟩
   cases hS
   exact .inl ⟨by rw [HQ.out]; exact hq0, by rw [HQ.out]⟩

set_option maxRecDepth 100000 in
set_option maxHeartbeats 8000000 in
theorem readDR_calls (w : World) (vl : Value) (L : LayR) (s : Str) (hL : LayV w L vl) (hb : LayB L) (hs : s.length ≤ 1000) (hM : MlnS w) (hP : Pow w) : Calls Tryz.prog 23 #[vl, .string ⟨s.toArray⟩] w (RdDPost L w s) := by
 have HDC := Lib.hid (fun W (h : Pure w W) A3 n3 c3 ds hD hz hn => dsfault_calls W vl L A3 n3 c3 ds (hL.pure h) hb hD hz hn)
 have hmlt := hM.lt
 have hplt := hP.lt
 obtain ⟨A, n, c, A2, n2, c2, rfl, hA, hR⟩ := hL
 have HB0 := Lib.hid (Blk.new w 29 #[.slice A n c, .slice A2 n2 c2])
 have hp0 := pure_alloc w (.cells #[.slice A n c, .slice A2 n2 c2] 29)
 have hp1 := hp0.trans (pure_alloc (w.alloc (.cells #[.slice A n c, .slice A2 n2 c2] 29)) (.cells #[.slice none 0 0] 42))
 have HP1 := Lib.hid hp1
 have HB1 := Lib.hid (HB0.out.alloc (.cells #[.slice none 0 0] 42))
 have HDB := Lib.hid (fun S (ds : List DecR) h k => rd_decB (s := s) (S := S) (ds := ds) h hs k)
 have HLX := Lib.hid (rlines2_calls ((w.alloc (.cells #[.slice A n c, .slice A2 n2 c2] 29)).alloc (.cells #[.slice none 0 0] 42)) s (w.heap.size + 1) 92 (.pointer (some ⟨w.heap.size + 1, 0, none⟩)) lnD (RdDI (w.heap.size + 1) (w.heap.size + 1)) []
  (fun W2 hW => (hM.pure hp1).keep hW (by omega)) (by omega) (rdDI_nil _ _ (Blk.snd _ _ _ _) (Nat.le_refl _)) (fun k S W W' h hm => h.pure hm) (fun v W => rfl)
  (fun k S W2 l hk hW hR => (by have := rdCloR_calls W2 (w.heap.size + 1) (w.heap.size + 1) k S l (by omega) hR (by omega) ((hM.pure hp1).keep hW (by omega)) ((hP.pure hp1).keep hW (by omega)); rwa [lnRd_lnD] at this)))
 have hgt : ¬ (200000 : Int) < (s.length : Int) := by omega
 have hds : (⟨s.toArray⟩ : ByteArray).size = s.length := rfl
 unfold RdDPost
 generalize hr : rdG lnD (wholeQ s) (linesQ s) 0 [] = r at *
 clear hA hR hb hM hP hp0 hp1 HB0 hr
 have hz0 : (w.alloc (.cells #[.slice A n c, .slice A2 n2 c2] 29)).heap.size = w.heap.size + 1 := by simp
 have hz1 : ((w.alloc (.cells #[.slice A n c, .slice A2 n2 c2] 29)).alloc (.cells #[.slice none 0 0] 42)).heap.size = w.heap.size + 2 := by simp
 go_enter Tryz.func23, Tryz.ntmps23
 go_wp2_with fail
 refine HLX.out.mono ?_
 rintro e w5 ⟨hm, hl, hr⟩
 have HP3 := Lib.hid (KeepS.pure hm HP1.out (by omega))
 have HB3 := Lib.hid (HB1.out.mod hm (fun h => by have := h.1; omega))
 have HL := Lib.hid hl
 have HR := Lib.hid hr
 clear hm hl hr HLX HB1 HP1
 generalize w.heap.size = gr at *
 clear hz0 hz1
 cases r with
 | inl i =>
  obtain rfl := HL.out i rfl
  clear HL HR HDC HDB
  go_wp2_with fail
  try simp only [Exit.inBlock, Exit.then]
  refine bodyPost_ret (v := .tuple #[.slice none 0 0, .int .i64 (i : Int), .int .i64 9]) (by simp [results, Tryz.results23, go_sem]) rfl ?_
  exact ⟨HP3.out, fun j hj => (by cases hj; rfl), fun S hS => (by cases hS)⟩
 | inr S =>
  obtain ⟨rfl, k, hI⟩ := HR.out S rfl
  obtain ⟨A5, c5, ds, hX, hD, hk⟩ := hI.out
  obtain ⟨hz, hn⟩ := HDB.out S ds rfl hk
  have HCK := Lib.hid (HDC.out w5 HP3.out A5 ds.length c5 ds hD hz hn)
  rw [decsK_of hk] at HCK
  have HD := Lib.hid hD
  have HX := Lib.hid hX
  have HK := Lib.hid hk
  have hB3 := HB3.out
  have x0 := hX.cell 0; simp at x0
  have y0 := hB3.cell 0; have y1 := hB3.cell 1; simp at y0 y1
  clear HL HR hI hX hD hk hz hn HDC HDB hB3
  obtain ⟨q, hq⟩ : ∃ q, decsK L S = q := ⟨_, rfl⟩
  have HQ := Lib.hid hq
  rw [hq] at HCK
  clear hq
  go_wp2_with fail
  refine HCK.out.mono ?_
  rintro e w6 ⟨rfl, hm6⟩
  have hX6 := HX.out.modp hm6
  have x0 := hX6.cell 0; simp at x0
  have HD6 := Lib.hid (HD.out.pure hm6)
  have HP6 := Lib.hid (HP3.out.trans hm6)
  clear hX6 hm6 y0 y1 HCK HD HX HP3 HB3
  by_cases hq0 : q = 0
  ·subst hq0
   go_wp2_with fail
   try simp only [Exit.inBlock, Exit.then]
   refine bodyPost_ret (v := .tuple #[.slice A5 ds.length c5, .int .i64 0, .int .i64 0]) (by simp [results, Tryz.results23, go_sem]) rfl ?_
   refine ⟨HP6.out, fun j hj => (by cases hj), fun S' hS => ?_⟩
   cases hS
   exact .inr ⟨HQ.out, A5, c5, ds, HK.out, HD6.out, rfl⟩
  ·have hq1 : (q != 0) = true := by simpa using hq0
   go_wp2_with fail
   try simp only [Exit.inBlock, Exit.then]
   refine bodyPost_ret (v := .tuple #[.slice none 0 0, .int .i64 0, .int .i64 q]) (by simp [results, Tryz.results23, go_sem]) rfl ?_
   refine ⟨HP6.out, fun j hj => (by cases hj), fun S' hS => ?_⟩
   cases hS
   exact .inl ⟨by rw [HQ.out]; exact hq0, by rw [HQ.out]⟩

end Go.Proofs.YtaidkmnbjbnciaaGreatDoor

/-
 DERIVED: THE SHELF's CONTRACTS AT THIS DUMP, IN PLAIN WORDS (tools/lay-plain.mjs out of 'YtaidkmnbjbnciaaGreatDoorLayClS.lean', which tools/lay-shelf.mjs wrote): THE SAME DECLARATIONS UNDER THE SAME NAMES: 'import', 'namespace', 'open', 'def', 'theorem' AND NOTHING ELSE: no command of the shelf's: FOR A HAND-IN. Each laying: the table of numbers ('.._ren') and one theorem, a field a fact of the dump's own or the kernel's comparison; each contract: ONE APPLICATION.
-/
namespace Go.Proofs
open Go.Shelf
def Tryz.laysM316_ren : Go.Shelf.Ren := ⟨fun | 316 => 130 | n => n, fun | 9 => 9 | 3 => 3 | 4 => 4 | 37 => 130 | 0 => 0 | 127 => 192 | 5 => 5 | n => n, fun | n => n⟩
theorem Tryz.laysM316 : Go.Proofs.LaysM.n316 Tryz.prog Tryz.laysM316_ren := {
 mixed := by kernel_rfl
 f316 := Tryz.func130.trans (congrArg some (by kernel_rfl))
 t0 := Tryz.underlying0
 a0 := Tryz.isAgg0
 z0 := Tryz.sizeOf0
 v0 := Tryz.zeroValue0
 t3 := Tryz.underlying3
 a3 := Tryz.isAgg3
 z3 := Tryz.sizeOf3
 v3 := Tryz.zeroValue3
 t4 := Tryz.underlying4
 a4 := Tryz.isAgg4
 z4 := Tryz.sizeOf4
 v4 := Tryz.zeroValue4
 t9 := Tryz.underlying9
 a9 := Tryz.isAgg9
 z9 := Tryz.sizeOf9
 v9 := Tryz.zeroValue9
 t37 := Tryz.underlying130
 a37 := Tryz.isAgg130
 z37 := Tryz.sizeOf130
 v37 := Tryz.zeroValue130
 t127 := Tryz.underlying192
 a127 := Tryz.isAgg192
 z127 := Tryz.sizeOf192
 v127 := Tryz.zeroValue192
 t5 := Tryz.underlying5
 a5 := Tryz.isAgg5
 z5 := Tryz.sizeOf5
 v5 := Tryz.zeroValue5
 i0 := by kernel_rfl
 i3 := by kernel_rfl
 i4 := by kernel_rfl
 i5 := by kernel_rfl
 i9 := by kernel_rfl
 i37 := by kernel_rfl
 i127 := by kernel_rfl }
end Go.Proofs

/- A text of which some bytes are changed. -/
namespace Go.Proofs.YtaidkmnbjbnciaaGreatDoor
set_option linter.unusedVariables false
set_option linter.unusedSimpArgs false
open Go.RowKit

theorem cloneStr_calls (w : World) (s : Str) (hs : s.length ≤ 1000000) : Calls Tryz.prog 68 #[.string ⟨s.toArray⟩] w (JnPost w s) := by
 have HC := Lib.hid (Any.stringslite_Clone Tryz.laysM316 ⟨s.toArray⟩ w (by show s.toArray.size ≤ _; simp; omega))
 go_enter Tryz.func68, Tryz.ntmps68
 go_wp2_with fail
 refine HC.out.mono ?_
 rintro e w1 ⟨rfl, hb⟩
 go_wp2_with fail
 go_ret
 exact ⟨rfl, Mod.of_below hb⟩
def NeaPost (w : World) (b N n : Nat) (e : Ending) (w' : World) : Prop := ∃ s : Str, s.length ≤ n ∧ e = .returned (.string ⟨s.toArray⟩) ∧ Strm w' b (N + 8) ∧ Mod (· = b) w w'
def NeaRel (w : World) (b N m t wi : Nat) (gk : Nat) (x i : Value) (wr : World) : Prop :=
 ∃ (k : Nat) (s : Str), m - k = gk ∧ k ≤ m ∧ x = .string ⟨s.toArray⟩ ∧ i = .int .i64 (k : Int) ∧ s.length ≤ t + k * wi ∧ Strm wr b (N + 1 + 3 * k) ∧ Mod (· = b) w wr

set_option maxRecDepth 100000 in
set_option maxHeartbeats 4000000 in
theorem nearly_calls (w : World) (b N : Nat) (t wi : Str) (n : Nat) (hS : Strm w b N) (hN : N ≤ 10000000) (hn : t.length + 2 * wi.length ≤ n) (hn2 : n ≤ 100000) (h1 : 1 ≤ wi.length) (h2 : wi.length ≤ 1000) (h3 : ∀ i (h : i < (⟨wi.toArray⟩ : ByteArray).size), (⟨wi.toArray⟩ : ByteArray)[i].toNat < 128) :
  Calls Tryz.prog 11 #[.pointer (some ⟨b, 0, none⟩), .string ⟨t.toArray⟩, .string ⟨wi.toArray⟩] w (NeaPost w b N n) := by
 have H3 := Lib.hid h3
 have hbw := hS.lt
 go_enter Tryz.func11, Tryz.ntmps11
 go_wp2_with fail
 refine (pickv_calls _ b _ w.heap.size _ _ #[.int .i64 0, .int .i64 1, .int .i64 1, .int .i64 2] (hS.alloc _) (Blk.new _ _ _) (by omega) (by omega) rfl (by decide) (by decide) rfl).mono ?_
 rintro e w6 ⟨mI, hmem, rfl, hS6, hM6⟩
 have hm02 : 0 ≤ mI ∧ mI ≤ 2 := by
  have : mI = 0 ∨ mI = 1 ∨ mI = 1 ∨ mI = 2 := by simpa [intsOf, Go.RowKit.intOf] using hmem
  omega
 obtain ⟨m, rfl⟩ := Int.eq_ofNat_of_zero_le hm02.1
 have hm2 : m ≤ 2 := by omega
 have HM6 : Hid (Mod (· = b) w w6) := Lib.hid (((Mod.refl (· = b) w).alloc _).trans hM6)
 clear hmem hm02 hM6 h3 hS
 go_wp2_with fail
 go_loopg [1, 10] m (fun gk x i wr => NeaRel w b N m t.length wi.length gk x i wr)
 case atStart => exact ⟨0, t, rfl, by omega, rfl, rfl, by omega, hS6, HM6.out⟩
 case round =>
  clear HM6 hS6
  obtain ⟨k, s, rfl, hk, rfl, rfl, hs, hS, hm⟩ := hrel
  have hkw : k * wi.length ≤ 2 * wi.length := Nat.mul_le_mul_right _ (by omega)
  by_cases hlt : k < m
  ·have HC := Lib.hid (changed_calls wr b _ ⟨s.toArray⟩ ⟨wi.toArray⟩ hS (by omega) (by show s.toArray.size ≤ _; simp; omega) (by show 1 ≤ wi.toArray.size; simp; omega) (by show wi.toArray.size ≤ _; simp; omega) H3.out)
   have HM := Lib.hid hm
   clear hm hS
   go_wp2_with fail
   refine HC.out.mono ?_
   rintro e w7 ⟨a, ha, rfl, hS7, hm7⟩
   have HM7 := Lib.hid (HM.out.trans hm7)
   have ha2 : a.data.toList.length ≤ t.length + (k + 1) * wi.length := by
    have : a.size ≤ s.toArray.size + wi.toArray.size := ha
    simp at this
    rw [Nat.add_mul]
    show a.data.size ≤ _
    have e : a.data.size = a.size := rfl
    omega
   have he : a = ⟨a.data.toList.toArray⟩ := by simp
   clear HC hm7 HM ha
   rw [he]
   generalize a.data.toList = l at *
   clear he
   go_wp2_with fail
   go_roundg (m - (k + 1))
   case measure => omega
   case rel => exact ⟨k + 1, l, rfl, by omega, rfl, by simp, ha2, hS7.more (by omega), HM7.out⟩
  ·obtain rfl : k = m := by omega
   have HC := Lib.hid (cloneStr_calls wr s (by omega))
   have HM := Lib.hid hm
   clear hm
   go_wp2_with fail
   refine HC.out.mono ?_
   rintro e w7 ⟨rfl, hm7⟩
   go_wp2_with fail
   go_ret
   exact ⟨s, by omega, rfl, (hS.pure hm7).more (by omega), HM.out.transp hm7⟩

end Go.Proofs.YtaidkmnbjbnciaaGreatDoor

/- The law DecisionTexts. -/
namespace Go.Proofs.YtaidkmnbjbnciaaGreatDoor
set_option linter.unusedVariables false
set_option linter.unusedSimpArgs false
open Go.RowKit

/-- What a reading of decisions answers, but for the places of slices. -/
def RdDForm (L : LayR) (r : Nat ⊕ List DecK) (i f : Int) (ds : List DecR) : Prop :=
 (∃ j : Nat, r = .inl j ∧ i = (j : Int) ∧ f = 9 ∧ ds = []) ∨ (∃ S, r = .inr S ∧ decsK L S ≠ 0 ∧ i = 0 ∧ f = decsK L S ∧ ds = []) ∨ (∃ S, r = .inr S ∧ decsK L S = 0 ∧ i = 0 ∧ f = 0 ∧ ds.map DecR.key = S)
theorem decs_nil (w : World) : Decs w (.slice none ([] : List DecR).length 0) [] := ⟨Sl.nil_, fun x hx => absurd hx (by simp)⟩
theorem RdDRes.form {L : LayR} {r : Nat ⊕ List DecK} {e : Ending} {w' : World} (h : RdDRes L r e w') : ∃ (A : Option Addr) (c : Nat) (ds : List DecR) (i f : Int), e = .returned (.tuple #[.slice A ds.length c, .int .i64 i, .int .i64 f]) ∧ Decs w' (.slice A ds.length c) ds ∧ RdDForm L r i f ds := by
 obtain ⟨h1, h2⟩ := h
 cases r with
 | inl j => exact ⟨none, 0, [], j, 9, h1 j rfl, decs_nil _, .inl ⟨j, rfl, rfl, rfl, rfl⟩⟩
 | inr S =>
  rcases h2 S rfl with ⟨h3, h4⟩ | ⟨h3, A, c, ds, h4, h5, h6⟩
  ·exact ⟨none, 0, [], 0, _, h4, decs_nil _, .inr (.inl ⟨S, rfl, h3, rfl, rfl, rfl⟩)⟩
  ·exact ⟨A, c, ds, 0, 0, h6, h5, .inr (.inr ⟨S, rfl, h3, rfl, rfl, h4⟩)⟩
theorem RdDForm.same {L : LayR} {r : Nat ⊕ List DecK} {i f i2 f2 : Int} {ds ds2 : List DecR} (h : RdDForm L r i f ds) (k : RdDForm L r i2 f2 ds2) : i = i2 ∧ f = f2 ∧ eqL decEq ds ds2 = true := by
 have key : i = i2 ∧ f = f2 ∧ likesD ds ds2 := by
  rcases h with ⟨j, e, rfl, rfl, rfl⟩ | ⟨S, e, h0, rfl, rfl, rfl⟩ | ⟨S, e, h0, rfl, rfl, h1⟩ <;> rcases k with ⟨j2, e2, rfl, rfl, rfl⟩ | ⟨S2, e2, k0, rfl, rfl, rfl⟩ | ⟨S2, e2, k0, rfl, rfl, k1⟩ <;> rw [e] at e2 <;> cases e2
  ·exact ⟨rfl, rfl, rfl⟩
  ·exact ⟨rfl, rfl, rfl⟩
  ·exact absurd k0 h0
  ·exact absurd h0 k0
  ·exact ⟨rfl, rfl, h1.trans k1.symm⟩
 exact ⟨key.1, key.2.1, likesD_iff.2 key.2.2⟩
def txD : Str := [32, 10, 61, 44, 48, 45, 57, 102, 105, 114, 115, 116, 121]

set_option maxRecDepth 100000 in
set_option maxHeartbeats 16000000 in
theorem DecisionTexts_calls (w : World) (A : Option Addr) (n c : Nat) (hA : ArgInts w A n) (hM : MlnS w) (hT : Asc w) (hPW : Pow w) : Calls Tryz.prog 4 #[.slice A n c] w (BoolPost w true) := by
 have hS0 := strm_new (c := c) hA
 have HMT : Hid (∀ w1, Pure w w1 → MlnS w1 ∧ Asc w1 ∧ Pow w1) := Lib.hid (fun _ h => ⟨hM.pure h, hT.pure h, hPW.pure h⟩)
 obtain ⟨b, hb⟩ : ∃ b, b = w.heap.size := ⟨_, rfl⟩
 have P0 := pure_alloc w (.cells #[.slice A n c, .int .i64 0] 25)
 have HPS : Hid (∀ {w1 w' : World}, Pure w w1 → Mod (· = b) w1 w' → Pure w w') := Lib.hid (fun k h => k.trans' h (fun i hi hlt => by omega))
 rw [← hb] at hS0
 clear hM hT hA hPW
 go_enter Tryz.func4, Tryz.ntmps4
 go_wp2_with fail
 rw [← hb]
 generalize (w.alloc (.cells #[.slice A n c, .int .i64 0] 25)) = w0 at *
 clear hb
 refine (layoutM_calls w0 b _ hS0 (by omega)).mono ?_
 rintro e w1 ⟨Aa, Ar, na, ca, nr, cr, L, rfl, hL, hla, hlr, habM, hrb, hS1, hM1⟩
 have hab : ∀ a ∈ L.asks, AskB a := fun a ha => (habM a ha).b (by omega) (by omega)
 have P1 := HPS.out P0 hM1
 have hLB : LayB L := ⟨by omega, by omega, hab, hrb⟩
 have HLB := Lib.hid hLB
 have HAM := Lib.hid habM
 have hpl := pure_alloc w1 (.cells #[.slice Aa na ca, .slice Ar nr cr] 29)
 have HG := Lib.hid (Blk.new w1 29 #[.slice Aa na ca, .slice Ar nr cr])
 have HP2 := Lib.hid (P1.trans hpl)
 have hS2 := hS1.alloc (.cells #[.slice Aa na ca, .slice Ar nr cr] 29)
 have HLV : Hid (∀ W, Mod (· = b) (w1.alloc (.cells #[.slice Aa na ca, .slice Ar nr cr] 29)) W → LayV W L (.agg #[.slice Aa na ca, .slice Ar nr cr])) := Lib.hid (fun W h => (hL.pure hpl).strm hS2 h)
 have hb1 := hS1.lt
 clear hS0 P0 hM1 hL hab habM hrb hLB P1 hpl hS1
 go_upto_region 3 with (fail)
 generalize (w1.alloc (.cells #[.slice Aa na ca, .slice Ar nr cr] 29)) = w2 at *
 generalize w1.heap.size = gl at *
 clear w0 w1
 have HGs := Lib.hid (show ∀ (D : Nat → Bool) (zzi : Nat) (zq zq' : World), (fun _ zq => (fun Z => Blk Z gl 29 #[.slice Aa na ca, .slice Ar nr cr]) zq) D zq → Mod (· = b) zq zq' → (fun _ zq => (fun Z => Blk Z gl 29 #[.slice Aa na ca, .slice Ar nr cr]) zq) (upd D zzi true) zq' from by intro D zzi zq zq' h hm; (exact h.modb hm (by omega)))
 refine wp_region_inv (by kernel_rfl) (by kernel_rfl) (InvF (R := Mod (· = b)) [.is (.pointer (some ⟨b, 0, none⟩)),
   .is (.agg #[.slice Aa na ca, .slice Ar nr cr]),
   .is (.pointer (some ⟨b, 0, none⟩)),
   .val (fun zv => ∃ (q_3 : Nat), zv = .int .i64 (q_3 : Int) ∧ q_3 ≤ 6),
   ⟨fun zv zw => ∃ (base_4 : Nat) (c_4 : Nat) (A_4 : Option Addr) (ds_4 : List DecR), zv = .slice A_4 ds_4.length c_4 ∧ w2.heap.size ≤ base_4 ∧ ds_4.length ≤ 6 ∧ (∀ x ∈ ds_4, DecM 4 3 x) ∧ DcB zw b base_4 A_4 c_4 ds_4, (by rintro zv zw zx ⟨base_4, c_4, A_4, ds_4, rfl, c0, c1, c2, q0⟩ hm; exact ⟨base_4, c_4, A_4, ds_4, rfl, c0, c1, c2, (q0.ask hm)⟩), none, none⟩,
   ⟨fun zv zw => ∃ (base_5 : Nat) (c_5 : Nat) (A_5 : Option Addr) (ds_5 : List DecR), zv = .slice A_5 ds_5.length c_5 ∧ w2.heap.size ≤ base_5 ∧ ds_5.length ≤ 6 ∧ (∀ x ∈ ds_5, DecM 4 3 x) ∧ DcB zw b base_5 A_5 c_5 ds_5, (by rintro zv zw zx ⟨base_5, c_5, A_5, ds_5, rfl, c0, c1, c2, q0⟩ hm; exact ⟨base_5, c_5, A_5, ds_5, rfl, c0, c1, c2, (q0.ask hm)⟩), none, none⟩]
   (GB w2 (· = b) w2.heap.size b ((0 + 100)) (fun D => (D 3).toNat + 3000 * (D 4).toNat) (fun _ zq => (fun Z => Blk Z gl 29 #[.slice Aa na ca, .slice Ar nr cr]) zq))) (InvF.start (GB.start (hS2.more (by omega)) (Mod.refl _ _) (Nat.le_refl _) (HG.out.drew))) ?_ ?_
 ·refine .cons ?_ (.cons ?_ (.cons ?_ (.cons ?_ (.cons ?_ (.cons ?_ .nil)))))
  ·intro D V zw1 a hR hI K hK
   obtain ⟨hS1, hM1, hB1, hG1⟩ := hI.1
   have ze3 := hR.frame.other (t := 3) (by kernel_rfl) rfl
   rw [if_pos (by rfl)]
   go_simp
   exact hK (.pointer (some ⟨b, 0, none⟩)) _ (hI.next hR (by kernel_rfl) (Mod.refl _ _) (GB.quiet hI.1 (Mod.refl _ _) (by have hn := hR.not; simp [upd, hn] <;> omega) (HGs.out D 0 zw1 zw1 (hI.1).g (Mod.refl _ _))) (upd_same V 0 _))
  ·intro D V zw1 a hR hI K hK
   obtain ⟨hS1, hM1, hB1, hG1⟩ := hI.1
   have ze4 := hR.frame.other (t := 4) (by kernel_rfl) rfl
   have zx0 := hG1.cell 0; have zx1 := hG1.cell 1
   simp at zx0 zx1
   rw [if_pos (by rfl)]
   go_simp
   exact hK (.agg #[.slice Aa na ca, .slice Ar nr cr]) _ (hI.next hR (by kernel_rfl) (Mod.refl _ _) (GB.quiet hI.1 (Mod.refl _ _) (by have hn := hR.not; simp [upd, hn] <;> omega) (HGs.out D 1 zw1 zw1 (hI.1).g (Mod.refl _ _))) (upd_same V 1 _))
  ·intro D V zw1 a hR hI K hK
   obtain ⟨hS1, hM1, hB1, hG1⟩ := hI.1
   have ze3 := hR.frame.other (t := 3) (by kernel_rfl) rfl
   rw [if_pos (by rfl)]
   go_simp
   exact hK (.pointer (some ⟨b, 0, none⟩)) _ (hI.next hR (by kernel_rfl) (Mod.refl _ _) (GB.quiet hI.1 (Mod.refl _ _) (by have hn := hR.not; simp [upd, hn] <;> omega) (HGs.out D 2 zw1 zw1 (hI.1).g (Mod.refl _ _))) (upd_same V 2 _))
  ·intro D V zw1 a hR hI K hK
   obtain ⟨hS1, hM1, hB1, hG1⟩ := hI.1
   have zd2 := hR.pred 2 (by kernel_rfl)
   have zF2 : V 2 = .pointer (some ⟨b, 0, none⟩) := hI.2 2 zd2 rfl
   have zf2 := zF2; clear zF2
   have ze22 := hR.frame.done (t := 22) (j := 2) (by kernel_rfl) hR.ok zd2
   rw [if_pos (by rfl)]
   have := Bool.toNat_le (D 3)
   have := Bool.toNat_le (D 4)
   have hNB : (0 + 100) + ((D 3).toNat + 3000 * (D 4).toNat) ≤ 1000000000 := by omega
   skip
   go_simp
   refine (range_calls _ _ _ _ _ hS1 hNB (by omega) (by omega) (by omega)).mono ?_
   rintro e zw2 ⟨k_0, hk1, hk2, rfl, hS2, hm2⟩
   obtain ⟨q_0, rfl⟩ := Int.eq_ofNat_of_zero_le hk1
   exact hK (.int .i64 (q_0 : Int)) _ (hI.next hR (by kernel_rfl) hm2 (GB.asks hI.1 (fun _ h _ => h) hS2 hm2 (by have hn := hR.not; simp [upd, hn] <;> omega) (HGs.out D 3 _ _ (hI.1).g hm2)) (⟨q_0, upd_same V 3 _, (by first | assumption | omega)⟩))
  ·intro D V zw1 a hR hI K hK
   obtain ⟨hS1, hM1, hB1, hG1⟩ := hI.1
   have zd0 := hR.pred 0 (by kernel_rfl)
   have zF0 : V 0 = .pointer (some ⟨b, 0, none⟩) := hI.2 0 zd0 rfl
   have zf0 := zF0; clear zF0
   have zd1 := hR.pred 1 (by kernel_rfl)
   have zF1 : V 1 = .agg #[.slice Aa na ca, .slice Ar nr cr] := hI.2 1 zd1 rfl
   have zf1 := zF1; clear zF1
   have zd3 := hR.pred 3 (by kernel_rfl)
   have zF3 : ∃ (q_3 : Nat), V 3 = .int .i64 (q_3 : Int) ∧ q_3 ≤ 6 := hI.2 3 zd3 rfl
   obtain ⟨q_3, zf3, c3_0⟩ := zF3
   have ze20 := hR.frame.done (t := 20) (j := 0) (by kernel_rfl) hR.ok zd0
   have ze21 := hR.frame.done (t := 21) (j := 1) (by kernel_rfl) hR.ok zd1
   have ze23 := hR.frame.done (t := 23) (j := 3) (by kernel_rfl) hR.ok zd3
   rw [if_pos (by rfl)]
   have := Bool.toNat_le (D 3)
   have := Bool.toNat_le (D 4)
   have hNB : (0 + 100) + ((D 3).toNat + 3000 * (D 4).toNat) ≤ 1000000000 := by omega
   skip
   go_simp
   refine (decisionsM_calls 4 3 (by omega) (by omega) (by omega) (by omega) _ b _ _ L q_3 hS1 (by omega) (by omega) (HLV.out _ hM1) hla HLB.out HAM.out).mono ?_
   rintro e zw2 ⟨base_0, c_0, A_0, ds_0, rfl, hbb, hwb, hdg, hdl, hdz, hS2, hm2⟩
   exact hK (.slice A_0 ds_0.length c_0) _ (hI.next hR (by kernel_rfl) hm2 (GB.asks hI.1 (fun _ h _ => h) hS2 hm2 (by have hn := hR.not; simp [upd, hn] <;> omega) (HGs.out D 4 _ _ (hI.1).g hm2)) (⟨base_0, c_0, A_0, ds_0, upd_same V 4 _, (by omega), (by omega), hdz, (DcB.of hdg hbb hS2)⟩))
  ·intro D V zw1 a hR hI K hK
   obtain ⟨hS1, hM1, hB1, hG1⟩ := hI.1
   have zd4 := hR.pred 4 (by kernel_rfl)
   have zF4 : ∃ (base_4 : Nat) (c_4 : Nat) (A_4 : Option Addr) (ds_4 : List DecR), V 4 = .slice A_4 ds_4.length c_4 ∧ w2.heap.size ≤ base_4 ∧ ds_4.length ≤ 6 ∧ (∀ x ∈ ds_4, DecM 4 3 x) ∧ DcB zw1 b base_4 A_4 c_4 ds_4 := hI.2 4 zd4 rfl
   obtain ⟨base_4, c_4, A_4, ds_4, zf4, c4_0, c4_1, c4_2, b4_0⟩ := zF4
   have ze24 := hR.frame.done (t := 24) (j := 4) (by kernel_rfl) hR.ok zd4
   rw [if_pos (by rfl)]
   go_simp
   exact hK (.slice A_4 ds_4.length c_4) _ (hI.next hR (by kernel_rfl) (Mod.refl _ _) (GB.quiet hI.1 (Mod.refl _ _) (by have hn := hR.not; simp [upd, hn] <;> omega) (HGs.out D 5 zw1 zw1 (hI.1).g (Mod.refl _ _))) (⟨base_4, c_4, A_4, ds_4, upd_same V 5 _, (by first | assumption | omega), (by first | assumption | omega), (by first | assumption | omega), b4_0⟩))
 ·intro D V w3 hD hI
  obtain ⟨hS1, hM1, hB1, hG1⟩ := hI.1
  have hSx : Strm w3 b ((0 + 100) + 3001) := hS1.more (by show _ ≤ _; have := Bool.toNat_le (D 3); have := Bool.toNat_le (D 4); omega)
  clear hS1
  have hMx := hM1
  clear hM1
  have hBx := hB1
  clear hB1
  have hGx := hG1
  clear hG1
  have zF0 : V 0 = .pointer (some ⟨b, 0, none⟩) := hI.2 0 (hD 0 (by decide)) rfl
  have zf0 := zF0; clear zF0
  have zF1 : V 1 = .agg #[.slice Aa na ca, .slice Ar nr cr] := hI.2 1 (hD 1 (by decide)) rfl
  have zf1 := zF1; clear zF1
  have zF2 : V 2 = .pointer (some ⟨b, 0, none⟩) := hI.2 2 (hD 2 (by decide)) rfl
  have zf2 := zF2; clear zF2
  have zF3 : ∃ (q_3 : Nat), V 3 = .int .i64 (q_3 : Int) ∧ q_3 ≤ 6 := hI.2 3 (hD 3 (by decide)) rfl
  obtain ⟨q_3, zf3, c3_0⟩ := zF3
  have zF4 : ∃ (base_4 : Nat) (c_4 : Nat) (A_4 : Option Addr) (ds_4 : List DecR), V 4 = .slice A_4 ds_4.length c_4 ∧ w2.heap.size ≤ base_4 ∧ ds_4.length ≤ 6 ∧ (∀ x ∈ ds_4, DecM 4 3 x) ∧ DcB w3 b base_4 A_4 c_4 ds_4 := hI.2 4 (hD 4 (by decide)) rfl
  obtain ⟨base_4, c_4, A_4, ds_4, zf4, c4_0, c4_1, c4_2, b4_0⟩ := zF4
  have zF5 : ∃ (base_5 : Nat) (c_5 : Nat) (A_5 : Option Addr) (ds_5 : List DecR), V 5 = .slice A_5 ds_5.length c_5 ∧ w2.heap.size ≤ base_5 ∧ ds_5.length ≤ 6 ∧ (∀ x ∈ ds_5, DecM 4 3 x) ∧ DcB w3 b base_5 A_5 c_5 ds_5 := hI.2 5 (hD 5 (by decide)) rfl
  obtain ⟨base_5, c_5, A_5, ds_5, zf5, c5_0, c5_1, c5_2, b5_0⟩ := zF5
  clear hI hD HGs
  simp only [frAll, Act.put, List.setIfInBounds_toArray, List.set_cons_zero, List.set_cons_succ, Nat.zero_add, Nat.reduceAdd, zf0, zf1, zf2, zf3, zf4, zf5]
  clear zf0 zf1 zf2 zf3 zf4 zf5
  clear V D
  have HDB := Lib.hid b5_0
  have HDZ := Lib.hid c5_2
  have HP3 := Lib.hid (HPS.out HP2.out hMx)
  have HM3 := Lib.hid hMx
  have HG3 := Lib.hid hGx
  have hdl : ds_5.length ≤ 6 := c5_1
  have hbg : gl < w3.heap.size := hGx.lt
  have hbw3 := hSx.lt
  clear b4_0 b5_0 c4_0 c4_1 c4_2 c5_0 c5_1 c5_2 c3_0 hMx hGx hBx HP2 HG hS2
  generalize ds_5 = ds at *
  generalize A_5 = A5 at *
  generalize c_5 = c5 at *
  generalize base_5 = base at *
  generalize hNx : 0 + 100 + 3001 = Nx at *
  have hNx2 : Nx ≤ 4000 := by omega
  have hS3 := hSx
  have hLW := HLV.out _ HM3.out
  have HDE := Lib.hid (fun x (hx : x ∈ ds) => (HDZ.out x hx).b (by omega) (by omega))
  have HTX := Lib.hid (text_calls w3 _ L A5 ds.length c5 ds hLW HLB.out HDB.out.decs HDZ.out (by omega) (HMT.out _ HP3.out).2.2)
  have HDF := Lib.hid (fun W (h : Pure w3 W) => dsfault_calls W _ L A5 ds.length c5 ds (hLW.pure h) HLB.out (HDB.out.decs.pure h) HDE.out (by omega))
  have HDL := Lib.hid (fun W (h : Pure w3 W) => decLines_calls W A5 ds.length c5 ds (HDB.out.decs.pure h) HDZ.out (by omega) (HMT.out _ (HP3.out.trans h)).2.2)
  have HLF := Lib.hid (fun W (h : Mod (· = b) w3 W) => layoutFault_calls W _ L (HLV.out _ (HM3.out.trans h)) HLB.out)
  have HRD := Lib.hid (fun W (h : Mod (· = b) w3 W) s hs => readD_calls W _ L s (HLV.out _ (HM3.out.trans h)) HLB.out hs (HMT.out _ (HPS.out HP3.out h)).1)
  have HRR := Lib.hid (fun W (h : Mod (· = b) w3 W) s hs => readDR_calls W _ L s (HLV.out _ (HM3.out.trans h)) HLB.out hs (HMT.out _ (HPS.out HP3.out h)).1 (HMT.out _ (HPS.out HP3.out h)).2.2)
  have HDC := Lib.hid (fun W (h : Mod (· = b) w3 W) => decides_calls W (HMT.out _ (HPS.out HP3.out h)).1 (HMT.out _ (HPS.out HP3.out h)).2.1)
  have htl : (decsT ds).length ≤ 930 := by have := decsT_len HDZ.out; omega
  unfold TexPost at HTX
  unfold RdPPost at HRD
  generalize decsE L ds = q at *
  generalize decsT ds = dt at *
  generalize hle : layE L = le at *
  have hg3 := HG3.out
  have x0 := hg3.cell 0; have x1 := hg3.cell 1; simp at x0 x1
  clear hNx hSx hLW HDZ HDE HMT HDB HLV HLB HAM HM3 hle hg3
  go_wp2_with fail
  refine HTX.out.mono ?_
  rintro e w4 ⟨hm4, hcase⟩
  obtain ⟨tx, rfl, htx⟩ : ∃ tx : Str, e = .returned (.tuple #[.string ⟨tx.toArray⟩, .int .i64 q]) ∧ ((q ≠ 0 ∧ tx = []) ∨ (q = 0 ∧ tx = dt)) := by
   rcases hcase with ⟨h1, h2⟩ | ⟨h1, h2⟩
   ·exact ⟨[], h2, .inl ⟨h1, rfl⟩⟩
   ·exact ⟨dt, by rw [h2, h1], .inr ⟨h1, rfl⟩⟩
  have HTXS := Lib.hid htx
  have HM4 := Lib.hid hm4
  have hg4 := HG3.out.modp hm4
  have x0 := hg4.cell 0; have x1 := hg4.cell 1; simp at x0 x1
  clear hcase htx hg4 HTX hm4
  go_wp2_with fail
  refine (HDF.out _ HM4.out).mono ?_
  rintro e w5 ⟨rfl, hm5⟩
  have HM5 := Lib.hid (HM4.out.trans hm5)
  clear hm5 HDF HM4 x0 x1
  go_upto_region 6 with (fail)
  go_cut [54] (fun p wy => p = .bool false ∧ Pure w3 wy)
  case first =>
   rcases HTXS.out with ⟨hq, rfl⟩ | ⟨rfl, rfl⟩
   ·have hne : (q == 0) = false := by simpa using hq
    have hne2 : (q != 0) = true := by simpa using hq
    clear HTXS HDL HLF HRD HRR HDC
    go_wp2_with fail
    go_meet
    exact ⟨rfl, HM5.out⟩
   ·have hse : (tx != tx) = false := by simp
    have HDL5 := Lib.hid (HDL.out _ HM5.out)
    clear HTXS HDL HLF HRD HRR HDC
    go_wp2_with fail
    refine HDL5.out.mono ?_
    rintro e w6 ⟨rfl, hm6⟩
    go_wp2_with fail
    go_meet
    exact ⟨rfl, HM5.out.trans hm6⟩
  case rest =>
   obtain ⟨rfl, hm6⟩ := hcut
   have HM6 := Lib.hid hm6
   have HDL6 := Lib.hid (HDL.out _ hm6)
   clear hm6 HM5 HTXS HDL
   go_wp2_with fail
   refine HDL6.out.mono ?_
   rintro e w7 ⟨rfl, hm7⟩
   have hS7 := (hS3.pure HM6.out).pure hm7
   have HM7 := Lib.hid (HM6.out.trans hm7)
   have HNE := Lib.hid (nearly_calls w7 b _ dt txD 1000 hS7 (by omega) (by show dt.length + 2 * 13 ≤ 1000; omega) (by omega) (by decide) (by decide) (by decide))
   clear hS3 hm7 HM6 HDL6 hS7
   go_wp2_with fail
   refine HNE.out.mono ?_
   rintro e w8 ⟨s, hs, rfl, hS8, hM8⟩
   have HM8 : Hid (Mod (· = b) w3 w8) := Lib.hid ((Mod.of_pure HM7.out).trans hM8)
   have HRD8 := Lib.hid (HRD.out _ HM8.out s hs)
   have HG8 := Lib.hid (HG3.out.mod HM8.out (by omega))
   have hg8 := HG8.out
   have x0 := hg8.cell 0; have x1 := hg8.cell 1; simp at x0 x1
   clear hS8 hM8 HNE HM7 HRD hg8 HG3
   go_wp2_with fail
   refine HRD8.out.mono ?_
   rintro e w9 ⟨hm9, hcase⟩
   have HG9 := Lib.hid (HG8.out.modp hm9)
   have HM9 : Hid (Mod (· = b) w3 w9) := Lib.hid (HM8.out.transp hm9)
   have HLF9 := Lib.hid (HLF.out _ HM9.out)
   have hg9 := HG9.out
   have x0 := hg9.cell 0; have x1 := hg9.cell 1; simp at x0 x1
   clear HRD8 HG8 HM8 HLF hg9 hm9
   by_cases h0 : le = 0
   ·subst h0
    have hr9 : RdDRes L (rdG lnD (wholeQ s) (linesQ s) 0 []) e w9 := hcase.elim (fun h => absurd rfl h.1) (fun h => h.2)
    obtain ⟨A9, c9, d9, i9, f9, rfl, hD9, hF9⟩ := hr9.form
    have HD9 := Lib.hid hD9
    have HF9 := Lib.hid hF9
    clear hcase hr9 hD9 hF9
    go_wp2_with fail
    refine HLF9.out.mono ?_
    rintro e wA ⟨rfl, hmA⟩
    have HGA := Lib.hid (HG9.out.modp hmA)
    have HMA : Hid (Mod (· = b) w3 wA) := Lib.hid (HM9.out.transp hmA)
    have HRRA := Lib.hid (HRR.out _ HMA.out s hs)
    have HDA := Lib.hid (Decs.pure HD9.out hmA)
    have hga := HGA.out
    have x0 := hga.cell 0; have x1 := hga.cell 1; simp at x0 x1
    clear hmA HLF9 HG9 HM9 HD9 HRR hga
    go_wp2_with fail
    refine HRRA.out.mono ?_
    rintro e wB ⟨hmB, hrB⟩
    obtain ⟨AB, cB, dB, iB, fB, rfl, hDB, hFB⟩ := hrB.form
    obtain ⟨rfl, rfl, heq⟩ := HF9.out.same hFB
    have HEQ := Lib.hid (equalDec_calls wB _ _ d9 dB (Decs.pure HDA.out hmB) hDB)
    rw [heq] at HEQ
    have HMB : Hid (Mod (· = b) w3 wB) := Lib.hid (HMA.out.transp hmB)
    clear hmB hrB hDB hFB heq HF9 HRRA HDA HMA HGA x0 x1
    go_wp2_with fail
    refine HEQ.out.mono ?_
    rintro e wD ⟨rfl, hmD⟩
    have HMD : Hid (Mod (· = b) w3 wD) := Lib.hid (HMB.out.transp hmD)
    have HDX := Lib.hid (HDC.out _ HMD.out)
    clear hmD HMB HEQ HDC
    go_wp2_with fail
    refine HDX.out.mono ?_
    rintro e wE ⟨rfl, hmE⟩
    have HPF := Lib.hid (HPS.out HP3.out (HMD.out.transp hmE))
    clear hmE HDX
    go_wp2_with fail
    go_ret
    exact BoolPost.of rfl HPF.out
   ·have hr9 : e = .returned (.tuple #[.slice none 0 0, .int .i64 0, .int .i64 le]) := hcase.elim (fun h => h.2) (fun h => absurd h.1 h0)
    subst hr9
    have h1 : (le != 0) = true := by simpa using h0
    clear hcase HRR h0
    go_wp2_with fail
    refine HLF9.out.mono ?_
    rintro e wA ⟨rfl, hmA⟩
    have HMA : Hid (Mod (· = b) w3 wA) := Lib.hid (HM9.out.transp hmA)
    have HDX := Lib.hid (HDC.out _ HMA.out)
    clear hmA HLF9 HG9 HM9 HDC x0 x1
    go_wp2_with fail
    refine HDX.out.mono ?_
    rintro e wE ⟨rfl, hmE⟩
    have HPF := Lib.hid (HPS.out HP3.out (HMA.out.transp hmE))
    clear hmE HDX
    go_wp2_with fail
    go_ret
    exact BoolPost.of rfl HPF.out

end Go.Proofs.YtaidkmnbjbnciaaGreatDoor

/- What the listed variables of the texts of decisions hold. -/
namespace Go.Proofs.YtaidkmnbjbnciaaGreatDoor
set_option linter.unusedVariables false
set_option linter.unusedSimpArgs false
open Go.RowKit

/-- The list of the row. -/
abbrev laidD : List (String × DataW Unit) := [("math/bits.deBruijn32tab", Rows.laid_math_bits_deBruijn32tab), ("math/bits.deBruijn64tab", Rows.laid_math_bits_deBruijn64tab), ("internal/strconv.uint64pow10", Rows.laid_internal_strconv_uint64pow10), ("unicode/utf8.acceptRanges", Rows.laid_unicode_utf8_acceptRanges), ("strconv.ErrRange", Rows.laid_strconv_ErrRange), ("strconv.ErrSyntax", Rows.laid_strconv_ErrSyntax), ("unicode.White_Space", Rows.laid_unicode_White_Space), ("strings.asciiSpace", Rows.laid_strings_asciiSpace), ("unicode/utf8.first", Rows.laid_unicode_utf8_first)]
theorem powZ : litsZv Rows.laid_internal_strconv_uint64pow10 = Lib.pow10Tab := by kernel_rfl
set_option maxRecDepth 100000 in
theorem ascD_of {W : World} (hL : laidMet Tryz.prog laidD W) : Asc W := by
 have h1 := Lib.tabIs_of_head (k := .u8) (zs := litsZv Rows.laid_strings_asciiSpace) (g := 0) (name := "strings.asciiSpace") (P := Tryz.prog) (W := W) (n := 256) (t := 221) (e := 5) (by kernel_rfl) (by kernel_rfl) (by kernel_rfl) (by kernel_rfl) (by kernel_rfl) (by kernel_rfl) hL.tail.tail.tail.tail.tail.tail.tail
 rw [ascZ] at h1
 exact h1
set_option maxRecDepth 100000 in
theorem powD_of {W : World} (hL : laidMet Tryz.prog laidD W) : Pow W := by
 have h1 := Lib.tabIs_of_head (k := .u64) (zs := litsZv Rows.laid_internal_strconv_uint64pow10) (g := 5) (name := "internal/strconv.uint64pow10") (P := Tryz.prog) (W := W) (n := 20) (t := 295) (e := 238) (by kernel_rfl) (by kernel_rfl) (by kernel_rfl) (by kernel_rfl) (by kernel_rfl) (by kernel_rfl) hL.tail.tail
 rw [powZ] at h1
 exact h1

end Go.Proofs.YtaidkmnbjbnciaaGreatDoor
