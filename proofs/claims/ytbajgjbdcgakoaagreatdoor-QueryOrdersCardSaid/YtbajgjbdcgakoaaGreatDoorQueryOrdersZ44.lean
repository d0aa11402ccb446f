/- Texts of the proof of QueryOrders, put together: OrqB, OrqC, RunH, RunF, RunI, RunJ, RunK, RunL, QrV, QrX, LayAny, RunM, UnqB, QuoS, LaidI, LawQueryOrders. -/
import Derived.Test.YtbajgjbdcgakoaaGreatDoorQueryOrdersZ6
import Derived.Test.YtbajgjbdcgakoaaGreatDoorQueryOrdersZ14
import Derived.Test.YtbajgjbdcgakoaaGreatDoorQueryOrdersZ15
import Derived.Test.YtbajgjbdcgakoaaGreatDoorQueryOrdersZ37
import Derived.Test.YtbajgjbdcgakoaaGreatDoorQueryOrdersZ40
import Derived.Test.YtbajgjbdcgakoaaGreatDoorQueryOrdersZ41
import Derived.Test.YtbajgjbdcgakoaaGreatDoorQueryOrdersZ42
import Derived.Test.YtbajgjbdcgakoaaGreatDoorQueryOrdersZ43
import Derived.Deep.DeepCutAuto
import Derived.Ground.NamesProg
import Derived.Shelf.Strings.IndexAnyAll
import Derived.Test.YtbajgjbdcgakoaaGreatDoorProg
import Derived.Test.YtbajgjbdcgakoaaGreatDoorRows
import Derived.Stop.LaidErr
import Derived.Lib.LaidTab
import Derived.Lib.LaidU8T
import Derived.ProofKit
/- Searches compared: the program. -/
namespace Go.Proofs.YtbajgjbdcgakoaaGreatDoor
set_option linter.unusedVariables false
set_option linter.unusedSimpArgs false
open Go.RowKit

theorem or4Q (a b c d : Int) : firstErr [a, b, c, d] = or2 a (or2 b (or2 c d)) := by
 unfold or2
 simp only [firstErr]
 by_cases h1 : a = 0 <;> by_cases h2 : b = 0 <;> by_cases h3 : c = 0 <;> by_cases h4 : d = 0 <;> simp [h1, h2, h3, h4]
theorem cmpQ_map2 {α β γ δ : Type} (f : γ → δ → Int) (g : α → γ) (h : β → δ) : ∀ (xs : List α) (ys : List β), cmpQ (fun x y => f (g x) (h y)) xs ys = cmpQ f (xs.map g) (ys.map h)
 | [], [] => rfl
 | [], _ :: _ => rfl
 | _ :: _, [] => rfl
 | x :: s, y :: t => by
  show (if f (g x) (h y) ≠ 0 then f (g x) (h y) else cmpQ (fun x y => f (g x) (h y)) s t) = if f (g x) (h y) ≠ 0 then f (g x) (h y) else cmpQ f (s.map g) (t.map h)
  rw [cmpQ_map2 f g h s t]
set_option maxRecDepth 100000 in
set_option maxHeartbeats 16000000 in
theorem orderQ_calls : ∀ (a b : QR) (w : World), QS w a → QS w b → QB 1000 a.key → QB 1000 b.key → Calls Tryz.prog 44 #[qA a, qA b] w (IntPost w (ordQP a.key b.key)) := by
 refine QR.ind (fun k1 A1 c1 ws1 n1 B1 d1 xs1 ih => ?_)
 intro q2 w hQ1 hQ2 hB1 hB2
 obtain ⟨k2, A2, c2, ws2, n2, B2, d2, xs2, rfl⟩ := q2.ex
 rw [QR.key_mk] at hB1 hB2
 have HP : Hid (Pure w ((w.alloc (.cells #[.int .i64 k1, .slice A1 ws1.length c1, .int .i64 n1, .slice B1 xs1.length d1] 29)).alloc (.cells #[.int .i64 k2, .slice A2 ws2.length c2, .int .i64 n2, .slice B2 xs2.length d2] 29))) := Lib.hid (((Mod.refl _ _).alloc _).alloc _)
 have HB1 := Lib.hid ((Blk.new w 29 #[.int .i64 k1, .slice A1 ws1.length c1, .int .i64 n1, .slice B1 xs1.length d1]).alloc (.cells #[.int .i64 k2, .slice A2 ws2.length c2, .int .i64 n2, .slice B2 xs2.length d2] 29))
 have HB2 := Lib.hid (Blk.snd w (.cells #[.int .i64 k1, .slice A1 ws1.length c1, .int .i64 n1, .slice B1 xs1.length d1] 29) 29 #[.int .i64 k2, .slice A2 ws2.length c2, .int .i64 n2, .slice B2 xs2.length d2])
 have HCS : Hid (∀ W, Pure w W → Calls Tryz.prog 46 #[.slice A1 ws1.length c1, .slice A2 ws2.length c2] W (IntPost W (cmpL ws1 ws2))) := Lib.hid (fun W h => (compareS_calls W _ _ ws1 ws2 (hQ1.wsH.pure h) (hQ2.wsH.pure h)).mono (fun e w' hh => ⟨hh.1, hh.2 ▸ Mod.refl _ _⟩))
 have HCF : Hid (∀ W, Pure w W → Calls Tryz.prog 47 #[.slice B1 xs1.length d1, .slice B2 xs2.length d2, .func (.func 44) #[] #[]] W (IntPost W (cmpQ ordQP (xs1.map QR.key) (xs2.map QR.key)))) := Lib.hid (fun W h => by
  have h2 := compQ_calls W _ _ xs1 xs2 44 (fun x y => ordQP x.key y.key) ⟨hQ1.xsH.pure h, trivial⟩ ⟨hQ2.xsH.pure h, trivial⟩ (fun _ _ _ => rfl) (fun x y W' hx hy hm => by
   have h3 := ih x hx y W' ((hQ1.allH x hx).pure (h.trans hm)) ((hQ2.allH y hy).pure (h.trans hm)) (hB1.allH _ (List.mem_map.2 ⟨x, hx, rfl⟩)) (hB2.allH _ (List.mem_map.2 ⟨y, hy, rfl⟩))
   rw [qA_pr, qA_pr] at h3
   exact h3)
  rw [cmpQ_map2] at h2
  exact h2)
 have HR : Hid (ordQP (QR.key (QR.mk k1 A1 c1 ws1 n1 B1 d1 xs1)) (QR.key (QR.mk k2 A2 c2 ws2 n2 B2 d2 xs2)) = or2 (k1 - k2) (or2 (n1 - n2) (or2 (cmpL ws1 ws2) (cmpQ ordQP (xs1.map QR.key) (xs2.map QR.key))))) := Lib.hid (by rw [QR.key_mk, QR.key_mk, ordQP_mk])
 obtain ⟨p1, p2, p3, p4⟩ := hB1.knH
 obtain ⟨p5, p6, p7, p8⟩ := hB2.knH
 generalize ordQP (QR.key (QR.mk k1 A1 c1 ws1 n1 B1 d1 xs1)) (QR.key (QR.mk k2 A2 c2 ws2 n2 B2 d2 xs2)) = rr at *
 generalize cmpQ ordQP (xs1.map QR.key) (xs2.map QR.key) = cx at *
 generalize cmpL ws1 ws2 = cw at *
 rw [qA_mk, qA_mk]
 clear hQ1 hQ2 hB1 hB2 ih
 go_enter Tryz.func44, Tryz.ntmps44
 go_upto_region 1 with (fail)
 replace HCS : Hid (∀ W, Pure ((w.alloc (.cells #[.int .i64 k1, .slice A1 ws1.length c1, .int .i64 n1, .slice B1 xs1.length d1] 29)).alloc (.cells #[.int .i64 k2, .slice A2 ws2.length c2, .int .i64 n2, .slice B2 xs2.length d2] 29)) W → Calls Tryz.prog 46 #[.slice A1 ws1.length c1, .slice A2 ws2.length c2] W (IntPost W cw)) := Lib.hid (fun W h => HCS.out W (HP.out.trans h))
 replace HCF : Hid (∀ W, Pure ((w.alloc (.cells #[.int .i64 k1, .slice A1 ws1.length c1, .int .i64 n1, .slice B1 xs1.length d1] 29)).alloc (.cells #[.int .i64 k2, .slice A2 ws2.length c2, .int .i64 n2, .slice B2 xs2.length d2] 29)) W → Calls Tryz.prog 47 #[.slice B1 xs1.length d1, .slice B2 xs2.length d2, .func (.func 44) #[] #[]] W (IntPost W cx)) := Lib.hid (fun W h => HCF.out W (HP.out.trans h))
 generalize ((w.alloc (.cells #[.int .i64 k1, .slice A1 ws1.length c1, .int .i64 n1, .slice B1 xs1.length d1] 29)).alloc (.cells #[.int .i64 k2, .slice A2 ws2.length c2, .int .i64 n2, .slice B2 xs2.length d2] 29)) = w2 at *
 generalize w.heap.size = g0 at *
 have hw1 : IntKind.i64.wrap (k1 - k2) = k1 - k2 := IntWalk.i64_in _ (by omega)
 have hw2 : IntKind.i64.wrap (n1 - n2) = n1 - n2 := IntWalk.i64_in _ (by omega)
 clear p1 p2 p3 p4 p5 p6 p7 p8
 have HGs := Lib.hid (show ∀ (D : Nat → Bool) (zzi : Nat) (zq zq' : World), (fun _ zq => (fun Z => Pure w2 Z) zq) D zq → Mod (fun _ => False) zq zq' → (fun _ zq => (fun Z => Pure w2 Z) zq) (upd D zzi true) zq' from by intro D zzi zq zq' h hm; (exact h.trans hm))
 refine wp_region_inv (by kernel_rfl) (by kernel_rfl) (InvF (R := Mod (fun _ => False)) [.is (.pointer (some ⟨g0, 0, none⟩)),
   .is (.int .i64 k1),
   .is (.pointer (some ⟨g0 + 1, 0, none⟩)),
   .is (.int .i64 k2),
   .is (.int .i64 (k1 - k2)),
   .is (.pointer (some ⟨g0, 2, none⟩)),
   .is (.int .i64 n1),
   .is (.pointer (some ⟨g0 + 1, 2, none⟩)),
   .is (.int .i64 n2),
   .is (.int .i64 (n1 - n2)),
   .is (.pointer (some ⟨g0, 1, none⟩)),
   .is (.slice A1 ws1.length c1),
   .is (.pointer (some ⟨g0 + 1, 1, none⟩)),
   .is (.slice A2 ws2.length c2),
   .is (.int .i64 cw),
   .is (.pointer (some ⟨g0, 3, none⟩)),
   .is (.slice B1 xs1.length d1),
   .is (.pointer (some ⟨g0 + 1, 3, none⟩)),
   .is (.slice B2 xs2.length d2),
   .is (.int .i64 cx),
   ⟨fun zv zw => ∃ (g_20 : Nat), zv = .slice (some ⟨g_20, 0, none⟩) 4 4 ∧ w2.heap.size ≤ g_20 ∧ Blk zw g_20 3 #[.int .i64 (k1 - k2), .int .i64 (n1 - n2), .int .i64 cw, .int .i64 cx], (by rintro zv zw zx ⟨g_20, rfl, c0, q0⟩ hm; exact ⟨g_20, rfl, c0, (q0.modp hm)⟩), none, some 21⟩,
   .is (.int .i64 (firstErr [k1 - k2, n1 - n2, cw, cx])),
   .is (.int .i64 (firstErr [k1 - k2, n1 - n2, cw, cx]))]
   (PB w (fun _ => False) w2.heap.size (fun _ zq => (fun Z => Pure w2 Z) zq))) (InvF.start (PB.start HP.out (Nat.le_refl _) (((Mod.refl _ _).drewN 1)))) ?_ ?_
 ·refine .cons ?_ (.cons ?_ (.cons ?_ (.cons ?_ (.cons ?_ (.cons ?_ (.cons ?_ (.cons ?_ (.cons ?_ (.cons ?_ (.cons ?_ (.cons ?_ (.cons ?_ (.cons ?_ (.cons ?_ (.cons ?_ (.cons ?_ (.cons ?_ (.cons ?_ (.cons ?_ (.cons ?_ (.cons ?_ (.cons ?_ .nil))))))))))))))))))))))
  ·intro D V zw1 a hR hI K hK
   obtain ⟨hM1, hB1, hG1⟩ := hI.1
   have ze2 := hR.frame.other (t := 2) (by kernel_rfl) rfl
   rw [if_pos (by rfl)]
   go_simp
   exact hK (.pointer (some ⟨g0, 0, none⟩)) _ (hI.next hR (by kernel_rfl) (Mod.refl _ _) (PB.quiet hI.1 (Mod.refl _ _) (HGs.out D 0 zw1 zw1 (hI.1).g (Mod.refl _ _))) (upd_same V 0 _))
  ·intro D V zw1 a hR hI K hK
   obtain ⟨hM1, hB1, hG1⟩ := hI.1
   have zd0 := hR.pred 0 (by kernel_rfl)
   have zF0 : V 0 = .pointer (some ⟨g0, 0, none⟩) := hI.2 0 zd0 rfl
   have zf0 := zF0; clear zF0
   have ze5 := hR.frame.done (t := 5) (j := 0) (by kernel_rfl) hR.ok zd0
   have zx := (HB1.out.modp hG1).cell 0
   simp at zx
   rw [if_pos (by rfl)]
   go_simp
   exact hK (.int .i64 k1) _ (hI.next hR (by kernel_rfl) (Mod.refl _ _) (PB.quiet hI.1 (Mod.refl _ _) (HGs.out D 1 zw1 zw1 (hI.1).g (Mod.refl _ _))) (upd_same V 1 _))
  ·intro D V zw1 a hR hI K hK
   obtain ⟨hM1, hB1, hG1⟩ := hI.1
   have ze3 := hR.frame.other (t := 3) (by kernel_rfl) rfl
   rw [if_pos (by rfl)]
   go_simp
   exact hK (.pointer (some ⟨g0 + 1, 0, none⟩)) _ (hI.next hR (by kernel_rfl) (Mod.refl _ _) (PB.quiet hI.1 (Mod.refl _ _) (HGs.out D 2 zw1 zw1 (hI.1).g (Mod.refl _ _))) (upd_same V 2 _))
  ·intro D V zw1 a hR hI K hK
   obtain ⟨hM1, hB1, hG1⟩ := hI.1
   have zd2 := hR.pred 2 (by kernel_rfl)
   have zF2 : V 2 = .pointer (some ⟨g0 + 1, 0, none⟩) := hI.2 2 zd2 rfl
   have zf2 := zF2; clear zF2
   have ze7 := hR.frame.done (t := 7) (j := 2) (by kernel_rfl) hR.ok zd2
   have zx := (HB2.out.modp hG1).cell 0
   simp at zx
   rw [if_pos (by rfl)]
   go_simp
   exact hK (.int .i64 k2) _ (hI.next hR (by kernel_rfl) (Mod.refl _ _) (PB.quiet hI.1 (Mod.refl _ _) (HGs.out D 3 zw1 zw1 (hI.1).g (Mod.refl _ _))) (upd_same V 3 _))
  ·intro D V zw1 a hR hI K hK
   obtain ⟨hM1, hB1, hG1⟩ := hI.1
   have zd1 := hR.pred 1 (by kernel_rfl)
   have zF1 : V 1 = .int .i64 k1 := hI.2 1 zd1 rfl
   have zf1 := zF1; clear zF1
   have zd3 := hR.pred 3 (by kernel_rfl)
   have zF3 : V 3 = .int .i64 k2 := hI.2 3 zd3 rfl
   have zf3 := zF3; clear zF3
   have ze6 := hR.frame.done (t := 6) (j := 1) (by kernel_rfl) hR.ok zd1
   have ze8 := hR.frame.done (t := 8) (j := 3) (by kernel_rfl) hR.ok zd3
   rw [if_pos (by rfl)]
   go_simp
   exact hK (.int .i64 (k1 - k2)) _ (hI.next hR (by kernel_rfl) (Mod.refl _ _) (PB.quiet hI.1 (Mod.refl _ _) (HGs.out D 4 zw1 zw1 (hI.1).g (Mod.refl _ _))) (upd_same V 4 _))
  ·intro D V zw1 a hR hI K hK
   obtain ⟨hM1, hB1, hG1⟩ := hI.1
   have ze2 := hR.frame.other (t := 2) (by kernel_rfl) rfl
   rw [if_pos (by rfl)]
   go_simp
   exact hK (.pointer (some ⟨g0, 2, none⟩)) _ (hI.next hR (by kernel_rfl) (Mod.refl _ _) (PB.quiet hI.1 (Mod.refl _ _) (HGs.out D 5 zw1 zw1 (hI.1).g (Mod.refl _ _))) (upd_same V 5 _))
  ·intro D V zw1 a hR hI K hK
   obtain ⟨hM1, hB1, hG1⟩ := hI.1
   have zd5 := hR.pred 5 (by kernel_rfl)
   have zF5 : V 5 = .pointer (some ⟨g0, 2, none⟩) := hI.2 5 zd5 rfl
   have zf5 := zF5; clear zF5
   have ze10 := hR.frame.done (t := 10) (j := 5) (by kernel_rfl) hR.ok zd5
   have zx := (HB1.out.modp hG1).cell 2
   simp at zx
   rw [if_pos (by rfl)]
   go_simp
   exact hK (.int .i64 n1) _ (hI.next hR (by kernel_rfl) (Mod.refl _ _) (PB.quiet hI.1 (Mod.refl _ _) (HGs.out D 6 zw1 zw1 (hI.1).g (Mod.refl _ _))) (upd_same V 6 _))
  ·intro D V zw1 a hR hI K hK
   obtain ⟨hM1, hB1, hG1⟩ := hI.1
   have ze3 := hR.frame.other (t := 3) (by kernel_rfl) rfl
   rw [if_pos (by rfl)]
   go_simp
   exact hK (.pointer (some ⟨g0 + 1, 2, none⟩)) _ (hI.next hR (by kernel_rfl) (Mod.refl _ _) (PB.quiet hI.1 (Mod.refl _ _) (HGs.out D 7 zw1 zw1 (hI.1).g (Mod.refl _ _))) (upd_same V 7 _))
  ·intro D V zw1 a hR hI K hK
   obtain ⟨hM1, hB1, hG1⟩ := hI.1
   have zd7 := hR.pred 7 (by kernel_rfl)
   have zF7 : V 7 = .pointer (some ⟨g0 + 1, 2, none⟩) := hI.2 7 zd7 rfl
   have zf7 := zF7; clear zF7
   have ze12 := hR.frame.done (t := 12) (j := 7) (by kernel_rfl) hR.ok zd7
   have zx := (HB2.out.modp hG1).cell 2
   simp at zx
   rw [if_pos (by rfl)]
   go_simp
   exact hK (.int .i64 n2) _ (hI.next hR (by kernel_rfl) (Mod.refl _ _) (PB.quiet hI.1 (Mod.refl _ _) (HGs.out D 8 zw1 zw1 (hI.1).g (Mod.refl _ _))) (upd_same V 8 _))
  ·intro D V zw1 a hR hI K hK
   obtain ⟨hM1, hB1, hG1⟩ := hI.1
   have zd6 := hR.pred 6 (by kernel_rfl)
   have zF6 : V 6 = .int .i64 n1 := hI.2 6 zd6 rfl
   have zf6 := zF6; clear zF6
   have zd8 := hR.pred 8 (by kernel_rfl)
   have zF8 : V 8 = .int .i64 n2 := hI.2 8 zd8 rfl
   have zf8 := zF8; clear zF8
   have ze11 := hR.frame.done (t := 11) (j := 6) (by kernel_rfl) hR.ok zd6
   have ze13 := hR.frame.done (t := 13) (j := 8) (by kernel_rfl) hR.ok zd8
   rw [if_pos (by rfl)]
   go_simp
   exact hK (.int .i64 (n1 - n2)) _ (hI.next hR (by kernel_rfl) (Mod.refl _ _) (PB.quiet hI.1 (Mod.refl _ _) (HGs.out D 9 zw1 zw1 (hI.1).g (Mod.refl _ _))) (upd_same V 9 _))
  ·intro D V zw1 a hR hI K hK
   obtain ⟨hM1, hB1, hG1⟩ := hI.1
   have ze2 := hR.frame.other (t := 2) (by kernel_rfl) rfl
   rw [if_pos (by rfl)]
   go_simp
   exact hK (.pointer (some ⟨g0, 1, none⟩)) _ (hI.next hR (by kernel_rfl) (Mod.refl _ _) (PB.quiet hI.1 (Mod.refl _ _) (HGs.out D 10 zw1 zw1 (hI.1).g (Mod.refl _ _))) (upd_same V 10 _))
  ·intro D V zw1 a hR hI K hK
   obtain ⟨hM1, hB1, hG1⟩ := hI.1
   have zd10 := hR.pred 10 (by kernel_rfl)
   have zF10 : V 10 = .pointer (some ⟨g0, 1, none⟩) := hI.2 10 zd10 rfl
   have zf10 := zF10; clear zF10
   have ze15 := hR.frame.done (t := 15) (j := 10) (by kernel_rfl) hR.ok zd10
   have zx := (HB1.out.modp hG1).cell 1
   simp at zx
   rw [if_pos (by rfl)]
   go_simp
   exact hK (.slice A1 ws1.length c1) _ (hI.next hR (by kernel_rfl) (Mod.refl _ _) (PB.quiet hI.1 (Mod.refl _ _) (HGs.out D 11 zw1 zw1 (hI.1).g (Mod.refl _ _))) (upd_same V 11 _))
  ·intro D V zw1 a hR hI K hK
   obtain ⟨hM1, hB1, hG1⟩ := hI.1
   have ze3 := hR.frame.other (t := 3) (by kernel_rfl) rfl
   rw [if_pos (by rfl)]
   go_simp
   exact hK (.pointer (some ⟨g0 + 1, 1, none⟩)) _ (hI.next hR (by kernel_rfl) (Mod.refl _ _) (PB.quiet hI.1 (Mod.refl _ _) (HGs.out D 12 zw1 zw1 (hI.1).g (Mod.refl _ _))) (upd_same V 12 _))
  ·intro D V zw1 a hR hI K hK
   obtain ⟨hM1, hB1, hG1⟩ := hI.1
   have zd12 := hR.pred 12 (by kernel_rfl)
   have zF12 : V 12 = .pointer (some ⟨g0 + 1, 1, none⟩) := hI.2 12 zd12 rfl
   have zf12 := zF12; clear zF12
   have ze17 := hR.frame.done (t := 17) (j := 12) (by kernel_rfl) hR.ok zd12
   have zx := (HB2.out.modp hG1).cell 1
   simp at zx
   rw [if_pos (by rfl)]
   go_simp
   exact hK (.slice A2 ws2.length c2) _ (hI.next hR (by kernel_rfl) (Mod.refl _ _) (PB.quiet hI.1 (Mod.refl _ _) (HGs.out D 13 zw1 zw1 (hI.1).g (Mod.refl _ _))) (upd_same V 13 _))
  ·intro D V zw1 a hR hI K hK
   obtain ⟨hM1, hB1, hG1⟩ := hI.1
   have zd11 := hR.pred 11 (by kernel_rfl)
   have zF11 : V 11 = .slice A1 ws1.length c1 := hI.2 11 zd11 rfl
   have zf11 := zF11; clear zF11
   have zd13 := hR.pred 13 (by kernel_rfl)
   have zF13 : V 13 = .slice A2 ws2.length c2 := hI.2 13 zd13 rfl
   have zf13 := zF13; clear zF13
   have ze16 := hR.frame.done (t := 16) (j := 11) (by kernel_rfl) hR.ok zd11
   have ze18 := hR.frame.done (t := 18) (j := 13) (by kernel_rfl) hR.ok zd13
   rw [if_pos (by rfl)]
   go_simp
   refine (HCS.out zw1 hG1).mono ?_
   rintro e zw2 ⟨rfl, hm2⟩
   exact hK (.int .i64 cw) _ (hI.next hR (by kernel_rfl) hm2 (PB.quiet hI.1 hm2 (HGs.out D 14 _ _ (hI.1).g hm2)) (upd_same V 14 _))
  ·intro D V zw1 a hR hI K hK
   obtain ⟨hM1, hB1, hG1⟩ := hI.1
   have ze2 := hR.frame.other (t := 2) (by kernel_rfl) rfl
   rw [if_pos (by rfl)]
   go_simp
   exact hK (.pointer (some ⟨g0, 3, none⟩)) _ (hI.next hR (by kernel_rfl) (Mod.refl _ _) (PB.quiet hI.1 (Mod.refl _ _) (HGs.out D 15 zw1 zw1 (hI.1).g (Mod.refl _ _))) (upd_same V 15 _))
  ·intro D V zw1 a hR hI K hK
   obtain ⟨hM1, hB1, hG1⟩ := hI.1
   have zd15 := hR.pred 15 (by kernel_rfl)
   have zF15 : V 15 = .pointer (some ⟨g0, 3, none⟩) := hI.2 15 zd15 rfl
   have zf15 := zF15; clear zF15
   have ze20 := hR.frame.done (t := 20) (j := 15) (by kernel_rfl) hR.ok zd15
   have zx := (HB1.out.modp hG1).cell 3
   simp at zx
   rw [if_pos (by rfl)]
   go_simp
   exact hK (.slice B1 xs1.length d1) _ (hI.next hR (by kernel_rfl) (Mod.refl _ _) (PB.quiet hI.1 (Mod.refl _ _) (HGs.out D 16 zw1 zw1 (hI.1).g (Mod.refl _ _))) (upd_same V 16 _))
  ·intro D V zw1 a hR hI K hK
   obtain ⟨hM1, hB1, hG1⟩ := hI.1
   have ze3 := hR.frame.other (t := 3) (by kernel_rfl) rfl
   rw [if_pos (by rfl)]
   go_simp
   exact hK (.pointer (some ⟨g0 + 1, 3, none⟩)) _ (hI.next hR (by kernel_rfl) (Mod.refl _ _) (PB.quiet hI.1 (Mod.refl _ _) (HGs.out D 17 zw1 zw1 (hI.1).g (Mod.refl _ _))) (upd_same V 17 _))
  ·intro D V zw1 a hR hI K hK
   obtain ⟨hM1, hB1, hG1⟩ := hI.1
   have zd17 := hR.pred 17 (by kernel_rfl)
   have zF17 : V 17 = .pointer (some ⟨g0 + 1, 3, none⟩) := hI.2 17 zd17 rfl
   have zf17 := zF17; clear zF17
   have ze22 := hR.frame.done (t := 22) (j := 17) (by kernel_rfl) hR.ok zd17
   have zx := (HB2.out.modp hG1).cell 3
   simp at zx
   rw [if_pos (by rfl)]
   go_simp
   exact hK (.slice B2 xs2.length d2) _ (hI.next hR (by kernel_rfl) (Mod.refl _ _) (PB.quiet hI.1 (Mod.refl _ _) (HGs.out D 18 zw1 zw1 (hI.1).g (Mod.refl _ _))) (upd_same V 18 _))
  ·intro D V zw1 a hR hI K hK
   obtain ⟨hM1, hB1, hG1⟩ := hI.1
   have zd16 := hR.pred 16 (by kernel_rfl)
   have zF16 : V 16 = .slice B1 xs1.length d1 := hI.2 16 zd16 rfl
   have zf16 := zF16; clear zF16
   have zd18 := hR.pred 18 (by kernel_rfl)
   have zF18 : V 18 = .slice B2 xs2.length d2 := hI.2 18 zd18 rfl
   have zf18 := zF18; clear zF18
   have ze21 := hR.frame.done (t := 21) (j := 16) (by kernel_rfl) hR.ok zd16
   have ze23 := hR.frame.done (t := 23) (j := 18) (by kernel_rfl) hR.ok zd18
   rw [if_pos (by rfl)]
   go_simp
   refine (HCF.out zw1 hG1).mono ?_
   rintro e zw2 ⟨rfl, hm2⟩
   exact hK (.int .i64 cx) _ (hI.next hR (by kernel_rfl) hm2 (PB.quiet hI.1 hm2 (HGs.out D 19 _ _ (hI.1).g hm2)) (upd_same V 19 _))
  ·intro D V zw1 a hR hI K hK
   obtain ⟨hM1, hB1, hG1⟩ := hI.1
   have zd4 := hR.pred 4 (by kernel_rfl)
   have zF4 : V 4 = .int .i64 (k1 - k2) := hI.2 4 zd4 rfl
   have zf4 := zF4; clear zF4
   have zd9 := hR.pred 9 (by kernel_rfl)
   have zF9 : V 9 = .int .i64 (n1 - n2) := hI.2 9 zd9 rfl
   have zf9 := zF9; clear zF9
   have zd14 := hR.pred 14 (by kernel_rfl)
   have zF14 : V 14 = .int .i64 cw := hI.2 14 zd14 rfl
   have zf14 := zF14; clear zF14
   have zd19 := hR.pred 19 (by kernel_rfl)
   have zF19 : V 19 = .int .i64 cx := hI.2 19 zd19 rfl
   have zf19 := zF19; clear zF19
   have ze9 := hR.frame.done (t := 9) (j := 4) (by kernel_rfl) hR.ok zd4
   have ze14 := hR.frame.done (t := 14) (j := 9) (by kernel_rfl) hR.ok zd9
   have ze19 := hR.frame.done (t := 19) (j := 14) (by kernel_rfl) hR.ok zd14
   have ze24 := hR.frame.done (t := 24) (j := 19) (by kernel_rfl) hR.ok zd19
   rw [if_pos (by rfl)]
   go_simp
   exact hK (_) _ (hI.next hR (by kernel_rfl) ((Mod.refl _ _).alloc _) (PB.quiet hI.1 (pure_alloc _ _) (HGs.out D 20 _ _ (hI.1).g ((Mod.refl _ _).alloc _))) (⟨_, upd_same V 20 _, (by omega), (Blk.new _ _ _)⟩))
  ·intro D V zw1 a hR hI K hK
   obtain ⟨hM1, hB1, hG1⟩ := hI.1
   have zd20 := hR.pred 20 (by kernel_rfl)
   have zF20 : ∃ (g_20 : Nat), V 20 = .slice (some ⟨g_20, 0, none⟩) 4 4 ∧ w2.heap.size ≤ g_20 ∧ Blk zw1 g_20 3 #[.int .i64 (k1 - k2), .int .i64 (n1 - n2), .int .i64 cw, .int .i64 cx] := hI.2 20 zd20 (by show (!D 21) = true; rw [hR.not]; rfl)
   obtain ⟨g_20, zf20, c20_0, b20_0⟩ := zF20
   have ze25 := hR.frame.done (t := 25) (j := 20) (by kernel_rfl) hR.ok zd20
   rw [if_pos (by rfl)]
   go_simp
   refine (orQ_calls zw1 _ 4 [k1 - k2, n1 - n2, cw, cx] b20_0.row0 (by simp)).mono ?_
   rintro e zw2 ⟨rfl, hm2⟩
   exact hK (.int .i64 (firstErr [k1 - k2, n1 - n2, cw, cx])) _ (hI.next hR (by kernel_rfl) hm2 (PB.quiet hI.1 hm2 (HGs.out D 21 _ _ (hI.1).g hm2)) (upd_same V 21 _))
  ·intro D V zw1 a hR hI K hK
   obtain ⟨hM1, hB1, hG1⟩ := hI.1
   have zd21 := hR.pred 21 (by kernel_rfl)
   have zF21 : V 21 = .int .i64 (firstErr [k1 - k2, n1 - n2, cw, cx]) := hI.2 21 zd21 rfl
   have zf21 := zF21; clear zF21
   have ze26 := hR.frame.done (t := 26) (j := 21) (by kernel_rfl) hR.ok zd21
   rw [if_pos (by rfl)]
   go_simp
   exact hK (.int .i64 (firstErr [k1 - k2, n1 - n2, cw, cx])) _ (hI.next hR (by kernel_rfl) (Mod.refl _ _) (PB.quiet hI.1 (Mod.refl _ _) (HGs.out D 22 zw1 zw1 (hI.1).g (Mod.refl _ _))) (upd_same V 22 _))
 ·intro D V w3 hD hI
  obtain ⟨hM1, hB1, hG1⟩ := hI.1
  have hMx := hM1
  clear hM1
  have hBx := hB1
  clear hB1
  have hGx := hG1
  clear hG1
  have zF0 : V 0 = .pointer (some ⟨g0, 0, none⟩) := hI.2 0 (hD 0 (by decide)) rfl
  have zf0 := zF0; clear zF0
  have zF1 : V 1 = .int .i64 k1 := hI.2 1 (hD 1 (by decide)) rfl
  have zf1 := zF1; clear zF1
  have zF2 : V 2 = .pointer (some ⟨g0 + 1, 0, none⟩) := hI.2 2 (hD 2 (by decide)) rfl
  have zf2 := zF2; clear zF2
  have zF3 : V 3 = .int .i64 k2 := hI.2 3 (hD 3 (by decide)) rfl
  have zf3 := zF3; clear zF3
  have zF4 : V 4 = .int .i64 (k1 - k2) := hI.2 4 (hD 4 (by decide)) rfl
  have zf4 := zF4; clear zF4
  have zF5 : V 5 = .pointer (some ⟨g0, 2, none⟩) := hI.2 5 (hD 5 (by decide)) rfl
  have zf5 := zF5; clear zF5
  have zF6 : V 6 = .int .i64 n1 := hI.2 6 (hD 6 (by decide)) rfl
  have zf6 := zF6; clear zF6
  have zF7 : V 7 = .pointer (some ⟨g0 + 1, 2, none⟩) := hI.2 7 (hD 7 (by decide)) rfl
  have zf7 := zF7; clear zF7
  have zF8 : V 8 = .int .i64 n2 := hI.2 8 (hD 8 (by decide)) rfl
  have zf8 := zF8; clear zF8
  have zF9 : V 9 = .int .i64 (n1 - n2) := hI.2 9 (hD 9 (by decide)) rfl
  have zf9 := zF9; clear zF9
  have zF10 : V 10 = .pointer (some ⟨g0, 1, none⟩) := hI.2 10 (hD 10 (by decide)) rfl
  have zf10 := zF10; clear zF10
  have zF11 : V 11 = .slice A1 ws1.length c1 := hI.2 11 (hD 11 (by decide)) rfl
  have zf11 := zF11; clear zF11
  have zF12 : V 12 = .pointer (some ⟨g0 + 1, 1, none⟩) := hI.2 12 (hD 12 (by decide)) rfl
  have zf12 := zF12; clear zF12
  have zF13 : V 13 = .slice A2 ws2.length c2 := hI.2 13 (hD 13 (by decide)) rfl
  have zf13 := zF13; clear zF13
  have zF14 : V 14 = .int .i64 cw := hI.2 14 (hD 14 (by decide)) rfl
  have zf14 := zF14; clear zF14
  have zF15 : V 15 = .pointer (some ⟨g0, 3, none⟩) := hI.2 15 (hD 15 (by decide)) rfl
  have zf15 := zF15; clear zF15
  have zF16 : V 16 = .slice B1 xs1.length d1 := hI.2 16 (hD 16 (by decide)) rfl
  have zf16 := zF16; clear zF16
  have zF17 : V 17 = .pointer (some ⟨g0 + 1, 3, none⟩) := hI.2 17 (hD 17 (by decide)) rfl
  have zf17 := zF17; clear zF17
  have zF18 : V 18 = .slice B2 xs2.length d2 := hI.2 18 (hD 18 (by decide)) rfl
  have zf18 := zF18; clear zF18
  have zF19 : V 19 = .int .i64 cx := hI.2 19 (hD 19 (by decide)) rfl
  have zf19 := zF19; clear zF19
  have zF21 : V 21 = .int .i64 (firstErr [k1 - k2, n1 - n2, cw, cx]) := hI.2 21 (hD 21 (by decide)) rfl
  have zf21 := zF21; clear zF21
  have zF22 : V 22 = .int .i64 (firstErr [k1 - k2, n1 - n2, cw, cx]) := hI.2 22 (hD 22 (by decide)) rfl
  have zf22 := zF22; clear zF22
  clear hI hD HGs
  simp only [frAll, Act.put, List.setIfInBounds_toArray, List.set_cons_zero, List.set_cons_succ, Nat.zero_add, Nat.reduceAdd, zf0, zf1, zf2, zf3, zf4, zf5, zf6, zf7, zf8, zf9, zf10, zf11, zf12, zf13, zf14, zf15, zf16, zf17, zf18, zf19, zf21, zf22]
  clear zf0 zf1 zf2 zf3 zf4 zf5 zf6 zf7 zf8 zf9 zf10 zf11 zf12 zf13 zf14 zf15 zf16 zf17 zf18 zf19 zf21 zf22
  generalize V 20 = u20
  clear V D
  go_wp2_with fail
  go_ret
  exact ⟨by rw [HR.out, ← or4Q]; rfl, HP.out.trans hGx⟩

end Go.Proofs.YtbajgjbdcgakoaaGreatDoor

/- Searches compared: the reference; Order. -/
namespace Go.Proofs.YtbajgjbdcgakoaaGreatDoor
set_option linter.unusedVariables false
set_option linter.unusedSimpArgs false
open Go.RowKit

set_option maxRecDepth 100000 in
theorem signQ_calls (w : World) (n : Int) : Calls Tryz.prog 45 #[.int .i64 n] w (IntPost w (sgI n)) := by
 by_cases h1 : n < 0
 ·have e : sgI n = -1 := by unfold sgI; rw [if_pos h1]
  rw [e]
  go_enter Tryz.func45, Tryz.ntmps45
  go_wp2_with fail
  go_ret
  exact ⟨rfl, Mod.refl _ _⟩
 ·by_cases h2 : 0 < n
  ·have e : sgI n = 1 := by unfold sgI; rw [if_neg h1, if_pos h2]
   rw [e]
   go_enter Tryz.func45, Tryz.ntmps45
   go_wp2_with fail
   go_ret
   exact ⟨rfl, Mod.refl _ _⟩
  ·have e : sgI n = 0 := by unfold sgI; rw [if_neg h1, if_neg h2]
   rw [e]
   go_enter Tryz.func45, Tryz.ntmps45
   go_wp2_with fail
   go_ret
   exact ⟨rfl, Mod.refl _ _⟩
theorem isNaNI_calls (w : World) (n : Int) : Calls Tryz.prog 87 #[.int .i64 n] w (fun e w' => e = .returned (.bool false) ∧ w' = w) := by
 have hn : (n != n) = false := by simp
 go_enter Tryz.func87, Tryz.ntmps87
 go_wp2_with fail
 go_ret
 exact ⟨rfl, rfl⟩
set_option maxRecDepth 100000 in
theorem cmpI_calls (w : World) (n : Int) : Calls Tryz.prog 43 #[.int .i64 n, .int .i64 0] w (IntPost w (sgI n)) := by
 have HN := Lib.hid (isNaNI_calls w n)
 have HZ := Lib.hid (isNaNI_calls w 0)
 by_cases h1 : n < 0
 ·have e : sgI n = -1 := by unfold sgI; rw [if_pos h1]
  rw [e]
  go_enter Tryz.func43, Tryz.ntmps43
  go_wp2_with fail
  refine HN.out.mono ?_
  rintro e w1 ⟨rfl, hw⟩
  have hw2 := hw.symm
  subst hw2
  clear hw
  go_wp2_with fail
  refine HZ.out.mono ?_
  rintro e w2 ⟨rfl, hw⟩
  have hw2 := hw.symm
  subst hw2
  clear hw
  go_wp2_with fail
  go_ret
  exact ⟨rfl, Mod.refl _ _⟩
 ·by_cases h2 : 0 < n
  ·have e : sgI n = 1 := by unfold sgI; rw [if_neg h1, if_pos h2]
   rw [e]
   go_enter Tryz.func43, Tryz.ntmps43
   go_wp2_with fail
   refine HN.out.mono ?_
   rintro e w1 ⟨rfl, hw⟩
   have hw2 := hw.symm
   subst hw2
   clear hw
   go_wp2_with fail
   refine HZ.out.mono ?_
   rintro e w2 ⟨rfl, hw⟩
   have hw2 := hw.symm
   subst hw2
   clear hw
   go_wp2_with fail
   go_ret
   exact ⟨rfl, Mod.refl _ _⟩
  ·have e : sgI n = 0 := by unfold sgI; rw [if_neg h1, if_neg h2]
   rw [e]
   go_enter Tryz.func43, Tryz.ntmps43
   go_wp2_with fail
   refine HN.out.mono ?_
   rintro e w1 ⟨rfl, hw⟩
   have hw2 := hw.symm
   subst hw2
   clear hw
   go_wp2_with fail
   refine HZ.out.mono ?_
   rintro e w2 ⟨rfl, hw⟩
   have hw2 := hw.symm
   subst hw2
   clear hw
   go_wp2_with fail
   go_ret
   exact ⟨rfl, Mod.refl _ _⟩
set_option maxRecDepth 100000 in
set_option maxHeartbeats 16000000 in
theorem orderR_calls : ∀ (a b : QR) (w : World), QS w a → QS w b → QB 1000 a.key → QB 1000 b.key → Calls Tryz.prog 20 #[qA a, qA b] w (IntPost w (ordQR a.key b.key)) := by
 refine QR.ind (fun k1 A1 c1 ws1 n1 B1 d1 xs1 ih => ?_)
 intro q2 w hQ1 hQ2 hB1 hB2
 obtain ⟨k2, A2, c2, ws2, n2, B2, d2, xs2, rfl⟩ := q2.ex
 rw [QR.key_mk] at hB1 hB2
 have hpa : Pure w ((w.alloc (.cells #[.int .i64 k1, .slice A1 ws1.length c1, .int .i64 n1, .slice B1 xs1.length d1] 29)).alloc (.cells #[.int .i64 k2, .slice A2 ws2.length c2, .int .i64 n2, .slice B2 xs2.length d2] 29)) := ((Mod.refl _ _).alloc _).alloc _
 have HP := Lib.hid hpa
 have hb1 := (Blk.new w 29 #[.int .i64 k1, .slice A1 ws1.length c1, .int .i64 n1, .slice B1 xs1.length d1]).alloc (.cells #[.int .i64 k2, .slice A2 ws2.length c2, .int .i64 n2, .slice B2 xs2.length d2] 29)
 have hb2 := Blk.snd w (.cells #[.int .i64 k1, .slice A1 ws1.length c1, .int .i64 n1, .slice B1 xs1.length d1] 29) 29 #[.int .i64 k2, .slice A2 ws2.length c2, .int .i64 n2, .slice B2 xs2.length d2]
 have HCS : Hid (∀ W, Pure w W → Calls Tryz.prog 46 #[.slice A1 ws1.length c1, .slice A2 ws2.length c2] W (IntPost W (cmpL ws1 ws2))) := Lib.hid (fun W h => (compareS_calls W _ _ ws1 ws2 (hQ1.wsH.pure h) (hQ2.wsH.pure h)).mono (fun e w' hh => ⟨hh.1, hh.2 ▸ Mod.refl _ _⟩))
 have HCF : Hid (∀ W, Pure w W → Calls Tryz.prog 47 #[.slice B1 xs1.length d1, .slice B2 xs2.length d2, .func (.func 20) #[] #[]] W (IntPost W (cmpQ ordQR (xs1.map QR.key) (xs2.map QR.key)))) := Lib.hid (fun W h => by
  have h2 := compQ_calls W _ _ xs1 xs2 20 (fun x y => ordQR x.key y.key) ⟨hQ1.xsH.pure h, trivial⟩ ⟨hQ2.xsH.pure h, trivial⟩ (fun _ _ _ => rfl) (fun x y W' hx hy hm => by
   have h3 := ih x hx y W' ((hQ1.allH x hx).pure (h.trans hm)) ((hQ2.allH y hy).pure (h.trans hm)) (hB1.allH _ (List.mem_map.2 ⟨x, hx, rfl⟩)) (hB2.allH _ (List.mem_map.2 ⟨y, hy, rfl⟩))
   rw [qA_pr, qA_pr] at h3
   exact h3)
  rw [cmpQ_map2] at h2
  exact h2)
 have HR : Hid (ordQR (QR.key (QR.mk k1 A1 c1 ws1 n1 B1 d1 xs1)) (QR.key (QR.mk k2 A2 c2 ws2 n2 B2 d2 xs2)) = or2 (sgI (k1 - k2)) (or2 (sgI (n1 - n2)) (or2 (cmpL ws1 ws2) (cmpQ ordQR (xs1.map QR.key) (xs2.map QR.key))))) := Lib.hid (by rw [QR.key_mk, QR.key_mk, ordQR_mk])
 obtain ⟨p1, p2, p3, p4⟩ := hB1.knH
 obtain ⟨p5, p6, p7, p8⟩ := hB2.knH
 generalize ordQR (QR.key (QR.mk k1 A1 c1 ws1 n1 B1 d1 xs1)) (QR.key (QR.mk k2 A2 c2 ws2 n2 B2 d2 xs2)) = rr at *
 generalize cmpQ ordQR (xs1.map QR.key) (xs2.map QR.key) = cx at *
 generalize cmpL ws1 ws2 = cw at *
 rw [qA_mk, qA_mk]
 clear hQ1 hQ2 hB1 hB2 ih hpa
 go_enter Tryz.func20, Tryz.ntmps20
 go_upto_region 1 with (fail)
 generalize ((w.alloc (.cells #[.int .i64 k1, .slice A1 ws1.length c1, .int .i64 n1, .slice B1 xs1.length d1] 29)).alloc (.cells #[.int .i64 k2, .slice A2 ws2.length c2, .int .i64 n2, .slice B2 xs2.length d2] 29)) = w2 at *
 generalize w.heap.size = g0 at *
 have hw1 : IntKind.i64.wrap (k1 - k2) = k1 - k2 := IntWalk.i64_in _ (by omega)
 have hw2 : IntKind.i64.wrap (n1 - n2) = n1 - n2 := IntWalk.i64_in _ (by omega)
 have x0 := hb1.cell 0; have x1 := hb1.cell 1; have x2 := hb1.cell 2; have x3 := hb1.cell 3; simp at x0 x1 x2 x3
 have y0 := hb2.cell 0; have y1 := hb2.cell 1; have y2 := hb2.cell 2; have y3 := hb2.cell 3; simp at y0 y1 y2 y3
 clear hb1 hb2
 by_cases hk : k1 = k2
 ·subst hk
  have hkk : (k1 != k1) = false := by simp
  by_cases hn : n1 = n2
  ·subst hn
   have hnn : (n1 != n1) = false := by simp
   have HRR : Hid (rr = or2 cw cx) := Lib.hid (by rw [HR.out, Int.sub_self, Int.sub_self]; rfl)
   clear HR hw1 hw2 p1 p2 p3 p4 p5 p6 p7 p8
   go_wp2_with fail
   refine (HCS.out w2 HP.out).mono ?_
   rintro e w3 ⟨rfl, hm3⟩
   have HP3 := Lib.hid (HP.out.trans hm3)
   by_cases hc : cw = 0
   ·subst hc
    have z3 := keepp x3 hm3
    have z7 := keepp y3 hm3
    clear hm3 HCS x0 x1 x2 x3 y0 y1 y2 y3
    go_wp2_with fail
    refine (HCF.out w3 HP3.out).mono ?_
    rintro e w4 ⟨rfl, hm4⟩
    have HP4 := Lib.hid (HP3.out.trans hm4)
    clear hm4
    go_wp2_with fail
    go_ret
    exact ⟨by rw [HRR.out]; rfl, HP4.out⟩
   ·have hcc : (cw != 0) = true := by simpa using hc
    have HRC : Hid (rr = cw) := Lib.hid (by rw [HRR.out]; unfold or2; rw [if_pos hc])
    clear hm3 HCS HCF HRR x0 x1 x2 x3 y0 y1 y2 y3
    go_wp2_with fail
    go_ret
    exact ⟨by rw [HRC.out]; rfl, HP3.out⟩
  ·have hnn : (n1 != n2) = true := by simpa using hn
   have HRR : Hid (rr = sgI (n1 - n2)) := Lib.hid (by
    rw [HR.out, Int.sub_self]
    show or2 0 (or2 (sgI (n1 - n2)) _) = _
    unfold or2
    rw [if_neg (by simp), if_pos (fun e => hn (by have := (sgI_0 _).1 e; omega))])
   have HSG := Lib.hid (fun W => signQ_calls W (n1 - n2))
   generalize hsv : sgI (n1 - n2) = sv at *
   clear hsv HR HCS HCF p1 p2 p3 p4 p5 p6 p7 p8
   go_wp2_with fail
   refine (HSG.out w2).mono ?_
   rintro e w3 ⟨rfl, hm3⟩
   have HP3 := Lib.hid (HP.out.trans hm3)
   clear hm3
   go_wp2_with fail
   go_ret
   exact ⟨by rw [HRR.out]; rfl, HP3.out⟩
 ·have hkk : (k1 != k2) = true := by simpa using hk
  have HRR : Hid (rr = sgI (k1 - k2)) := Lib.hid (by
   rw [HR.out]
   unfold or2
   rw [if_pos (fun e => hk (by have := (sgI_0 _).1 e; omega))])
  have HSG := Lib.hid (fun W => signQ_calls W (k1 - k2))
  generalize hsv : sgI (k1 - k2) = sv at *
  clear hsv HR HCS HCF p1 p2 p3 p4 p5 p6 p7 p8
  go_wp2_with fail
  refine (HSG.out w2).mono ?_
  rintro e w3 ⟨rfl, hm3⟩
  have HP3 := Lib.hid (HP.out.trans hm3)
  clear hm3
  go_wp2_with fail
  go_ret
  exact ⟨by rw [HRR.out]; rfl, HP3.out⟩
/-- How two searches are compared: 0 and the error where one is wrong. -/
def OrdP2 (w : World) (a b : Qry) (e : Ending) (w' : World) : Prop := ∃ er : Int, er = firstErr [checkQ a, checkQ b] ∧ e = .returned (.tuple #[.int .i64 (if er = 0 then ordQR a b else 0), .int .i64 er]) ∧ Pure w w'
set_option maxRecDepth 100000 in
set_option maxHeartbeats 16000000 in
theorem Order_calls (q1 q2 : QR) (w : World) (hQ1 : QS w q1) (hQ2 : QS w q2) (hB1 : QB 1000 q1.key) (hB2 : QB 1000 q2.key) : Calls Tryz.prog 18 #[qA q1, qA q2] w (OrdP2 w q1.key q2.key) := by
 obtain ⟨k1, A1, c1, ws1, n1, B1, d1, xs1, rfl⟩ := q1.ex
 obtain ⟨k2, A2, c2, ws2, n2, B2, d2, xs2, rfl⟩ := q2.ex
 have hpa : Pure w ((w.alloc (.cells #[.int .i64 k1, .slice A1 ws1.length c1, .int .i64 n1, .slice B1 xs1.length d1] 29)).alloc (.cells #[.int .i64 k2, .slice A2 ws2.length c2, .int .i64 n2, .slice B2 xs2.length d2] 29)) := ((Mod.refl _ _).alloc _).alloc _
 have HP := Lib.hid hpa
 have hb1 := (Blk.new w 29 #[.int .i64 k1, .slice A1 ws1.length c1, .int .i64 n1, .slice B1 xs1.length d1]).alloc (.cells #[.int .i64 k2, .slice A2 ws2.length c2, .int .i64 n2, .slice B2 xs2.length d2] 29)
 have hb2 := Blk.snd w (.cells #[.int .i64 k1, .slice A1 ws1.length c1, .int .i64 n1, .slice B1 xs1.length d1] 29) 29 #[.int .i64 k2, .slice A2 ws2.length c2, .int .i64 n2, .slice B2 xs2.length d2]
 have HB1 := Lib.hid hb1
 have HB2 := Lib.hid hb2
 have HC1 := Lib.hid (fun W (h : Pure w W) => qcheck_calls W _ (hQ1.pure h) hB1)
 have HC2 := Lib.hid (fun W (h : Pure w W) => qcheck_calls W _ (hQ2.pure h) hB2)
 have HOR := Lib.hid (fun W (h : Pure w W) => orderQ_calls _ _ W (hQ1.pure h) (hQ2.pure h) hB1 hB2)
 have HCI := Lib.hid (fun W => cmpI_calls W (ordQP (QR.key (QR.mk k1 A1 c1 ws1 n1 B1 d1 xs1)) (QR.key (QR.mk k2 A2 c2 ws2 n2 B2 d2 xs2))))
 rw [ord_sg] at HCI
 have HRF : Hid (∀ er v W, er = firstErr [checkQ (QR.key (QR.mk k1 A1 c1 ws1 n1 B1 d1 xs1)), checkQ (QR.key (QR.mk k2 A2 c2 ws2 n2 B2 d2 xs2))] → v = (if er = 0 then ordQR (QR.key (QR.mk k1 A1 c1 ws1 n1 B1 d1 xs1)) (QR.key (QR.mk k2 A2 c2 ws2 n2 B2 d2 xs2)) else 0) → Pure w W → OrdP2 w (QR.key (QR.mk k1 A1 c1 ws1 n1 B1 d1 xs1)) (QR.key (QR.mk k2 A2 c2 ws2 n2 B2 d2 xs2)) (.returned (.tuple #[.int .i64 v, .int .i64 er])) W) := Lib.hid (fun er v W h1 h2 h3 => ⟨er, h1, by rw [h2], h3⟩)
 generalize ordQP (QR.key (QR.mk k1 A1 c1 ws1 n1 B1 d1 xs1)) (QR.key (QR.mk k2 A2 c2 ws2 n2 B2 d2 xs2)) = op at *
 generalize ordQR (QR.key (QR.mk k1 A1 c1 ws1 n1 B1 d1 xs1)) (QR.key (QR.mk k2 A2 c2 ws2 n2 B2 d2 xs2)) = orr at *
 generalize checkQ (QR.key (QR.mk k1 A1 c1 ws1 n1 B1 d1 xs1)) = e1 at *
 generalize checkQ (QR.key (QR.mk k2 A2 c2 ws2 n2 B2 d2 xs2)) = e2 at *
 rw [qA_mk] at HC1 HC2 HOR
 rw [qA_mk] at HOR
 rw [qA_mk, qA_mk]
 clear hQ1 hQ2 hB1 hB2 hpa
 go_enter Tryz.func18, Tryz.ntmps18
 go_upto_region 1 with (fail)
 generalize ((w.alloc (.cells #[.int .i64 k1, .slice A1 ws1.length c1, .int .i64 n1, .slice B1 xs1.length d1] 29)).alloc (.cells #[.int .i64 k2, .slice A2 ws2.length c2, .int .i64 n2, .slice B2 xs2.length d2] 29)) = w2 at *
 generalize w.heap.size = g0 at *
 have x0 := hb1.cell 0; have x1 := hb1.cell 1; have x2 := hb1.cell 2; have x3 := hb1.cell 3; simp at x0 x1 x2 x3
 have y0 := hb2.cell 0; have y1 := hb2.cell 1; have y2 := hb2.cell 2; have y3 := hb2.cell 3; simp at y0 y1 y2 y3
 clear hb1 hb2
 obtain ⟨er, her⟩ : ∃ er, firstErr [e1, e2] = er := ⟨_, rfl⟩
 have HFE : Hid (∀ (W : World) (g : Nat), Blk W g 30 #[.int .i64 e1, .int .i64 e2] → Calls Tryz.prog 42 #[.slice (some ⟨g, 0, none⟩) 2 2] W (IntPost W er)) := Lib.hid (fun W g h => by
  have := firstE_calls W g 2 [e1, e2] h.row0 (by simp)
  rw [her] at this
  exact this)
 have HER := Lib.hid her
 clear her
 go_region_with (first
  | (go_at_call 42; (refine (HFE.out _ _ (Blk.new _ _ _)).mono ?_); rintro e w5 ⟨rfl, hm5'⟩; have hm5 : Pure w2 w5 := Mod.trans (hm4.trans ((Mod.refl _ _).alloc _)) hm5'; have hc1 := HB1.out.modp hm5; have hc2 := HB2.out.modp hm5; have p0 := hc1.cell 0; have p1 := hc1.cell 1; have p2 := hc1.cell 2; have p3 := hc1.cell 3; simp at p0 p1 p2 p3; have q0 := hc2.cell 0; have q1 := hc2.cell 1; have q2 := hc2.cell 2; have q3 := hc2.cell 3; simp at q0 q1 q2 q3)
  | (go_at_call 12; (refine (HC2.out _ (HP.out.trans (hm3.trans (by (repeat' (first | with_reducible assumption | with_reducible exact Mod.refl _ _ | with_reducible refine Mod.alloc ?_ _ | with_reducible refine Mod.drew ?_ | with_reducible refine Mod.drewN ?_ _ | ((with_reducible apply Mod.q_set); (dsimp only); omega) | ((with_reducible apply Mod.q_trans); (with_reducible assumption)) | ((with_reducible apply Mod.q_transp); (with_reducible assumption)))))))).mono ?_); rintro e w4 ⟨rfl, hm4'⟩; have hm4 : Pure w2 w4 := hm3.trans (Mod.trans (by (repeat' (first | with_reducible assumption | with_reducible exact Mod.refl _ _ | with_reducible refine Mod.alloc ?_ _ | with_reducible refine Mod.drew ?_ | with_reducible refine Mod.drewN ?_ _ | ((with_reducible apply Mod.q_set); (dsimp only); omega) | ((with_reducible apply Mod.q_trans); (with_reducible assumption)) | ((with_reducible apply Mod.q_transp); (with_reducible assumption))))) hm4'))
  | (go_at_call 12; (refine (HC1.out _ (HP.out.trans (by (repeat' (first | with_reducible assumption | with_reducible exact Mod.refl _ _ | with_reducible refine Mod.alloc ?_ _ | with_reducible refine Mod.drew ?_ | with_reducible refine Mod.drewN ?_ _ | ((with_reducible apply Mod.q_set); (dsimp only); omega) | ((with_reducible apply Mod.q_trans); (with_reducible assumption)) | ((with_reducible apply Mod.q_transp); (with_reducible assumption))))))).mono ?_); rintro e w3 ⟨rfl, hm3'⟩; have hm3 : Pure w2 w3 := Mod.trans (by (repeat' (first | with_reducible assumption | with_reducible exact Mod.refl _ _ | with_reducible refine Mod.alloc ?_ _ | with_reducible refine Mod.drew ?_ | with_reducible refine Mod.drewN ?_ _ | ((with_reducible apply Mod.q_set); (dsimp only); omega) | ((with_reducible apply Mod.q_trans); (with_reducible assumption)) | ((with_reducible apply Mod.q_transp); (with_reducible assumption))))) hm3'; have hd2 := HB2.out.modp hm3; have z0 := hd2.cell 0; have z1 := hd2.cell 1; have z2 := hd2.cell 2; have z3 := hd2.cell 3; simp at z0 z1 z2 z3))
 all_goals
  have HP5 := Lib.hid (HP.out.trans hm5)
  by_cases h0 : er = 0
  ·subst h0
   have HO := Lib.hid (HOR.out w5 HP5.out)
   clear hm3 hm3' hm4 hm4' hm5 hm5' hc1 hc2 hd2 HOR HC1 HC2 HFE HB1 HB2
   go_wp2_with fail
   refine HO.out.mono ?_
   rintro e w6 ⟨rfl, hm6⟩
   have HP6 := Lib.hid (HP5.out.trans hm6)
   have HC := Lib.hid (HCI.out w6)
   clear hm6 HO
   go_wp2_with fail
   refine HC.out.mono ?_
   rintro e w7 ⟨rfl, hm7⟩
   have HF := Lib.hid (HRF.out 0 orr w7 HER.out.symm (by rw [if_pos rfl]) (HP6.out.trans hm7))
   clear hm7 HC HRF HER
   go_wp2_with fail
   try simp only [Exit.inBlock, Exit.then]
   refine bodyPost_ret (v := .tuple #[.int .i64 orr, .int .i64 0]) (by simp [results, Tryz.results18, go_sem]) rfl ?_
   exact HF.out
  ·have h0n : (er != 0) = true := by simpa using h0
   have HF := Lib.hid (HRF.out er 0 w5 HER.out.symm (by rw [if_neg h0]) HP5.out)
   clear hm3 hm3' hm4 hm4' hm5 hm5' hc1 hc2 hd2 HOR HC1 HC2 HFE HB1 HB2 HRF HER
   go_wp2_with fail
   try simp only [Exit.inBlock, Exit.then]
   refine bodyPost_ret (v := .tuple #[.int .i64 0, .int .i64 er]) (by simp [results, Tryz.results18, go_sem]) rfl ?_
   exact HF.out

end Go.Proofs.YtbajgjbdcgakoaaGreatDoor

/- ahead: the places from one of a to one of b behind it (package query). -/
namespace Go.Proofs.YtbajgjbdcgakoaaGreatDoor
set_option linter.unusedVariables false
set_option linter.unusedSimpArgs false
open Go.RowKit
theorem info_boolQ : (Tryz.prog.info? 4).map (fun i => (i.zero, i.size, i.bytes)) = some (some (.bool false), 1, 1) := by kernel_rfl
theorem upd_self {α : Type} (f : Nat → α) (e : Nat) : upd f e (f e) = f := by
 funext i
 unfold upd
 split
 ·rename_i h; rw [h]
 ·rfl
theorem upd_upd {α : Type} (f : Nat → α) (e : Nat) (a b : α) : upd (upd f e a) e b = upd f e b := by
 funext i
 unfold upd
 split <;> rfl
theorem upd_bool (kf : Nat → Bool) (e : Nat) : upd (fun i => Value.bool (kf i)) e (.bool true) = fun i => Value.bool (upd kf e true i) := by
 funext i
 unfold upd
 split <;> rfl
/-- The tables of ahead: what is behind each word, and whether it is known. -/
def TabI (w : World) (gB gK W : Nat) (bv : Nat → Value) (kf : Nat → Bool) (R : Nat → List Nat) : Prop := RangeB w gB 22 (W + 1) bv ∧ RangeB w gK 4 (W + 1) (fun e => .bool (kf e)) ∧ KnwI w bv kf R W
def BK (gB gK : Nat) : Nat → Prop := fun j => j = gB ∨ j = gK
theorem blk_int {w : World} {g : Nat} {t : TypeId} {N : Nat} {f : Nat → Value} (h : RangeB w g t N f) (hne : t ≠ 3) : ∀ g' arr fr, w.heap[g']? = some (.cells arr 3 fr) → ¬ g' = g := by
 intro g' arr fr hg e
 subst e
 unfold RangeB Blk at h
 rw [h] at hg
 injection hg with hg
 injection hg with _ hg
 exact hne hg
theorem bk_int {w : World} {gB gK W : Nat} {bv : Nat → Value} {kf : Nat → Bool} {R : Nat → List Nat} (h : TabI w gB gK W bv kf R) : ∀ g' arr fr, w.heap[g']? = some (.cells arr 3 fr) → ¬ BK gB gK g' := by
 rintro g' arr fr hg (e | e)
 ·exact blk_int h.1 (by decide) g' arr fr hg e
 ·exact blk_int h.2.1 (by decide) g' arr fr hg e
theorem TabI.pure {w w' : World} {gB gK W : Nat} {bv : Nat → Value} {kf : Nat → Bool} {R : Nat → List Nat} (h : TabI w gB gK W bv kf R) (hm : Pure w w') : TabI w' gB gK W bv kf R := ⟨h.1.mod hm (fun h => h), h.2.1.mod hm (fun h => h), h.2.2.pure hm⟩
/-- The rows of the table lie in blocks that are there, and in another one than a slice. -/
def AvI (w : World) (W : Nat) (bv : Nat → Value) (v : Value) : Prop := ∀ e, e < W → ∀ g, (bv e).ownBlock = some g → g < w.heap.size ∧ v.ownBlock ≠ some g
theorem AvI.big {w w' : World} {W : Nat} {bv : Nat → Value} {v : Value} (h : AvI w W bv v) (hs : w.heap.size ≤ w'.heap.size) : AvI w' W bv v := fun e he g hg => ⟨Nat.lt_of_lt_of_le (h e he g hg).1 hs, (h e he g hg).2⟩
theorem AvI.to {w : World} {W : Nat} {bv : Nat → Value} {v v' : Value} (h : AvI w W bv v) (hv : v'.ownBlock = v.ownBlock ∨ ∃ k, v'.ownBlock = some k ∧ w.heap.size ≤ k) : AvI w W bv v' := by
 intro e he g hg
 obtain ⟨h1, h2⟩ := h e he g hg
 refine ⟨h1, ?_⟩
 rcases hv with hv | ⟨k, hv, hk⟩
 ·rw [hv]; exact h2
 ·rw [hv]
  intro hh
  injection hh with hh
  omega
theorem AvI.nil {w : World} {W : Nat} {bv : Nat → Value} {v : Value} (h : AvI w W bv v) : AvI w W bv (.slice none 0 0) := fun e he g hg => ⟨(h e he g hg).1, fun hh => by cases hh⟩
theorem mod_setK (w : World) (g i : Nat) (v : Value) : Mod (· = g) w (w.setCell ⟨g, i, none⟩ v) := Mod.setCell (S := fun k => k = g) (p := ⟨g, i, none⟩) (Mod.refl _ _) (.inl rfl) v
theorem TabI.own {w w' : World} {gB gK W : Nat} {bv : Nat → Value} {kf : Nat → Bool} {R : Nat → List Nat} {v : Value} (h : TabI w gB gK W bv kf R) (ha : AvI w W bv v) (hm : Mod (fun k => v.ownBlock = some k) w w') (hB : v.ownBlock ≠ some gB) (hK : v.ownBlock ≠ some gK) : TabI w' gB gK W bv kf R :=
 ⟨h.1.mod hm hB, h.2.1.mod hm hK, fun e he => ⟨(h.2.2 e he).1, fun hk => ⟨((h.2.2 e he).2 hk).1.mod_ob hm (fun g hg => (ha e he g hg).2), ((h.2.2 e he).2 hk).2⟩⟩⟩
set_option maxRecDepth 100000 in
set_option maxHeartbeats 8000000 in
theorem ahead_calls (w : World) (va vb : Value) (W : Nat) (F G : Nat → Nat → Bool) (n : Int) (ha : SlI w va (rowsQ W F)) (hb : SlI w vb (rowsQ W G)) (hW : W ≤ 1000) (hn0 : 0 ≤ n) (hn1 : n ≤ 20) : Calls Tryz.prog 190 #[va, vb, .int .i64 n] w (RnP w W (cutB F G n W)) := by
 obtain ⟨Aa, ca, rfl, hca, hca2⟩ := ha.form
 obtain ⟨Ab, cb, rfl, hcb, hcb2⟩ := hb.form
 have HA := Lib.hid ha
 have HB := Lib.hid hb
 have hmk1 := run_make_one (P := Tryz.prog) 178 22 (.slice none 0 0) 24 Tryz.underlying178 info_intsQ rfl .i64 .i64 (W + 1) ((W : Int) + 1) (by omega) (by omega) (by omega) (Array.replicate (W + 1) (Value.slice none 0 0)) (by simp)
 have hmk2 := run_make_one (P := Tryz.prog) 217 4 (.bool false) 1 Tryz.underlying217 info_boolQ rfl .i64 .i64 (W + 1) ((W : Int) + 1) (by omega) (by omega) (by omega) (Array.replicate (W + 1) (Value.bool false)) (by simp)
 have hmk3 := run_make_one (P := Tryz.prog) 179 22 (.slice none 0 0) 24 Tryz.underlying179 info_intsQ rfl .i64 .i64 W (W : Int) rfl (by omega) (by omega) (Array.replicate W (Value.slice none 0 0)) (by simp)
 simp only [rowsQ_len] at *
 clear ha hb
 have HBB := Lib.hid (((RangeB.new w 22 (W + 1) (.slice none 0 0)).alloc (.cells (Array.replicate (W + 1) (Value.bool false)) 4)).alloc (.cells (Array.replicate W (Value.slice none 0 0)) 22))
 have HKK := Lib.hid ((RangeB.new (w.alloc (.cells (Array.replicate (W + 1) (Value.slice none 0 0)) 22)) 4 (W + 1) (.bool false)).alloc (.cells (Array.replicate W (Value.slice none 0 0)) 22))
 have HO := Lib.hid (OutB.new ((w.alloc (.cells (Array.replicate (W + 1) (Value.slice none 0 0)) 22)).alloc (.cells (Array.replicate (W + 1) (Value.bool false)) 4)) W)
 rw [List.toArray_replicate] at HO
 have HM : Hid (Pure w (((w.alloc (.cells (Array.replicate (W + 1) (Value.slice none 0 0)) 22)).alloc (.cells (Array.replicate (W + 1) (Value.bool false)) 4)).alloc (.cells (Array.replicate W (Value.slice none 0 0)) 22))) := Lib.hid ((((Mod.refl _ _).alloc _).alloc _).alloc _)
 go_enter Tryz.func190, Tryz.ntmps190
 go_wp2_with fail
 clear hmk1 hmk2 hmk3
 obtain ⟨gB, hgB⟩ : ∃ g, w.heap.size = g := ⟨_, rfl⟩
 have HSZ : Hid ((w.alloc (.cells (Array.replicate (W + 1) (Value.slice none 0 0)) 22)).heap.size = gB + 1 ∧ ((w.alloc (.cells (Array.replicate (W + 1) (Value.slice none 0 0)) 22)).alloc (.cells (Array.replicate (W + 1) (Value.bool false)) 4)).heap.size = gB + 1 + 1) := Lib.hid (by constructor <;> simp <;> omega)
 rw [hgB] at HBB
 rw [HSZ.out.1] at HKK
 rw [HSZ.out.2] at HO
 generalize (((w.alloc (.cells (Array.replicate (W + 1) (Value.slice none 0 0)) 22)).alloc (.cells (Array.replicate (W + 1) (Value.bool false)) 4)).alloc (.cells (Array.replicate W (Value.slice none 0 0)) 22)) = w1 at *
 try simp only [hgB]
 obtain ⟨gK, hgK⟩ : ∃ g, gB + 1 = g := ⟨_, rfl⟩
 rw [hgK] at HKK HO
 try simp only [hgK]
 obtain ⟨gO, hgO⟩ : ∃ g, gK + 1 = g := ⟨_, rfl⟩
 rw [hgO] at HO
 try simp only [hgO]
 have hl1 : w.heap.size ≤ gB := by omega
 have hl2 : gB < gK := by omega
 have hl3 : gK < gO := by omega
 clear hgB hgK hgO HSZ
 have HT : Hid (TabI w1 gB gK W (fun _ => .slice none 0 0) (fun _ => false) (fun e => rowQ W (behB G n W e))) := Lib.hid ⟨HBB.out, HKK.out, fun e he => ⟨fun _ => rfl, fun h => by cases h⟩⟩
 clear HBB HKK
 go_loopg [28] W (fun gk i wr => ∃ (k : Nat) (us : List Value) (bv : Nat → Value) (kf : Nat → Bool), W - k = gk ∧ k ≤ W ∧ i = .int .i64 (k : Int) ∧ us.length = k ∧ OutB wr gO us W ∧ RowsU wr us ((rowsQ W (cutB F G n W)).take k) ∧ TabI wr gB gK W bv kf (fun e => rowQ W (behB G n W e)) ∧ AvI wr W bv (.slice none 0 0) ∧ Pure w wr)
 case atStart => exact ⟨0, [], _, _, by omega, by omega, rfl, rfl, HO.out, RowsU.nil, HT.out, (fun e he g hg => by cases hg), HM.out⟩
 case round =>
  clear HO HM HT
  obtain ⟨k, us, bv, kf, rfl, hk, rfl, hul, hO, hR, hT, hAV, hm⟩ := hrel
  have HAV := Lib.hid hAV
  have HO := Lib.hid hO
  have HR := Lib.hid hR
  have HT := Lib.hid hT
  have HM := Lib.hid hm
  have HU := Lib.hid hul
  clear hO hR hT hm hul hAV
  generalize wr = w2 at *
  by_cases hlt : k < W
  ·obtain ⟨ga, oa, A1, c1, rfl, qa, sa, na⟩ := (HA.out.pure HM.out).at (i := k) (by rw [rowsQ_len]; exact hlt)
   rw [rowsQ_at] at qa sa na
   have HSA := Lib.hid sa
   have hcl := sa.lenI.2
   clear sa na
   have hgO2 := HO.out.lt
   have hgB2 := HT.out.1.lt
   have hgK2 := HT.out.2.1.lt
   have hral := rowQ_len W (F k)
   have hszw := HM.out.size
   go_wp2_with fail
   go_loopg [11, 36] (rowQ W (F k)).length (fun gk l i wx => ∃ (t : Nat) (A : Option Addr) (c : Nat) (bv : Nat → Value) (kf : Nat → Bool), (rowQ W (F k)).length - t = gk ∧ t ≤ (rowQ W (F k)).length ∧ i = .int .i64 (t : Int) ∧ l = .slice A (gatB F G n W k t).length c ∧ wx.ownsRow w2.heap.size 3 1 (.slice A (gatB F G n W k t).length c) (gatB F G n W k t).length (nvQ (gatB F G n W k t)) ∧ TabI wx gB gK W bv kf (fun e => rowQ W (behB G n W e)) ∧ AvI wx W bv (.slice A (gatB F G n W k t).length c) ∧ Mod (BK gB gK) w2 wx)
   case atStart => exact ⟨0, none, 0, bv, kf, by omega, by omega, rfl, rfl, ⟨rfl, .inl ⟨rfl, rfl⟩⟩, HT.out, HAV.out.nil, Mod.refl _ _⟩
   case round =>
    obtain ⟨t, A, c, bv2, kf2, rfl, ht, rfl, rfl, hown, hT, hA2, hm⟩ := hrel
    have HAX := Lib.hid hA2
    have HOW := Lib.hid hown
    have HTX := Lib.hid hT
    have HMX := Lib.hid hm
    have hgl := Nat.le_trans (gatB_len F G n W k t ht) (Nat.mul_le_mul (show t ≤ 1000 by omega) hW)
    clear hown hT hm hA2
    by_cases htl : t < (rowQ W (F k)).length
    ·have heW : (rowQ W (F k))[t] < W := (rowQ_mem.1 (List.getElem_mem htl)).1
     obtain ⟨g1, o1, hA1, hr1⟩ := (HSA.out.mod HMX.out (bk_int HT.out)).rowS (by omega)
     subst hA1
     have q1 := hr1.cell (nvQ_get _ t htl)
     have HGS := Lib.hid (gatB_succ F G n W k htl)
     have hgl2 := Nat.le_trans (gatB_len F G n W k (t + 1) htl) (Nat.mul_le_mul (show t + 1 ≤ 1000 by omega) hW)
     rw [HGS.out, List.length_append] at hgl2
     clear hr1
     generalize (rowQ W (F k))[t] = e at *
     have k1 := HTX.out.2.1.cell (show e < W + 1 by omega)
     have k2 := HTX.out.2.1.frozen e
     go_upto_if 44 with (fail)
     go_cut [] (fun wy => ∃ (bv3 : Nat → Value) (kf3 : Nat → Bool), kf3 e = true ∧ TabI wy gB gK W bv3 kf3 (fun e => rowQ W (behB G n W e)) ∧ AvI wy W bv3 (.slice A (gatB F G n W k t).length c) ∧ wy.ownsRow w2.heap.size 3 1 (.slice A (gatB F G n W k t).length c) (gatB F G n W k t).length (nvQ (gatB F G n W k t)) ∧ Mod (BK gB gK) w2 wy)
     case first =>
      cases hke : kf2 e
      ·rw [hke] at k1
       have hbe := (HTX.out.2.2 e heW).1 hke
       obtain ⟨S, hS⟩ : ∃ S, S = min (e + 2 + n.toNat) W := ⟨_, rfl⟩
       have hS1 : e + 1 ≤ S := by omega
       have hS2 : S ≤ W := by omega
       have hS3 : (S : Int) ≤ (e : Int) + 2 + n := by omega
       have hS4 : S = W ∨ (e : Int) + 1 + n < S := by omega
       have hS5 : (if ((W : Int) - 1) < ((e : Int) + 1 + n) then (W : Int) - 1 else (e : Int) + 1 + n) = (S : Int) - 1 := by split <;> omega
       have HBR := Lib.hid (behRow (B := G) (n := n) (W := W) (e := e) (s := S) hS2 hS1 hn0 hS3 hS4)
       clear hS hS3 hS4
       have hstK : Mod (BK gB gK) wr (wr.setCell ⟨gK, e, none⟩ (.bool true)) := (mod_setK wr gK e (.bool true)).mono (fun i hi => .inr hi)
       have HB3 : Hid (RangeB (wr.setCell ⟨gK, e, none⟩ (.bool true)) gB 22 (W + 1) bv2) := Lib.hid (HTX.out.1.far (by show gB ≠ gK; omega) _)
       have HK3 : Hid (RangeB (wr.setCell ⟨gK, e, none⟩ (.bool true)) gK 4 (W + 1) (fun i => .bool (upd kf2 e true i))) := Lib.hid (by rw [← upd_bool]; exact HTX.out.2.1.set e _)
       have HN3 := Lib.hid (HTX.out.2.2.mod hstK (bk_int HTX.out))
       have HO3 := Lib.hid (own_mod HOW.out hstK (fun g hg hh => by have := own_block HOW.out g hg; rcases hh with h | h <;> omega))
       have HM3 := Lib.hid (HMX.out.trans hstK)
       have HA3 := Lib.hid (HAX.out.big hstK.size)
       clear hstK
       go_upto_region 13 with (fail)
       generalize (wr.setCell ⟨gK, e, none⟩ (.bool true)) = w3 at *
       clear k1 k2 q1
       have hg3 := HB3.out.lt
       have hw3 := HM3.out.size
       go_wp2_with fail
       go_loopg [14] (S - (e + 1)) (fun gk x wz => ∃ (s : Nat) (A3 : Option Addr) (c3 : Nat), S - s = gk ∧ e + 1 ≤ s ∧ s ≤ S ∧ x = .int .i64 (s : Int) ∧ RangeB wz gB 22 (W + 1) (upd bv2 e (.slice A3 (catB G W e s).length c3)) ∧ wz.ownsRow w3.heap.size 3 1 (.slice A3 (catB G W e s).length c3) (catB G W e s).length (nvQ (catB G W e s)) ∧ Mod (· = gB) w3 wz)
       case atStart => exact ⟨e + 1, none, 0, by omega, Nat.le_refl _, hS1, by simp, by rw [catB_zero]; show RangeB _ _ _ _ (upd bv2 e (.slice none 0 0)); rw [← hbe, upd_self]; exact HB3.out, by rw [catB_zero]; exact ⟨rfl, .inl ⟨rfl, rfl⟩⟩, Mod.refl _ _⟩
       case round =>
        obtain ⟨s, A3, c3, rfl, hs1, hs2, rfl, hRB, hown3, hm⟩ := hrel
        have HRB := Lib.hid hRB
        have HOWN := Lib.hid hown3
        have HMZ := Lib.hid hm
        have hgz := hRB.lt
        have hsz := hm.size
        have hc1 := hRB.cell (show e < W + 1 by omega)
        rw [upd_same] at hc1
        have hc2 := hRB.frozen e
        clear hRB hown3 hm
        generalize wr = w4 at *
        by_cases hlt3 : s < S
        ·have hle : (s : Int) ≤ (S : Int) - 1 := by omega
         have HP4 : Hid (Pure w w4) := Lib.hid ((HM.out.trans' HM3.out (fun i hi hlt => by rcases hi with h | h <;> omega)).trans' HMZ.out (fun i hi hlt => by omega))
         obtain ⟨gb, ob, A2, c2, hAb, qb, sb, nb⟩ := (HB.out.pure HP4.out).at (i := s) (by rw [rowsQ_len]; omega)
         subst hAb
         rw [rowsQ_at] at qb sb nb
         have hcs := catB_len G W e (s - (e + 1))
         rw [show e + 1 + (s - (e + 1)) = s by omega] at hcs
         have hcs2 := Nat.le_trans hcs (Nat.mul_le_mul (show s - (e + 1) ≤ 1000 by omega) hW)
         have hrw := rowQ_len W (G s)
         have HCS := Lib.hid (catB_succ G W e s hs1)
         have hd : Pure w4 w4.drew := (Mod.refl _ _).drew
         obtain ⟨A5, c5, w5, hr5, hown5, hgrow5, hb5⟩ := run_appI w4.drew 22 w3.heap.size _ _ _ _ (rowQ W (G s)) (own_pure HOWN.out hd) (sb.pure hd) nb (by have := hd.size; omega) (by omega)
         have hob := own_block HOWN.out
         have hm5 : Mod (· = gB) w3 w5 := (HMZ.out.drew).trans' (mod_grown hgrow5) (fun i hi hlt => by have := hob i hi; omega)
         have hRB5 := (HRB.out.mod hd (fun h => h)).mod (mod_grown hgrow5) (fun h => by have := hob _ h; omega)
         have hd1 := hRB5.cell (show e < W + 1 by omega)
         rw [upd_same] at hd1
         have hd2 := hRB5.frozen e
         have HRB5 := Lib.hid hRB5
         have HR5 := Lib.hid hr5
         have HM5 := Lib.hid hm5
         have HO5 := Lib.hid hown5
         clear hcs hcs2 hb5 hob hm5 hRB5 hr5 hown5 hgrow5 sb nb hd
         generalize rowQ W (G s) = rs at *
         rw [← List.length_append, ← nvQ_append] at HO5
         rw [← List.length_append] at HR5
         have hi1 : (e : Int) < (W : Int) + 1 := by omega
         have hi2 : e < W + 1 := by omega
         have hi3 : (s : Int) < (W : Int) := by omega
         have hi4 : s < W := by omega
         have hi5 : (0 : Int) ≤ (e : Int) := by omega
         have hi6 : (0 : Int) ≤ (s : Int) := by omega
         go_upto_region 16 with (fail)
         go_region_law (refine step_append_I rfl (.tmp 67) (.tmp 71) 22 rfl _ _ _ _ (by simp [Act.eval, Act.put]) (by simp [Act.eval, Act.put]) HR5.out ?_)
         all_goals
          go_wp2_with fail
          go_roundg (S - (s + 1))
          case measure => omega
          case rel => exact ⟨s + 1, A5, c5, rfl, by omega, by omega, by simp, by rw [HCS.out, List.length_append]; have h := HRB5.out.set e (.slice A5 ((catB G W e s).length + rs.length) c5); rw [upd_upd] at h; exact h, by rw [HCS.out]; exact own_mod HO5.out (mod_setK _ _ _ _) (fun g hg hh => by have := own_block HO5.out g hg; omega), HM5.out.trans (mod_setK _ _ _ _)⟩
        ·obtain rfl : s = S := by omega
         have hle : ¬ ((s : Int) ≤ (s : Int) - 1) := by omega
         have hcs := catB_len G W e (s - (e + 1))
         rw [show e + 1 + (s - (e + 1)) = s by omega] at hcs
         have hcs2 := Nat.le_trans hcs (Nat.mul_le_mul (show s - (e + 1) ≤ 1000 by omega) hW)
         have HOB := Lib.hid (own_block HOWN.out)
         have HSO := Lib.hid (sortI_calls w4 _ _ _ (castI (catB G W e s)) (by rw [ivQ_cast]; exact HOWN.out) (by rw [castI_len]; omega))
         have HCL : Hid ((castI (catB G W e s)).length ≤ 1000000) := Lib.hid (by rw [castI_len]; exact hcs2)
         clear hcs hcs2 hs1 hs2 hlt3
         generalize hcat : catB G W e s = cat at *
         clear hcat
         go_wp2_with fail
         refine HSO.out.mono ?_
         rintro e' w5 ⟨rfl, hq, hm5⟩
         have HCO := Lib.hid (compactI_calls w5 _ _ _ _ hq (by rw [List.length_mergeSort]; have := HCL.out; omega))
         have HM5 : Hid (Mod (· = gB) w3 w5) := Lib.hid (HMZ.out.trans' hm5 (fun i hi hlt => by have := HOB.out i hi; omega))
         have hRB5 := HRB.out.mod hm5 (fun h => by have := HOB.out _ h; omega)
         have hd1 := hRB5.cell (show e < W + 1 by omega)
         rw [upd_same] at hd1
         have HRB5 := Lib.hid hRB5
         clear hq hm5 hRB5 HSO hc1 hc2
         go_wp2_with fail
         refine HCO.out.mono ?_
         rintro e' w6 ⟨v4, rfl, hq, hbk, hm6⟩
         obtain ⟨A6, n6, c6, rfl⟩ := (Sl.of_own hq).form
         rw [HBR.out, castI_len, ivQ_cast] at hq
         have HM6 : Hid (Mod (· = gB) w3 w6) := Lib.hid (HM5.out.trans' hm6 (fun i hi hlt => by have := HOB.out i hi; omega))
         have hRB6 := HRB5.out.mod hm6 (fun h => by have := HOB.out _ h; omega)
         have he1 := hRB6.cell (show e < W + 1 by omega)
         rw [upd_same] at he1
         have he2 := hRB6.frozen e
         have HRB6 := Lib.hid hRB6
         have HQ6 := Lib.hid hq
         clear hq hm6 hRB6 HCO hd1 HRB5 hbk
         go_wp2_with fail
         go_meet
         have hst := mod_setK w6 gB e (.slice A6 n6 c6)
         have hmf : Mod (· = gB) w3 (w6.setCell ⟨gB, e, none⟩ (.slice A6 n6 c6)) := HM6.out.trans hst
         have hown6 := own_mod HQ6.out hst (fun g hg hh => by have := own_block HQ6.out g hg; omega)
         have hint := blk_int HB3.out (by decide)
         have hRBf := HRB6.out.set e (.slice A6 n6 c6)
         rw [upd_upd] at hRBf
         refine ⟨upd bv2 e (.slice A6 n6 c6), upd kf2 e true, upd_same _ _ _, ⟨hRBf, HK3.out.mod hmf (by omega), KnwI.add (HN3.out.mod hmf hint) (Sl.of_own hown6) (own_NilOk hown6)⟩, ?_, own_mod HO3.out hmf (fun g hg hh => by have := own_block HO3.out g hg; omega), HM3.out.trans (hmf.mono (fun i hi => .inl hi))⟩
         intro e2 he2 g2 hg2
         by_cases hee : e2 = e
         ·subst hee
          rw [upd_same] at hg2
          obtain ⟨arr, harr⟩ := own_heap hown6 hg2
          have h1 := own_block HQ6.out _ hg2
          refine ⟨lt_of_heap harr, fun hh => ?_⟩
          obtain ⟨arr2, harr2⟩ := own_heap HO3.out hh
          have := lt_of_heap harr2
          omega
         ·rw [upd_ne _ _ hee] at hg2
          exact (HA3.out.big hmf.size) e2 he2 g2 hg2
      ·rw [hke] at k1
       go_wp2_with fail
       go_meet
       exact ⟨bv2, kf2, hke, HTX.out, HAX.out, HOW.out, HMX.out⟩
     case rest =>
      obtain ⟨bv3, kf3, hk3, hT3, hA3, hO3, hM3⟩ := hcut
      have HK3 := hk3
      obtain ⟨hs3, hn3⟩ := (hT3.2.2 e heW).2 hk3
      have c3 := hT3.1.cell (show e < W + 1 by omega)
      obtain ⟨Ae, ne, ce, hbe⟩ := hs3.form
      rw [hbe] at c3 hs3 hn3
      have hob := own_block hO3
      have hM3s := hM3.size
      obtain ⟨A5, c5, w5, hr5, hown5, hgrow5, hb5⟩ := run_appI wc 22 w2.heap.size _ _ _ _ (rowQ W (behB G n W e)) hO3 hs3 hn3 (by omega) (by omega)
      have HR5 := Lib.hid hr5
      have HT3 := Lib.hid hT3
      have HA3 := Lib.hid hA3
      have HM3 := Lib.hid hM3
      have HO5 := Lib.hid hown5
      have HG5 := Lib.hid (mod_grown hgrow5)
      have HB5 := Lib.hid hb5
      have HOB := Lib.hid hob
      clear hs3 hn3 hT3 hA3 hO3 hM3 hr5 hown5 hgrow5 hb5 hob k1 k2 q1 HTX HAX HOW HMX
      generalize wc = w4 at *
      rw [← List.length_append] at hgl2 HR5 HO5 HB5
      go_wp2_with (at_builtin; refine wpList_append_runI rfl (.tmp 87) (.tmp 91) _ _ rfl _ _ _ _ rfl rfl HR5.out ?_)
      go_roundg ((rowQ W (F k)).length - (t + 1))
      case measure => omega
      case rel =>
       have hob : ∀ g, (Value.slice A (gatB F G n W k t).length c).ownBlock = some g → ¬ BK gB gK g := fun g hg hh => by have := HOB.out g hg; rcases hh with h | h <;> omega
       refine ⟨t + 1, A5, c5, bv3, kf3, rfl, htl, by simp, by rw [HGS.out, List.length_append], by rw [HGS.out]; simpa [nvQ_append] using HO5.out, HT3.out.own HA3.out HG5.out (fun h => hob _ h (.inl rfl)) (fun h => hob _ h (.inr rfl)), ?_, HM3.out.trans' HG5.out (fun i hi hlt => by have := HOB.out _ hi; omega)⟩
       rw [HGS.out]
       refine (HA3.out.to ?_).big HG5.out.size
       rcases HB5.out with h | h
       ·exact .inl h
       ·exact .inr ⟨_, h, Nat.le_refl _⟩
    ·obtain rfl : t = (rowQ W (F k)).length := by omega
     have HCR := Lib.hid (cutRow (A := F) (B := G) (n := n) (W := W) (i := k))
     have HTK : Hid ((rowsQ W (cutB F G n W)).take (k + 1) = (rowsQ W (cutB F G n W)).take k ++ [rowQ W (cutB F G n W k)]) := Lib.hid (by
      rw [List.take_succ_eq_append_getElem (by rw [rowsQ_len]; exact hlt), rowsQ_at])
     have hszx := HMX.out.size
     have hob := Lib.hid (own_block HOW.out)
     have HSO := Lib.hid (sortI_calls wr _ _ _ (castI (gatB F G n W k (rowQ W (F k)).length)) (by rw [ivQ_cast]; exact HOW.out) (by rw [castI_len]; omega))
     have HGL : Hid ((castI (gatB F G n W k (rowQ W (F k)).length)).length ≤ 1000000) := Lib.hid (by rw [castI_len]; exact hgl)
     clear hgl
     generalize gatB F G n W k (rowQ W (F k)).length = gl at *
     generalize hra : (rowQ W (F k)).length = nra at *
     clear hra
     go_wp2_with fail
     refine HSO.out.mono ?_
     rintro e w3 ⟨rfl, hq, hm3⟩
     have HM3 : Hid (Mod (fun k => (Value.slice A gl.length c).ownBlock = some k) wr w3) := Lib.hid hm3
     have HCO := Lib.hid (compactI_calls w3 _ _ _ _ hq (by rw [List.length_mergeSort]; have := HGL.out; omega))
     clear hq hm3 HSO
     go_wp2_with fail
     refine HCO.out.mono ?_
     rintro e w4 ⟨v4, rfl, hq, hbk, hm4⟩
     obtain ⟨A4, n4, c4, rfl⟩ := (Sl.of_own hq).form
     rw [HCR.out, castI_len, ivQ_cast] at hq
     have HQ := Lib.hid hq
     have HM4 : Hid (Mod (fun k => (Value.slice A gl.length c).ownBlock = some k) wr w4) := Lib.hid (HM3.out.trans hm4)
     have HMX4 : Hid (Mod (BK gB gK) w2 w4) := Lib.hid (HMX.out.trans' HM4.out (fun i hi hlt => by have := hob.out _ hi; omega))
     have HO4 := Lib.hid (HO.out.mod HMX4.out (by rintro (h | h) <;> omega))
     have HR4 := Lib.hid (HR.out.mod HMX4.out (bk_int HT.out))
     have HT4 := Lib.hid (HTX.out.own HAX.out HM4.out (fun h => by have := hob.out _ h; omega) (fun h => by have := hob.out _ h; omega))
     have HM5 : Hid (Pure w w4) := Lib.hid (HM.out.trans' HMX4.out (fun i hi hlt => by rcases hi with h | h <;> omega))
     have HA4 := Lib.hid ((HAX.out.big HM4.out.size).nil)
     obtain ⟨x0, xf0⟩ := HO4.out.cellk HU.out.symm (by rw [HU.out]; exact hlt)
     have hw4 := HMX4.out.size
     clear hq hm4 HCO HM3 HO HR HTX HAX HMX HM HAV HSA HOW HT
     go_wp2_with fail
     go_roundg (W - (k + 1))
     case measure => omega
     case rel =>
      have hne : ∀ i, i = gO → ¬ BK gB gK i := fun i hi hh => by rcases hh with h | h <;> omega
      refine ⟨k + 1, us ++ [.slice A4 n4 c4], bv2, kf2, rfl, hlt, by simp, by simp [HU.out], HO4.out.snoc HU.out.symm (by rw [HU.out]; exact hlt) _, ?_, ⟨HT4.out.1.far (by show gB ≠ gO; omega) _, HT4.out.2.1.far (by show gK ≠ gO; omega) _, fun e he => ⟨(HT4.out.2.2 e he).1, fun hk => ⟨((HT4.out.2.2 e he).2 hk).1.set_ne HO4.out (by decide) _, ((HT4.out.2.2 e he).2 hk).2⟩⟩⟩, HA4.out.big (by simp), HM5.out.setCell (.inr (by show w.heap.size ≤ gO; omega)) _⟩
      rw [HTK.out]
      exact (HR4.out.set HO4.out (by decide) _ _).snoc ((Sl.of_own HQ.out).set_ne HO4.out (by decide) _) (own_NilOk HQ.out)
  ·have hke : k = W := by omega
   subst hke
   go_wp2_with fail
   go_ret
   exact ⟨_, rfl, HO.out.sl (by have h := HR.out; rw [List.take_of_length_le (by rw [rowsQ_len]; omega)] at h; exact h) (rowsQ_len _ _) (by omega), HM.out⟩

end Go.Proofs.YtbajgjbdcgakoaaGreatDoor

/- phrase: the places where patterns fit words one after the other (package query). -/
namespace Go.Proofs.YtbajgjbdcgakoaaGreatDoor
set_option linter.unusedVariables false
set_option linter.unusedSimpArgs false
open Go.RowKit
def wsQ (l : List Wd) : List Str := l.map (·.2)
theorem wsQ_len (l : List Wd) : (wsQ l).length = l.length := by simp [wsQ]
theorem phr_getD {l : List Wd} {i : Nat} (h : i < l.length) : (wsQ l).getD i [] = l[i].2 := by simp [wsQ, List.getD, h]
theorem pat_getD {l : List Str} {i : Nat} (h : i < l.length) : l.getD i [] = l[i] := by simp [List.getD, h]
set_option maxRecDepth 100000 in
set_option maxHeartbeats 4000000 in
theorem phraseQ_calls (w : World) (vp vw : Value) (pats : List Str) (wl : List Wd) (hp : Sl w 9 1 vp (strsV pats)) (hw : Wds w vw wl) (hp0 : 1 ≤ pats.length) (hp1 : pats.length ≤ 1000) (hpl : ∀ x ∈ pats, x.length ≤ 1000000) (hW : wl.length ≤ 1000) (hwl : ∀ x ∈ wl, x.2.length ≤ 1000000) :
  Calls Tryz.prog 192 #[vp, vw] w (RnP w wl.length (phrB (wsQ wl) pats)) := by
 obtain ⟨Ap, np, cp, rfl⟩ := hp.form
 obtain rfl := hp.lenS
 obtain ⟨Aw, nw, cw, rfl⟩ := hw.form
 have hwn : nw = wl.length := by obtain ⟨_, _, _, e, _, _, h, _⟩ := hw; cases e; rw [wdV_len] at h; omega
 subst hwn
 have hcp := hp.lenI.2
 have hcw : wl.length ≤ cw ∧ cw ≤ 9223372036854775807 := by obtain ⟨_, _, _, e, h1, h2, _⟩ := hw; cases e; exact ⟨h1, h2⟩
 have HP := Lib.hid hp
 have HW := Lib.hid hw
 have HPL := Lib.hid hpl
 have HWL := Lib.hid hwl
 clear hp hw hpl hwl
 have hmk := run_make_one (P := Tryz.prog) 179 22 (.slice none 0 0) 24 Tryz.underlying179 info_intsQ rfl .i64 .i64 wl.length (wl.length : Int) rfl (by omega) (by omega) (Array.replicate wl.length (Value.slice none 0 0)) (by simp)
 have HO := Lib.hid (OutB.new w wl.length)
 have HM := Lib.hid (pure_alloc w (.cells (List.replicate wl.length (Value.slice none 0 0)).toArray 22))
 rw [List.toArray_replicate] at HO HM
 go_enter Tryz.func192, Tryz.ntmps192
 go_wp2_with fail
 clear hmk
 have hgw := Nat.le_refl w.heap.size
 generalize (w.alloc (.cells (Array.replicate wl.length (Value.slice none 0 0)) 22)) = w1 at *
 generalize hg : w.heap.size = g at *
 go_loopg [19] (wl.length + 1 - pats.length) (fun gk i wr => ∃ (k : Nat) (us : List Value), (wl.length + 1 - pats.length) - k = gk ∧ k ≤ wl.length ∧ (k = 0 ∨ k + pats.length ≤ wl.length + 1) ∧ i = .int .i64 (k : Int) ∧ us.length = k ∧ OutB wr g us wl.length ∧ RowsU wr us ((rowsQ wl.length (phrB (wsQ wl) pats)).take k) ∧ Pure w wr)
 case atStart => exact ⟨0, [], by omega, by omega, .inl rfl, rfl, rfl, HO.out, RowsU.nil, HM.out⟩
 case round =>
  clear HO HM
  obtain ⟨k, us, rfl, hk, hk2, rfl, hul, hO, hR, hm⟩ := hrel
  have HO := Lib.hid hO
  have HR := Lib.hid hR
  have HM := Lib.hid hm
  have HU := Lib.hid hul
  clear hO hR hm hul
  rcases Nat.lt_or_ge wl.length (k + pats.length) with hout | hin
  ·have hlt : ¬ ((k : Int) < (wl.length : Int) - (pats.length : Int) + 1) := by omega
   go_wp2_with fail
   go_ret
   have h1 := HR.out.nils (wl.length - k)
   rw [rowsQ_tail hk (fun i h2 h3 => by have h4 := phrRow_out (ws := wsQ wl) (pats := pats) (i := i) (by rw [wsQ_len]; omega); rw [wsQ_len] at h4; exact h4)] at h1
   have h2 := HO.out.all (by rw [HU.out]; exact hk)
   rw [HU.out] at h2
   exact ⟨_, rfl, h2.sl h1 (rowsQ_len _ _) (by omega), HM.out⟩
  ·have hlt : (k : Int) < (wl.length : Int) - (pats.length : Int) + 1 := by omega
   generalize wr = w2 at *
   go_wp2_with fail
   go_loopg [7, 24] pats.length (fun gk b i wx => ∃ t : Nat, pats.length - t = gk ∧ t ≤ pats.length ∧ b = .bool (phrN (wsQ wl) pats k t) ∧ i = .int .i64 (t : Int) ∧ Pure w2 wx)
   case atStart => exact ⟨0, by omega, by omega, rfl, rfl, Mod.refl _ _⟩
   case round =>
    obtain ⟨t, rfl, ht, rfl, rfl, hmx⟩ := hrel
    by_cases htl : t < pats.length
    ·have HN := Lib.hid (phrN_succ (wsQ wl) pats k t)
     rw [phr_getD (by omega), pat_getD htl] at HN
     obtain ⟨gp, op, rfl, hrp⟩ := (HP.out.pure (HM.out.trans hmx)).rowS (by omega)
     have qp := hrp.cell (strsV_get pats t htl)
     obtain ⟨_, _, _, e, _, _, _, hrw0⟩ := HW.out.pure (HM.out.trans hmx)
     cases e
     obtain ⟨gw, ow, rfl, hrw⟩ := hrw0 (by omega)
     have qw := hrw.cell (wdV_get wl (k + t) (by omega)).2.2
     rw [← Nat.add_assoc] at qw
     have h1 := HPL.out _ (List.getElem_mem htl)
     have h2 := HWL.out _ (List.getElem_mem (show k + t < wl.length by omega))
     have HF := Lib.hid (fun W0 => fits_calls W0 pats[t] wl[k + t].2 h1 h2)
     clear h1 h2 hrp hrw hrw0
     generalize phrN (wsQ wl) pats k t = b1 at *
     generalize fitsB pats[t] wl[k + t].2 = b3 at *
     generalize pats[t] = pt at *
     generalize wl[k + t].2 = wt at *
     cases b1
     ·go_wp2_with fail
      go_roundg (pats.length - (t + 1))
      case measure => omega
      case rel => exact ⟨t + 1, rfl, htl, by rw [HN.out]; rfl, by simp, hmx⟩
     ·go_wp2_with fail
      refine (HF.out _).mono ?_
      rintro e w3 ⟨rfl, hm2⟩
      go_wp2_with fail
      go_roundg (pats.length - (t + 1))
      case measure => omega
      case rel => exact ⟨t + 1, rfl, htl, by rw [HN.out]; rfl, by simp, hmx.trans hm2⟩
    ·obtain rfl : t = pats.length := by omega
     have HROW := Lib.hid (phrRow (ws := wsQ wl) (pats := pats) (i := k) (by intro h; rw [h] at hp0; exact absurd hp0 (by decide)) (by rw [wsQ_len]; exact hin))
     rw [wsQ_len] at HROW
     have hkW : k < wl.length := by omega
     have HTK : Hid ((rowsQ wl.length (phrB (wsQ wl) pats)).take (k + 1) = (rowsQ wl.length (phrB (wsQ wl) pats)).take k ++ [rowQ wl.length (phrB (wsQ wl) pats k)]) := Lib.hid (by
      rw [List.take_succ_eq_append_getElem (by rw [rowsQ_len]; exact hkW), rowsQ_at])
     have HX := Lib.hid hmx
     clear hmx
     have HO2 := Lib.hid (HO.out.mod HX.out (fun h => h))
     have HR2 := Lib.hid (HR.out.pure HX.out)
     have HM2 := Lib.hid (HM.out.trans HX.out)
     cases hb : phrN (wsQ wl) pats k pats.length
     ·have HRN : Hid (rowQ wl.length (phrB (wsQ wl) pats k) = []) := Lib.hid (by rw [HROW.out, hb]; rfl)
      go_wp2_with fail
      go_roundg (wl.length + 1 - pats.length - (k + 1))
      case measure => omega
      case rel =>
       refine ⟨k + 1, us ++ [Value.slice none 0 0], rfl, by omega, by omega, by simp, by simp [HU.out], HO2.out.skip (by rw [HU.out]; exact hkW), ?_, HM2.out⟩
       rw [HTK.out, HRN.out]
       exact HR2.out.snoc (nilI (w := wr)).1 (nilI (w := wr)).2
     ·have HRN : Hid (rowQ wl.length (phrB (wsQ wl) pats k) = [k + pats.length - 1]) := Lib.hid (by rw [HROW.out, hb]; rfl)
      have xa := fun o => ((HO2.out.mod (pure_alloc wr o) (fun h => h)).cellk HU.out.symm (by rw [HU.out]; exact hkW)).1
      have xb := fun o => ((HO2.out.mod (pure_alloc wr o) (fun h => h)).cellk HU.out.symm (by rw [HU.out]; exact hkW)).2
      go_wp2_with fail
      go_roundg (wl.length + 1 - pats.length - (k + 1))
      case measure => omega
      case rel =>
       have hA := HO2.out.mod (pure_alloc wr (.cells #[.int .i64 ((k : Int) + (pats.length : Int) - 1)] 3)) (fun h => h)
       have hone : Sl (wr.alloc (.cells #[.int .i64 ((k : Int) + (pats.length : Int) - 1)] 3)) 3 1 (.slice (some ⟨wr.heap.size, 0, none⟩) 1 1) (nvQ [k + pats.length - 1]) := by
        have hn := Blk.new wr 3 #[.int .i64 ((k : Int) + (pats.length : Int) - 1)]
        have e : nvQ [k + pats.length - 1] = [Value.int .i64 ((k : Int) + (pats.length : Int) - 1)] := by
         show [Value.int .i64 ((k + pats.length - 1 : Nat) : Int)] = _
         rw [show ((k + pats.length - 1 : Nat) : Int) = (k : Int) + (pats.length : Int) - 1 by omega]
        rw [e]
        exact ⟨_, _, _, rfl, Nat.le_refl _, by omega, rfl, fun _ => ⟨_, 0, rfl, hn.row0⟩⟩
       refine ⟨k + 1, us ++ [Value.slice (some ⟨wr.heap.size, 0, none⟩) 1 1], rfl, by omega, by omega, by simp, by simp [HU.out], hA.snoc HU.out.symm (by rw [HU.out]; exact hkW) _, ?_, (HM2.out.trans (pure_alloc _ _)).setCell (.inr (by show w.heap.size ≤ g; omega)) _⟩
       rw [HTK.out, HRN.out]
       exact ((HR2.out.pure (pure_alloc _ _)).set hA (by decide) _ _).snoc (hone.set_ne hA (by decide) _) (fun n c h => by cases h)

end Go.Proofs.YtbajgjbdcgakoaaGreatDoor

/- places of searches by words (package query): patterns, and two searches near to each other. -/
namespace Go.Proofs.YtbajgjbdcgakoaaGreatDoor
set_option linter.unusedVariables false
set_option linter.unusedSimpArgs false
open Go.RowKit
theorem RnP.up {w w1 : World} {W : Nat} {F : Nat → Nat → Bool} {e : Ending} {w' : World} (h : RnP w1 W F e w') (hm : Pure w w1) : RnP w W F e w' := by
 obtain ⟨v, h1, h2, h3⟩ := h
 exact ⟨v, h1, h2, hm.trans h3⟩
theorem plc_word {ws : List Str} {k n : Int} {pats : List Str} {xs : List Qry} (hk : k = 2 ∨ k = 3) : plcQ ws (.mk k pats n xs) = phrB ws pats := by
 rw [plcQ]
 funext i j
 unfold plcK
 rcases hk with rfl | rfl <;> rfl
theorem plc_near {ws : List Str} {n : Int} {pats : List Str} {a b : Qry} : plcQ ws (.mk 4 pats n [a, b]) = fun i j => cutB (plcQ ws a) (plcQ ws b) n ws.length i j || cutB (plcQ ws b) (plcQ ws a) n ws.length i j := by
 rw [plcQ]
 rfl
set_option maxRecDepth 100000 in
set_option maxHeartbeats 4000000 in
theorem placesW_calls (w : World) (vw : Value) (wl : List Wd) (k n : Int) (A B : Option Addr) (c d : Nat) (pats : List Str) (xs : List QR) (hk : k = 2 ∨ k = 3) (hQ : QS w (.mk k A c pats n B d xs)) (hw : Wds w vw wl) (hp0 : 1 ≤ pats.length) (hp1 : pats.length ≤ 1000) (hpl : ∀ x ∈ pats, x.length ≤ 1000000) (hW : wl.length ≤ 1000) (hwl : ∀ x ∈ wl, x.2.length ≤ 1000000) :
  Calls Tryz.prog 157 #[qA (.mk k A c pats n B d xs), vw] w (RnP w wl.length (plcQ (wsQ wl) (QR.mk k A c pats n B d xs).key)) := by
 rw [QR.key_mk, plc_word hk, qA_mk]
 have hm : Pure w (w.alloc (.cells #[.int .i64 k, .slice A pats.length c, .int .i64 n, .slice B xs.length d] 29)) := (Mod.refl _ _).alloc _
 have HP := Lib.hid (phraseQ_calls (w.alloc (.cells #[.int .i64 k, .slice A pats.length c, .int .i64 n, .slice B xs.length d] 29)) (.slice A pats.length c) vw pats wl (hQ.wsH.pure hm) (hw.pure hm) hp0 hp1 hpl hW hwl)
 have HM := Lib.hid hm
 have hb := Blk.new w 29 #[.int .i64 k, .slice A pats.length c, .int .i64 n, .slice B xs.length d]
 have x0 := hb.cell 0; have x1 := hb.cell 1; have x2 := hb.cell 2; have x3 := hb.cell 3; simp at x0 x1 x2 x3
 have h5 : (k == 5) = false := by rcases hk with rfl | rfl <;> rfl
 have h4 : (k == 4) = false := by rcases hk with rfl | rfl <;> rfl
 have h7 : (k == 7) = false := by rcases hk with rfl | rfl <;> rfl
 clear hQ hw hpl hwl hm hb hk
 go_enter Tryz.func157, Tryz.ntmps157
 go_wp2_with fail
 refine HP.out.mono ?_
 rintro e w2 ⟨v, rfl, hs, hm2⟩
 have HS := Lib.hid hs
 have HM2 := Lib.hid (HM.out.trans hm2)
 clear hs hm2 HP
 go_wp2_with fail
 go_ret
 exact ⟨v, rfl, HS.out, HM2.out⟩
set_option maxRecDepth 100000 in
set_option maxHeartbeats 4000000 in
theorem placesN_calls (w : World) (vw : Value) (wl : List Wd) (n : Int) (A B : Option Addr) (c d : Nat) (ws : List Str) (a1 a2 : QR) (hQ : QS w (.mk 4 A c ws n B d [a1, a2])) (hW : wl.length ≤ 1000) (hn0 : 0 ≤ n) (hn1 : n ≤ 20)
  (h1 : ∀ W, Pure w W → Calls Tryz.prog 157 #[qA a1, vw] W (RnP W wl.length (plcQ (wsQ wl) a1.key))) (h2 : ∀ W, Pure w W → Calls Tryz.prog 157 #[qA a2, vw] W (RnP W wl.length (plcQ (wsQ wl) a2.key))) :
  Calls Tryz.prog 157 #[qA (.mk 4 A c ws n B d [a1, a2]), vw] w (RnP w wl.length (plcQ (wsQ wl) (QR.mk 4 A c ws n B d [a1, a2]).key)) := by
 rw [QR.key_mk, show [a1, a2].map QR.key = [a1.key, a2.key] from rfl, plc_near, qA_mk, wsQ_len]
 generalize plcQ (wsQ wl) a1.key = F1 at *
 generalize plcQ (wsQ wl) a2.key = F2 at *
 obtain ⟨k1, A1, c1, ws1, n1, B1, d1, xs1⟩ := a1
 obtain ⟨k2, A2, c2, ws2, n2, B2, d2, xs2⟩ := a2
 obtain ⟨gB, oB, hBe, p0, p1, p2, p3⟩ := qcells hQ.xsH (show 0 < 2 by decide) rfl
 obtain ⟨gB', oB', hBe', r0, r1, r2, r3⟩ := qcells hQ.xsH (show 1 < 2 by decide) rfl
 rw [hBe] at hBe'
 injection hBe' with hBe'
 injection hBe' with e1 e2
 subst e1 e2 hBe
 have hle : ∃ m, m = ([QR.mk k1 A1 c1 ws1 n1 B1 d1 xs1, QR.mk k2 A2 c2 ws2 n2 B2 d2 xs2] : List QR).length := ⟨_, rfl⟩
 have hd2 : 2 ≤ d ∧ d ≤ 9223372036854775807 := by
  obtain ⟨_, _, _, e, h1, h2, _⟩ := hQ.xsH
  cases e
  exact ⟨h1, h2⟩
 simp only [Nat.zero_mul, Nat.one_mul, Nat.add_zero] at p0 p1 p2 p3 r0 r1 r2 r3
 have hm : Pure w (w.alloc (.cells #[.int .i64 4, .slice A ws.length c, .int .i64 n, .slice (some ⟨gB, oB, none⟩) 2 d] 29)) := (Mod.refl _ _).alloc _
 have HM := Lib.hid hm
 have hb := Blk.new w 29 #[.int .i64 4, .slice A ws.length c, .int .i64 n, .slice (some ⟨gB, oB, none⟩) 2 d]
 have HB := Lib.hid hb
 have HC : Hid (CellQ w gB oB (.int .i64 k1) ∧ CellQ w gB (oB + 1) (.slice A1 ws1.length c1) ∧ CellQ w gB (oB + 2) (.int .i64 n1) ∧ CellQ w gB (oB + 3) (.slice B1 xs1.length d1) ∧ CellQ w gB (oB + 4) (.int .i64 k2) ∧ CellQ w gB (oB + 4 + 1) (.slice A2 ws2.length c2) ∧ CellQ w gB (oB + 4 + 2) (.int .i64 n2) ∧ CellQ w gB (oB + 4 + 3) (.slice B2 xs2.length d2)) := Lib.hid ⟨p0, p1, p2, p3, r0, r1, r2, r3⟩
 have H1 := Lib.hid h1
 have H2 := Lib.hid h2
 simp only [qA_mk] at H1 H2
 have x0 := hb.cell 0; have x1 := hb.cell 1; have x2 := hb.cell 2; have x3 := hb.cell 3; simp at x0 x1 x2 x3
 clear hQ hm hb h1 h2 p0 p1 p2 p3 r0 r1 r2 r3 hle
 go_enter Tryz.func157, Tryz.ntmps157
 go_upto_region 5 with (fail)
 generalize (w.alloc (.cells #[.int .i64 4, .slice A ws.length c, .int .i64 n, .slice (some ⟨gB, oB, none⟩) 2 d] 29)) = w1 at *
 generalize w.heap.size = gb at *
 have HC1 := Lib.hid (show _ ∧ _ ∧ _ ∧ _ ∧ _ ∧ _ ∧ _ ∧ _ from ⟨HC.out.1.pure HM.out, HC.out.2.1.pure HM.out, HC.out.2.2.1.pure HM.out, HC.out.2.2.2.1.pure HM.out, HC.out.2.2.2.2.1.pure HM.out, HC.out.2.2.2.2.2.1.pure HM.out, HC.out.2.2.2.2.2.2.1.pure HM.out, HC.out.2.2.2.2.2.2.2.pure HM.out⟩)
 clear HC x0 x1 x2 x3
 have HGs := Lib.hid (show ∀ (D : Nat → Bool) (zzi : Nat) (zq zq' : World), (fun _ zq => (fun Z => Blk Z gb 29 #[.int .i64 4, .slice A ws.length c, .int .i64 n, .slice (some ⟨gB, oB, none⟩) 2 d] ∧ CellQ Z gB oB (.int .i64 k1) ∧ CellQ Z gB (oB + 1) (.slice A1 ws1.length c1) ∧ CellQ Z gB (oB + 2) (.int .i64 n1) ∧ CellQ Z gB (oB + 3) (.slice B1 xs1.length d1) ∧ CellQ Z gB (oB + 4) (.int .i64 k2) ∧ CellQ Z gB (oB + 4 + 1) (.slice A2 ws2.length c2) ∧ CellQ Z gB (oB + 4 + 2) (.int .i64 n2) ∧ CellQ Z gB (oB + 4 + 3) (.slice B2 xs2.length d2)) zq) D zq → Mod (fun _ => False) zq zq' → (fun _ zq => (fun Z => Blk Z gb 29 #[.int .i64 4, .slice A ws.length c, .int .i64 n, .slice (some ⟨gB, oB, none⟩) 2 d] ∧ CellQ Z gB oB (.int .i64 k1) ∧ CellQ Z gB (oB + 1) (.slice A1 ws1.length c1) ∧ CellQ Z gB (oB + 2) (.int .i64 n1) ∧ CellQ Z gB (oB + 3) (.slice B1 xs1.length d1) ∧ CellQ Z gB (oB + 4) (.int .i64 k2) ∧ CellQ Z gB (oB + 4 + 1) (.slice A2 ws2.length c2) ∧ CellQ Z gB (oB + 4 + 2) (.int .i64 n2) ∧ CellQ Z gB (oB + 4 + 3) (.slice B2 xs2.length d2)) zq) (upd D zzi true) zq' from by intro D zzi zq zq' h hm; (exact ⟨h.1.modp hm, h.2.1.pure hm, h.2.2.1.pure hm, h.2.2.2.1.pure hm, h.2.2.2.2.1.pure hm, h.2.2.2.2.2.1.pure hm, h.2.2.2.2.2.2.1.pure hm, h.2.2.2.2.2.2.2.1.pure hm, h.2.2.2.2.2.2.2.2.pure hm⟩))
 refine wp_region_inv (by kernel_rfl) (by kernel_rfl) (InvF (R := Mod (fun _ => False)) [.is (.pointer (some ⟨gb, 3, none⟩)),
   .is (.slice (some ⟨gB, oB, none⟩) 2 d),
   .is (.pointer (some ⟨gB, oB, none⟩)),
   .is (.agg #[.int .i64 k1, .slice A1 ws1.length c1, .int .i64 n1, .slice B1 xs1.length d1]),
   .is (vw),
   ⟨fun zv zw => ∃ (v_5 : Value), zv = v_5 ∧ SlI zw v_5 (rowsQ wl.length F1), (by rintro zv zw zx ⟨v_5, hze, q0⟩ hm; exact ⟨v_5, hze, (q0.pure hm)⟩), none, none⟩,
   .is (.pointer (some ⟨gb, 3, none⟩)),
   .is (.slice (some ⟨gB, oB, none⟩) 2 d),
   .is (.pointer (some ⟨gB, oB + 4, none⟩)),
   .is (.agg #[.int .i64 k2, .slice A2 ws2.length c2, .int .i64 n2, .slice B2 xs2.length d2]),
   .is (vw),
   ⟨fun zv zw => ∃ (v_11 : Value), zv = v_11 ∧ SlI zw v_11 (rowsQ wl.length F2), (by rintro zv zw zx ⟨v_11, hze, q0⟩ hm; exact ⟨v_11, hze, (q0.pure hm)⟩), none, none⟩,
   ⟨fun zv zw => ∃ (v_12 : Value), zv = v_12 ∧ SlI zw v_12 (rowsQ wl.length F1), (by rintro zv zw zx ⟨v_12, hze, q0⟩ hm; exact ⟨v_12, hze, (q0.pure hm)⟩), none, none⟩,
   ⟨fun zv zw => ∃ (v_13 : Value), zv = v_13 ∧ SlI zw v_13 (rowsQ wl.length F2), (by rintro zv zw zx ⟨v_13, hze, q0⟩ hm; exact ⟨v_13, hze, (q0.pure hm)⟩), none, none⟩]
   (PB w1 (fun _ => False) w1.heap.size (fun _ zq => (fun Z => Blk Z gb 29 #[.int .i64 4, .slice A ws.length c, .int .i64 n, .slice (some ⟨gB, oB, none⟩) 2 d] ∧ CellQ Z gB oB (.int .i64 k1) ∧ CellQ Z gB (oB + 1) (.slice A1 ws1.length c1) ∧ CellQ Z gB (oB + 2) (.int .i64 n1) ∧ CellQ Z gB (oB + 3) (.slice B1 xs1.length d1) ∧ CellQ Z gB (oB + 4) (.int .i64 k2) ∧ CellQ Z gB (oB + 4 + 1) (.slice A2 ws2.length c2) ∧ CellQ Z gB (oB + 4 + 2) (.int .i64 n2) ∧ CellQ Z gB (oB + 4 + 3) (.slice B2 xs2.length d2)) zq))) (InvF.start (PB.start (Mod.refl _ _) (Nat.le_refl _) (⟨HB.out.drew, HC1.out⟩))) ?_ ?_
 ·refine .cons ?_ (.cons ?_ (.cons ?_ (.cons ?_ (.cons ?_ (.cons ?_ (.cons ?_ (.cons ?_ (.cons ?_ (.cons ?_ (.cons ?_ (.cons ?_ (.cons ?_ (.cons ?_ .nil)))))))))))))
  ·intro D V zw1 a hR hI K hK
   obtain ⟨hM1, hB1, hG1⟩ := hI.1
   obtain ⟨hG1b, hG10, hG11, hG12, hG13, hG14, hG15, hG16, hG17⟩ := hG1
   have ze2 := hR.frame.other (t := 2) (by kernel_rfl) rfl
   rw [if_pos (by rfl)]
   go_simp
   exact hK (.pointer (some ⟨gb, 3, none⟩)) _ (hI.next hR (by kernel_rfl) (Mod.refl _ _) (PB.quiet hI.1 (Mod.refl _ _) (HGs.out D 0 zw1 zw1 (hI.1).g (Mod.refl _ _))) (upd_same V 0 _))
  ·intro D V zw1 a hR hI K hK
   obtain ⟨hM1, hB1, hG1⟩ := hI.1
   obtain ⟨hG1b, hG10, hG11, hG12, hG13, hG14, hG15, hG16, hG17⟩ := hG1
   have zd0 := hR.pred 0 (by kernel_rfl)
   have zF0 : V 0 = .pointer (some ⟨gb, 3, none⟩) := hI.2 0 zd0 rfl
   have zf0 := zF0; clear zF0
   have ze31 := hR.frame.done (t := 31) (j := 0) (by kernel_rfl) hR.ok zd0
   have zx3 := (hG1b).cell 3; have zy3 := (hG1b).frozen 3; simp at zx3
   rw [if_pos (by rfl)]
   go_simp
   exact hK (.slice (some ⟨gB, oB, none⟩) 2 d) _ (hI.next hR (by kernel_rfl) (Mod.refl _ _) (PB.quiet hI.1 (Mod.refl _ _) (HGs.out D 1 zw1 zw1 (hI.1).g (Mod.refl _ _))) (upd_same V 1 _))
  ·intro D V zw1 a hR hI K hK
   obtain ⟨hM1, hB1, hG1⟩ := hI.1
   obtain ⟨hG1b, hG10, hG11, hG12, hG13, hG14, hG15, hG16, hG17⟩ := hG1
   have zd1 := hR.pred 1 (by kernel_rfl)
   have zF1 : V 1 = .slice (some ⟨gB, oB, none⟩) 2 d := hI.2 1 zd1 rfl
   have zf1 := zF1; clear zF1
   have ze32 := hR.frame.done (t := 32) (j := 1) (by kernel_rfl) hR.ok zd1
   rw [if_pos (by rfl)]
   go_simp
   exact hK (.pointer (some ⟨gB, oB, none⟩)) _ (hI.next hR (by kernel_rfl) (Mod.refl _ _) (PB.quiet hI.1 (Mod.refl _ _) (HGs.out D 2 zw1 zw1 (hI.1).g (Mod.refl _ _))) (upd_same V 2 _))
  ·intro D V zw1 a hR hI K hK
   obtain ⟨hM1, hB1, hG1⟩ := hI.1
   obtain ⟨hG1b, hG10, hG11, hG12, hG13, hG14, hG15, hG16, hG17⟩ := hG1
   have zd2 := hR.pred 2 (by kernel_rfl)
   have zF2 : V 2 = .pointer (some ⟨gB, oB, none⟩) := hI.2 2 zd2 rfl
   have zf2 := zF2; clear zF2
   have ze33 := hR.frame.done (t := 33) (j := 2) (by kernel_rfl) hR.ok zd2
   unfold CellQ at hG10 hG11 hG12 hG13
   rw [if_pos (by rfl)]
   go_simp
   exact hK (.agg #[.int .i64 k1, .slice A1 ws1.length c1, .int .i64 n1, .slice B1 xs1.length d1]) _ (hI.next hR (by kernel_rfl) (Mod.refl _ _) (PB.quiet hI.1 (Mod.refl _ _) (HGs.out D 3 zw1 zw1 (hI.1).g (Mod.refl _ _))) (upd_same V 3 _))
  ·intro D V zw1 a hR hI K hK
   obtain ⟨hM1, hB1, hG1⟩ := hI.1
   obtain ⟨hG1b, hG10, hG11, hG12, hG13, hG14, hG15, hG16, hG17⟩ := hG1
   have ze1 := hR.frame.other (t := 1) (by kernel_rfl) rfl
   rw [if_pos (by rfl)]
   go_simp
   exact hK (vw) _ (hI.next hR (by kernel_rfl) (Mod.refl _ _) (PB.quiet hI.1 (Mod.refl _ _) (HGs.out D 4 zw1 zw1 (hI.1).g (Mod.refl _ _))) (upd_same V 4 _))
  ·intro D V zw1 a hR hI K hK
   obtain ⟨hM1, hB1, hG1⟩ := hI.1
   obtain ⟨hG1b, hG10, hG11, hG12, hG13, hG14, hG15, hG16, hG17⟩ := hG1
   have zd3 := hR.pred 3 (by kernel_rfl)
   have zF3 : V 3 = .agg #[.int .i64 k1, .slice A1 ws1.length c1, .int .i64 n1, .slice B1 xs1.length d1] := hI.2 3 zd3 rfl
   have zf3 := zF3; clear zF3
   have zd4 := hR.pred 4 (by kernel_rfl)
   have zF4 : V 4 = vw := hI.2 4 zd4 rfl
   have zf4 := zF4; clear zF4
   have ze34 := hR.frame.done (t := 34) (j := 3) (by kernel_rfl) hR.ok zd3
   have ze35 := hR.frame.done (t := 35) (j := 4) (by kernel_rfl) hR.ok zd4
   rw [if_pos (by rfl)]
   go_simp
   refine (H1.out zw1 (HM.out.trans hM1)).mono ?_
   rintro e zw2 ⟨v_0, rfl, hq, hm2⟩
   exact hK (v_0) _ (hI.next hR (by kernel_rfl) hm2 (PB.quiet hI.1 hm2 (HGs.out D 5 _ _ (hI.1).g hm2)) (⟨v_0, upd_same V 5 _, hq⟩))
  ·intro D V zw1 a hR hI K hK
   obtain ⟨hM1, hB1, hG1⟩ := hI.1
   obtain ⟨hG1b, hG10, hG11, hG12, hG13, hG14, hG15, hG16, hG17⟩ := hG1
   have ze2 := hR.frame.other (t := 2) (by kernel_rfl) rfl
   rw [if_pos (by rfl)]
   go_simp
   exact hK (.pointer (some ⟨gb, 3, none⟩)) _ (hI.next hR (by kernel_rfl) (Mod.refl _ _) (PB.quiet hI.1 (Mod.refl _ _) (HGs.out D 6 zw1 zw1 (hI.1).g (Mod.refl _ _))) (upd_same V 6 _))
  ·intro D V zw1 a hR hI K hK
   obtain ⟨hM1, hB1, hG1⟩ := hI.1
   obtain ⟨hG1b, hG10, hG11, hG12, hG13, hG14, hG15, hG16, hG17⟩ := hG1
   have zd6 := hR.pred 6 (by kernel_rfl)
   have zF6 : V 6 = .pointer (some ⟨gb, 3, none⟩) := hI.2 6 zd6 rfl
   have zf6 := zF6; clear zF6
   have ze37 := hR.frame.done (t := 37) (j := 6) (by kernel_rfl) hR.ok zd6
   have zx3 := (hG1b).cell 3; have zy3 := (hG1b).frozen 3; simp at zx3
   rw [if_pos (by rfl)]
   go_simp
   exact hK (.slice (some ⟨gB, oB, none⟩) 2 d) _ (hI.next hR (by kernel_rfl) (Mod.refl _ _) (PB.quiet hI.1 (Mod.refl _ _) (HGs.out D 7 zw1 zw1 (hI.1).g (Mod.refl _ _))) (upd_same V 7 _))
  ·intro D V zw1 a hR hI K hK
   obtain ⟨hM1, hB1, hG1⟩ := hI.1
   obtain ⟨hG1b, hG10, hG11, hG12, hG13, hG14, hG15, hG16, hG17⟩ := hG1
   have zd7 := hR.pred 7 (by kernel_rfl)
   have zF7 : V 7 = .slice (some ⟨gB, oB, none⟩) 2 d := hI.2 7 zd7 rfl
   have zf7 := zF7; clear zF7
   have ze38 := hR.frame.done (t := 38) (j := 7) (by kernel_rfl) hR.ok zd7
   rw [if_pos (by rfl)]
   go_simp
   exact hK (.pointer (some ⟨gB, oB + 4, none⟩)) _ (hI.next hR (by kernel_rfl) (Mod.refl _ _) (PB.quiet hI.1 (Mod.refl _ _) (HGs.out D 8 zw1 zw1 (hI.1).g (Mod.refl _ _))) (upd_same V 8 _))
  ·intro D V zw1 a hR hI K hK
   obtain ⟨hM1, hB1, hG1⟩ := hI.1
   obtain ⟨hG1b, hG10, hG11, hG12, hG13, hG14, hG15, hG16, hG17⟩ := hG1
   have zd8 := hR.pred 8 (by kernel_rfl)
   have zF8 : V 8 = .pointer (some ⟨gB, oB + 4, none⟩) := hI.2 8 zd8 rfl
   have zf8 := zF8; clear zF8
   have ze39 := hR.frame.done (t := 39) (j := 8) (by kernel_rfl) hR.ok zd8
   unfold CellQ at hG14 hG15 hG16 hG17
   rw [if_pos (by rfl)]
   go_simp
   exact hK (.agg #[.int .i64 k2, .slice A2 ws2.length c2, .int .i64 n2, .slice B2 xs2.length d2]) _ (hI.next hR (by kernel_rfl) (Mod.refl _ _) (PB.quiet hI.1 (Mod.refl _ _) (HGs.out D 9 zw1 zw1 (hI.1).g (Mod.refl _ _))) (upd_same V 9 _))
  ·intro D V zw1 a hR hI K hK
   obtain ⟨hM1, hB1, hG1⟩ := hI.1
   obtain ⟨hG1b, hG10, hG11, hG12, hG13, hG14, hG15, hG16, hG17⟩ := hG1
   have ze1 := hR.frame.other (t := 1) (by kernel_rfl) rfl
   rw [if_pos (by rfl)]
   go_simp
   exact hK (vw) _ (hI.next hR (by kernel_rfl) (Mod.refl _ _) (PB.quiet hI.1 (Mod.refl _ _) (HGs.out D 10 zw1 zw1 (hI.1).g (Mod.refl _ _))) (upd_same V 10 _))
  ·intro D V zw1 a hR hI K hK
   obtain ⟨hM1, hB1, hG1⟩ := hI.1
   obtain ⟨hG1b, hG10, hG11, hG12, hG13, hG14, hG15, hG16, hG17⟩ := hG1
   have zd9 := hR.pred 9 (by kernel_rfl)
   have zF9 : V 9 = .agg #[.int .i64 k2, .slice A2 ws2.length c2, .int .i64 n2, .slice B2 xs2.length d2] := hI.2 9 zd9 rfl
   have zf9 := zF9; clear zF9
   have zd10 := hR.pred 10 (by kernel_rfl)
   have zF10 : V 10 = vw := hI.2 10 zd10 rfl
   have zf10 := zF10; clear zF10
   have ze40 := hR.frame.done (t := 40) (j := 9) (by kernel_rfl) hR.ok zd9
   have ze41 := hR.frame.done (t := 41) (j := 10) (by kernel_rfl) hR.ok zd10
   rw [if_pos (by rfl)]
   go_simp
   refine (H2.out zw1 (HM.out.trans hM1)).mono ?_
   rintro e zw2 ⟨v_0, rfl, hq, hm2⟩
   exact hK (v_0) _ (hI.next hR (by kernel_rfl) hm2 (PB.quiet hI.1 hm2 (HGs.out D 11 _ _ (hI.1).g hm2)) (⟨v_0, upd_same V 11 _, hq⟩))
  ·intro D V zw1 a hR hI K hK
   obtain ⟨hM1, hB1, hG1⟩ := hI.1
   obtain ⟨hG1b, hG10, hG11, hG12, hG13, hG14, hG15, hG16, hG17⟩ := hG1
   have zd5 := hR.pred 5 (by kernel_rfl)
   have zF5 : ∃ (v_5 : Value), V 5 = v_5 ∧ SlI zw1 v_5 (rowsQ wl.length F1) := hI.2 5 zd5 rfl
   obtain ⟨v_5, zf5, b5_0⟩ := zF5
   have ze36 := hR.frame.done (t := 36) (j := 5) (by kernel_rfl) hR.ok zd5
   rw [if_pos (by rfl)]
   go_simp
   exact hK (v_5) _ (hI.next hR (by kernel_rfl) (Mod.refl _ _) (PB.quiet hI.1 (Mod.refl _ _) (HGs.out D 12 zw1 zw1 (hI.1).g (Mod.refl _ _))) (⟨v_5, upd_same V 12 _, b5_0⟩))
  ·intro D V zw1 a hR hI K hK
   obtain ⟨hM1, hB1, hG1⟩ := hI.1
   obtain ⟨hG1b, hG10, hG11, hG12, hG13, hG14, hG15, hG16, hG17⟩ := hG1
   have zd11 := hR.pred 11 (by kernel_rfl)
   have zF11 : ∃ (v_11 : Value), V 11 = v_11 ∧ SlI zw1 v_11 (rowsQ wl.length F2) := hI.2 11 zd11 rfl
   obtain ⟨v_11, zf11, b11_0⟩ := zF11
   have ze42 := hR.frame.done (t := 42) (j := 11) (by kernel_rfl) hR.ok zd11
   rw [if_pos (by rfl)]
   go_simp
   exact hK (v_11) _ (hI.next hR (by kernel_rfl) (Mod.refl _ _) (PB.quiet hI.1 (Mod.refl _ _) (HGs.out D 13 zw1 zw1 (hI.1).g (Mod.refl _ _))) (⟨v_11, upd_same V 13 _, b11_0⟩))
 ·intro D V w2 hD hI
  obtain ⟨hM1, hB1, hG1⟩ := hI.1
  have hMx := hM1
  clear hM1
  have hBx := hB1
  clear hB1
  have hGx := hG1
  clear hG1
  have zF0 : V 0 = .pointer (some ⟨gb, 3, none⟩) := hI.2 0 (hD 0 (by decide)) rfl
  have zf0 := zF0; clear zF0
  have zF1 : V 1 = .slice (some ⟨gB, oB, none⟩) 2 d := hI.2 1 (hD 1 (by decide)) rfl
  have zf1 := zF1; clear zF1
  have zF2 : V 2 = .pointer (some ⟨gB, oB, none⟩) := hI.2 2 (hD 2 (by decide)) rfl
  have zf2 := zF2; clear zF2
  have zF3 : V 3 = .agg #[.int .i64 k1, .slice A1 ws1.length c1, .int .i64 n1, .slice B1 xs1.length d1] := hI.2 3 (hD 3 (by decide)) rfl
  have zf3 := zF3; clear zF3
  have zF4 : V 4 = vw := hI.2 4 (hD 4 (by decide)) rfl
  have zf4 := zF4; clear zF4
  have zF5 : ∃ (v_5 : Value), V 5 = v_5 ∧ SlI w2 v_5 (rowsQ wl.length F1) := hI.2 5 (hD 5 (by decide)) rfl
  obtain ⟨v_5, zf5, b5_0⟩ := zF5
  have zF6 : V 6 = .pointer (some ⟨gb, 3, none⟩) := hI.2 6 (hD 6 (by decide)) rfl
  have zf6 := zF6; clear zF6
  have zF7 : V 7 = .slice (some ⟨gB, oB, none⟩) 2 d := hI.2 7 (hD 7 (by decide)) rfl
  have zf7 := zF7; clear zF7
  have zF8 : V 8 = .pointer (some ⟨gB, oB + 4, none⟩) := hI.2 8 (hD 8 (by decide)) rfl
  have zf8 := zF8; clear zF8
  have zF9 : V 9 = .agg #[.int .i64 k2, .slice A2 ws2.length c2, .int .i64 n2, .slice B2 xs2.length d2] := hI.2 9 (hD 9 (by decide)) rfl
  have zf9 := zF9; clear zF9
  have zF10 : V 10 = vw := hI.2 10 (hD 10 (by decide)) rfl
  have zf10 := zF10; clear zF10
  have zF11 : ∃ (v_11 : Value), V 11 = v_11 ∧ SlI w2 v_11 (rowsQ wl.length F2) := hI.2 11 (hD 11 (by decide)) rfl
  obtain ⟨v_11, zf11, b11_0⟩ := zF11
  have zF12 : ∃ (v_12 : Value), V 12 = v_12 ∧ SlI w2 v_12 (rowsQ wl.length F1) := hI.2 12 (hD 12 (by decide)) rfl
  obtain ⟨v_12, zf12, b12_0⟩ := zF12
  have zF13 : ∃ (v_13 : Value), V 13 = v_13 ∧ SlI w2 v_13 (rowsQ wl.length F2) := hI.2 13 (hD 13 (by decide)) rfl
  obtain ⟨v_13, zf13, b13_0⟩ := zF13
  clear hI hD HGs
  simp only [frAll, Act.put, List.setIfInBounds_toArray, List.set_cons_zero, List.set_cons_succ, Nat.zero_add, Nat.reduceAdd, zf0, zf1, zf2, zf3, zf4, zf5, zf6, zf7, zf8, zf9, zf10, zf11, zf12, zf13]
  clear zf0 zf1 zf2 zf3 zf4 zf5 zf6 zf7 zf8 zf9 zf10 zf11 zf12 zf13
  clear V D
  have HBX := Lib.hid hGx.1
  have HS1 := Lib.hid b12_0
  have HS2 := Lib.hid b13_0
  have HMX := Lib.hid (HM.out.trans hMx)
  clear hGx hMx b12_0 b13_0 b5_0 b11_0 H1 H2 HC1 HB
  generalize v_12 = p1 at *
  generalize v_13 = p2 at *
  go_upto_region 6 with (fail)
  have HGs := Lib.hid (show ∀ (D : Nat → Bool) (zzi : Nat) (zq zq' : World), (fun _ zq => (fun Z => Blk Z gb 29 #[.int .i64 4, .slice A ws.length c, .int .i64 n, .slice (some ⟨gB, oB, none⟩) 2 d] ∧ SlI Z p1 (rowsQ wl.length F1) ∧ SlI Z p2 (rowsQ wl.length F2)) zq) D zq → Mod (fun _ => False) zq zq' → (fun _ zq => (fun Z => Blk Z gb 29 #[.int .i64 4, .slice A ws.length c, .int .i64 n, .slice (some ⟨gB, oB, none⟩) 2 d] ∧ SlI Z p1 (rowsQ wl.length F1) ∧ SlI Z p2 (rowsQ wl.length F2)) zq) (upd D zzi true) zq' from by intro D zzi zq zq' h hm; (exact ⟨h.1.modp hm, h.2.1.pure hm, h.2.2.pure hm⟩))
  refine wp_region_inv (by kernel_rfl) (by kernel_rfl) (InvF (R := Mod (fun _ => False)) [.is (p1),
    .is (p2),
    .is (.pointer (some ⟨gb, 2, none⟩)),
    .is (.int .i64 n),
    ⟨fun zv zw => ∃ (v_4 : Value), zv = v_4 ∧ SlI zw v_4 (rowsQ wl.length (cutB F1 F2 n wl.length)), (by rintro zv zw zx ⟨v_4, hze, q0⟩ hm; exact ⟨v_4, hze, (q0.pure hm)⟩), none, none⟩,
    .is (p2),
    .is (p1),
    .is (.pointer (some ⟨gb, 2, none⟩)),
    .is (.int .i64 n),
    ⟨fun zv zw => ∃ (v_9 : Value), zv = v_9 ∧ SlI zw v_9 (rowsQ wl.length (cutB F2 F1 n wl.length)), (by rintro zv zw zx ⟨v_9, hze, q0⟩ hm; exact ⟨v_9, hze, (q0.pure hm)⟩), none, none⟩,
    ⟨fun zv zw => ∃ (v_10 : Value), zv = v_10 ∧ SlI zw v_10 (rowsQ wl.length (fun i j => cutB F1 F2 n wl.length i j || cutB F2 F1 n wl.length i j)), (by rintro zv zw zx ⟨v_10, hze, q0⟩ hm; exact ⟨v_10, hze, (q0.pure hm)⟩), none, none⟩,
    ⟨fun zv zw => ∃ (v_11 : Value), zv = v_11 ∧ SlI zw v_11 (rowsQ wl.length (fun i j => cutB F1 F2 n wl.length i j || cutB F2 F1 n wl.length i j)), (by rintro zv zw zx ⟨v_11, hze, q0⟩ hm; exact ⟨v_11, hze, (q0.pure hm)⟩), none, none⟩]
    (PB w2 (fun _ => False) w2.heap.size (fun _ zq => (fun Z => Blk Z gb 29 #[.int .i64 4, .slice A ws.length c, .int .i64 n, .slice (some ⟨gB, oB, none⟩) 2 d] ∧ SlI Z p1 (rowsQ wl.length F1) ∧ SlI Z p2 (rowsQ wl.length F2)) zq))) (InvF.start (PB.start (Mod.refl _ _) (Nat.le_refl _) (⟨HBX.out.drew, HS1.out.pure ((Mod.refl _ _).drew), HS2.out.pure ((Mod.refl _ _).drew)⟩))) ?_ ?_
  ·refine .cons ?_ (.cons ?_ (.cons ?_ (.cons ?_ (.cons ?_ (.cons ?_ (.cons ?_ (.cons ?_ (.cons ?_ (.cons ?_ (.cons ?_ (.cons ?_ .nil)))))))))))
   ·intro D V zw1 a hR hI K hK
    obtain ⟨hM1, hB1, hG1⟩ := hI.1
    obtain ⟨hG1b, hG1c, hG1d⟩ := hG1
    have ze5 := hR.frame.other (t := 5) (by kernel_rfl) rfl
    rw [if_pos (by rfl)]
    go_simp
    exact hK (p1) _ (hI.next hR (by kernel_rfl) (Mod.refl _ _) (PB.quiet hI.1 (Mod.refl _ _) (HGs.out D 0 zw1 zw1 (hI.1).g (Mod.refl _ _))) (upd_same V 0 _))
   ·intro D V zw1 a hR hI K hK
    obtain ⟨hM1, hB1, hG1⟩ := hI.1
    obtain ⟨hG1b, hG1c, hG1d⟩ := hG1
    have ze6 := hR.frame.other (t := 6) (by kernel_rfl) rfl
    rw [if_pos (by rfl)]
    go_simp
    exact hK (p2) _ (hI.next hR (by kernel_rfl) (Mod.refl _ _) (PB.quiet hI.1 (Mod.refl _ _) (HGs.out D 1 zw1 zw1 (hI.1).g (Mod.refl _ _))) (upd_same V 1 _))
   ·intro D V zw1 a hR hI K hK
    obtain ⟨hM1, hB1, hG1⟩ := hI.1
    obtain ⟨hG1b, hG1c, hG1d⟩ := hG1
    have ze2 := hR.frame.other (t := 2) (by kernel_rfl) rfl
    rw [if_pos (by rfl)]
    go_simp
    exact hK (.pointer (some ⟨gb, 2, none⟩)) _ (hI.next hR (by kernel_rfl) (Mod.refl _ _) (PB.quiet hI.1 (Mod.refl _ _) (HGs.out D 2 zw1 zw1 (hI.1).g (Mod.refl _ _))) (upd_same V 2 _))
   ·intro D V zw1 a hR hI K hK
    obtain ⟨hM1, hB1, hG1⟩ := hI.1
    obtain ⟨hG1b, hG1c, hG1d⟩ := hG1
    have zd2 := hR.pred 2 (by kernel_rfl)
    have zF2 : V 2 = .pointer (some ⟨gb, 2, none⟩) := hI.2 2 zd2 rfl
    have zf2 := zF2; clear zF2
    have ze45 := hR.frame.done (t := 45) (j := 2) (by kernel_rfl) hR.ok zd2
    have zx2 := (hG1b).cell 2; have zy2 := (hG1b).frozen 2; simp at zx2
    rw [if_pos (by rfl)]
    go_simp
    exact hK (.int .i64 n) _ (hI.next hR (by kernel_rfl) (Mod.refl _ _) (PB.quiet hI.1 (Mod.refl _ _) (HGs.out D 3 zw1 zw1 (hI.1).g (Mod.refl _ _))) (upd_same V 3 _))
   ·intro D V zw1 a hR hI K hK
    obtain ⟨hM1, hB1, hG1⟩ := hI.1
    obtain ⟨hG1b, hG1c, hG1d⟩ := hG1
    have zd0 := hR.pred 0 (by kernel_rfl)
    have zF0 : V 0 = p1 := hI.2 0 zd0 rfl
    have zf0 := zF0; clear zF0
    have zd1 := hR.pred 1 (by kernel_rfl)
    have zF1 : V 1 = p2 := hI.2 1 zd1 rfl
    have zf1 := zF1; clear zF1
    have zd3 := hR.pred 3 (by kernel_rfl)
    have zF3 : V 3 = .int .i64 n := hI.2 3 zd3 rfl
    have zf3 := zF3; clear zF3
    have ze43 := hR.frame.done (t := 43) (j := 0) (by kernel_rfl) hR.ok zd0
    have ze44 := hR.frame.done (t := 44) (j := 1) (by kernel_rfl) hR.ok zd1
    have ze46 := hR.frame.done (t := 46) (j := 3) (by kernel_rfl) hR.ok zd3
    rw [if_pos (by rfl)]
    go_simp
    refine (ahead_calls zw1 p1 p2 wl.length F1 F2 n hG1c hG1d hW hn0 hn1).mono ?_
    rintro e zw2 ⟨v_0, rfl, hq, hm2⟩
    exact hK (v_0) _ (hI.next hR (by kernel_rfl) hm2 (PB.quiet hI.1 hm2 (HGs.out D 4 _ _ (hI.1).g hm2)) (⟨v_0, upd_same V 4 _, hq⟩))
   ·intro D V zw1 a hR hI K hK
    obtain ⟨hM1, hB1, hG1⟩ := hI.1
    obtain ⟨hG1b, hG1c, hG1d⟩ := hG1
    have ze6 := hR.frame.other (t := 6) (by kernel_rfl) rfl
    rw [if_pos (by rfl)]
    go_simp
    exact hK (p2) _ (hI.next hR (by kernel_rfl) (Mod.refl _ _) (PB.quiet hI.1 (Mod.refl _ _) (HGs.out D 5 zw1 zw1 (hI.1).g (Mod.refl _ _))) (upd_same V 5 _))
   ·intro D V zw1 a hR hI K hK
    obtain ⟨hM1, hB1, hG1⟩ := hI.1
    obtain ⟨hG1b, hG1c, hG1d⟩ := hG1
    have ze5 := hR.frame.other (t := 5) (by kernel_rfl) rfl
    rw [if_pos (by rfl)]
    go_simp
    exact hK (p1) _ (hI.next hR (by kernel_rfl) (Mod.refl _ _) (PB.quiet hI.1 (Mod.refl _ _) (HGs.out D 6 zw1 zw1 (hI.1).g (Mod.refl _ _))) (upd_same V 6 _))
   ·intro D V zw1 a hR hI K hK
    obtain ⟨hM1, hB1, hG1⟩ := hI.1
    obtain ⟨hG1b, hG1c, hG1d⟩ := hG1
    have ze2 := hR.frame.other (t := 2) (by kernel_rfl) rfl
    rw [if_pos (by rfl)]
    go_simp
    exact hK (.pointer (some ⟨gb, 2, none⟩)) _ (hI.next hR (by kernel_rfl) (Mod.refl _ _) (PB.quiet hI.1 (Mod.refl _ _) (HGs.out D 7 zw1 zw1 (hI.1).g (Mod.refl _ _))) (upd_same V 7 _))
   ·intro D V zw1 a hR hI K hK
    obtain ⟨hM1, hB1, hG1⟩ := hI.1
    obtain ⟨hG1b, hG1c, hG1d⟩ := hG1
    have zd7 := hR.pred 7 (by kernel_rfl)
    have zF7 : V 7 = .pointer (some ⟨gb, 2, none⟩) := hI.2 7 zd7 rfl
    have zf7 := zF7; clear zF7
    have ze50 := hR.frame.done (t := 50) (j := 7) (by kernel_rfl) hR.ok zd7
    have zx2 := (hG1b).cell 2; have zy2 := (hG1b).frozen 2; simp at zx2
    rw [if_pos (by rfl)]
    go_simp
    exact hK (.int .i64 n) _ (hI.next hR (by kernel_rfl) (Mod.refl _ _) (PB.quiet hI.1 (Mod.refl _ _) (HGs.out D 8 zw1 zw1 (hI.1).g (Mod.refl _ _))) (upd_same V 8 _))
   ·intro D V zw1 a hR hI K hK
    obtain ⟨hM1, hB1, hG1⟩ := hI.1
    obtain ⟨hG1b, hG1c, hG1d⟩ := hG1
    have zd5 := hR.pred 5 (by kernel_rfl)
    have zF5 : V 5 = p2 := hI.2 5 zd5 rfl
    have zf5 := zF5; clear zF5
    have zd6 := hR.pred 6 (by kernel_rfl)
    have zF6 : V 6 = p1 := hI.2 6 zd6 rfl
    have zf6 := zF6; clear zF6
    have zd8 := hR.pred 8 (by kernel_rfl)
    have zF8 : V 8 = .int .i64 n := hI.2 8 zd8 rfl
    have zf8 := zF8; clear zF8
    have ze48 := hR.frame.done (t := 48) (j := 5) (by kernel_rfl) hR.ok zd5
    have ze49 := hR.frame.done (t := 49) (j := 6) (by kernel_rfl) hR.ok zd6
    have ze51 := hR.frame.done (t := 51) (j := 8) (by kernel_rfl) hR.ok zd8
    rw [if_pos (by rfl)]
    go_simp
    refine (ahead_calls zw1 p2 p1 wl.length F2 F1 n hG1d hG1c hW hn0 hn1).mono ?_
    rintro e zw2 ⟨v_0, rfl, hq, hm2⟩
    exact hK (v_0) _ (hI.next hR (by kernel_rfl) hm2 (PB.quiet hI.1 hm2 (HGs.out D 9 _ _ (hI.1).g hm2)) (⟨v_0, upd_same V 9 _, hq⟩))
   ·intro D V zw1 a hR hI K hK
    obtain ⟨hM1, hB1, hG1⟩ := hI.1
    obtain ⟨hG1b, hG1c, hG1d⟩ := hG1
    have zd4 := hR.pred 4 (by kernel_rfl)
    have zF4 : ∃ (v_4 : Value), V 4 = v_4 ∧ SlI zw1 v_4 (rowsQ wl.length (cutB F1 F2 n wl.length)) := hI.2 4 zd4 rfl
    obtain ⟨v_4, zf4, b4_0⟩ := zF4
    have zd9 := hR.pred 9 (by kernel_rfl)
    have zF9 : ∃ (v_9 : Value), V 9 = v_9 ∧ SlI zw1 v_9 (rowsQ wl.length (cutB F2 F1 n wl.length)) := hI.2 9 zd9 rfl
    obtain ⟨v_9, zf9, b9_0⟩ := zF9
    have ze47 := hR.frame.done (t := 47) (j := 4) (by kernel_rfl) hR.ok zd4
    have ze52 := hR.frame.done (t := 52) (j := 9) (by kernel_rfl) hR.ok zd9
    rw [if_pos (by rfl)]
    go_simp
    refine (both_calls zw1 v_4 v_9 wl.length (cutB F1 F2 n wl.length) (cutB F2 F1 n wl.length) b4_0 b9_0 hW).mono ?_
    rintro e zw2 ⟨v_0, rfl, hq, hm2⟩
    exact hK (v_0) _ (hI.next hR (by kernel_rfl) hm2 (PB.quiet hI.1 hm2 (HGs.out D 10 _ _ (hI.1).g hm2)) (⟨v_0, upd_same V 10 _, hq⟩))
   ·intro D V zw1 a hR hI K hK
    obtain ⟨hM1, hB1, hG1⟩ := hI.1
    obtain ⟨hG1b, hG1c, hG1d⟩ := hG1
    have zd10 := hR.pred 10 (by kernel_rfl)
    have zF10 : ∃ (v_10 : Value), V 10 = v_10 ∧ SlI zw1 v_10 (rowsQ wl.length (fun i j => cutB F1 F2 n wl.length i j || cutB F2 F1 n wl.length i j)) := hI.2 10 zd10 rfl
    obtain ⟨v_10, zf10, b10_0⟩ := zF10
    have ze53 := hR.frame.done (t := 53) (j := 10) (by kernel_rfl) hR.ok zd10
    rw [if_pos (by rfl)]
    go_simp
    exact hK (v_10) _ (hI.next hR (by kernel_rfl) (Mod.refl _ _) (PB.quiet hI.1 (Mod.refl _ _) (HGs.out D 11 zw1 zw1 (hI.1).g (Mod.refl _ _))) (⟨v_10, upd_same V 11 _, b10_0⟩))
  ·intro D V w3 hD hI
   obtain ⟨hM1, hB1, hG1⟩ := hI.1
   have hMx := hM1
   clear hM1
   have hBx := hB1
   clear hB1
   have hGx := hG1
   clear hG1
   have zF0 : V 0 = p1 := hI.2 0 (hD 0 (by decide)) rfl
   have zf0 := zF0; clear zF0
   have zF1 : V 1 = p2 := hI.2 1 (hD 1 (by decide)) rfl
   have zf1 := zF1; clear zF1
   have zF2 : V 2 = .pointer (some ⟨gb, 2, none⟩) := hI.2 2 (hD 2 (by decide)) rfl
   have zf2 := zF2; clear zF2
   have zF3 : V 3 = .int .i64 n := hI.2 3 (hD 3 (by decide)) rfl
   have zf3 := zF3; clear zF3
   have zF4 : ∃ (v_4 : Value), V 4 = v_4 ∧ SlI w3 v_4 (rowsQ wl.length (cutB F1 F2 n wl.length)) := hI.2 4 (hD 4 (by decide)) rfl
   obtain ⟨v_4, zf4, b4_0⟩ := zF4
   have zF5 : V 5 = p2 := hI.2 5 (hD 5 (by decide)) rfl
   have zf5 := zF5; clear zF5
   have zF6 : V 6 = p1 := hI.2 6 (hD 6 (by decide)) rfl
   have zf6 := zF6; clear zF6
   have zF7 : V 7 = .pointer (some ⟨gb, 2, none⟩) := hI.2 7 (hD 7 (by decide)) rfl
   have zf7 := zF7; clear zF7
   have zF8 : V 8 = .int .i64 n := hI.2 8 (hD 8 (by decide)) rfl
   have zf8 := zF8; clear zF8
   have zF9 : ∃ (v_9 : Value), V 9 = v_9 ∧ SlI w3 v_9 (rowsQ wl.length (cutB F2 F1 n wl.length)) := hI.2 9 (hD 9 (by decide)) rfl
   obtain ⟨v_9, zf9, b9_0⟩ := zF9
   have zF10 : ∃ (v_10 : Value), V 10 = v_10 ∧ SlI w3 v_10 (rowsQ wl.length (fun i j => cutB F1 F2 n wl.length i j || cutB F2 F1 n wl.length i j)) := hI.2 10 (hD 10 (by decide)) rfl
   obtain ⟨v_10, zf10, b10_0⟩ := zF10
   have zF11 : ∃ (v_11 : Value), V 11 = v_11 ∧ SlI w3 v_11 (rowsQ wl.length (fun i j => cutB F1 F2 n wl.length i j || cutB F2 F1 n wl.length i j)) := hI.2 11 (hD 11 (by decide)) rfl
   obtain ⟨v_11, zf11, b11_0⟩ := zF11
   clear hI hD HGs
   simp only [frAll, Act.put, List.setIfInBounds_toArray, List.set_cons_zero, List.set_cons_succ, Nat.zero_add, Nat.reduceAdd, zf0, zf1, zf2, zf3, zf4, zf5, zf6, zf7, zf8, zf9, zf10, zf11]
   clear zf0 zf1 zf2 zf3 zf4 zf5 zf6 zf7 zf8 zf9 zf10 zf11
   clear V D
   have HR := Lib.hid b11_0
   have HME := Lib.hid (HMX.out.trans hMx)
   clear hGx hMx b4_0 b9_0 b10_0 b11_0 HS1 HS2 HBX
   go_wp2_with fail
   go_ret
   exact ⟨_, rfl, HR.out, HME.out⟩

end Go.Proofs.YtbajgjbdcgakoaaGreatDoor

/- Matches of a search of two patterns near to each other (package query). -/
namespace Go.Proofs.YtbajgjbdcgakoaaGreatDoor
set_option linter.unusedVariables false
set_option linter.unusedSimpArgs false
open Go.RowKit
abbrev SlcT := Option Addr × Nat × Nat
def slcV (l : List SlcT) : List Value := l.map fun x => .slice x.1 x.2.1 x.2.2
theorem slcV_get (l : List SlcT) (i : Nat) (h : i < l.length) : (slcV l)[i]? = some (.slice l[i].1 l[i].2.1 l[i].2.2) := by simp [slcV, h]
def decS : Value → SlcT
 | .slice A n c => (A, n, c)
 | _ => (none, 0, 0)
theorem slc_of {w : World} {v : Value} {rs : List (List Nat)} (h : SlI w v rs) : ∃ xs : List SlcT, Sl w 22 1 v (slcV xs) ∧ xs.map (·.2.1) = rs.map List.length := by
 obtain ⟨us, h1, h2, h3⟩ := h
 refine ⟨us.map decS, ?_, ?_⟩
 ·have e : slcV (us.map decS) = us := by
   refine List.ext_getElem (by simp [slcV]) fun i a b => ?_
   obtain ⟨u, hu, hs, _⟩ := h3 i (by omega)
   obtain ⟨A, n, c, rfl⟩ := hs.form
   rw [List.getElem?_eq_getElem b] at hu
   injection hu with hu
   simp only [slcV, List.getElem_map, hu, decS]
  rw [e]
  exact h1
 ·refine List.ext_getElem (by simp [h2]) fun i a b => ?_
  have hi : i < rs.length := by simpa using b
  obtain ⟨u, hu, hs, _⟩ := h3 i hi
  obtain ⟨A, n, c, rfl⟩ := hs.form
  have hl := hs.lenI.1
  rw [nvQ_len] at hl
  rw [List.getElem?_eq_getElem (by omega)] at hu
  injection hu with hu
  simp only [List.getElem_map, hu, decS]
  exact hl

set_option maxRecDepth 100000 in
set_option maxHeartbeats 1000000 in
theorem indexRn_calls (w : World) (v : Value) (xs : List SlcT) (F : Nat) (P : SlcT → Bool) (hv : Sl w 22 1 v (slcV xs))
  (hcf : ∀ (x : SlcT) (W : World), Sem.run Tryz.prog (callFunc F #[.slice x.1 x.2.1 x.2.2]) W = .ok (.enter F #[.slice x.1 x.2.1 x.2.2]) W)
  (hF : ∀ (x : SlcT) (W : World), x ∈ xs → Pure w W → Calls Tryz.prog F #[.slice x.1 x.2.1 x.2.2] W (BoolPost W (P x))) :
  Calls Tryz.prog 189 #[v, .func (.func F) #[] #[]] w (IntPost w (idxQ P xs 0)) := by
 have HF := Lib.hid hF
 obtain ⟨A, n, c, rfl, hc1, hc2, hl, hr⟩ := hv
 have hln : xs.length = n := by simpa [slcV] using hl
 subst hln
 have HR := Lib.hid hr
 clear hF hl hr
 go_enter Tryz.func189, Tryz.ntmps189
 go_wp2_with fail
 go_loopg [8] xs.length (fun gk i wr => ∃ k : Nat, xs.length - k = gk ∧ k ≤ xs.length ∧ i = .int .i64 (k : Int) ∧ idxQ P xs 0 = idxQ P (xs.drop k) (k : Int) ∧ Pure w wr)
 case atStart => exact ⟨0, by omega, by omega, rfl, rfl, Mod.refl _ _⟩
 case round =>
  obtain ⟨k, rfl, hk, rfl, hix, hm⟩ := hrel
  have HIX := Lib.hid hix
  clear hix
  by_cases hlt : k < xs.length
  ·obtain ⟨g, off, rfl, hrow⟩ := HR.out (by omega)
   have hq := (hrow.mod hm id).cell (slcV_get xs k hlt)
   have hd : xs.drop k = xs[k] :: xs.drop (k + 1) := List.drop_eq_getElem_cons hlt
   have hcall := HF.out xs[k] wr (List.getElem_mem hlt) hm
   have hi2 : idxQ P xs 0 = if P xs[k] then (k : Int) else idxQ P (xs.drop (k + 1)) ((k : Int) + 1) := by rw [HIX.out, hd]; rfl
   have HI2 := Lib.hid hi2
   have HC := Lib.hid hcall
   clear hd hi2 hcall hrow HIX
   generalize xs[k] = x at *
   go_wp2_with fail
   refine HC.out.mono ?_
   rintro e w1 ⟨rfl, hm1⟩
   cases hp : P x
   ·go_wp2_with fail
    go_roundg (xs.length - (k + 1))
    case measure => omega
    case rel => exact ⟨k + 1, rfl, hlt, by simp, by rw [HI2.out, hp]; simp, hm.trans hm1⟩
   ·go_wp2_with fail
    go_ret
    exact IntPost.of (by rw [HI2.out, hp]; rfl) (hm.trans hm1)
  ·have hke : k = xs.length := by omega
   subst hke
   go_wp2_with fail
   go_ret
   exact IntPost.of (by rw [HIX.out, List.drop_of_length_le (Nat.le_refl _)]; rfl) hm


set_option maxRecDepth 100000 in
set_option maxHeartbeats 1000000 in
theorem containsRn_calls (w : World) (v : Value) (xs : List SlcT) (F : Nat) (P : SlcT → Bool) (hv : Sl w 22 1 v (slcV xs))
  (hcf : ∀ (x : SlcT) (W : World), Sem.run Tryz.prog (callFunc F #[.slice x.1 x.2.1 x.2.2]) W = .ok (.enter F #[.slice x.1 x.2.1 x.2.2]) W)
  (hF : ∀ (x : SlcT) (W : World), x ∈ xs → Pure w W → Calls Tryz.prog F #[.slice x.1 x.2.1 x.2.2] W (BoolPost W (P x))) :
  Calls Tryz.prog 156 #[v, .func (.func F) #[] #[]] w (BoolPost w (xs.any P)) := by
 have HC := Lib.hid (indexRn_calls w v xs F  P hv hcf hF)
 have HI := Lib.hid (idxQ_any P xs 0 (by omega))
 clear hcf hF
 obtain ⟨A, n, c, rfl⟩ := hv.form
 clear hv
 go_enter Tryz.func156, Tryz.ntmps156
 go_wp2_with fail
 refine HC.out.mono ?_
 rintro e w1 ⟨rfl, hm1⟩
 generalize idxQ P xs 0 = r at *
 go_wp2_with fail
 go_ret
 exact BoolPost.of HI.out.symm hm1


end Go.Proofs.YtbajgjbdcgakoaaGreatDoor

/- What is found (package query): for a search of two patterns near to each other. -/
namespace Go.Proofs.YtbajgjbdcgakoaaGreatDoor
set_option linter.unusedVariables false
set_option linter.unusedSimpArgs false
open Go.RowKit
set_option maxRecDepth 100000 in
set_option maxHeartbeats 1000000 in
theorem some1_calls (x : SlcT) (W : World) : Calls Tryz.prog 158 #[.slice x.1 x.2.1 x.2.2] W (BoolPost W (decide (0 < x.2.1))) := by
 obtain ⟨A, n, c⟩ := x
 go_enter Tryz.func158, Tryz.ntmps158
 go_wp2_with fail
 go_ret
 exact BoolPost.of (by simp) (Mod.refl _ _)
/-- A target: an item, and its words. -/
def tgL (x : Itm) (vw : Value) : List Value := [.string ⟨x.id.toArray⟩, .string ⟨x.cust.toArray⟩, .int .i64 x.kind, .string ⟨x.name.toArray⟩, .int .i64 x.tm, .string ⟨x.par.toArray⟩, .string ⟨x.text.toArray⟩, vw]
def tgA (x : Itm) (vw : Value) : Value := .agg (tgL x vw).toArray
set_option maxRecDepth 100000 in
set_option maxHeartbeats 4000000 in
theorem somewhere_calls (w : World) (x : Itm) (A : Option Addr) (n c : Nat) (qr : QR) (W : Nat) (F : Nat → Nat → Bool) (hW : W ≤ 1000000) (hP : ∀ W', Pure w W' → Calls Tryz.prog 157 #[qA qr, .slice A n c] W' (RnP W' W F)) :
  Calls Tryz.prog 121 #[tgA x (.slice A n c), qA qr] w (BoolPost w (somePl F W)) := by
 have HP := Lib.hid hP
 clear hP
 obtain ⟨k, Aq, cq, ws, nq, Bq, dq, xs⟩ := qr
 unfold tgA tgL
 simp only [qA_mk] at HP ⊢
 obtain ⟨w1, hw1⟩ : ∃ w1, w1 = w.alloc (.cells #[.string ⟨x.id.toArray⟩, .string ⟨x.cust.toArray⟩, .int .i64 x.kind, .string ⟨x.name.toArray⟩, .int .i64 x.tm, .string ⟨x.par.toArray⟩, .string ⟨x.text.toArray⟩, .slice A n c] 115) := ⟨_, rfl⟩
 have hb1 := (Blk.new w 115 #[.string ⟨x.id.toArray⟩, .string ⟨x.cust.toArray⟩, .int .i64 x.kind, .string ⟨x.name.toArray⟩, .int .i64 x.tm, .string ⟨x.par.toArray⟩, .string ⟨x.text.toArray⟩, .slice A n c]).alloc (.cells #[.int .i64 k, .slice Aq ws.length cq, .int .i64 nq, .slice Bq xs.length dq] 29)
 have hb2 := Blk.snd w (.cells #[.string ⟨x.id.toArray⟩, .string ⟨x.cust.toArray⟩, .int .i64 x.kind, .string ⟨x.name.toArray⟩, .int .i64 x.tm, .string ⟨x.par.toArray⟩, .string ⟨x.text.toArray⟩, .slice A n c] 115) 29 #[.int .i64 k, .slice Aq ws.length cq, .int .i64 nq, .slice Bq xs.length dq]
 have HM : Hid (Pure w ((w.alloc (.cells #[.string ⟨x.id.toArray⟩, .string ⟨x.cust.toArray⟩, .int .i64 x.kind, .string ⟨x.name.toArray⟩, .int .i64 x.tm, .string ⟨x.par.toArray⟩, .string ⟨x.text.toArray⟩, .slice A n c] 115)).alloc (.cells #[.int .i64 k, .slice Aq ws.length cq, .int .i64 nq, .slice Bq xs.length dq] 29))) := Lib.hid (((Mod.refl _ _).alloc _).alloc _)
 have HPX := Lib.hid (HP.out _ HM.out)
 have x0 := hb1.cell 0; have x1 := hb1.cell 1; have x2 := hb1.cell 2; have x3 := hb1.cell 3; have x4 := hb1.cell 4; have x5 := hb1.cell 5; have x6 := hb1.cell 6; have x7 := hb1.cell 7; simp at x0 x1 x2 x3 x4 x5 x6 x7
 have y0 := hb2.cell 0; have y1 := hb2.cell 1; have y2 := hb2.cell 2; have y3 := hb2.cell 3; simp at y0 y1 y2 y3
 clear hw1 w1 hb1 hb2
 go_enter Tryz.func121, Tryz.ntmps121
 go_wp2_with fail
 refine HPX.out.mono ?_
 rintro e w2 ⟨v, rfl, hs, hm⟩
 obtain ⟨zs, hz1, hz2⟩ := slc_of hs
 have hany : zs.any (fun x => decide (0 < x.2.1)) = somePl F W := by
  rw [somePl_rows]
  have h1 : zs.any (fun x => decide (0 < x.2.1)) = (zs.map (·.2.1)).any (fun n => decide (0 < n)) := by rw [List.any_map]; rfl
  have h2 : (rowsQ W F).any (fun l => decide (0 < l.length)) = ((rowsQ W F).map List.length).any (fun n => decide (0 < n)) := by rw [List.any_map]; rfl
  rw [h1, h2, hz2]
 have HC := Lib.hid (containsRn_calls w2 v zs 158 (fun x => decide (0 < x.2.1)) hz1 (fun x W => rfl) (fun x W _ _ => some1_calls x W))
 rw [hany] at HC
 have HM2 := Lib.hid (HM.out.trans hm)
 clear hs hm hz1 hz2 hany HPX
 go_wp2_with fail
 refine HC.out.mono ?_
 rintro e w3 ⟨rfl, hm3⟩
 go_wp2_with fail
 go_ret
 exact ⟨rfl, HM2.out.trans hm3⟩
set_option maxRecDepth 100000 in
set_option maxHeartbeats 4000000 in
theorem found4_calls (w : World) (x : Itm) (A : Option Addr) (n c : Nat) (Aq Bq : Option Addr) (cq dq : Nat) (nq : Int) (ws : List Str) (xs : List QR) (W : Nat) (F : Nat → Nat → Bool) (hW : W ≤ 1000000) (hP : ∀ W', Pure w W' → Calls Tryz.prog 157 #[qA (.mk 4 Aq cq ws nq Bq dq xs), .slice A n c] W' (RnP W' W F)) :
  Calls Tryz.prog 82 #[tgA x (.slice A n c), qA (.mk 4 Aq cq ws nq Bq dq xs)] w (BoolPost w (somePl F W)) := by
 have HP := Lib.hid hP
 clear hP
 have hb1 := (Blk.new w 115 #[.string ⟨x.id.toArray⟩, .string ⟨x.cust.toArray⟩, .int .i64 x.kind, .string ⟨x.name.toArray⟩, .int .i64 x.tm, .string ⟨x.par.toArray⟩, .string ⟨x.text.toArray⟩, .slice A n c]).alloc (.cells #[.int .i64 4, .slice Aq ws.length cq, .int .i64 nq, .slice Bq xs.length dq] 29)
 have hb2 := Blk.snd w (.cells #[.string ⟨x.id.toArray⟩, .string ⟨x.cust.toArray⟩, .int .i64 x.kind, .string ⟨x.name.toArray⟩, .int .i64 x.tm, .string ⟨x.par.toArray⟩, .string ⟨x.text.toArray⟩, .slice A n c] 115) 29 #[.int .i64 4, .slice Aq ws.length cq, .int .i64 nq, .slice Bq xs.length dq]
 have HM : Hid (Pure w ((w.alloc (.cells #[.string ⟨x.id.toArray⟩, .string ⟨x.cust.toArray⟩, .int .i64 x.kind, .string ⟨x.name.toArray⟩, .int .i64 x.tm, .string ⟨x.par.toArray⟩, .string ⟨x.text.toArray⟩, .slice A n c] 115)).alloc (.cells #[.int .i64 4, .slice Aq ws.length cq, .int .i64 nq, .slice Bq xs.length dq] 29))) := Lib.hid (((Mod.refl _ _).alloc _).alloc _)
 have HS := Lib.hid (somewhere_calls _ x A n c (.mk 4 Aq cq ws nq Bq dq xs) W F hW (fun W' h => HP.out W' (HM.out.trans h)))
 unfold tgA tgL at *
 rw [qA_mk] at HS ⊢
 have x0 := hb1.cell 0; have x1 := hb1.cell 1; have x2 := hb1.cell 2; have x3 := hb1.cell 3; have x4 := hb1.cell 4; have x5 := hb1.cell 5; have x6 := hb1.cell 6; have x7 := hb1.cell 7; simp at x0 x1 x2 x3 x4 x5 x6 x7
 have y0 := hb2.cell 0; have y1 := hb2.cell 1; have y2 := hb2.cell 2; have y3 := hb2.cell 3; simp at y0 y1 y2 y3
 clear hb1 hb2
 go_enter Tryz.func82, Tryz.ntmps82
 go_wp2_with fail
 refine HS.out.mono ?_
 rintro e w3 ⟨rfl, hm3⟩
 go_wp2_with fail
 go_ret
 exact ⟨rfl, HM.out.trans hm3⟩

end Go.Proofs.YtbajgjbdcgakoaaGreatDoor

/- Matches (package query), for a right search of two patterns near to each other and a right item. -/
namespace Go.Proofs.YtbajgjbdcgakoaaGreatDoor
set_option linter.unusedVariables false
set_option linter.unusedSimpArgs false
open Go.RowKit
def NtP (w : World) (x : Itm) (e : Ending) (w' : World) : Prop := ∃ A n c, e = .returned (tgA x (.slice A n c)) ∧ Wds w' (.slice A n c) (wordsQ x.text) ∧ Pure w w'
set_option maxRecDepth 100000 in
set_option maxHeartbeats 4000000 in
theorem newTarget_calls (w : World) (x : Itm) (ht : x.text.length ≤ 1000000) : Calls Tryz.prog 81 #[itA x] w (NtP w x) := by
 have hb1 := (Blk.new w 68 #[.string ⟨x.id.toArray⟩, .string ⟨x.cust.toArray⟩, .int .i64 x.kind, .string ⟨x.name.toArray⟩, .int .i64 x.tm, .string ⟨x.par.toArray⟩, .string ⟨x.text.toArray⟩]).alloc (.cells #[.string ⟨#[]⟩, .string ⟨#[]⟩, .int .i64 0, .string ⟨#[]⟩, .int .i64 0, .string ⟨#[]⟩, .string ⟨#[]⟩, .slice none 0 0] 115)
 have hb2 := Blk.snd w (.cells #[.string ⟨x.id.toArray⟩, .string ⟨x.cust.toArray⟩, .int .i64 x.kind, .string ⟨x.name.toArray⟩, .int .i64 x.tm, .string ⟨x.par.toArray⟩, .string ⟨x.text.toArray⟩] 68) 115 #[.string ⟨#[]⟩, .string ⟨#[]⟩, .int .i64 0, .string ⟨#[]⟩, .int .i64 0, .string ⟨#[]⟩, .string ⟨#[]⟩, .slice none 0 0]
 have HM : Hid (Pure w ((w.alloc (.cells #[.string ⟨x.id.toArray⟩, .string ⟨x.cust.toArray⟩, .int .i64 x.kind, .string ⟨x.name.toArray⟩, .int .i64 x.tm, .string ⟨x.par.toArray⟩, .string ⟨x.text.toArray⟩] 68)).alloc (.cells #[.string ⟨#[]⟩, .string ⟨#[]⟩, .int .i64 0, .string ⟨#[]⟩, .int .i64 0, .string ⟨#[]⟩, .string ⟨#[]⟩, .slice none 0 0] 115))) := Lib.hid (((Mod.refl _ _).alloc _).alloc _)
 have HB1 := Lib.hid hb1
 have HB2 := Lib.hid hb2
 have hbu : w.heap.size + 1 ≤ w.heap.size + 1 := Nat.le_refl _
 clear hb1 hb2
 unfold itA
 go_enter Tryz.func81, Tryz.ntmps81
 go_upto_region 1 with (fail)
 generalize ((w.alloc (.cells #[.string ⟨x.id.toArray⟩, .string ⟨x.cust.toArray⟩, .int .i64 x.kind, .string ⟨x.name.toArray⟩, .int .i64 x.tm, .string ⟨x.par.toArray⟩, .string ⟨x.text.toArray⟩] 68)).alloc (.cells #[.string ⟨#[]⟩, .string ⟨#[]⟩, .int .i64 0, .string ⟨#[]⟩, .int .i64 0, .string ⟨#[]⟩, .string ⟨#[]⟩, .slice none 0 0] 115)) = w1 at *
 obtain ⟨b1, hb1⟩ : ∃ b, w.heap.size = b := ⟨_, rfl⟩
 rw [hb1] at HB1 HB2
 simp only [hb1]
 obtain ⟨b2, hb2⟩ : ∃ b, b1 + 1 = b := ⟨_, rfl⟩
 rw [hb2] at HB2
 simp only [hb2]
 have hbl : w.heap.size ≤ b2 := by omega
 clear hb1 hb2 hbu
 have h1 := HB1.out
 have u0 := h1.cell 0; have u1 := h1.cell 1; have u2 := h1.cell 2; have u3 := h1.cell 3; have u4 := h1.cell 4; have u5 := h1.cell 5; have u6 := h1.cell 6; simp at u0 u1 u2 u3 u4 u5 u6
 clear h1
 have HWD := Lib.hid (fun W => words_calls W x.text ht)
 go_region_with (go_at_call 114; (refine (HWD.out _).mono ?_); rintro e w5 ⟨v, rfl, hq, hm5⟩; obtain ⟨A, n, c, rfl⟩ := (Sl.of_own hq).form; have hP5 := ((Mod.refl (fun _ => False) w1).drew).trans hm5; have hc2 := HB2.out.modp hP5; have hc1 := HB1.out.modp hP5; have q0 := hc2.cell 0; have qf0 := hc2.frozen 0; have q1 := hc2.cell 1; have qf1 := hc2.frozen 1; have q2 := hc2.cell 2; have qf2 := hc2.frozen 2; have q3 := hc2.cell 3; have qf3 := hc2.frozen 3; have q4 := hc2.cell 4; have qf4 := hc2.frozen 4; have q5 := hc2.cell 5; have qf5 := hc2.frozen 5; have q6 := hc2.cell 6; have qf6 := hc2.frozen 6; have q7 := hc2.cell 7; have qf7 := hc2.frozen 7; simp at q0 q1 q2 q3 q4 q5 q6 q7; have r0 := hc1.cell 0; have r1 := hc1.cell 1; have r2 := hc1.cell 2; have r3 := hc1.cell 3; have r4 := hc1.cell 4; have r5 := hc1.cell 5; have r6 := hc1.cell 6; simp at r0 r1 r2 r3 r4 r5 r6)
 all_goals
  have HS := Lib.hid (show Wds w5 (.slice A n c) (wordsQ x.text) from Sl.of_own hq)
  have HP5 := Lib.hid hP5
  have HC2 := Lib.hid hc2
  clear hq hm5 hP5 hc1 hc2
  try simp only [Exit.inBlock, Exit.then]
  have h9 := (((((((HC2.out.set 0 (.string ⟨x.id.toArray⟩)).set 1 (.string ⟨x.cust.toArray⟩)).set 2 (.int .i64 x.kind)).set 3 (.string ⟨x.name.toArray⟩)).set 4 (.int .i64 x.tm)).set 5 (.string ⟨x.par.toArray⟩)).set 6 (.string ⟨x.text.toArray⟩)).set 7 (.slice A n c)
  simp at h9
  have hm9 := mod_set (mod_set (mod_set (mod_set (mod_set (mod_set (mod_set (mod_set (Mod.refl (· = b2) w5) 0 (.string ⟨x.id.toArray⟩)) 1 (.string ⟨x.cust.toArray⟩)) 2 (.int .i64 x.kind)) 3 (.string ⟨x.name.toArray⟩)) 4 (.int .i64 x.tm)) 5 (.string ⟨x.par.toArray⟩)) 6 (.string ⟨x.text.toArray⟩)) 7 (.slice A n c)
  have HS9 := Lib.hid (Sl.mod HS.out hm9 (fun g arr fr hg he => by subst he; have h := HC2.out; unfold Blk at h; rw [h] at hg; injection hg with hg; injection hg with _ hg; exact absurd hg (by decide)))
  have HM9 := Lib.hid ((HM.out.trans HP5.out).trans' hm9 (fun i hi hlt => by omega))
  have z0 := h9.cell 0; have z1 := h9.cell 1; have z2 := h9.cell 2; have z3 := h9.cell 3; have z4 := h9.cell 4; have z5 := h9.cell 5; have z6 := h9.cell 6; have z7 := h9.cell 7; simp at z0 z1 z2 z3 z4 z5 z6 z7
  clear hm9 h9
  go_wp2_with fail
  try simp only [Exit.inBlock, Exit.then]
  refine bodyPost_ret (v := .agg #[.string ⟨x.id.toArray⟩, .string ⟨x.cust.toArray⟩, .int .i64 x.kind, .string ⟨x.name.toArray⟩, .int .i64 x.tm, .string ⟨x.par.toArray⟩, .string ⟨x.text.toArray⟩, .slice A n c]) (by simp [results, Tryz.results81, go_sem, z0, z1, z2, z3, z4, z5, z6, z7]) rfl ?_
  exact ⟨A, n, c, rfl, HS9.out, HM9.out⟩
set_option maxRecDepth 100000 in
set_option maxHeartbeats 4000000 in
theorem matches4_calls (w : World) (x : Itm) (Aq Bq : Option Addr) (cq dq : Nat) (nq : Int) (ws : List Str) (xs : List QR) (F : Nat → Nat → Bool) (hx : ItL x) (hE : Env w) (hie : itemE x = 0) (hQ : QS w (.mk 4 Aq cq ws nq Bq dq xs)) (hB : QB 1000 (QR.mk 4 Aq cq ws nq Bq dq xs).key) (hc : checkQ (QR.mk 4 Aq cq ws nq Bq dq xs).key = 0) (hW : (wordsQ x.text).length ≤ 1000000)
  (hP : ∀ W' A n c, Pure w W' → Wds W' (.slice A n c) (wordsQ x.text) → Calls Tryz.prog 157 #[qA (.mk 4 Aq cq ws nq Bq dq xs), .slice A n c] W' (RnP W' (wordsQ x.text).length F)) :
  Calls Tryz.prog 36 #[qA (.mk 4 Aq cq ws nq Bq dq xs), itA x] w (fun e w' => e = .returned (.tuple #[.bool (somePl F (wordsQ x.text).length), .int .i64 0]) ∧ Pure w w') := by
 have hxt : x.text.length ≤ 1000000 := by have := hx.2.2.2.2; omega
 have HCK := Lib.hid (fun W (h : QS W (QR.mk 4 Aq cq ws nq Bq dq xs)) => by have h2 := qcheck_calls W (.mk 4 Aq cq ws nq Bq dq xs) h hB; rw [hc] at h2; exact h2)
 have HIC := Lib.hid (fun W (h : Pure w W) => by have h2 := checkItemL_calls W x hx (hE.pure h); rw [hie] at h2; exact h2)
 have HNT := Lib.hid (fun W => newTarget_calls W x hxt)
 have HFD := Lib.hid (fun W A n c (h : Pure w W) (hw : Wds W (.slice A n c) (wordsQ x.text)) => found4_calls W x A n c Aq Bq cq dq nq ws xs (wordsQ x.text).length F hW (fun W' h' => hP W' A n c (h.trans h') (hw.pure h')))
 have HQ := Lib.hid hQ
 have hb1 := (Blk.new w 29 #[.int .i64 4, .slice Aq ws.length cq, .int .i64 nq, .slice Bq xs.length dq]).alloc (.cells #[.string ⟨x.id.toArray⟩, .string ⟨x.cust.toArray⟩, .int .i64 x.kind, .string ⟨x.name.toArray⟩, .int .i64 x.tm, .string ⟨x.par.toArray⟩, .string ⟨x.text.toArray⟩] 68)
 have hb2 := Blk.snd w (.cells #[.int .i64 4, .slice Aq ws.length cq, .int .i64 nq, .slice Bq xs.length dq] 29) 68 #[.string ⟨x.id.toArray⟩, .string ⟨x.cust.toArray⟩, .int .i64 x.kind, .string ⟨x.name.toArray⟩, .int .i64 x.tm, .string ⟨x.par.toArray⟩, .string ⟨x.text.toArray⟩]
 have HM : Hid (Pure w ((w.alloc (.cells #[.int .i64 4, .slice Aq ws.length cq, .int .i64 nq, .slice Bq xs.length dq] 29)).alloc (.cells #[.string ⟨x.id.toArray⟩, .string ⟨x.cust.toArray⟩, .int .i64 x.kind, .string ⟨x.name.toArray⟩, .int .i64 x.tm, .string ⟨x.par.toArray⟩, .string ⟨x.text.toArray⟩] 68))) := Lib.hid (((Mod.refl _ _).alloc _).alloc _)
 have HB1 := Lib.hid hb1
 have HB2 := Lib.hid hb2
 clear hb1 hb2 hx hE hie hQ hB hc hP hxt
 simp only [qA_mk] at HCK HFD ⊢
 unfold itA at HIC HNT ⊢
 generalize somePl F (wordsQ x.text).length = ans at *
 go_enter Tryz.func36, Tryz.ntmps36
 go_upto_region 1 with (fail)
 generalize ((w.alloc (.cells #[.int .i64 4, .slice Aq ws.length cq, .int .i64 nq, .slice Bq xs.length dq] 29)).alloc (.cells #[.string ⟨x.id.toArray⟩, .string ⟨x.cust.toArray⟩, .int .i64 x.kind, .string ⟨x.name.toArray⟩, .int .i64 x.tm, .string ⟨x.par.toArray⟩, .string ⟨x.text.toArray⟩] 68)) = w1 at *
 obtain ⟨b1, hb1⟩ : ∃ b, w.heap.size = b := ⟨_, rfl⟩
 rw [hb1] at HB1 HB2
 simp only [hb1]
 obtain ⟨b2, hb2⟩ : ∃ b, b1 + 1 = b := ⟨_, rfl⟩
 rw [hb2] at HB2
 simp only [hb2]
 clear hb1 hb2
 have HGs := Lib.hid (show ∀ (D : Nat → Bool) (zzi : Nat) (zq zq' : World), (fun _ zq => (fun Z => Blk Z b1 29 #[.int .i64 4, .slice Aq ws.length cq, .int .i64 nq, .slice Bq xs.length dq] ∧ Blk Z b2 68 #[.string ⟨x.id.toArray⟩, .string ⟨x.cust.toArray⟩, .int .i64 x.kind, .string ⟨x.name.toArray⟩, .int .i64 x.tm, .string ⟨x.par.toArray⟩, .string ⟨x.text.toArray⟩]) zq) D zq → Mod (fun _ => False) zq zq' → (fun _ zq => (fun Z => Blk Z b1 29 #[.int .i64 4, .slice Aq ws.length cq, .int .i64 nq, .slice Bq xs.length dq] ∧ Blk Z b2 68 #[.string ⟨x.id.toArray⟩, .string ⟨x.cust.toArray⟩, .int .i64 x.kind, .string ⟨x.name.toArray⟩, .int .i64 x.tm, .string ⟨x.par.toArray⟩, .string ⟨x.text.toArray⟩]) zq) (upd D zzi true) zq' from by intro D zzi zq zq' h hm; (exact ⟨h.1.modp hm, h.2.modp hm⟩))
 refine wp_region_inv (by kernel_rfl) (by kernel_rfl) (InvF (R := Mod (fun _ => False)) [.is (.agg #[.int .i64 4, .slice Aq ws.length cq, .int .i64 nq, .slice Bq xs.length dq]),
   .is (.int .i64 0),
   .is (.agg #[.string ⟨x.id.toArray⟩, .string ⟨x.cust.toArray⟩, .int .i64 x.kind, .string ⟨x.name.toArray⟩, .int .i64 x.tm, .string ⟨x.par.toArray⟩, .string ⟨x.text.toArray⟩]),
   .is (.int .i64 0),
   ⟨fun zv zw => ∃ (g_4 : Nat), zv = .slice (some ⟨g_4, 0, none⟩) 2 2 ∧ w1.heap.size ≤ g_4 ∧ Blk zw g_4 30 #[.int .i64 0, .int .i64 0], (by rintro zv zw zx ⟨g_4, rfl, c0, q0⟩ hm; exact ⟨g_4, rfl, c0, (q0.modp hm)⟩), none, some 5⟩,
   .is (.int .i64 0),
   .is (.int .i64 0)]
   (PB w1 (fun _ => False) w1.heap.size (fun _ zq => (fun Z => Blk Z b1 29 #[.int .i64 4, .slice Aq ws.length cq, .int .i64 nq, .slice Bq xs.length dq] ∧ Blk Z b2 68 #[.string ⟨x.id.toArray⟩, .string ⟨x.cust.toArray⟩, .int .i64 x.kind, .string ⟨x.name.toArray⟩, .int .i64 x.tm, .string ⟨x.par.toArray⟩, .string ⟨x.text.toArray⟩]) zq))) (InvF.start (PB.start (Mod.refl _ _) (Nat.le_refl _) (⟨HB1.out.drew, HB2.out.drew⟩))) ?_ ?_
 ·refine .cons ?_ (.cons ?_ (.cons ?_ (.cons ?_ (.cons ?_ (.cons ?_ (.cons ?_ .nil))))))
  ·intro D V zw1 a hR hI K hK
   obtain ⟨hM1, hB1, hG1⟩ := hI.1
   obtain ⟨hG1b, hG1c⟩ := hG1
   have ze2 := hR.frame.other (t := 2) (by kernel_rfl) rfl
   have zx0 := (hG1b).cell 0; have zy0 := (hG1b).frozen 0; simp at zx0
   have zx1 := (hG1b).cell 1; have zy1 := (hG1b).frozen 1; simp at zx1
   have zx2 := (hG1b).cell 2; have zy2 := (hG1b).frozen 2; simp at zx2
   have zx3 := (hG1b).cell 3; have zy3 := (hG1b).frozen 3; simp at zx3
   rw [if_pos (by rfl)]
   go_simp
   exact hK (.agg #[.int .i64 4, .slice Aq ws.length cq, .int .i64 nq, .slice Bq xs.length dq]) _ (hI.next hR (by kernel_rfl) (Mod.refl _ _) (PB.quiet hI.1 (Mod.refl _ _) (HGs.out D 0 zw1 zw1 (hI.1).g (Mod.refl _ _))) (upd_same V 0 _))
  ·intro D V zw1 a hR hI K hK
   obtain ⟨hM1, hB1, hG1⟩ := hI.1
   obtain ⟨hG1b, hG1c⟩ := hG1
   have zd0 := hR.pred 0 (by kernel_rfl)
   have zF0 : V 0 = .agg #[.int .i64 4, .slice Aq ws.length cq, .int .i64 nq, .slice Bq xs.length dq] := hI.2 0 zd0 rfl
   have zf0 := zF0; clear zF0
   have ze7 := hR.frame.done (t := 7) (j := 0) (by kernel_rfl) hR.ok zd0
   rw [if_pos (by rfl)]
   go_simp
   refine (HCK.out zw1 (HQ.out.pure (HM.out.trans hM1))).mono ?_
   rintro e zw2 ⟨rfl, hm2⟩
   exact hK (.int .i64 0) _ (hI.next hR (by kernel_rfl) hm2 (PB.quiet hI.1 hm2 (HGs.out D 1 _ _ (hI.1).g hm2)) (upd_same V 1 _))
  ·intro D V zw1 a hR hI K hK
   obtain ⟨hM1, hB1, hG1⟩ := hI.1
   obtain ⟨hG1b, hG1c⟩ := hG1
   have ze3 := hR.frame.other (t := 3) (by kernel_rfl) rfl
   have zx0 := (hG1c).cell 0; have zy0 := (hG1c).frozen 0; simp at zx0
   have zx1 := (hG1c).cell 1; have zy1 := (hG1c).frozen 1; simp at zx1
   have zx2 := (hG1c).cell 2; have zy2 := (hG1c).frozen 2; simp at zx2
   have zx3 := (hG1c).cell 3; have zy3 := (hG1c).frozen 3; simp at zx3
   have zx4 := (hG1c).cell 4; have zy4 := (hG1c).frozen 4; simp at zx4
   have zx5 := (hG1c).cell 5; have zy5 := (hG1c).frozen 5; simp at zx5
   have zx6 := (hG1c).cell 6; have zy6 := (hG1c).frozen 6; simp at zx6
   rw [if_pos (by rfl)]
   go_simp
   exact hK (.agg #[.string ⟨x.id.toArray⟩, .string ⟨x.cust.toArray⟩, .int .i64 x.kind, .string ⟨x.name.toArray⟩, .int .i64 x.tm, .string ⟨x.par.toArray⟩, .string ⟨x.text.toArray⟩]) _ (hI.next hR (by kernel_rfl) (Mod.refl _ _) (PB.quiet hI.1 (Mod.refl _ _) (HGs.out D 2 zw1 zw1 (hI.1).g (Mod.refl _ _))) (upd_same V 2 _))
  ·intro D V zw1 a hR hI K hK
   obtain ⟨hM1, hB1, hG1⟩ := hI.1
   obtain ⟨hG1b, hG1c⟩ := hG1
   have zd2 := hR.pred 2 (by kernel_rfl)
   have zF2 : V 2 = .agg #[.string ⟨x.id.toArray⟩, .string ⟨x.cust.toArray⟩, .int .i64 x.kind, .string ⟨x.name.toArray⟩, .int .i64 x.tm, .string ⟨x.par.toArray⟩, .string ⟨x.text.toArray⟩] := hI.2 2 zd2 rfl
   have zf2 := zF2; clear zF2
   have ze9 := hR.frame.done (t := 9) (j := 2) (by kernel_rfl) hR.ok zd2
   rw [if_pos (by rfl)]
   go_simp
   refine (HIC.out zw1 (HM.out.trans hM1)).mono ?_
   rintro e zw2 ⟨rfl, hm2⟩
   exact hK (.int .i64 0) _ (hI.next hR (by kernel_rfl) hm2 (PB.quiet hI.1 hm2 (HGs.out D 3 _ _ (hI.1).g hm2)) (upd_same V 3 _))
  ·intro D V zw1 a hR hI K hK
   obtain ⟨hM1, hB1, hG1⟩ := hI.1
   obtain ⟨hG1b, hG1c⟩ := hG1
   have zd1 := hR.pred 1 (by kernel_rfl)
   have zF1 : V 1 = .int .i64 0 := hI.2 1 zd1 rfl
   have zf1 := zF1; clear zF1
   have zd3 := hR.pred 3 (by kernel_rfl)
   have zF3 : V 3 = .int .i64 0 := hI.2 3 zd3 rfl
   have zf3 := zF3; clear zF3
   have ze8 := hR.frame.done (t := 8) (j := 1) (by kernel_rfl) hR.ok zd1
   have ze10 := hR.frame.done (t := 10) (j := 3) (by kernel_rfl) hR.ok zd3
   rw [if_pos (by rfl)]
   go_simp
   exact hK (_) _ (hI.next hR (by kernel_rfl) ((Mod.refl _ _).alloc _) (PB.quiet hI.1 (pure_alloc _ _) (HGs.out D 4 _ _ (hI.1).g ((Mod.refl _ _).alloc _))) (⟨_, upd_same V 4 _, (by omega), (Blk.new _ _ _)⟩))
  ·intro D V zw1 a hR hI K hK
   obtain ⟨hM1, hB1, hG1⟩ := hI.1
   obtain ⟨hG1b, hG1c⟩ := hG1
   have zd4 := hR.pred 4 (by kernel_rfl)
   have zF4 : ∃ (g_4 : Nat), V 4 = .slice (some ⟨g_4, 0, none⟩) 2 2 ∧ w1.heap.size ≤ g_4 ∧ Blk zw1 g_4 30 #[.int .i64 0, .int .i64 0] := hI.2 4 zd4 (by show (!D 5) = true; rw [hR.not]; rfl)
   obtain ⟨g_4, zf4, c4_0, b4_0⟩ := zF4
   have ze11 := hR.frame.done (t := 11) (j := 4) (by kernel_rfl) hR.ok zd4
   rw [if_pos (by rfl)]
   go_simp
   refine (firstE_calls zw1 g_4 2 [0, 0] b4_0.row0 (by simp)).mono ?_
   rintro e zw2 ⟨rfl, hm2⟩
   exact hK (.int .i64 0) _ (hI.next hR (by kernel_rfl) hm2 (PB.quiet hI.1 hm2 (HGs.out D 5 _ _ (hI.1).g hm2)) (upd_same V 5 _))
  ·intro D V zw1 a hR hI K hK
   obtain ⟨hM1, hB1, hG1⟩ := hI.1
   obtain ⟨hG1b, hG1c⟩ := hG1
   have zd5 := hR.pred 5 (by kernel_rfl)
   have zF5 : V 5 = .int .i64 0 := hI.2 5 zd5 rfl
   have zf5 := zF5; clear zF5
   have ze12 := hR.frame.done (t := 12) (j := 5) (by kernel_rfl) hR.ok zd5
   rw [if_pos (by rfl)]
   go_simp
   exact hK (.int .i64 0) _ (hI.next hR (by kernel_rfl) (Mod.refl _ _) (PB.quiet hI.1 (Mod.refl _ _) (HGs.out D 6 zw1 zw1 (hI.1).g (Mod.refl _ _))) (upd_same V 6 _))
 ·intro D V w2 hD hI
  obtain ⟨hM1, hB1, hG1⟩ := hI.1
  have hMx := hM1
  clear hM1
  have hBx := hB1
  clear hB1
  have hGx := hG1
  clear hG1
  have zF0 : V 0 = .agg #[.int .i64 4, .slice Aq ws.length cq, .int .i64 nq, .slice Bq xs.length dq] := hI.2 0 (hD 0 (by decide)) rfl
  have zf0 := zF0; clear zF0
  have zF1 : V 1 = .int .i64 0 := hI.2 1 (hD 1 (by decide)) rfl
  have zf1 := zF1; clear zF1
  have zF2 : V 2 = .agg #[.string ⟨x.id.toArray⟩, .string ⟨x.cust.toArray⟩, .int .i64 x.kind, .string ⟨x.name.toArray⟩, .int .i64 x.tm, .string ⟨x.par.toArray⟩, .string ⟨x.text.toArray⟩] := hI.2 2 (hD 2 (by decide)) rfl
  have zf2 := zF2; clear zF2
  have zF3 : V 3 = .int .i64 0 := hI.2 3 (hD 3 (by decide)) rfl
  have zf3 := zF3; clear zF3
  have zF5 : V 5 = .int .i64 0 := hI.2 5 (hD 5 (by decide)) rfl
  have zf5 := zF5; clear zF5
  have zF6 : V 6 = .int .i64 0 := hI.2 6 (hD 6 (by decide)) rfl
  have zf6 := zF6; clear zF6
  clear hI hD HGs
  simp only [frAll, Act.put, List.setIfInBounds_toArray, List.set_cons_zero, List.set_cons_succ, Nat.zero_add, Nat.reduceAdd, zf0, zf1, zf2, zf3, zf5, zf6]
  clear zf0 zf1 zf2 zf3 zf5 zf6
  generalize V 4 = u4
  clear V D
  have HB1' := Lib.hid hGx.1
  have HB2' := Lib.hid hGx.2
  have HM2 := Lib.hid (HM.out.trans hMx)
  clear hGx hMx HB1 HB2 HM
  go_upto_region 4 with (fail)
  have HGs := Lib.hid (show ∀ (D : Nat → Bool) (zzi : Nat) (zq zq' : World), (fun _ zq => (fun Z => Blk Z b1 29 #[.int .i64 4, .slice Aq ws.length cq, .int .i64 nq, .slice Bq xs.length dq] ∧ Blk Z b2 68 #[.string ⟨x.id.toArray⟩, .string ⟨x.cust.toArray⟩, .int .i64 x.kind, .string ⟨x.name.toArray⟩, .int .i64 x.tm, .string ⟨x.par.toArray⟩, .string ⟨x.text.toArray⟩]) zq) D zq → Mod (fun _ => False) zq zq' → (fun _ zq => (fun Z => Blk Z b1 29 #[.int .i64 4, .slice Aq ws.length cq, .int .i64 nq, .slice Bq xs.length dq] ∧ Blk Z b2 68 #[.string ⟨x.id.toArray⟩, .string ⟨x.cust.toArray⟩, .int .i64 x.kind, .string ⟨x.name.toArray⟩, .int .i64 x.tm, .string ⟨x.par.toArray⟩, .string ⟨x.text.toArray⟩]) zq) (upd D zzi true) zq' from by intro D zzi zq zq' h hm; (exact ⟨h.1.modp hm, h.2.modp hm⟩))
  refine wp_region_inv (by kernel_rfl) (by kernel_rfl) (InvF (R := Mod (fun _ => False)) [.is (.agg #[.string ⟨x.id.toArray⟩, .string ⟨x.cust.toArray⟩, .int .i64 x.kind, .string ⟨x.name.toArray⟩, .int .i64 x.tm, .string ⟨x.par.toArray⟩, .string ⟨x.text.toArray⟩]),
    ⟨fun zv zw => ∃ (A_1 : Option Addr) (n_1 : Nat) (c_1 : Nat), zv = tgA x (.slice A_1 n_1 c_1) ∧ Wds zw (.slice A_1 n_1 c_1) (wordsQ x.text), (by rintro zv zw zx ⟨A_1, n_1, c_1, rfl, q0⟩ hm; exact ⟨A_1, n_1, c_1, rfl, (q0.pure hm)⟩), none, none⟩,
    .is (.agg #[.int .i64 4, .slice Aq ws.length cq, .int .i64 nq, .slice Bq xs.length dq]),
    .is (.bool ans),
    .is (.bool ans),
    .is ((.int .i64 0))]
    (PB w2 (fun _ => False) w2.heap.size (fun _ zq => (fun Z => Blk Z b1 29 #[.int .i64 4, .slice Aq ws.length cq, .int .i64 nq, .slice Bq xs.length dq] ∧ Blk Z b2 68 #[.string ⟨x.id.toArray⟩, .string ⟨x.cust.toArray⟩, .int .i64 x.kind, .string ⟨x.name.toArray⟩, .int .i64 x.tm, .string ⟨x.par.toArray⟩, .string ⟨x.text.toArray⟩]) zq))) (InvF.start (PB.start (Mod.refl _ _) (Nat.le_refl _) (⟨HB1'.out.drew, HB2'.out.drew⟩))) ?_ ?_
  ·refine .cons ?_ (.cons ?_ (.cons ?_ (.cons ?_ (.cons ?_ (.cons ?_ .nil)))))
   ·intro D V zw1 a hR hI K hK
    obtain ⟨hM1, hB1, hG1⟩ := hI.1
    obtain ⟨hG1b, hG1c⟩ := hG1
    have ze3 := hR.frame.other (t := 3) (by kernel_rfl) rfl
    have zx0 := (hG1c).cell 0; have zy0 := (hG1c).frozen 0; simp at zx0
    have zx1 := (hG1c).cell 1; have zy1 := (hG1c).frozen 1; simp at zx1
    have zx2 := (hG1c).cell 2; have zy2 := (hG1c).frozen 2; simp at zx2
    have zx3 := (hG1c).cell 3; have zy3 := (hG1c).frozen 3; simp at zx3
    have zx4 := (hG1c).cell 4; have zy4 := (hG1c).frozen 4; simp at zx4
    have zx5 := (hG1c).cell 5; have zy5 := (hG1c).frozen 5; simp at zx5
    have zx6 := (hG1c).cell 6; have zy6 := (hG1c).frozen 6; simp at zx6
    rw [if_pos (by rfl)]
    go_simp
    exact hK (.agg #[.string ⟨x.id.toArray⟩, .string ⟨x.cust.toArray⟩, .int .i64 x.kind, .string ⟨x.name.toArray⟩, .int .i64 x.tm, .string ⟨x.par.toArray⟩, .string ⟨x.text.toArray⟩]) _ (hI.next hR (by kernel_rfl) (Mod.refl _ _) (PB.quiet hI.1 (Mod.refl _ _) (HGs.out D 0 zw1 zw1 (hI.1).g (Mod.refl _ _))) (upd_same V 0 _))
   ·intro D V zw1 a hR hI K hK
    obtain ⟨hM1, hB1, hG1⟩ := hI.1
    obtain ⟨hG1b, hG1c⟩ := hG1
    have zd0 := hR.pred 0 (by kernel_rfl)
    have zF0 : V 0 = .agg #[.string ⟨x.id.toArray⟩, .string ⟨x.cust.toArray⟩, .int .i64 x.kind, .string ⟨x.name.toArray⟩, .int .i64 x.tm, .string ⟨x.par.toArray⟩, .string ⟨x.text.toArray⟩] := hI.2 0 zd0 rfl
    have zf0 := zF0; clear zF0
    have ze16 := hR.frame.done (t := 16) (j := 0) (by kernel_rfl) hR.ok zd0
    rw [if_pos (by rfl)]
    go_simp
    refine (HNT.out zw1).mono ?_
    rintro e zw2 ⟨A_0, n_0, c_0, rfl, hq, hm2⟩
    exact hK (tgA x (.slice A_0 n_0 c_0)) _ (hI.next hR (by kernel_rfl) hm2 (PB.quiet hI.1 hm2 (HGs.out D 1 _ _ (hI.1).g hm2)) (⟨A_0, n_0, c_0, upd_same V 1 _, hq⟩))
   ·intro D V zw1 a hR hI K hK
    obtain ⟨hM1, hB1, hG1⟩ := hI.1
    obtain ⟨hG1b, hG1c⟩ := hG1
    have ze2 := hR.frame.other (t := 2) (by kernel_rfl) rfl
    have zx0 := (hG1b).cell 0; have zy0 := (hG1b).frozen 0; simp at zx0
    have zx1 := (hG1b).cell 1; have zy1 := (hG1b).frozen 1; simp at zx1
    have zx2 := (hG1b).cell 2; have zy2 := (hG1b).frozen 2; simp at zx2
    have zx3 := (hG1b).cell 3; have zy3 := (hG1b).frozen 3; simp at zx3
    rw [if_pos (by rfl)]
    go_simp
    exact hK (.agg #[.int .i64 4, .slice Aq ws.length cq, .int .i64 nq, .slice Bq xs.length dq]) _ (hI.next hR (by kernel_rfl) (Mod.refl _ _) (PB.quiet hI.1 (Mod.refl _ _) (HGs.out D 2 zw1 zw1 (hI.1).g (Mod.refl _ _))) (upd_same V 2 _))
   ·intro D V zw1 a hR hI K hK
    obtain ⟨hM1, hB1, hG1⟩ := hI.1
    obtain ⟨hG1b, hG1c⟩ := hG1
    have zd1 := hR.pred 1 (by kernel_rfl)
    have zF1 : ∃ (A_1 : Option Addr) (n_1 : Nat) (c_1 : Nat), V 1 = tgA x (.slice A_1 n_1 c_1) ∧ Wds zw1 (.slice A_1 n_1 c_1) (wordsQ x.text) := hI.2 1 zd1 rfl
    obtain ⟨A_1, n_1, c_1, zf1, b1_0⟩ := zF1
    have zd2 := hR.pred 2 (by kernel_rfl)
    have zF2 : V 2 = .agg #[.int .i64 4, .slice Aq ws.length cq, .int .i64 nq, .slice Bq xs.length dq] := hI.2 2 zd2 rfl
    have zf2 := zF2; clear zF2
    have ze17 := hR.frame.done (t := 17) (j := 1) (by kernel_rfl) hR.ok zd1
    have ze18 := hR.frame.done (t := 18) (j := 2) (by kernel_rfl) hR.ok zd2
    rw [if_pos (by rfl)]
    go_simp
    refine (HFD.out zw1 A_1 n_1 c_1 (HM2.out.trans hM1) b1_0).mono ?_
    rintro e zw2 ⟨rfl, hm2⟩
    exact hK (.bool ans) _ (hI.next hR (by kernel_rfl) hm2 (PB.quiet hI.1 hm2 (HGs.out D 3 _ _ (hI.1).g hm2)) (upd_same V 3 _))
   ·intro D V zw1 a hR hI K hK
    obtain ⟨hM1, hB1, hG1⟩ := hI.1
    obtain ⟨hG1b, hG1c⟩ := hG1
    have zd3 := hR.pred 3 (by kernel_rfl)
    have zF3 : V 3 = .bool ans := hI.2 3 zd3 rfl
    have zf3 := zF3; clear zF3
    have ze19 := hR.frame.done (t := 19) (j := 3) (by kernel_rfl) hR.ok zd3
    rw [if_pos (by rfl)]
    go_simp
    exact hK (.bool ans) _ (hI.next hR (by kernel_rfl) (Mod.refl _ _) (PB.quiet hI.1 (Mod.refl _ _) (HGs.out D 4 zw1 zw1 (hI.1).g (Mod.refl _ _))) (upd_same V 4 _))
   ·intro D V zw1 a hR hI K hK
    obtain ⟨hM1, hB1, hG1⟩ := hI.1
    obtain ⟨hG1b, hG1c⟩ := hG1
    rw [if_pos (by rfl)]
    go_simp
    exact hK ((.int .i64 0)) _ (hI.next hR (by kernel_rfl) (Mod.refl _ _) (PB.quiet hI.1 (Mod.refl _ _) (HGs.out D 5 zw1 zw1 (hI.1).g (Mod.refl _ _))) (upd_same V 5 _))
  ·intro D V w3 hD hI
   obtain ⟨hM1, hB1, hG1⟩ := hI.1
   have hMx := hM1
   clear hM1
   have hBx := hB1
   clear hB1
   have hGx := hG1
   clear hG1
   have zF0 : V 0 = .agg #[.string ⟨x.id.toArray⟩, .string ⟨x.cust.toArray⟩, .int .i64 x.kind, .string ⟨x.name.toArray⟩, .int .i64 x.tm, .string ⟨x.par.toArray⟩, .string ⟨x.text.toArray⟩] := hI.2 0 (hD 0 (by decide)) rfl
   have zf0 := zF0; clear zF0
   have zF1 : ∃ (A_1 : Option Addr) (n_1 : Nat) (c_1 : Nat), V 1 = tgA x (.slice A_1 n_1 c_1) ∧ Wds w3 (.slice A_1 n_1 c_1) (wordsQ x.text) := hI.2 1 (hD 1 (by decide)) rfl
   obtain ⟨A_1, n_1, c_1, zf1, b1_0⟩ := zF1
   have zF2 : V 2 = .agg #[.int .i64 4, .slice Aq ws.length cq, .int .i64 nq, .slice Bq xs.length dq] := hI.2 2 (hD 2 (by decide)) rfl
   have zf2 := zF2; clear zF2
   have zF3 : V 3 = .bool ans := hI.2 3 (hD 3 (by decide)) rfl
   have zf3 := zF3; clear zF3
   have zF4 : V 4 = .bool ans := hI.2 4 (hD 4 (by decide)) rfl
   have zf4 := zF4; clear zF4
   have zF5 : V 5 = (.int .i64 0) := hI.2 5 (hD 5 (by decide)) rfl
   have zf5 := zF5; clear zF5
   clear hI hD HGs
   simp only [frAll, Act.put, List.setIfInBounds_toArray, List.set_cons_zero, List.set_cons_succ, Nat.zero_add, Nat.reduceAdd, zf0, zf1, zf2, zf3, zf4, zf5]
   clear zf0 zf1 zf2 zf3 zf4 zf5
   clear V D
   have HM3 := Lib.hid (HM2.out.trans hMx)
   clear hGx hMx b1_0
   go_wp2_with fail
   try simp only [Exit.inBlock, Exit.then]
   refine bodyPost_ret (v := .tuple #[.bool ans, .int .i64 0]) (by simp [results, Tryz.results36, go_sem]) rfl ?_
   exact ⟨rfl, HM3.out⟩

end Go.Proofs.YtbajgjbdcgakoaaGreatDoor

/- A whole search: (*reader).or. -/
namespace Go.Proofs.YtbajgjbdcgakoaaGreatDoor
set_option linter.unusedVariables false
set_option linter.unusedSimpArgs false
open Go.RowKit
set_option maxRecDepth 100000 in
set_option maxHeartbeats 4000000 in
theorem or1_calls (w0 : World) (g bx : Nat) (s : Str) (f : Nat) (hf : f ≤ 1000000) (hN : NxC w0 g s) (hP : NrC w0 g s f) (hgx : bx ≠ g) (w : World) (L : List Tk) (hW : Mod (· = g) w0 w) (hX : Blk w bx 105 #[.pointer (some ⟨g, 0, none⟩)]) (hR : RdrS w g s L) (hL : L.length ≤ f) :
  Calls Tryz.prog 108 #[.pointer (some ⟨bx, 0, none⟩)] w (PrP w g s (pSev 6 4 (pNot (pOr f) f) f L)) := by
 have hg0 := hR.lt
 have hmz : Pure w (w.alloc (.cells #[.int .i64 0, .slice none 0 0, .int .i64 0, .slice none 0 0] 29)) := (Mod.refl _ _).alloc _
 have HB2 := Lib.hid (Blk.new w 29 #[.int .i64 0, .slice none 0 0, .int .i64 0, .slice none 0 0])
 have HX2 := Lib.hid (hX.alloc (.cells #[.int .i64 0, .slice none 0 0, .int .i64 0, .slice none 0 0] 29))
 have HM2 : Hid (Mod (· = g) w (w.alloc (.cells #[.int .i64 0, .slice none 0 0, .int .i64 0, .slice none 0 0] 29))) := Lib.hid (Mod.of_pure hmz)
 have HS := Lib.hid (sevNot_calls w0 g bx s f (pNot (pOr f) f) hf hN (pNot_len (pOr_len f) f) hgx (fun W L' hW' _ hR' hL' => not_calls w0 g s f hf hN hP W L' hW' hR' hL') (w.alloc (.cells #[.int .i64 0, .slice none 0 0, .int .i64 0, .slice none 0 0] 29)) L (hW.trans HM2.out) HX2.out (hR.pure hmz) hL)
 have hx2 := HX2.out.cell 0
 simp at hx2
 generalize pSev 6 4 (pNot (pOr f) f) f L = r at *
 clear hN hP hW hmz hR hX
 obtain ⟨b2, hb2e⟩ : ∃ b2, w.heap.size = b2 := ⟨_, rfl⟩
 have hb2l : w.heap.size ≤ b2 := by omega
 have hb2u : b2 ≤ w.heap.size := by omega
 go_enter Tryz.func108, Tryz.ntmps108
 go_wp2_with fail
 generalize (w.alloc (.cells #[.int .i64 0, .slice none 0 0, .int .i64 0, .slice none 0 0] 29)) = w2 at *
 rw [hb2e] at HB2
 try simp only [hb2e]
 clear hb2e hx2
 refine HS.out.mono ?_
 rintro e w3 ⟨qr2, bt, l2, rfl, hR3, hm3, h0, h1⟩
 obtain ⟨k2, A2, c2, ws2, n2, B2, d2, xs2⟩ := qr2
 simp only [qA_mk]
 have hb2r := HB2.out.lt
 have HB3 := Lib.hid (HB2.out.modb hm3 (by omega))
 have HM3 := Lib.hid (HM2.out.trans hm3)
 have HR3 := Lib.hid hR3
 have hs2 := HM2.out.size
 have H0 := Lib.hid h0
 have H1 := Lib.hid h1
 have h5 := HB3.out
 have x0 := h5.cell 0; have xf0 := h5.frozen 0; have x1 := h5.cell 1; have xf1 := h5.frozen 1; have x2 := h5.cell 2; have xf2 := h5.frozen 2; have x3 := h5.cell 3; have xf3 := h5.frozen 3; simp at x0 x1 x2 x3
 clear h5 hR3 hm3 h0 h1 HS
 go_wp2_with fail
 have h4F := st4_blk HB3.out (a := .int .i64 k2) (b := .slice A2 ws2.length c2) (c := .int .i64 n2) (d := .slice B2 xs2.length d2)
 have z0 := h4F.cell 0; have z1 := h4F.cell 1; have z2 := h4F.cell 2; have z3 := h4F.cell 3; simp at z0 z1 z2 z3
 try simp only [Exit.inBlock, Exit.then]
 refine bodyPost_ret (v := .tuple #[.agg #[.int .i64 k2, .slice A2 ws2.length c2, .int .i64 n2, .slice B2 xs2.length d2], .bool bt]) (by simp [results, Tryz.results108, go_sem, z0, z1, z2, z3]) rfl ?_
 exact pr_ret HM3.out HR3.out HB3.out (by omega) (by omega) H0.out (fun h => by
  obtain ⟨a1, a2, a3⟩ := H1.out h
  exact ⟨a1, a2, QN.old a3 (fun k hk => by omega), a3.up (by omega)⟩)
set_option maxRecDepth 100000 in
set_option maxHeartbeats 4000000 in
theorem orS_calls (w0 : World) (g : Nat) (s : Str) (f : Nat) (hf : f ≤ 1000000) (hN : NxC w0 g s) (hP : NrC w0 g s f) (hg00 : g < w0.heap.size) : OrC w0 g s (f + 1) := by
 intro w L hW hR hL0
 have hL : L.length ≤ f := by omega
 clear hL0
 have hg0 := hR.lt
 have hmz : Pure w ((w.alloc (.cells #[.pointer (some ⟨g, 0, none⟩)] 105)).alloc (.cells #[.int .i64 0, .slice none 0 0, .int .i64 0, .slice none 0 0] 29)) := ((Mod.refl _ _).alloc _).alloc _
 have HB2 := Lib.hid (Blk.snd w (.cells #[.pointer (some ⟨g, 0, none⟩)] 105) 29 #[.int .i64 0, .slice none 0 0, .int .i64 0, .slice none 0 0])
 have HX2 := Lib.hid ((Blk.new w 105 #[.pointer (some ⟨g, 0, none⟩)]).alloc (.cells #[.int .i64 0, .slice none 0 0, .int .i64 0, .slice none 0 0] 29))
 have HM2 : Hid (Mod (· = g) w ((w.alloc (.cells #[.pointer (some ⟨g, 0, none⟩)] 105)).alloc (.cells #[.int .i64 0, .slice none 0 0, .int .i64 0, .slice none 0 0] 29))) := Lib.hid (Mod.of_pure hmz)
 have HS := Lib.hid (sevOr_calls w0 g w.heap.size s f (pSev 6 4 (pNot (pOr f) f) f) hf hN (pSev_len (by decide) (pNot_len (pOr_len f) f) f) (by omega) (fun W L' hW' hX' hR' hL' => or1_calls w0 g w.heap.size s f hf hN hP (by omega) W L' hW' hX' hR' hL') ((w.alloc (.cells #[.pointer (some ⟨g, 0, none⟩)] 105)).alloc (.cells #[.int .i64 0, .slice none 0 0, .int .i64 0, .slice none 0 0] 29)) L (hW.trans HM2.out) HX2.out (hR.pure hmz) hL)
 have hx2 := HX2.out.cell 0
 simp at hx2
 change Hid (Calls Tryz.prog 107 _ _ (PrP _ g s (pOr (f + 1) L))) at HS
 generalize pOr (f + 1) L = r at *
 clear hN hP hW hmz hR
 go_enter Tryz.func79, Tryz.ntmps79
 go_wp2_with fail
 refine HS.out.mono ?_
 rintro e w3 ⟨qr2, bt, l2, rfl, hR3, hm3, h0, h1⟩
 have hs2 := HM2.out.size
 have hb2r := HB2.out.lt
 have HB3 := Lib.hid (HB2.out.modb hm3 (by omega))
 have HM3 := Lib.hid (HM2.out.trans hm3)
 clear hx2 HX2
 generalize ((w.alloc (.cells #[.pointer (some ⟨g, 0, none⟩)] 105)).alloc (.cells #[.int .i64 0, .slice none 0 0, .int .i64 0, .slice none 0 0] 29)) = w2 at *
 obtain ⟨b2, hb2e⟩ : ∃ b2, w.heap.size + 1 = b2 := ⟨_, rfl⟩
 rw [hb2e] at HB2 HB3
 try simp only [hb2e]
 have hb2l : w.heap.size ≤ b2 := by omega
 have hb2v := HB2.out.lt
 clear hb2e hb2r
 obtain ⟨k2, A2, c2, ws2, n2, B2, d2, xs2⟩ := qr2
 simp only [qA_mk]
 have HR3 := Lib.hid hR3
 have H0 := Lib.hid h0
 have H1 := Lib.hid h1
 have h5 := HB3.out
 have x0 := h5.cell 0; have xf0 := h5.frozen 0; have x1 := h5.cell 1; have xf1 := h5.frozen 1; have x2 := h5.cell 2; have xf2 := h5.frozen 2; have x3 := h5.cell 3; have xf3 := h5.frozen 3; simp at x0 x1 x2 x3
 clear h5 hR3 hm3 h0 h1 HS HB2 HM2
 go_wp2_with fail
 have h4F := st4_blk HB3.out (a := .int .i64 k2) (b := .slice A2 ws2.length c2) (c := .int .i64 n2) (d := .slice B2 xs2.length d2)
 have z0 := h4F.cell 0; have z1 := h4F.cell 1; have z2 := h4F.cell 2; have z3 := h4F.cell 3; simp at z0 z1 z2 z3
 try simp only [Exit.inBlock, Exit.then]
 refine bodyPost_ret (v := .tuple #[.agg #[.int .i64 k2, .slice A2 ws2.length c2, .int .i64 n2, .slice B2 xs2.length d2], .bool bt]) (by simp [results, Tryz.results79, go_sem, z0, z1, z2, z3]) rfl ?_
 exact pr_ret HM3.out HR3.out HB3.out (by omega) (by omega) H0.out (fun h => by
  obtain ⟨a1, a2, a3⟩ := H1.out h
  exact ⟨a1, a2, QN.old a3 (fun k hk => by omega), a3.up (by omega)⟩)
theorem or_calls (w0 : World) (g : Nat) (s : Str) (hN : NxC w0 g s) (hg : g < w0.heap.size) : ∀ f, f ≤ 1000000 → OrC w0 g s f
 | 0, _ => fun W L _ _ h => absurd h (by omega)
 | f + 1, hf => by
  have hO := or_calls w0 g s hN hg f (by omega)
  have hP : PtC w0 g s f := fun W L hW hR hL => part_calls w0 g s f hN hO W L hW hR hL
  have hR : NrC w0 g s f := fun W L hW hR hL => near_calls w0 g s f hN hP W L hW hR hL
  exact orS_calls w0 g s f (by omega) hN hR hg
end Go.Proofs.YtbajgjbdcgakoaaGreatDoor

/- Parse of a search's text that is right. -/
namespace Go.Proofs.YtbajgjbdcgakoaaGreatDoor
set_option linter.unusedVariables false
set_option linter.unusedSimpArgs false
open Go.RowKit
/-- strings.IndexAny of the rests of a text. -/
def IxP (s : Str) : Prop := ∀ (W : World) (a : Nat), a ≤ s.length → Calls Tryz.prog 104 #[.string ⟨(s.drop a).toArray⟩, .string ⟨#[32, 10, 40, 41, 34]⟩] W (fun e w' => e = .returned (.int .i64 (Lib.indexAny (s.drop a) [32, 10, 40, 41, 34])) ∧ Pure W w')
def ParP (w : World) (q : Qry) (e : Ending) (w' : World) : Prop := ∃ qr : QR, e = .returned (.tuple #[qA qr, .int .i64 0, .int .i64 0]) ∧ qr.key = q ∧ QS w' qr ∧ Pure w w'
set_option maxRecDepth 100000 in
set_option maxHeartbeats 8000000 in
theorem parseOk_calls (w : World) (s : Str) (q : Qry) (l : List Tk) (hs : s.length ≤ 200000) (hM : MlnS w) (hI : IxP s) (hp : pOr ((toksQ s 0).length + 1) (toksQ s 0) = .inr (q, l)) (hl : kdL l = 0) (hc : checkQ q = 0) (hq : QB 1000 q) : Calls Tryz.prog 35 #[.string ⟨s.toArray⟩] w (ParP w q) := by
 have hz : (⟨s.toArray⟩ : ByteArray).size = s.length := by simp [ByteArray.size]
 have HP := Lib.hid hp
 have HL := Lib.hid hl
 have HC := Lib.hid hc
 have HQB := Lib.hid hq
 have hmA : Pure w ((w.alloc (.cells #[.int .i64 0, .slice none 0 0, .int .i64 0, .slice none 0 0] 29)).alloc (.cells #[.string ⟨s.toArray⟩, .int .i64 0, .int .i64 0, .int .i64 0, .int .i64 0, .slice none 0 0, .int .i64 0, .slice none 0 0] 109)) := ((Mod.refl _ _).alloc _).alloc _
 have HB2 := Lib.hid ((Blk.new w 29 #[.int .i64 0, .slice none 0 0, .int .i64 0, .slice none 0 0]).alloc (.cells #[.string ⟨s.toArray⟩, .int .i64 0, .int .i64 0, .int .i64 0, .int .i64 0, .slice none 0 0, .int .i64 0, .slice none 0 0] 109))
 have HBR := Lib.hid (Blk.snd w (.cells #[.int .i64 0, .slice none 0 0, .int .i64 0, .slice none 0 0] 29) 109 #[.string ⟨s.toArray⟩, .int .i64 0, .int .i64 0, .int .i64 0, .int .i64 0, .slice none 0 0, .int .i64 0, .slice none 0 0])
 have HMA := Lib.hid hmA
 have HML : Hid (∀ W, Mod (· = w.heap.size + 1) ((w.alloc (.cells #[.int .i64 0, .slice none 0 0, .int .i64 0, .slice none 0 0] 29)).alloc (.cells #[.string ⟨s.toArray⟩, .int .i64 0, .int .i64 0, .int .i64 0, .int .i64 0, .slice none 0 0, .int .i64 0, .slice none 0 0] 109)) W → MlnS W) := Lib.hid (fun W hW => hM.pure (hmA.trans' hW (fun i hi hlt => by omega)))
 have HIX : Hid (IxA (w.heap.size + 1) ((w.alloc (.cells #[.int .i64 0, .slice none 0 0, .int .i64 0, .slice none 0 0] 29)).alloc (.cells #[.string ⟨s.toArray⟩, .int .i64 0, .int .i64 0, .int .i64 0, .int .i64 0, .slice none 0 0, .int .i64 0, .slice none 0 0] 109)) s) := Lib.hid (fun W a _ ha => hI W a ha)
 have htl := toks_len s 0
 clear hp hl hc hq hM hI hmA
 go_enter Tryz.func35, Tryz.ntmps35
 go_upto_region 4 with (fail)
 generalize ((w.alloc (.cells #[.int .i64 0, .slice none 0 0, .int .i64 0, .slice none 0 0] 29)).alloc (.cells #[.string ⟨s.toArray⟩, .int .i64 0, .int .i64 0, .int .i64 0, .int .i64 0, .slice none 0 0, .int .i64 0, .slice none 0 0] 109)) = w1 at *
 obtain ⟨b2, hb2e⟩ : ∃ b2, w.heap.size = b2 := ⟨_, rfl⟩
 rw [hb2e] at HB2 HBR HML HIX
 try simp only [hb2e]
 obtain ⟨g, hge⟩ : ∃ g, b2 + 1 = g := ⟨_, rfl⟩
 rw [hge] at HBR HML HIX
 try simp only [hge]
 have hb2l : w.heap.size ≤ b2 := by omega
 have hbg : b2 < g := by omega
 clear hb2e hge
 have hgr := HBR.out.lt
 have HN := Lib.hid (nxC_of (g := g) hs HML.out HIX.out)
 have HO := Lib.hid (or_calls w1 g s HN.out hgr ((toksQ s 0).length + 1) (by omega))
 have HNX := Lib.hid (nextR_calls w1 s 0 0 0 0 0 (.slice none 0 0) (.slice none 0 0) g hs (Nat.zero_le _) HML.out HIX.out HBR.out)
 go_wp2_with fail
 refine HNX.out.mono ?_
 intro e w3 h
 obtain ⟨rfl, hR3, hm3⟩ := h.rds (Nat.zero_le _)
 have HB3 := Lib.hid (HB2.out.modb hm3 (by omega))
 have HM3 := Lib.hid hm3
 have HOX := Lib.hid (HO.out w3 (toksQ s 0) hm3 hR3 (Nat.le_refl _))
 clear h hR3 hm3 HNX HO HB2
 go_wp2_with fail
 refine HOX.out.mono ?_
 rintro e w4 ⟨qr2, bt, l2, rfl, hR4, hm4, h0, h1⟩
 obtain ⟨k2, A2, c2, ws2, n2, B2, d2, xs2⟩ := qr2
 simp only [qA_mk]
 cases bt
 ·exact absurd (h0 rfl) (by rw [HP.out]; intro h; cases h)
 ·obtain ⟨a1, a2, a3⟩ := h1 rfl
  rw [HP.out] at a1
  injection a1 with a1
  injection a1 with a1 a4
  subst a4
  have HK := Lib.hid a1.symm
  have hb2r := HB3.out.lt
  have hs4 := hm4.size
  have hs3 := HM3.out.size
  have hmC : Pure w4 (w4.alloc (.cells #[.int .i64 k2, .slice A2 ws2.length c2, .int .i64 n2, .slice B2 xs2.length d2] 29)) := (Mod.refl _ _).alloc _
  have HB5 := Lib.hid ((HB3.out.modb hm4 (by omega)).alloc (.cells #[.int .i64 k2, .slice A2 ws2.length c2, .int .i64 n2, .slice B2 xs2.length d2] 29))
  have HB6 := Lib.hid (Blk.new w4 29 #[.int .i64 k2, .slice A2 ws2.length c2, .int .i64 n2, .slice B2 xs2.length d2])
  have HR5 := Lib.hid (RdrS.pure hR4 hmC)
  have HM5 : Hid (Pure w (w4.alloc (.cells #[.int .i64 k2, .slice A2 ws2.length c2, .int .i64 n2, .slice B2 xs2.length d2] 29))) := Lib.hid (((HMA.out.trans' HM3.out (fun i hi hlt => by omega)).trans' hm4 (fun i hi hlt => by omega)).trans hmC)
  have HQ5 := Lib.hid (a2.pure hmC)
  have HQN : Hid (QN (· = b2) (QR.mk k2 A2 c2 ws2 n2 B2 d2 xs2)) := Lib.hid (QN.old a3 (fun k hk => by omega))
  clear h0 h1 hR4 hm4 a1 a2 a3 hmC HB3 HM3 HMA HOX
  go_upto_region 6 with (fail)
  generalize (w4.alloc (.cells #[.int .i64 k2, .slice A2 ws2.length c2, .int .i64 n2, .slice B2 xs2.length d2] 29)) = w5 at *
  obtain ⟨b6, hb6⟩ : ∃ b6, w4.heap.size = b6 := ⟨_, rfl⟩
  rw [hb6] at HB6
  try simp only [hb6]
  have hb6l : w4.heap.size ≤ b6 := by omega
  clear hb6
  obtain ⟨p5, qr5, t5, l5, rfl, hB7, hp5, hQ5, hk5, ha5, _, _⟩ := HR5.out
  obtain ⟨k5, A5, c5, ws5, n5, B5, d5, xs5⟩ := qr5
  have hk0 : t5.kind = 0 := HL.out
  have hBr := hB7
  unfold rdC at hBr
  simp [qC] at hBr
  rw [hk0] at hBr
  have u0 := hBr.cell 0; have u1 := hBr.cell 1; have u2 := hBr.cell 2; have u3 := hBr.cell 3; have u4 := hBr.cell 4; have u5 := hBr.cell 5; have u6 := hBr.cell 6; have u7 := hBr.cell 7; simp at u0 u1 u2 u3 u4 u5 u6 u7
  have h6 := HB6.out
  have y0 := h6.cell 0; have y1 := h6.cell 1; have y2 := h6.cell 2; have y3 := h6.cell 3; simp at y0 y1 y2 y3
  clear hBr hQ5 hk5 ha5 hB7 h6 hk0 HL
  have HCK := Lib.hid (fun W (h : QS W (QR.mk k2 A2 c2 ws2 n2 B2 d2 xs2)) => qcheck_calls W (.mk k2 A2 c2 ws2 n2 B2 d2 xs2) h (by rw [HK.out]; exact HQB.out))
  rw [HK.out, HC.out] at HCK
  simp only [qA_mk] at HCK
  go_wp2_with fail
  refine (HCK.out _ HQ5.out).mono ?_
  rintro e w7 ⟨rfl, hm7⟩
  have HB8 := Lib.hid (HB5.out.modp hm7)
  have HQ8 := Lib.hid (HQ5.out.pure hm7)
  have HM8 := Lib.hid (HM5.out.trans hm7)
  have h6 := HB6.out.modp hm7
  have h5 := HB8.out
  clear u0 u1 u2 u3 u4 u5 u6 u7 y0 y1 y2 y3
  have y0 := h6.cell 0; have y1 := h6.cell 1; have y2 := h6.cell 2; have y3 := h6.cell 3; simp at y0 y1 y2 y3
  have x0 := h5.cell 0; have xf0 := h5.frozen 0; have x1 := h5.cell 1; have xf1 := h5.frozen 1; have x2 := h5.cell 2; have xf2 := h5.frozen 2; have x3 := h5.cell 3; have xf3 := h5.frozen 3; simp at x0 x1 x2 x3
  clear h5 h6 hm7 HCK HB5 HQ5 HM5
  go_wp2_with fail
  have h4F := st4_blk HB8.out (a := .int .i64 k2) (b := .slice A2 ws2.length c2) (c := .int .i64 n2) (d := .slice B2 xs2.length d2)
  have z0 := h4F.cell 0; have z1 := h4F.cell 1; have z2 := h4F.cell 2; have z3 := h4F.cell 3; simp at z0 z1 z2 z3
  try simp only [Exit.inBlock, Exit.then]
  refine bodyPost_ret (v := .tuple #[.agg #[.int .i64 k2, .slice A2 ws2.length c2, .int .i64 n2, .slice B2 xs2.length d2], .int .i64 0, .int .i64 0]) (by simp [results, Tryz.results35, go_sem, z0, z1, z2, z3]) rfl ?_
  have hst : Mod (· = b2) w7 ((((w7.setCell ⟨b2, 0, none⟩ (.int .i64 k2)).setCell ⟨b2, 1, none⟩ (.slice A2 ws2.length c2)).setCell ⟨b2, 2, none⟩ (.int .i64 n2)).setCell ⟨b2, 3, none⟩ (.slice B2 xs2.length d2)) := st4_mod
  exact ⟨.mk k2 A2 c2 ws2 n2 B2 d2 xs2, rfl, HK.out, HQ8.out.box HB8.out HQN.out hst, HM8.out.trans' hst (fun i hi hlt => by omega)⟩
end Go.Proofs.YtbajgjbdcgakoaaGreatDoor

/-
 DERIVED: THE SHELF's CONTRACTS AT THIS DUMP, IN PLAIN WORDS (tools/lay-plain.mjs out of 'YtbajgjbdcgakoaaGreatDoorLayAny.lean', which tools/lay-shelf.mjs wrote): THE SAME DECLARATIONS UNDER THE SAME NAMES: 'import', 'namespace', 'open', 'def', 'theorem' AND NOTHING ELSE: no command of the shelf's: FOR A HAND-IN. Each laying: the table of numbers ('.._ren') and one theorem, a field a fact of the dump's own or the kernel's comparison; each contract: ONE APPLICATION.
-/
namespace Go.Proofs
open Go.Shelf
def Tryz.lays153_ren : Go.Shelf.Ren := ⟨fun | 153 => 104 | 152 => 142 | 226 => 143 | 227 => 144 | 228 => 145 | 137 => 138 | 119 => 179 | 224 => 180 | 225 => 181 | 217 => 170 | 266 => 198 | n => n, fun | 9 => 9 | 3 => 3 | 4 => 4 | 5 => 5 | 21 => 21 | 117 => 169 | 116 => 168 | 0 => 0 | 46 => 56 | 124 => 196 | n => n, fun | n => n⟩
theorem Tryz.lays153 : Go.Proofs.Lays.n153 Tryz.prog Tryz.lays153_ren := {
 mixed := by kernel_rfl
 f119 := Tryz.func179.trans (congrArg some (by kernel_rfl))
 f137 := Tryz.func138.trans (congrArg some (by kernel_rfl))
 f152 := Tryz.func142.trans (congrArg some (by kernel_rfl))
 f153 := Tryz.func104.trans (congrArg some (by kernel_rfl))
 f217 := Tryz.func170.trans (congrArg some (by kernel_rfl))
 f224 := Tryz.func180.trans (congrArg some (by kernel_rfl))
 f225 := Tryz.func181.trans (congrArg some (by kernel_rfl))
 f226 := Tryz.func143.trans (congrArg some (by kernel_rfl))
 f227 := Tryz.func144.trans (congrArg some (by kernel_rfl))
 f228 := Tryz.func145.trans (congrArg some (by kernel_rfl))
 f266 := Tryz.func198.trans (congrArg some (by kernel_rfl))
 t0 := Tryz.underlying0
 a0 := Tryz.isAgg0
 z0 := Tryz.sizeOf0
 v0 := Tryz.zeroValue0
 t3 := Tryz.underlying3
 a3 := Tryz.isAgg3
 z3 := Tryz.sizeOf3
 v3 := Tryz.zeroValue3
 t4 := Tryz.underlying4
 a4 := Tryz.isAgg4
 z4 := Tryz.sizeOf4
 v4 := Tryz.zeroValue4
 t5 := Tryz.underlying5
 a5 := Tryz.isAgg5
 z5 := Tryz.sizeOf5
 v5 := Tryz.zeroValue5
 t9 := Tryz.underlying9
 a9 := Tryz.isAgg9
 z9 := Tryz.sizeOf9
 v9 := Tryz.zeroValue9
 t21 := Tryz.underlying21
 a21 := Tryz.isAgg21
 z21 := Tryz.sizeOf21
 v21 := Tryz.zeroValue21
 t46 := Tryz.underlying56
 a46 := Tryz.isAgg56
 z46 := Tryz.sizeOf56
 v46 := Tryz.zeroValue56
 t116 := Tryz.underlying168
 a116 := Tryz.isAgg168
 z116 := Tryz.sizeOf168
 t117 := Tryz.underlying169
 a117 := Tryz.isAgg169
 z117 := Tryz.sizeOf169
 v117 := Tryz.zeroValue169
 t124 := Tryz.underlying196
 a124 := Tryz.isAgg196
 z124 := Tryz.sizeOf196
 v124 := Tryz.zeroValue196 }
end Go.Proofs

/- asks (chaselaw2/queries.go): package query reads and finds. -/
namespace Go.Proofs.YtbajgjbdcgakoaaGreatDoor
set_option linter.unusedVariables false
set_option linter.unusedSimpArgs false
open Go.RowKit
def askTx : Str := [100, 101, 97, 108, 32, 119, 47, 49, 32, 102, 114, 105, 100, 97, 121]
def askD : Str := [100, 101, 97, 108]
def askF : Str := [102, 114, 105, 100, 97, 121]
def askQy : Qry := .mk 4 [] 1 [.mk 2 [askD] 0 [], .mk 2 [askF] 0 []]
def askIt : Itm := ⟨[97], [98], 1, [], 0, [], [102, 114, 105, 100, 97, 121, 44, 32, 100, 101, 97, 108, 10]⟩
theorem ask_toks : toksQ askTx 0 = [⟨3, 0, .mk 2 [askD] 0 []⟩, ⟨7, 5, .mk 4 [] 1 []⟩, ⟨3, 9, .mk 2 [askF] 0 []⟩, ⟨0, 15, q0⟩] := by kernel_rfl
theorem ask_or : pOr ((toksQ askTx 0).length + 1) (toksQ askTx 0) = .inr (askQy, [⟨0, 15, q0⟩]) := by
 rw [ask_toks]
 rfl
theorem ask_check : checkQ askQy = 0 := by
 have h1 : qFit askQy 0 0 0 = true := by
  unfold askQy qFit
  simp [qSize, qDeep, qNear, nearK]
 unfold checkQ
 rw [if_pos h1]
 unfold askQy
 rw [fltQ]
 have e1 : fltQ 100 (mustQ false 4) (.mk 2 [askD] 0 []) = 0 := by rw [fltQ]; rfl
 have e2 : fltQ 100 (mustQ false 4) (.mk 2 [askF] 0 []) = 0 := by rw [fltQ]; rfl
 rw [show ([Qry.mk 2 [askD] 0 [], .mk 2 [askF] 0 []] : List Qry).map (fltQ 100 (mustQ false 4)) = [fltQ 100 (mustQ false 4) (.mk 2 [askD] 0 []), fltQ 100 (mustQ false 4) (.mk 2 [askF] 0 [])] from rfl, e1, e2]
 rfl
theorem ask_qb : QB 1000 askQy := by
 refine .mk (by decide) (by decide) (by decide) (by decide) (by decide) (by simp) (by decide) (fun a ha => ?_)
 simp at ha
 rcases ha with rfl | rfl
 ·exact .mk (by decide) (by decide) (by decide) (by decide) (by decide) (by simp [askD]) (by decide) (fun a ha => by cases ha)
 ·exact .mk (by decide) (by decide) (by decide) (by decide) (by decide) (by simp [askF]) (by decide) (fun a ha => by cases ha)
theorem ask_words : wordsQ askIt.text = [((0, 6), askF), ((8, 12), askD)] := by kernel_rfl
theorem ask_item : itemE askIt = 0 := by kernel_rfl
theorem ask_some : somePl (plcQ (wsQ (wordsQ askIt.text)) askQy) (wordsQ askIt.text).length = true := by
 rw [ask_words]
 unfold askQy
 rw [plc_near, plc_word (.inl rfl), plc_word (.inl rfl)]
 rfl
theorem ask_ix : IxP askTx := by
 intro W a _
 have h116 : (Tryz.prog.info? (Tryz.lays153_ren.t 116)).map (fun i => (i.zero, i.size)) = some (some (.agg (Array.replicate 256 (.bool false))), 256) := by kernel_rfl
 refine (Any.strings_IndexAny_laid Tryz.lays153 h116 ⟨(askTx.drop a).toArray⟩ ⟨#[32, 10, 40, 41, 34]⟩ W ?_ (by decide) ?_ ?_).mono ?_
 ·have h : askTx.length = 15 := rfl
  simp [ByteArray.size]
  omega
 ·intro j b hb
  have hm : b ∈ askTx := List.mem_of_mem_drop (List.mem_of_getElem? hb)
  have hall : askTx.all (fun c => decide (c.toNat < 128)) = true := by decide
  simpa using List.all_eq_true.1 hall b hm
 ·intro j b hb
  have hm : b ∈ ([32, 10, 40, 41, 34] : Str) := List.mem_of_getElem? hb
  have hall : ([32, 10, 40, 41, 34] : Str).all (fun c => decide (c.toNat < 128)) = true := by decide
  simpa using List.all_eq_true.1 hall b hm
 ·rintro e w' ⟨rfl, h⟩
  exact ⟨rfl, Mod.of_below h⟩

theorem leaf_of {a : QR} {p : Str} (h : a.key = .mk 2 [p] 0 []) : ∃ A c B d, a = .mk 2 A c [p] 0 B d [] := by
 obtain ⟨k, A, c, ws, n, B, d, xs⟩ := a
 rw [QR.key_mk] at h
 injection h with h1 h2 h3 h4
 subst h1 h2 h3
 have h5 : xs = [] := List.map_eq_nil_iff.1 h4
 subst h5
 exact ⟨A, c, B, d, rfl⟩
set_option maxRecDepth 100000 in
set_option maxHeartbeats 4000000 in
theorem asks_calls (w : World) (hE : Env w) : Calls Tryz.prog 14 #[] w (BoolPost w true) := by
 have HP := Lib.hid (parseOk_calls w askTx askQy [⟨0, 15, q0⟩] (by decide) hE.2 ask_ix ask_or rfl ask_check ask_qb)
 have HE := Lib.hid hE
 clear hE
 go_enter Tryz.func14, Tryz.ntmps14
 go_wp2_with fail
 refine HP.out.mono ?_
 rintro e w1 ⟨qr, rfl, hk, hQ, hm⟩
 obtain ⟨k, A, c, ws, n, B, d, xs⟩ := qr
 have hk0 := hk
 rw [QR.key_mk] at hk
 injection hk with e1 e2 e3 e4
 subst e1 e2 e3
 obtain ⟨a1, r1, rfl, g1, g2⟩ := List.map_eq_cons_iff.1 e4
 obtain ⟨a2, r2, rfl, g3, g4⟩ := List.map_eq_cons_iff.1 g2
 have hr2 : r2 = [] := List.map_eq_nil_iff.1 g4
 subst hr2
 have hq1 := hQ.allH a1 (by simp)
 have hq2 := hQ.allH a2 (by simp)
 obtain ⟨A1, c1, B1, d1, rfl⟩ := leaf_of g1
 obtain ⟨A2, c2, B2, d2, rfl⟩ := leaf_of g3
 simp only [qA_mk]
 have hmA : Pure w1 (w1.alloc (.cells #[.int .i64 4, .slice A 0 c, .int .i64 1, .slice B 2 d] 29)) := (Mod.refl _ _).alloc _
 have HMX := Lib.hid (matches4_calls (w1.alloc (.cells #[.int .i64 4, .slice A 0 c, .int .i64 1, .slice B 2 d] 29)) askIt A B c d 1 [] [.mk 2 A1 c1 [askD] 0 B1 d1 [], .mk 2 A2 c2 [askF] 0 B2 d2 []] (plcQ (wsQ (wordsQ askIt.text)) askQy) (by unfold ItL askIt; simp) (HE.out.pure (hm.trans hmA)) ask_item (hQ.pure hmA) (by rw [hk0]; exact ask_qb) (by rw [hk0]; exact ask_check) (by rw [ask_words]; decide)
  (fun W' Aw nw cw hW hw => by
   have hwl : ∀ x ∈ wordsQ askIt.text, x.2.length ≤ 1000000 := by rw [ask_words]; simp [askF, askD]
   have hW2 : (wordsQ askIt.text).length ≤ 1000 := by rw [ask_words]; decide
   have h := placesN_calls W' (.slice Aw nw cw) (wordsQ askIt.text) 1 A B c d [] (.mk 2 A1 c1 [askD] 0 B1 d1 []) (.mk 2 A2 c2 [askF] 0 B2 d2 []) ((hQ.pure hmA).pure hW) hW2 (by decide) (by decide)
    (fun W2 h2 => placesW_calls W2 _ _ 2 0 A1 B1 c1 d1 [askD] [] (.inl rfl) (((hq1.pure hmA).pure hW).pure h2) (hw.pure h2) (by decide) (by decide) (by simp [askD]) hW2 hwl)
    (fun W2 h2 => placesW_calls W2 _ _ 2 0 A2 B2 c2 d2 [askF] [] (.inl rfl) (((hq2.pure hmA).pure hW).pure h2) (hw.pure h2) (by decide) (by decide) (by simp [askF]) hW2 hwl)
   rw [hk0] at h
   exact h))
 rw [ask_some] at HMX
 have HM := Lib.hid (hm.trans hmA)
 have hb := Blk.new w1 29 #[.int .i64 4, .slice A 0 c, .int .i64 1, .slice B 2 d]
 have x0 := hb.cell 0; have x1 := hb.cell 1; have x2 := hb.cell 2; have x3 := hb.cell 3; simp at x0 x1 x2 x3
 simp only [qA_mk] at HMX
 unfold itA askIt at HMX
 clear hk0 hQ hm e4 g1 g2 g3 g4 hq1 hq2 hmA hb HP
 go_wp2_with fail
 refine HMX.out.mono ?_
 rintro e w3 ⟨rfl, hm3⟩
 go_wp2_with fail
 go_ret
 exact ⟨rfl, HM.out.trans hm3⟩

end Go.Proofs.YtbajgjbdcgakoaaGreatDoor

/- Quoted strings: Unquoted of the reference. -/
namespace Go.Proofs.YtbajgjbdcgakoaaGreatDoor
set_option linter.unusedVariables false
set_option linter.unusedSimpArgs false
open Go.RowKit

end Go.Proofs.YtbajgjbdcgakoaaGreatDoor

/- Quoted strings: strange strings, taken. -/
namespace Go.Proofs.YtbajgjbdcgakoaaGreatDoor
set_option linter.unusedVariables false
set_option linter.unusedSimpArgs false
open Go.RowKit

end Go.Proofs.YtbajgjbdcgakoaaGreatDoor

/- What the listed variables of the item laws hold. -/
namespace Go.Proofs.YtbajgjbdcgakoaaGreatDoor
set_option linter.unusedVariables false
set_option linter.unusedSimpArgs false
open Go.RowKit

def litZ : DataW Unit → Int
 | .lit (.int _ n) => n
 | _ => 0
def litsZ : DataW Unit → List Int
 | .agg ps => ps.map litZ
 | _ => []
theorem cell_of_var {W : World} {g : Nat} {name : String} {cs : Array Value} (hg : Tryz.prog.globalNamed name = some g) (h : W.var? Tryz.prog name = some cs) (i : Nat) : W.cell? ⟨g, i, none⟩ = cs[i]? := by
 unfold World.var? at h
 rw [hg] at h
 simp only [Option.bind_some] at h
 split at h
 ·rename_i hh
  injection h with h
  subst h
  exact cell_of_row W g i _ _ _ hh
 ·cases h
theorem star : "*" ++ "errors.errorString" = "*errors.errorString" := by decide
theorem rowErr (u : TypeId) (h : Tryz.prog.typeName? 3 u = some "*errors.errorString") : u = 248 :=
 typeName_ptr_named (nm := "errors.errorString") (by rw [star]; kernel_rfl) (by kernel_rfl) (by decide) u (by rw [star]; exact h)
/-- The list that all rows of this seat have. -/
abbrev laidI : List (String × DataW Unit) := [("math/bits.deBruijn32tab", Rows.laid_math_bits_deBruijn32tab), ("math/bits.deBruijn64tab", Rows.laid_math_bits_deBruijn64tab), ("internal/strconv.uint64pow10", Rows.laid_internal_strconv_uint64pow10), ("unicode/utf8.acceptRanges", Rows.laid_unicode_utf8_acceptRanges), ("strconv.ErrRange", Rows.laid_strconv_ErrRange), ("strconv.ErrSyntax", Rows.laid_strconv_ErrSyntax), ("unicode/utf8.first", Rows.laid_unicode_utf8_first)]
theorem deb_of {W : World} (hL : laidMet Tryz.prog laidI W) : Deb W := by
 have h1 := Lib.tabIs_of_head (k := .u8) (zs := litsZ Rows.laid_math_bits_deBruijn64tab) (g := 5) (name := "math/bits.deBruijn64tab") (P := Tryz.prog) (W := W) (n := 64) (t := 226) (e := 5) (by kernel_rfl) (by kernel_rfl) (by kernel_rfl) (by kernel_rfl) (by kernel_rfl) (by kernel_rfl) hL.tail
 exact (cell_of_var (by kernel_rfl) h1 15).trans (by kernel_rfl)
theorem err_of {W : World} (hL : laidMet Tryz.prog laidI W) : ErrS W := by
 obtain ⟨a, s, hv, _⟩ := laid_sentinel (g := 6) hL.tail.tail.tail.tail.tail (by kernel_rfl) (by kernel_rfl) Tryz.underlying128 rowErr Tryz.underlying248 Tryz.underlying250 rfl rfl Tryz.underlying9 (by kernel_rfl) (by kernel_rfl)
 exact ⟨_, _, (cell_of_var (by kernel_rfl) hv 0).trans rfl⟩
theorem dFirst : Rows.laid_unicode_utf8_first = Lib.firstData := by kernel_rfl
theorem dAccept : (Rows.laid_unicode_utf8_acceptRanges : DataW Unit) = Lib.acceptData := by kernel_rfl
theorem utf_of {W : World} (hL : laidMet Tryz.prog laidI W) : Utf W :=
 utf8Tabs_of_readsT (ρ := Tryz.lays196_ren) (U8Types.of196 Tryz.lays196) ⟨by kernel_rfl, by kernel_rfl, by kernel_rfl, by kernel_rfl, by kernel_rfl, by kernel_rfl, by kernel_rfl⟩
  (dFirst ▸ Lib.laidMet.reads hL (by simp [laidI])) (dAccept ▸ Lib.laidMet.reads hL (by simp [laidI]))
theorem mln_of {W : World} (h : W.ShapedOpen Tryz.prog) : Mln W := Tryz.laysM144.s1_3 W h
theorem env_of {W : World} (hL : laidMet Tryz.prog laidI W) (h : W.ShapedOpen Tryz.prog) : Env W := ⟨utf_of hL, mln_of h⟩

end Go.Proofs.YtbajgjbdcgakoaaGreatDoor

/- The law QueryOrders. -/
namespace Go.Proofs.YtbajgjbdcgakoaaGreatDoor
set_option linter.unusedVariables false
set_option linter.unusedSimpArgs false
open Go.RowKit

/-- Two boxes with searches; the second's error. -/
def OqI (w : World) (g4 g6 : Nat) (q1 : QR) (p : Value) (wx : World) : Prop := ∃ q2 : QR, p = .int .i64 (checkQ q2.key) ∧ Blk wx g4 29 (qC q1).toArray ∧ Blk wx g6 29 (qC q2).toArray ∧ QS wx q1 ∧ QS wx q2 ∧ QB 103 q2.key ∧ qSize q2.key ≤ 200 ∧ Pure w wx
set_option maxRecDepth 100000 in
set_option maxHeartbeats 16000000 in
theorem QueryOrders_calls (w : World) (A : Option Addr) (n c : Nat) (hA : ArgInts w A n) (hE : ErrS w) (hD : Deb w) (hV : Env w) : Calls Tryz.prog 5 #[.slice A n c] w (BoolPost w true) := by
 have hS0 := strm_new (c := c) hA
 have HV : Hid (∀ w1, Pure w w1 → Env w1) := Lib.hid (fun _ h => hV.pure h)
 obtain ⟨b, hb⟩ : ∃ b, b = w.heap.size := ⟨_, rfl⟩
 have P0 := pure_alloc w (.cells #[.slice A n c, .int .i64 0] 25)
 rw [← hb] at hS0
 have hwb : w.heap.size ≤ b := by omega
 clear hE hD hV hA
 go_enter Tryz.func5, Tryz.ntmps5
 go_wp2_with fail
 rw [← hb]
 generalize (w.alloc (.cells #[.slice A n c, .int .i64 0] 25)) = w0 at *
 clear hb
 have hb0 := hS0.lt
 refine (someQuery_calls w0 b 0 hS0 (by omega)).mono ?_
 rintro e w1 ⟨⟨k1, A1, c1, ws1, n1, B1, d1, xs1⟩, rfl, hq1, hf1, hqz1, hb1, hsz1, hS1, hM1⟩
 rw [qA_mk]
 have hpa := pure_alloc w1 (.cells #[.int .i64 k1, .slice A1 ws1.length c1, .int .i64 n1, .slice B1 xs1.length d1] 29)
 have hs01 := hM1.size
 have P1 : Pure w w1 := P0.trans' hM1 (fun i hi hlt => by omega)
 have hX := Blk.new w1 29 #[.int .i64 k1, .slice A1 ws1.length c1, .int .i64 n1, .slice B1 xs1.length d1]
 have HX := Lib.hid hX
 have HQ := Lib.hid (hq1.pure hpa)
 have HQ1 := Lib.hid hq1
 have HP := Lib.hid (P1.trans hpa)
 have HB := Lib.hid hb1
 have HZ := Lib.hid hqz1
 have HS2w := Lib.hid (hS1.pure hpa)
 have HC := Lib.hid (someQuery_calls (w1.alloc (.cells #[.int .i64 k1, .slice A1 ws1.length c1, .int .i64 n1, .slice B1 xs1.length d1] 29)) b _ (hS1.pure hpa) (by omega))
 have hbg : b < w1.heap.size := by omega
 have hw1 : w1.heap.size ≤ w1.heap.size := Nat.le_refl _
 have hgl : w1.heap.size < (w1.alloc (.cells #[.int .i64 k1, .slice A1 ws1.length c1, .int .i64 n1, .slice B1 xs1.length d1] 29)).heap.size := hX.lt
 obtain ⟨ck, hck⟩ : ∃ ck, checkQ (QR.key (QR.mk k1 A1 c1 ws1 n1 B1 d1 xs1)) = ck := ⟨_, rfl⟩
 have HCK := Lib.hid hck
 try simp only [hck]
 clear hck hpa hq1 hf1 hqz1 hb1 hS1 hM1 P0 P1 hS0 hX
 go_upto_region 3 with (fail)
 generalize (w1.alloc (.cells #[.int .i64 k1, .slice A1 ws1.length c1, .int .i64 n1, .slice B1 xs1.length d1] 29)) = w2 at *
 obtain ⟨g4, hg4⟩ : ∃ g4, w1.heap.size = g4 := ⟨_, rfl⟩
 rw [hg4] at HX
 try simp only [hg4]
 have hg4l : w1.heap.size ≤ g4 := by omega
 have hg4r : g4 ≤ w1.heap.size := by omega
 clear hg4 hw1
 go_wp2_with fail
 refine HC.out.mono ?_
 rintro e w3 ⟨⟨k2, A2, c2, ws2, n2, B2, d2, xs2⟩, rfl, hq2, hf2, hqz2, hb2, hsz2, hS3, hM3⟩
 rw [qA_mk]
 have hs23 := hM3.size
 have hpa := pure_alloc w3 (.cells #[.int .i64 k2, .slice A2 ws2.length c2, .int .i64 n2, .slice B2 xs2.length d2] 29)
 have hX4 := (HX.out.modb hM3 (by omega)).alloc (.cells #[.int .i64 k2, .slice A2 ws2.length c2, .int .i64 n2, .slice B2 xs2.length d2] 29)
 have hY4 := Blk.new w3 29 #[.int .i64 k2, .slice A2 ws2.length c2, .int .i64 n2, .slice B2 xs2.length d2]
 have HI4 : Hid (OqI w g4 w3.heap.size (QR.mk k1 A1 c1 ws1 n1 B1 d1 xs1) (.int .i64 (checkQ (QR.key (QR.mk k2 A2 c2 ws2 n2 B2 d2 xs2)))) (w3.alloc (.cells #[.int .i64 k2, .slice A2 ws2.length c2, .int .i64 n2, .slice B2 xs2.length d2] 29))) := Lib.hid ⟨(QR.mk k2 A2 c2 ws2 n2 B2 d2 xs2), rfl, hX4, hY4, (HQ.out.strm (HS2w.out) hM3).pure hpa, hq2.pure hpa, hb2.mono (by omega), by omega, (HP.out.trans' hM3 (fun i hi hlt => by omega)).trans hpa⟩
 have hS4 := hS3.pure hpa
 have HFL := Lib.hid (flip_calls (w3.alloc (.cells #[.int .i64 k2, .slice A2 ws2.length c2, .int .i64 n2, .slice B2 xs2.length d2] 29)) b _ 3 hS4 (by omega) (by omega) (by omega))
 have hg6l : w1.heap.size ≤ w3.heap.size := by omega
 have hg46 : g4 < w3.heap.size := by omega
 have hg6r : w3.heap.size < (w3.alloc (.cells #[.int .i64 k2, .slice A2 ws2.length c2, .int .i64 n2, .slice B2 xs2.length d2] 29)).heap.size := hY4.lt
 have HS4 := Lib.hid hS4
 clear hq2 hf2 hqz2 hb2 hsz2 hS3 hM3 hs23 hpa hX4 hY4 HX HQ HP HC HS2w hS4
 go_upto_region 4 with (fail)
 generalize (w3.alloc (.cells #[.int .i64 k2, .slice A2 ws2.length c2, .int .i64 n2, .slice B2 xs2.length d2] 29)) = w4 at *
 obtain ⟨g6, hg6⟩ : ∃ g6, w3.heap.size = g6 := ⟨_, rfl⟩
 rw [hg6] at HI4 hg6l hg46 hg6r
 try simp only [hg6]
 clear hg6
 generalize checkQ (QR.key (QR.mk k2 A2 c2 ws2 n2 B2 d2 xs2)) = cb at *
 go_wp2_with fail
 refine HFL.out.mono ?_
 rintro e w5 ⟨fl, rfl, hS5, hM5⟩
 have HI5 : Hid (OqI w g4 g6 (QR.mk k1 A1 c1 ws1 n1 B1 d1 xs1) (.int .i64 cb) w5) := Lib.hid (by
  obtain ⟨q2, h1, h2, h3, h4, h5, h6, h7, h8⟩ := HI4.out
  exact ⟨q2, h1, h2.modb hM5 (by omega), h3.modb hM5 (by omega), h4.strm HS4.out hM5, h5.strm HS4.out hM5, h6, h7, h8.trans' hM5 (fun i hi hlt => by omega)⟩)
 have hs45 := hM5.size
 clear hM5 HI4 HS4 HFL
 go_upto_if 25 with (fail)
 go_cut [7] (fun p wx => OqI w g4 g6 (QR.mk k1 A1 c1 ws1 n1 B1 d1 xs1) p wx)
 case first =>
  cases fl with
  | false =>
   go_wp2_with fail
   go_meet
   exact HI5.out
  | true =>
   obtain ⟨q2, h1, h2, h3, h4, h5, h6, h7, h8⟩ := HI5.out
   obtain ⟨k2, A2, c2, ws2, n2, B2, d2, xs2⟩ := q2
   have h2 : Blk w5 g4 29 #[.int .i64 k1, .slice A1 ws1.length c1, .int .i64 n1, .slice B1 xs1.length d1] := h2
   have h3 : Blk w5 g6 29 #[.int .i64 k2, .slice A2 ws2.length c2, .int .i64 n2, .slice B2 xs2.length d2] := h3
   have HSP := Lib.hid (spoil_calls w5 b _ 101 121 (QR.mk k1 A1 c1 ws1 n1 B1 d1 xs1) hS5 (by omega) h4 HZ.out HB.out (by omega) (by omega) hsz1)
   rw [qA_mk] at HSP
   have HX := Lib.hid h2
   have HY := Lib.hid h3
   have HQ := Lib.hid h4
   have HP := Lib.hid h8
   have HSS := Lib.hid hS5
   have hbr := hS5.lt
   have x0 := h2.cell 0; have x1 := h2.cell 1; have x2 := h2.cell 2; have x3 := h2.cell 3; simp at x0 x1 x2 x3
   have y0 := h3.cell 0; have yf0 := h3.frozen 0; have y1 := h3.cell 1; have yf1 := h3.frozen 1; have y2 := h3.cell 2; have yf2 := h3.frozen 2; have y3 := h3.cell 3; have yf3 := h3.frozen 3; simp at y0 y1 y2 y3
   clear h1 h2 h3 h4 h5 h6 h7 h8 hS5 HI5
   go_wp2_with fail
   refine HSP.out.mono ?_
   rintro e w6 ⟨⟨k3, A3, c3, ws3, n3, B3, d3, xs3⟩, rfl, hq3, hf3, hqz3, hb3, hsz3, hS6, hM6⟩
   rw [qA_mk]
   have hX6 := HX.out.modb hM6 (by omega)
   have hY6 := HY.out.modb hM6 (by omega)
   have hs56 := hM6.size
   have hmF : Mod (· = g6) w6 ((((w6.setCell ⟨g6, 0, none⟩ (.int .i64 k3)).setCell ⟨g6, 1, none⟩ (.slice A3 ws3.length c3)).setCell ⟨g6, 2, none⟩ (.int .i64 n3)).setCell ⟨g6, 3, none⟩ (.slice B3 xs3.length d3)) := st4_mod
   have hY7 := st4_blk (a := .int .i64 k3) (b := .slice A3 ws3.length c3) (c := .int .i64 n3) (d := .slice B3 xs3.length d3) hY6
   have hX7 := hX6.mod hmF (by omega)
   have hQ7 := ((HQ.out.strm HSS.out hM6).modN (QN.new HQ1.out (S := (· = g6)) (fun i hi => by omega)) hmF (blk_nostr hY6))
   have hR7 := hq3.modF hf3 hmF (blk_nostr hY6) (fun x hx => by show ¬ x = g6; omega)
   have hP7 := (HP.out.trans' hM6 (fun i hi hlt => by omega)).trans' hmF (fun i hi hlt => by omega)
   have HFA := Lib.hid (queryFault_calls ((((w6.setCell ⟨g6, 0, none⟩ (.int .i64 k3)).setCell ⟨g6, 1, none⟩ (.slice A3 ws3.length c3)).setCell ⟨g6, 2, none⟩ (.int .i64 n3)).setCell ⟨g6, 3, none⟩ (.slice B3 xs3.length d3)) _ hR7 (hb3.mono (by omega)) (by omega))
   rw [qA_mk] at HFA
   have HI7 : Hid (OqI w g4 g6 (QR.mk k1 A1 c1 ws1 n1 B1 d1 xs1) (.int .i64 (checkQ (QR.key (QR.mk k3 A3 c3 ws3 n3 B3 d3 xs3)))) ((((w6.setCell ⟨g6, 0, none⟩ (.int .i64 k3)).setCell ⟨g6, 1, none⟩ (.slice A3 ws3.length c3)).setCell ⟨g6, 2, none⟩ (.int .i64 n3)).setCell ⟨g6, 3, none⟩ (.slice B3 xs3.length d3))) := Lib.hid ⟨(QR.mk k3 A3 c3 ws3 n3 B3 d3 xs3), rfl, hX7, hY7, hQ7, hR7, hb3.mono (by omega), by omega, hP7⟩
   have HY7 := Lib.hid hY7
   have z0 := hY6.cell 0; have zf0 := hY6.frozen 0; have z1 := hY6.cell 1; have zf1 := hY6.frozen 1; have z2 := hY6.cell 2; have zf2 := hY6.frozen 2; have z3 := hY6.cell 3; have zf3 := hY6.frozen 3; simp at z0 z1 z2 z3
   clear hX6 hY6 hmF hY7 hX7 hQ7 hR7 hP7 hq3 hf3 hqz3 hb3 hsz3 hS6 hM6 HSP HX HY HQ HP x0 x1 x2 x3 y0 y1 y2 y3 yf0 yf1 yf2 yf3
   go_upto_region 6 with (fail)
   generalize ((((w6.setCell ⟨g6, 0, none⟩ (.int .i64 k3)).setCell ⟨g6, 1, none⟩ (.slice A3 ws3.length c3)).setCell ⟨g6, 2, none⟩ (.int .i64 n3)).setCell ⟨g6, 3, none⟩ (.slice B3 xs3.length d3)) = w7 at *
   generalize checkQ (QR.key (QR.mk k3 A3 c3 ws3 n3 B3 d3 xs3)) = cc at *
   have hY8 : Blk w7 g6 29 #[.int .i64 k3, .slice A3 ws3.length c3, .int .i64 n3, .slice B3 xs3.length d3] := HY7.out
   have v0 := hY8.cell 0; have v1 := hY8.cell 1; have v2 := hY8.cell 2; have v3 := hY8.cell 3; simp at v0 v1 v2 v3
   clear hY8 z0 z1 z2 z3 zf0 zf1 zf2 zf3
   go_wp2_with fail
   refine HFA.out.mono ?_
   rintro e w8 ⟨rfl, hm8⟩
   have HI8 : Hid (OqI w g4 g6 (QR.mk k1 A1 c1 ws1 n1 B1 d1 xs1) (.int .i64 cc) w8) := Lib.hid (by
    obtain ⟨q2, h1, h2, h3, h4, h5, h6, h7, h8⟩ := HI7.out
    exact ⟨q2, h1, h2.modp hm8, h3.modp hm8, h4.pure hm8, h5.pure hm8, h6, h7, h8.trans hm8⟩)
   clear hm8 HFA HI7 HY7 v0 v1 v2 v3
   go_wp2_with fail
   go_meet
   exact HI8.out
 case rest =>
  clear HI5 hS5
  obtain ⟨⟨k2, A2, c2, ws2, n2, B2, d2, xs2⟩, rfl, h2, h3, h4, h5, h6, h7, h8⟩ := hcut
  have h2 : Blk wc g4 29 #[.int .i64 k1, .slice A1 ws1.length c1, .int .i64 n1, .slice B1 xs1.length d1] := h2
  have h3 : Blk wc g6 29 #[.int .i64 k2, .slice A2 ws2.length c2, .int .i64 n2, .slice B2 xs2.length d2] := h3
  have HX := Lib.hid h2
  have HY := Lib.hid h3
  have HP := Lib.hid h8
  have HOD := Lib.hid (Order_calls _ _ wc h4 h5 (HB.out.mono (by omega)) (h6.mono (by omega)))
  have HRO := Lib.hid (fun W (h : Pure wc W) => orderR_calls _ _ W (h4.pure h) (h5.pure h) (HB.out.mono (by omega)) (h6.mono (by omega)))
  have HAS := Lib.hid (fun W (h : Pure w W) => asks_calls W (HV.out W h))
  rw [qA_mk, qA_mk] at HOD
  rw [qA_mk] at HRO
  rw [qA_mk] at HRO
  unfold OrdP2 at HOD
  rw [HCK.out] at HOD
  generalize ordQR (QR.key (QR.mk k1 A1 c1 ws1 n1 B1 d1 xs1)) (QR.key (QR.mk k2 A2 c2 ws2 n2 B2 d2 xs2)) = orr at *
  generalize checkQ (QR.key (QR.mk k2 A2 c2 ws2 n2 B2 d2 xs2)) = cb2 at *
  have HWO : Hid (∀ (W : World) (g : Nat), Blk W g 30 #[.int .i64 ck, .int .i64 cb2] → Calls Tryz.prog 19 #[.slice (some ⟨g, 0, none⟩) 2 2] W (IntPost W (firstErr [ck, cb2]))) := Lib.hid (fun W g h => wrongOr_calls W g 2 [ck, cb2] h.row0 (by simp))
  have x0 := h2.cell 0; have x1 := h2.cell 1; have x2 := h2.cell 2; have x3 := h2.cell 3; simp at x0 x1 x2 x3
  have y0 := h3.cell 0; have y1 := h3.cell 1; have y2 := h3.cell 2; have y3 := h3.cell 3; simp at y0 y1 y2 y3
  clear h2 h3 h4 h5 h6 h7 h8
  go_wp2_with fail
  refine HOD.out.mono ?_
  rintro e w6 ⟨er, her, rfl, hm6⟩
  rw [← her] at HWO
  have HP6 := Lib.hid (HP.out.trans hm6)
  have HM6 := Lib.hid hm6
  have hX6 := HX.out.modp hm6
  have hY6 := HY.out.modp hm6
  have HX6 := Lib.hid hX6
  have HY6 := Lib.hid hY6
  have HW := Lib.hid (HWO.out (w6.alloc (.cells #[.int .i64 ck, .int .i64 cb2] 30)) w6.heap.size (Blk.new _ _ _))
  clear her hm6 HOD HWO HX HY x0 x1 x2 x3 y0 y1 y2 y3 hX6 hY6 HP
  by_cases h0 : er = 0
  ·subst h0
   rw [if_pos rfl]
   go_wp2_with fail
   refine HW.out.mono ?_
   rintro e w7 ⟨rfl, hm7'⟩
   have hm67 : Pure w6 w7 := (pure_alloc _ _).trans hm7'
   have HP7 := Lib.hid (HP6.out.trans hm67)
   have hX7 := HX6.out.modp hm67
   have hY7 := HY6.out.modp hm67
   have HR := Lib.hid (HRO.out w7 (HM6.out.trans hm67))
   have x0 := hX7.cell 0; have x1 := hX7.cell 1; have x2 := hX7.cell 2; have x3 := hX7.cell 3; simp at x0 x1 x2 x3
   have y0 := hY7.cell 0; have y1 := hY7.cell 1; have y2 := hY7.cell 2; have y3 := hY7.cell 3; simp at y0 y1 y2 y3
   clear hX7 hY7 hm67 hm7' HW HP6 HM6 HX6 HY6 HRO
   go_wp2_with fail
   refine HR.out.mono ?_
   rintro e w8 ⟨rfl, hm8⟩
   have HP8 := Lib.hid (HP7.out.trans hm8)
   clear hm8 HR
   go_wp2_with fail
   refine (HAS.out _ HP8.out).mono ?_
   rintro e w9 ⟨rfl, hm9⟩
   have HP9 := Lib.hid (HP8.out.trans hm9)
   clear hm9
   go_wp2_with fail
   go_ret
   exact ⟨rfl, HP9.out⟩
  ·have h0n : (er != 0) = true := by simpa using h0
   rw [if_neg h0]
   go_wp2_with fail
   refine HW.out.mono ?_
   rintro e w7 ⟨rfl, hm7'⟩
   have hm67 : Pure w6 w7 := (pure_alloc _ _).trans hm7'
   have HP7 := Lib.hid (HP6.out.trans hm67)
   clear hm67 hm7' HW HP6 HM6 HX6 HY6 HRO
   go_wp2_with fail
   refine (HAS.out _ HP7.out).mono ?_
   rintro e w9 ⟨rfl, hm9⟩
   have HP9 := Lib.hid (HP7.out.trans hm9)
   clear hm9
   go_wp2_with fail
   go_ret
   exact ⟨rfl, HP9.out⟩

end Go.Proofs.YtbajgjbdcgakoaaGreatDoor
