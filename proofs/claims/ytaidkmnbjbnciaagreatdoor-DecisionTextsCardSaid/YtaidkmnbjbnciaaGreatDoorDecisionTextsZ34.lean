/- Texts of the proof of DecisionTexts, put together: RdA, RdC, RdD, RdB. -/
import Derived.Test.YtaidkmnbjbnciaaGreatDoorDecisionTextsZ4
import Derived.Test.YtaidkmnbjbnciaaGreatDoorDecisionTextsZ15
import Derived.Test.YtaidkmnbjbnciaaGreatDoorDecisionTextsZ16
import Derived.Test.YtaidkmnbjbnciaaGreatDoorDecisionTextsZ18
import Derived.Test.YtaidkmnbjbnciaaGreatDoorDecisionTextsZ21
import Derived.Test.YtaidkmnbjbnciaaGreatDoorDecisionTextsZ26
import Derived.Test.YtaidkmnbjbnciaaGreatDoorDecisionTextsZ27
import Derived.Shelf.Strings.Fields
import Derived.Lib.LaidTab
import Derived.Deep.DeepCutAuto
import Derived.Deep.CutBlock
import Derived.Deep.AppendLies
/- The one line that the laws of reviews have read: its words, its field. -/
namespace Go.Proofs.YtaidkmnbjbnciaaGreatDoor
set_option linter.unusedVariables false
set_option linter.unusedSimpArgs false
open Go.RowKit

/-- The library's table of blanks is as it is laid. -/
def Asc (w : World) : Prop := Lib.TabIs Tryz.prog w "strings.asciiSpace" .u8 Lib.asciiSpaceTab
theorem asc_g : Tryz.prog.globalNamed "strings.asciiSpace" = some 0 := by kernel_rfl
theorem Asc.mod {w w' : World} {S : Nat → Prop} (h : Asc w) (hm : Mod S w w') (hs : ¬ S 0) : Asc w' := by
 unfold Asc Lib.TabIs World.var? at h ⊢
 rw [asc_g] at h ⊢
 simp only [Option.bind_some] at h ⊢
 cases hh : w.heap[0]? with
 | none => rw [hh] at h; cases h
 | some o =>
  rw [hm.block _ (lt_of_heap hh) hs]
  exact h
theorem Asc.pure {w w' : World} (h : Asc w) (hm : Pure w w') : Asc w' := h.mod hm id
def ws5 : List Str := [[97, 115, 107], [97], [111, 110, 101], [110, 111, 110, 101], [98]]
def sp3 : List Str := [wNone, wSame, wFamily]
set_option maxRecDepth 100000 in
theorem spreads_calls (w : World) (hA : Asc w) : Calls Tryz.prog 59 #[] w (fun e w' => e = .returned (.slice (some ⟨w.heap.size, 0, none⟩) 3 3) ∧ w' = w.alloc (.cells (strsV sp3).toArray 9)) := by
 have hall : ∀ b ∈ ([110, 111, 110, 101, 32, 115, 97, 109, 101, 32, 102, 97, 109, 105, 108, 121] : List UInt8), b.toNat < 128 := by decide
 have hf := Any.strings_Fields Tryz.lays157 info_strS asc_g ⟨#[110, 111, 110, 101, 32, 115, 97, 109, 101, 32, 102, 97, 109, 105, 108, 121]⟩ w (by decide) (fun j b hj => hall b (List.mem_of_getElem? hj)) hA
 have e1 : Lib.fields (⟨#[110, 111, 110, 101, 32, 115, 97, 109, 101, 32, 102, 97, 109, 105, 108, 121]⟩ : ByteArray).data.toList = sp3 := by decide +kernel
 rw [e1] at hf
 have HF := Lib.hid hf
 clear hf hA hall
 go_enter Tryz.func59, Tryz.ntmps59
 go_wp2_with fail
 refine HF.out.mono ?_
 rintro e w1 ⟨rfl, rfl⟩
 go_wp2_with fail
 go_ret
 exact ⟨rfl, rfl⟩

theorem blkSl3 {W : World} {g : Nat} {ss : List Str} (h : Blk W g 9 (strsV ss).toArray) (hl : ss.length ≤ 1000 := by decide) : Sl W 9 1 (.slice (some ⟨g, 0, none⟩) ss.length ss.length) (strsV ss) :=
 ⟨_, _, _, rfl, Nat.le_refl _, by omega, by simp [strsV], fun _ => ⟨g, 0, rfl, h.row0⟩⟩
def SlPost (w : World) (n : Nat) (ss : List Str) (e : Ending) (w' : World) : Prop := ∃ (A : Option Addr) (c : Nat), e = .returned (.slice A n c) ∧ Sl w' 9 1 (.slice A n c) (strsV ss) ∧ Pure w w'
theorem spreadsP_calls (w : World) (hA : Asc w) : Calls Tryz.prog 59 #[] w (SlPost w 3 sp3) := by
 refine (spreads_calls w hA).mono ?_
 rintro e w' ⟨rfl, rfl⟩
 exact ⟨_, _, rfl, blkSl3 (Blk.new _ _ _), (Mod.refl _ _).alloc _⟩
theorem spIndex_calls (w : World) (v : Value) (h : Sl w 9 1 v (strsV sp3)) : Calls Tryz.prog 76 #[v, .string ⟨#[110, 111, 110, 101]⟩] w (IntPost w 0) := by
 have := indexQs_calls w v sp3 wNone h
 rw [show idxQ (fun x => wNone == x) sp3 0 = 0 by decide] at this
 exact this
theorem cloneP_calls (w : World) (v : Value) (h : Sl w 9 1 v (strsV [[98]])) : Calls Tryz.prog 107 #[v] w (SlPost w 1 [[98]]) := by
 refine (cloneC_calls w v [[98]] h (by simp)).mono ?_
 rintro e w' ⟨v', rfl, hown, hm⟩
 have hs := Sl.of_own hown
 rcases hown.2 with ⟨_, h1⟩ | ⟨g', cap', cur, hv, _⟩
 ·cases h1
 ·subst hv
  exact ⟨_, _, rfl, hs, hm⟩
theorem slTail {W : World} {g off c : Nat} (h : RowAt W 9 g off (strsV ws5)) (h1 : 5 ≤ c) (h2 : c ≤ 1000) : Sl W 9 1 (.slice (some ⟨g, off + 4, none⟩) 1 (c - 4)) (strsV [[98]]) := by
 obtain ⟨arr, fr, e1, e2⟩ := h
 refine ⟨_, _, _, rfl, by omega, by omega, rfl, fun _ => ⟨g, off + 4, rfl, arr, fr, e1, fun i u hi => ?_⟩⟩
 have h0 : i = 0 := by
  rcases Nat.eq_zero_or_pos i with h | h
  ·exact h
  ·rw [List.getElem?_eq_none (by simp [strsV]; omega)] at hi
   cases hi
 subst h0
 have h5 := e2 4 u hi
 simpa using h5
theorem blk_tyR {W : World} {g k : Nat} {t t' : TypeId} {cs arr : Array Value} {fr : Nat × Nat} (h : Blk W g t cs) (hk : W.heap[k]? = some (.cells arr t' fr)) (hne : t ≠ t') : ¬ k = g := fun e => by
 subst e
 unfold Blk at h
 rw [h] at hk
 injection hk with hk
 injection hk with _ h2 _
 exact hne h2
def AskLn (w : World) (e : Ending) (w' : World) : Prop := ∃ (A : Option Addr) (c : Nat), e = .returned (.tuple #[.agg #[.string ⟨#[97]⟩, .slice A 1 c, .bool false, .int .i64 0], .bool true]) ∧ Sl w' 9 1 (.slice A 1 c) (strsV [[98]]) ∧ Pure w w'
set_option maxRecDepth 100000 in
set_option maxHeartbeats 8000000 in
theorem askLine_calls (w : World) (g off c : Nat) (hr : RowAt w 9 g off (strsV ws5)) (h1 : 5 ≤ c) (h2 : c ≤ 1000) (hA : Asc w) : Calls Tryz.prog 71 #[.slice (some ⟨g, off, none⟩) 5 c] w (AskLn w) := by
 have HG := Lib.hid (Blk.new w 99 #[.string ⟨#[]⟩, .slice none 0 0, .bool false, .int .i64 0])
 have hp := pure_alloc w (.cells #[.string ⟨#[]⟩, .slice none 0 0, .bool false, .int .i64 0] 99)
 have HP := Lib.hid hp
 have hgrw : w.heap.size ≤ w.heap.size := Nat.le_refl _
 have hz1 : (w.alloc (.cells #[.string ⟨#[]⟩, .slice none 0 0, .bool false, .int .i64 0] 99)).heap.size = w.heap.size + 1 := by simp
 have HR := Lib.hid (hr.mod hp id)
 have HAS : Hid (∀ W, Pure (w.alloc (.cells #[.string ⟨#[]⟩, .slice none 0 0, .bool false, .int .i64 0] 99)) W → Asc W) := Lib.hid (fun W h => hA.pure (hp.trans h))
 have d0 := HR.out.cell (i := 0) (u := .string ⟨#[97, 115, 107]⟩) rfl
 have d2 := HR.out.cell (i := 2) (u := .string ⟨#[111, 110, 101]⟩) rfl
 rw [Nat.add_zero] at d0
 clear hp hr hA
 go_enter Tryz.func71, Tryz.ntmps71
 go_upto_region 1 with (fail)
 generalize (w.alloc (.cells #[.string ⟨#[]⟩, .slice none 0 0, .bool false, .int .i64 0] 99)) = w1 at *
 generalize hgr : w.heap.size = gr at *
 have hgr2 := Nat.le_of_eq hgr
 clear hgr
 go_upto_region 3 with (fail)
 have hn5 : (5 : Int) ≤ (c : Int) := by omega
 have HGs := Lib.hid (show ∀ (D : Nat → Bool) (zzi : Nat) (zq zq' : World), (fun _ zq => (fun Z => RowAt Z 9 g off (strsV ws5) ∧ Blk Z gr 99 #[.string ⟨#[]⟩, .slice none 0 0, .bool false, .int .i64 0]) zq) D zq → Mod (fun _ => False) zq zq' → (fun _ zq => (fun Z => RowAt Z 9 g off (strsV ws5) ∧ Blk Z gr 99 #[.string ⟨#[]⟩, .slice none 0 0, .bool false, .int .i64 0]) zq) (upd D zzi true) zq' from by intro D zzi zq zq' h hm; (exact ⟨h.1.mod hm _root_.id, h.2.modp hm⟩))
 refine wp_region_inv (by kernel_rfl) (by kernel_rfl) (InvF (R := Mod (fun _ => False)) [.is (.slice (some ⟨g, off, none⟩) 5 c),
   .is (.pointer (some ⟨g, off + 1, none⟩)),
   .is (.string ⟨#[97]⟩),
   .is (.slice (some ⟨g, off, none⟩) 5 c),
   .is (.pointer (some ⟨g, off + 2, none⟩)),
   .is (.string ⟨#[111, 110, 101]⟩),
   .is (.bool false),
   ⟨fun zv zw => ∃ (A_7 : Option Addr) (c_7 : Nat), zv = .slice A_7 3 c_7 ∧ Sl zw 9 1 (.slice A_7 3 c_7) (strsV sp3), (by rintro zv zw zx ⟨A_7, c_7, rfl, q0⟩ hm; exact ⟨A_7, c_7, rfl, (q0.pure hm)⟩), none, some 11⟩,
   .is (.slice (some ⟨g, off, none⟩) 5 c),
   .is (.pointer (some ⟨g, off + 3, none⟩)),
   .is (.string ⟨#[110, 111, 110, 101]⟩),
   .is (.int .i64 0),
   .is (.slice (some ⟨g, off, none⟩) 5 c),
   .is (.slice (some ⟨g, off + 4, none⟩) 1 (c - 4)),
   ⟨fun zv zw => ∃ (A_14 : Option Addr) (c_14 : Nat), zv = .slice A_14 1 c_14 ∧ Sl zw 9 1 (.slice A_14 1 c_14) (strsV [[98]]), (by rintro zv zw zx ⟨A_14, c_14, rfl, q0⟩ hm; exact ⟨A_14, c_14, rfl, (q0.pure hm)⟩), none, some 15⟩,
   ⟨fun zv zw => ∃ (A_15 : Option Addr) (c_15 : Nat), zv = .agg #[.string ⟨#[97]⟩, .slice A_15 1 c_15, .bool false, .int .i64 0] ∧ Sl zw 9 1 (.slice A_15 1 c_15) (strsV [[98]]), (by rintro zv zw zx ⟨A_15, c_15, rfl, q0⟩ hm; exact ⟨A_15, c_15, rfl, (q0.pure hm)⟩), none, some 17⟩,
   ⟨fun zv zw => ∃ (g_16 : Nat), zv = .pointer (some ⟨g_16, 0, none⟩) ∧ w1.heap.size ≤ g_16 ∧ Blk zw g_16 99 #[.string ⟨#[]⟩, .slice none 0 0, .bool false, .int .i64 0], (by rintro zv zw zx ⟨g_16, rfl, c0, q0⟩ hm; exact ⟨g_16, rfl, c0, (q0.modp hm)⟩), none, some 17⟩,
   ⟨fun zv zw => ∃ (g_17 : Nat) (A_17 : Option Addr) (c_17 : Nat), zv = .pointer (some ⟨g_17, 0, none⟩) ∧ w1.heap.size ≤ g_17 ∧ Blk zw g_17 99 #[.string ⟨#[97]⟩, .slice A_17 1 c_17, .bool false, .int .i64 0] ∧ Sl zw 9 1 (.slice A_17 1 c_17) (strsV [[98]]), (by rintro zv zw zx ⟨g_17, A_17, c_17, rfl, c0, q0, q1⟩ hm; exact ⟨g_17, A_17, c_17, rfl, c0, (q0.modp hm), (q1.pure hm)⟩), some 16, none⟩]
   (PB w1 (fun _ => False) w1.heap.size (fun _ zq => (fun Z => RowAt Z 9 g off (strsV ws5) ∧ Blk Z gr 99 #[.string ⟨#[]⟩, .slice none 0 0, .bool false, .int .i64 0]) zq))) (InvF.start (PB.start (Mod.refl _ _) (Nat.le_refl _) (⟨HR.out.mod ((Mod.refl (fun _ => False) _).drew) _root_.id, HG.out.drew⟩))) ?_ ?_
 ·refine .cons ?_ (.cons ?_ (.cons ?_ (.cons ?_ (.cons ?_ (.cons ?_ (.cons ?_ (.cons ?_ (.cons ?_ (.cons ?_ (.cons ?_ (.cons ?_ (.cons ?_ (.cons ?_ (.cons ?_ (.cons ?_ (.cons ?_ (.cons ?_ .nil)))))))))))))))))
  ·intro D V zw1 a hR hI K hK
   obtain ⟨hM1, hB1, hG1⟩ := hI.1
   have ze0 := hR.frame.other (t := 0) (by kernel_rfl) rfl
   rw [if_pos (by rfl)]
   go_simp
   exact hK (.slice (some ⟨g, off, none⟩) 5 c) _ (hI.next hR (by kernel_rfl) (Mod.refl _ _) (PB.quiet hI.1 (Mod.refl _ _) (HGs.out D 0 zw1 zw1 (hI.1).g (Mod.refl _ _))) (upd_same V 0 _))
  ·intro D V zw1 a hR hI K hK
   obtain ⟨hM1, hB1, hG1⟩ := hI.1
   have zd0 := hR.pred 0 (by kernel_rfl)
   have zF0 : V 0 = .slice (some ⟨g, off, none⟩) 5 c := hI.2 0 zd0 rfl
   have zf0 := zF0; clear zF0
   have ze27 := hR.frame.done (t := 27) (j := 0) (by kernel_rfl) hR.ok zd0
   rw [if_pos (by rfl)]
   go_simp
   exact hK (.pointer (some ⟨g, off + 1, none⟩)) _ (hI.next hR (by kernel_rfl) (Mod.refl _ _) (PB.quiet hI.1 (Mod.refl _ _) (HGs.out D 1 zw1 zw1 (hI.1).g (Mod.refl _ _))) (upd_same V 1 _))
  ·intro D V zw1 a hR hI K hK
   obtain ⟨hM1, hB1, hG1⟩ := hI.1
   have zd1 := hR.pred 1 (by kernel_rfl)
   have zF1 : V 1 = .pointer (some ⟨g, off + 1, none⟩) := hI.2 1 zd1 rfl
   have zf1 := zF1; clear zF1
   have ze28 := hR.frame.done (t := 28) (j := 1) (by kernel_rfl) hR.ok zd1
   have zx0 := hG1.1.cell (i := 1) (u := .string ⟨#[97]⟩) rfl
   rw [if_pos (by rfl)]
   go_simp
   exact hK (.string ⟨#[97]⟩) _ (hI.next hR (by kernel_rfl) (Mod.refl _ _) (PB.quiet hI.1 (Mod.refl _ _) (HGs.out D 2 zw1 zw1 (hI.1).g (Mod.refl _ _))) (upd_same V 2 _))
  ·intro D V zw1 a hR hI K hK
   obtain ⟨hM1, hB1, hG1⟩ := hI.1
   have ze0 := hR.frame.other (t := 0) (by kernel_rfl) rfl
   rw [if_pos (by rfl)]
   go_simp
   exact hK (.slice (some ⟨g, off, none⟩) 5 c) _ (hI.next hR (by kernel_rfl) (Mod.refl _ _) (PB.quiet hI.1 (Mod.refl _ _) (HGs.out D 3 zw1 zw1 (hI.1).g (Mod.refl _ _))) (upd_same V 3 _))
  ·intro D V zw1 a hR hI K hK
   obtain ⟨hM1, hB1, hG1⟩ := hI.1
   have zd3 := hR.pred 3 (by kernel_rfl)
   have zF3 : V 3 = .slice (some ⟨g, off, none⟩) 5 c := hI.2 3 zd3 rfl
   have zf3 := zF3; clear zF3
   have ze30 := hR.frame.done (t := 30) (j := 3) (by kernel_rfl) hR.ok zd3
   rw [if_pos (by rfl)]
   go_simp
   exact hK (.pointer (some ⟨g, off + 2, none⟩)) _ (hI.next hR (by kernel_rfl) (Mod.refl _ _) (PB.quiet hI.1 (Mod.refl _ _) (HGs.out D 4 zw1 zw1 (hI.1).g (Mod.refl _ _))) (upd_same V 4 _))
  ·intro D V zw1 a hR hI K hK
   obtain ⟨hM1, hB1, hG1⟩ := hI.1
   have zd4 := hR.pred 4 (by kernel_rfl)
   have zF4 : V 4 = .pointer (some ⟨g, off + 2, none⟩) := hI.2 4 zd4 rfl
   have zf4 := zF4; clear zF4
   have ze31 := hR.frame.done (t := 31) (j := 4) (by kernel_rfl) hR.ok zd4
   have zx0 := hG1.1.cell (i := 2) (u := .string ⟨#[111, 110, 101]⟩) rfl
   rw [if_pos (by rfl)]
   go_simp
   exact hK (.string ⟨#[111, 110, 101]⟩) _ (hI.next hR (by kernel_rfl) (Mod.refl _ _) (PB.quiet hI.1 (Mod.refl _ _) (HGs.out D 5 zw1 zw1 (hI.1).g (Mod.refl _ _))) (upd_same V 5 _))
  ·intro D V zw1 a hR hI K hK
   obtain ⟨hM1, hB1, hG1⟩ := hI.1
   have zd5 := hR.pred 5 (by kernel_rfl)
   have zF5 : V 5 = .string ⟨#[111, 110, 101]⟩ := hI.2 5 zd5 rfl
   have zf5 := zF5; clear zF5
   have ze32 := hR.frame.done (t := 32) (j := 5) (by kernel_rfl) hR.ok zd5
   rw [if_pos (by rfl)]
   go_simp
   exact hK (.bool false) _ (hI.next hR (by kernel_rfl) (Mod.refl _ _) (PB.quiet hI.1 (Mod.refl _ _) (HGs.out D 6 zw1 zw1 (hI.1).g (Mod.refl _ _))) (upd_same V 6 _))
  ·intro D V zw1 a hR hI K hK
   obtain ⟨hM1, hB1, hG1⟩ := hI.1
   rw [if_pos (by rfl)]
   go_simp
   refine (spreadsP_calls _ (HAS.out _ hM1)).mono ?_
   rintro e zw2 ⟨A_0, c_0, rfl, hsl, hm2⟩
   exact hK (.slice A_0 3 c_0) _ (hI.next hR (by kernel_rfl) hm2 (PB.quiet hI.1 hm2 (HGs.out D 7 _ _ (hI.1).g hm2)) (⟨A_0, c_0, upd_same V 7 _, hsl⟩))
  ·intro D V zw1 a hR hI K hK
   obtain ⟨hM1, hB1, hG1⟩ := hI.1
   have ze0 := hR.frame.other (t := 0) (by kernel_rfl) rfl
   rw [if_pos (by rfl)]
   go_simp
   exact hK (.slice (some ⟨g, off, none⟩) 5 c) _ (hI.next hR (by kernel_rfl) (Mod.refl _ _) (PB.quiet hI.1 (Mod.refl _ _) (HGs.out D 8 zw1 zw1 (hI.1).g (Mod.refl _ _))) (upd_same V 8 _))
  ·intro D V zw1 a hR hI K hK
   obtain ⟨hM1, hB1, hG1⟩ := hI.1
   have zd8 := hR.pred 8 (by kernel_rfl)
   have zF8 : V 8 = .slice (some ⟨g, off, none⟩) 5 c := hI.2 8 zd8 rfl
   have zf8 := zF8; clear zF8
   have ze35 := hR.frame.done (t := 35) (j := 8) (by kernel_rfl) hR.ok zd8
   rw [if_pos (by rfl)]
   go_simp
   exact hK (.pointer (some ⟨g, off + 3, none⟩)) _ (hI.next hR (by kernel_rfl) (Mod.refl _ _) (PB.quiet hI.1 (Mod.refl _ _) (HGs.out D 9 zw1 zw1 (hI.1).g (Mod.refl _ _))) (upd_same V 9 _))
  ·intro D V zw1 a hR hI K hK
   obtain ⟨hM1, hB1, hG1⟩ := hI.1
   have zd9 := hR.pred 9 (by kernel_rfl)
   have zF9 : V 9 = .pointer (some ⟨g, off + 3, none⟩) := hI.2 9 zd9 rfl
   have zf9 := zF9; clear zF9
   have ze36 := hR.frame.done (t := 36) (j := 9) (by kernel_rfl) hR.ok zd9
   have zx0 := hG1.1.cell (i := 3) (u := .string ⟨#[110, 111, 110, 101]⟩) rfl
   rw [if_pos (by rfl)]
   go_simp
   exact hK (.string ⟨#[110, 111, 110, 101]⟩) _ (hI.next hR (by kernel_rfl) (Mod.refl _ _) (PB.quiet hI.1 (Mod.refl _ _) (HGs.out D 10 zw1 zw1 (hI.1).g (Mod.refl _ _))) (upd_same V 10 _))
  ·intro D V zw1 a hR hI K hK
   obtain ⟨hM1, hB1, hG1⟩ := hI.1
   have zd7 := hR.pred 7 (by kernel_rfl)
   have zF7 : ∃ (A_7 : Option Addr) (c_7 : Nat), V 7 = .slice A_7 3 c_7 ∧ Sl zw1 9 1 (.slice A_7 3 c_7) (strsV sp3) := hI.2 7 zd7 (by show (!D 11) = true; rw [hR.not]; rfl)
   obtain ⟨A_7, c_7, zf7, b7_0⟩ := zF7
   have zd10 := hR.pred 10 (by kernel_rfl)
   have zF10 : V 10 = .string ⟨#[110, 111, 110, 101]⟩ := hI.2 10 zd10 rfl
   have zf10 := zF10; clear zF10
   have ze34 := hR.frame.done (t := 34) (j := 7) (by kernel_rfl) hR.ok zd7
   have ze37 := hR.frame.done (t := 37) (j := 10) (by kernel_rfl) hR.ok zd10
   rw [if_pos (by rfl)]
   go_simp
   refine (spIndex_calls _ _ b7_0).mono ?_
   rintro e zw2 ⟨rfl, hm2⟩
   exact hK (.int .i64 0) _ (hI.next hR (by kernel_rfl) hm2 (PB.quiet hI.1 hm2 (HGs.out D 11 _ _ (hI.1).g hm2)) (upd_same V 11 _))
  ·intro D V zw1 a hR hI K hK
   obtain ⟨hM1, hB1, hG1⟩ := hI.1
   have ze0 := hR.frame.other (t := 0) (by kernel_rfl) rfl
   rw [if_pos (by rfl)]
   go_simp
   exact hK (.slice (some ⟨g, off, none⟩) 5 c) _ (hI.next hR (by kernel_rfl) (Mod.refl _ _) (PB.quiet hI.1 (Mod.refl _ _) (HGs.out D 12 zw1 zw1 (hI.1).g (Mod.refl _ _))) (upd_same V 12 _))
  ·intro D V zw1 a hR hI K hK
   obtain ⟨hM1, hB1, hG1⟩ := hI.1
   have zd12 := hR.pred 12 (by kernel_rfl)
   have zF12 : V 12 = .slice (some ⟨g, off, none⟩) 5 c := hI.2 12 zd12 rfl
   have zf12 := zF12; clear zF12
   have ze39 := hR.frame.done (t := 39) (j := 12) (by kernel_rfl) hR.ok zd12
   have zc4 : ¬ c = 4 := by omega
   rw [if_pos (by rfl)]
   go_simp
   exact hK (.slice (some ⟨g, off + 4, none⟩) 1 (c - 4)) _ (hI.next hR (by kernel_rfl) (Mod.refl _ _) (PB.quiet hI.1 (Mod.refl _ _) (HGs.out D 13 zw1 zw1 (hI.1).g (Mod.refl _ _))) (upd_same V 13 _))
  ·intro D V zw1 a hR hI K hK
   obtain ⟨hM1, hB1, hG1⟩ := hI.1
   have zd13 := hR.pred 13 (by kernel_rfl)
   have zF13 : V 13 = .slice (some ⟨g, off + 4, none⟩) 1 (c - 4) := hI.2 13 zd13 rfl
   have zf13 := zF13; clear zF13
   have ze40 := hR.frame.done (t := 40) (j := 13) (by kernel_rfl) hR.ok zd13
   rw [if_pos (by rfl)]
   go_simp
   refine (cloneP_calls _ _ (slTail hG1.1 h1 h2)).mono ?_
   rintro e zw2 ⟨A_0, c_0, rfl, hsl, hm2⟩
   exact hK (.slice A_0 1 c_0) _ (hI.next hR (by kernel_rfl) hm2 (PB.quiet hI.1 hm2 (HGs.out D 14 _ _ (hI.1).g hm2)) (⟨A_0, c_0, upd_same V 14 _, hsl⟩))
  ·intro D V zw1 a hR hI K hK
   obtain ⟨hM1, hB1, hG1⟩ := hI.1
   have zd2 := hR.pred 2 (by kernel_rfl)
   have zF2 : V 2 = .string ⟨#[97]⟩ := hI.2 2 zd2 rfl
   have zf2 := zF2; clear zF2
   have zd6 := hR.pred 6 (by kernel_rfl)
   have zF6 : V 6 = .bool false := hI.2 6 zd6 rfl
   have zf6 := zF6; clear zF6
   have zd11 := hR.pred 11 (by kernel_rfl)
   have zF11 : V 11 = .int .i64 0 := hI.2 11 zd11 rfl
   have zf11 := zF11; clear zF11
   have zd14 := hR.pred 14 (by kernel_rfl)
   have zF14 : ∃ (A_14 : Option Addr) (c_14 : Nat), V 14 = .slice A_14 1 c_14 ∧ Sl zw1 9 1 (.slice A_14 1 c_14) (strsV [[98]]) := hI.2 14 zd14 (by show (!D 15) = true; rw [hR.not]; rfl)
   obtain ⟨A_14, c_14, zf14, b14_0⟩ := zF14
   have ze29 := hR.frame.done (t := 29) (j := 2) (by kernel_rfl) hR.ok zd2
   have ze33 := hR.frame.done (t := 33) (j := 6) (by kernel_rfl) hR.ok zd6
   have ze38 := hR.frame.done (t := 38) (j := 11) (by kernel_rfl) hR.ok zd11
   have ze41 := hR.frame.done (t := 41) (j := 14) (by kernel_rfl) hR.ok zd14
   rw [if_pos (by rfl)]
   go_simp
   exact hK (_) _ (hI.next hR (by kernel_rfl) (Mod.refl _ _) (PB.quiet hI.1 (Mod.refl _ _) (HGs.out D 15 zw1 zw1 (hI.1).g (Mod.refl _ _))) (⟨A_14, c_14, upd_same V 15 _, b14_0⟩))
  ·intro D V zw1 a hR hI K hK
   obtain ⟨hM1, hB1, hG1⟩ := hI.1
   rw [if_pos (by rfl)]
   go_simp
   exact hK (_) _ (hI.next hR (by kernel_rfl) ((Mod.refl _ _).alloc _) (PB.quiet hI.1 (pure_alloc _ _) (HGs.out D 16 _ _ (hI.1).g ((Mod.refl _ _).alloc _))) (⟨_, upd_same V 16 _, (by omega), (Blk.new _ _ _)⟩))
  ·intro D V zw1 a hR hI K hK
   obtain ⟨hM1, hB1, hG1⟩ := hI.1
   have zd16 := hR.pred 16 (by kernel_rfl)
   have zF16 : ∃ (g_16 : Nat), V 16 = .pointer (some ⟨g_16, 0, none⟩) ∧ w1.heap.size ≤ g_16 ∧ Blk zw1 g_16 99 #[.string ⟨#[]⟩, .slice none 0 0, .bool false, .int .i64 0] := hI.2 16 zd16 (by show (!D 17) = true; rw [hR.not]; rfl)
   obtain ⟨g_16, zf16, c16_0, b16_0⟩ := zF16
   have zd15 := hR.pred 15 (by kernel_rfl)
   have zF15 : ∃ (A_15 : Option Addr) (c_15 : Nat), V 15 = .agg #[.string ⟨#[97]⟩, .slice A_15 1 c_15, .bool false, .int .i64 0] ∧ Sl zw1 9 1 (.slice A_15 1 c_15) (strsV [[98]]) := hI.2 15 zd15 (by show (!D 17) = true; rw [hR.not]; rfl)
   obtain ⟨A_15, c_15, zf15, b15_0⟩ := zF15
   have ze4 := hR.frame.done (t := 4) (j := 16) (by kernel_rfl) hR.ok zd16
   have ze42 := hR.frame.done (t := 42) (j := 15) (by kernel_rfl) hR.ok zd15
   rw [if_pos (by rfl)]
   have zx0 := b16_0.cell 0; have zx1 := b16_0.cell 1; have zx2 := b16_0.cell 2; have zx3 := b16_0.cell 3
   have zy0 := b16_0.frozen 0; have zy1 := b16_0.frozen 1; have zy2 := b16_0.frozen 2; have zy3 := b16_0.frozen 3
   simp at zx0 zx1 zx2 zx3
   have hB5 := (((b16_0.set 0 (.string ⟨#[97]⟩)).set 1 (.slice A_15 1 c_15)).set 2 (.bool false)).set 3 (.int .i64 0)
   have hgl : g < g_16 := by have := HR.out.lt; omega
   have hgrl : gr < g_16 := by have := HG.out.lt; omega
   have hmm : Mod (· = g_16) zw1 ((((zw1.setCell ⟨g_16, 0, none⟩ (.string ⟨#[97]⟩)).setCell ⟨g_16, 1, none⟩ (.slice A_15 1 c_15)).setCell ⟨g_16, 2, none⟩ (.bool false)).setCell ⟨g_16, 3, none⟩ (.int .i64 0)) := ((((Mod.refl (· = g_16) zw1).setCell (.inl rfl) _).setCell (.inl rfl) _).setCell (.inl rfl) _).setCell (.inl rfl) _
   have hS5 := b15_0.mod hmm (fun k arr fr hk => blk_tyR b16_0 hk (by decide))
   go_simp
   refine hK undef _ (InvF.last ⟨hM1.trans' hmm (fun i hi hlt => by omega), (by simpa using hB1), ⟨hG1.1.mod hmm (by omega), hG1.2.mod hmm (by omega)⟩⟩ ⟨g_16, A_15, c_15, (upd_ne V (i := 17) (k := 16) undef (by omega)).trans zf16, (by omega), (by simpa using hB5), hS5⟩ ?_)
   intro k hk hDk hlv
   have hkl := hR.lt k hDk
   have hv := hI.2 k hDk (liveB_of hlv)
   match k, hk, hDk, hlv, hkl, hv with
   | 0, _, _, _, _, hv => exact hv
   | 1, _, _, _, _, hv => exact hv
   | 2, _, _, _, _, hv => exact hv
   | 3, _, _, _, _, hv => exact hv
   | 4, _, _, _, _, hv => exact hv
   | 5, _, _, _, _, hv => exact hv
   | 6, _, _, _, _, hv => exact hv
   | 7, _, _, hlv, _, _ => exact absurd hlv (by show ¬ (!upd D 17 true 11) = true; rw [upd_ne _ _ (by omega), hR.pred 11 (by kernel_rfl)]; decide)
   | 8, _, _, _, _, hv => exact hv
   | 9, _, _, _, _, hv => exact hv
   | 10, _, _, _, _, hv => exact hv
   | 11, _, _, _, _, hv => exact hv
   | 12, _, _, _, _, hv => exact hv
   | 13, _, _, _, _, hv => exact hv
   | 14, _, _, hlv, _, _ => exact absurd hlv (by show ¬ (!upd D 17 true 15) = true; rw [upd_ne _ _ (by omega), hR.pred 15 (by kernel_rfl)]; decide)
   | 15, _, _, hlv, _, _ => exact absurd hlv (by show ¬ (!upd D 17 true 17) = true; rw [upd_same]; decide)
   | 16, _, _, hlv, _, _ => exact absurd hlv (by show ¬ (!upd D 17 true 17) = true; rw [upd_same]; decide)
   | 17, hk, _, _, _, _ => exact absurd rfl hk
   | k + 18, _, _, _, hkl, _ => exact absurd hkl (by simp)
 ·intro D V w2 hD hI
  obtain ⟨hM1, hB1, hG1⟩ := hI.1
  have hMx := hM1
  clear hM1
  have hBx := hB1
  clear hB1
  have hGx := hG1
  clear hG1
  have zF0 : V 0 = .slice (some ⟨g, off, none⟩) 5 c := hI.2 0 (hD 0 (by decide)) rfl
  have zf0 := zF0; clear zF0
  have zF1 : V 1 = .pointer (some ⟨g, off + 1, none⟩) := hI.2 1 (hD 1 (by decide)) rfl
  have zf1 := zF1; clear zF1
  have zF2 : V 2 = .string ⟨#[97]⟩ := hI.2 2 (hD 2 (by decide)) rfl
  have zf2 := zF2; clear zF2
  have zF3 : V 3 = .slice (some ⟨g, off, none⟩) 5 c := hI.2 3 (hD 3 (by decide)) rfl
  have zf3 := zF3; clear zF3
  have zF4 : V 4 = .pointer (some ⟨g, off + 2, none⟩) := hI.2 4 (hD 4 (by decide)) rfl
  have zf4 := zF4; clear zF4
  have zF5 : V 5 = .string ⟨#[111, 110, 101]⟩ := hI.2 5 (hD 5 (by decide)) rfl
  have zf5 := zF5; clear zF5
  have zF6 : V 6 = .bool false := hI.2 6 (hD 6 (by decide)) rfl
  have zf6 := zF6; clear zF6
  have zF8 : V 8 = .slice (some ⟨g, off, none⟩) 5 c := hI.2 8 (hD 8 (by decide)) rfl
  have zf8 := zF8; clear zF8
  have zF9 : V 9 = .pointer (some ⟨g, off + 3, none⟩) := hI.2 9 (hD 9 (by decide)) rfl
  have zf9 := zF9; clear zF9
  have zF10 : V 10 = .string ⟨#[110, 111, 110, 101]⟩ := hI.2 10 (hD 10 (by decide)) rfl
  have zf10 := zF10; clear zF10
  have zF11 : V 11 = .int .i64 0 := hI.2 11 (hD 11 (by decide)) rfl
  have zf11 := zF11; clear zF11
  have zF12 : V 12 = .slice (some ⟨g, off, none⟩) 5 c := hI.2 12 (hD 12 (by decide)) rfl
  have zf12 := zF12; clear zF12
  have zF13 : V 13 = .slice (some ⟨g, off + 4, none⟩) 1 (c - 4) := hI.2 13 (hD 13 (by decide)) rfl
  have zf13 := zF13; clear zF13
  have zF17 : ∃ (g_17 : Nat) (A_17 : Option Addr) (c_17 : Nat), V 16 = .pointer (some ⟨g_17, 0, none⟩) ∧ w1.heap.size ≤ g_17 ∧ Blk w2 g_17 99 #[.string ⟨#[97]⟩, .slice A_17 1 c_17, .bool false, .int .i64 0] ∧ Sl w2 9 1 (.slice A_17 1 c_17) (strsV [[98]]) := hI.2 17 (hD 17 (by decide)) rfl
  obtain ⟨g_17, A_17, c_17, zf17, c17_0, b17_0, b17_1⟩ := zF17
  clear hI hD HGs
  simp only [frAll, Act.put, List.setIfInBounds_toArray, List.set_cons_zero, List.set_cons_succ, Nat.zero_add, Nat.reduceAdd, zf0, zf1, zf2, zf3, zf4, zf5, zf6, zf8, zf9, zf10, zf11, zf12, zf13, zf17]
  clear zf0 zf1 zf2 zf3 zf4 zf5 zf6 zf8 zf9 zf10 zf11 zf12 zf13 zf17
  generalize V 7 = u7
  generalize V 14 = u14
  generalize V 15 = u15
  clear V D
  have hg4r : gr ≠ g_17 := by omega
  have HW2 := Lib.hid hMx
  have hgr9 := hGx.2
  generalize g_17 = g4 at *
  generalize A_17 = A4 at *
  generalize c_17 = c4 at *
  clear hMx
  go_upto_region 4 with (fail)
  have HGs := Lib.hid (show ∀ (D : Nat → Bool) (zzi : Nat) (zq zq' : World), zzi ≠ 4 → (fun D zq => (D 4 = false → (fun Z => Blk Z gr 99 #[.string ⟨#[]⟩, .slice none 0 0, .bool false, .int .i64 0]) zq) ∧ (fun Z => Blk Z g4 99 #[.string ⟨#[97]⟩, .slice A4 1 c4, .bool false, .int .i64 0] ∧ Sl Z 9 1 (.slice A4 1 c4) (strsV [[98]])) zq) D zq → Mod (fun _ => False) zq zq' → (fun D zq => (D 4 = false → (fun Z => Blk Z gr 99 #[.string ⟨#[]⟩, .slice none 0 0, .bool false, .int .i64 0]) zq) ∧ (fun Z => Blk Z g4 99 #[.string ⟨#[97]⟩, .slice A4 1 c4, .bool false, .int .i64 0] ∧ Sl Z 9 1 (.slice A4 1 c4) (strsV [[98]])) zq) (upd D zzi true) zq' from by intro D zzi zq zq' hi hh hm; refine ⟨fun hs => ?_, ?_⟩; (rw [upd_ne _ _ (Ne.symm hi)] at hs; have h := hh.1 hs; (exact h.modp hm)); (have h := hh.2; (exact ⟨h.1.modp hm, h.2.pure hm⟩)))
  refine wp_region_inv (by kernel_rfl) (by kernel_rfl) (InvF (R := Mod (fun _ => False)) [.is (.agg #[.string ⟨#[97]⟩, .slice A4 1 c4, .bool false, .int .i64 0]),
    .is (.pointer (some ⟨g4, 3, none⟩)),
    .is (.int .i64 0),
    .is (.bool true),
    ⟨fun zv zw => zv = undef ∧ Blk zw gr 99 #[.string ⟨#[97]⟩, .slice A4 1 c4, .bool false, .int .i64 0], (by rintro zv zw zx ⟨rfl, q0⟩ hm; exact ⟨rfl, (q0.modp hm)⟩), none, none⟩,
    .is (.bool true)]
    (PB w2 (· = gr) w2.heap.size (fun D zq => (D 4 = false → (fun Z => Blk Z gr 99 #[.string ⟨#[]⟩, .slice none 0 0, .bool false, .int .i64 0]) zq) ∧ (fun Z => Blk Z g4 99 #[.string ⟨#[97]⟩, .slice A4 1 c4, .bool false, .int .i64 0] ∧ Sl Z 9 1 (.slice A4 1 c4) (strsV [[98]])) zq))) (InvF.start (PB.start (Mod.refl _ _) (Nat.le_refl _) (⟨fun _ => hgr9.drew, ⟨b17_0.drew, b17_1.pure ((Mod.refl _ _).drew)⟩⟩))) ?_ ?_
  ·refine .cons ?_ (.cons ?_ (.cons ?_ (.cons ?_ (.cons ?_ (.cons ?_ .nil)))))
   ·intro D V zw1 a hR hI K hK
    obtain ⟨hM1, hB1, hG1⟩ := hI.1
    obtain ⟨hGK, hG1⟩ := hG1
    have ze4 := hR.frame.other (t := 4) (by kernel_rfl) rfl
    have zx0 := hG1.1.cell 0; have zx1 := hG1.1.cell 1; have zx2 := hG1.1.cell 2; have zx3 := hG1.1.cell 3
    simp at zx0 zx1 zx2 zx3
    rw [if_pos (by rfl)]
    go_simp
    exact hK (.agg #[.string ⟨#[97]⟩, .slice A4 1 c4, .bool false, .int .i64 0]) _ (hI.next hR (by kernel_rfl) (Mod.refl _ _) (PB.quiet hI.1 (Mod.refl _ _) (HGs.out D 0 zw1 zw1 (by omega) (hI.1).g (Mod.refl _ _))) (upd_same V 0 _))
   ·intro D V zw1 a hR hI K hK
    obtain ⟨hM1, hB1, hG1⟩ := hI.1
    obtain ⟨hGK, hG1⟩ := hG1
    have ze4 := hR.frame.other (t := 4) (by kernel_rfl) rfl
    rw [if_pos (by rfl)]
    go_simp
    exact hK (.pointer (some ⟨g4, 3, none⟩)) _ (hI.next hR (by kernel_rfl) (Mod.refl _ _) (PB.quiet hI.1 (Mod.refl _ _) (HGs.out D 1 zw1 zw1 (by omega) (hI.1).g (Mod.refl _ _))) (upd_same V 1 _))
   ·intro D V zw1 a hR hI K hK
    obtain ⟨hM1, hB1, hG1⟩ := hI.1
    obtain ⟨hGK, hG1⟩ := hG1
    have zd1 := hR.pred 1 (by kernel_rfl)
    have zF1 : V 1 = .pointer (some ⟨g4, 3, none⟩) := hI.2 1 zd1 rfl
    have zf1 := zF1; clear zF1
    have ze44 := hR.frame.done (t := 44) (j := 1) (by kernel_rfl) hR.ok zd1
    have zx0 := hG1.1.cell 0; have zx1 := hG1.1.cell 1; have zx2 := hG1.1.cell 2; have zx3 := hG1.1.cell 3
    simp at zx0 zx1 zx2 zx3
    rw [if_pos (by rfl)]
    go_simp
    exact hK (.int .i64 0) _ (hI.next hR (by kernel_rfl) (Mod.refl _ _) (PB.quiet hI.1 (Mod.refl _ _) (HGs.out D 2 zw1 zw1 (by omega) (hI.1).g (Mod.refl _ _))) (upd_same V 2 _))
   ·intro D V zw1 a hR hI K hK
    obtain ⟨hM1, hB1, hG1⟩ := hI.1
    obtain ⟨hGK, hG1⟩ := hG1
    have zd2 := hR.pred 2 (by kernel_rfl)
    have zF2 : V 2 = .int .i64 0 := hI.2 2 zd2 rfl
    have zf2 := zF2; clear zF2
    have ze45 := hR.frame.done (t := 45) (j := 2) (by kernel_rfl) hR.ok zd2
    rw [if_pos (by rfl)]
    go_simp
    exact hK (.bool true) _ (hI.next hR (by kernel_rfl) (Mod.refl _ _) (PB.quiet hI.1 (Mod.refl _ _) (HGs.out D 3 zw1 zw1 (by omega) (hI.1).g (Mod.refl _ _))) (upd_same V 3 _))
   ·intro D V zw1 a hR hI K hK
    obtain ⟨hM1, hB1, hG1⟩ := hI.1
    obtain ⟨hGK, hG1⟩ := hG1
    have zd0 := hR.pred 0 (by kernel_rfl)
    have zF0 : V 0 = .agg #[.string ⟨#[97]⟩, .slice A4 1 c4, .bool false, .int .i64 0] := hI.2 0 zd0 rfl
    have zf0 := zF0; clear zF0
    have ze2 := hR.frame.other (t := 2) (by kernel_rfl) rfl
    have ze43 := hR.frame.done (t := 43) (j := 0) (by kernel_rfl) hR.ok zd0
    rw [if_pos (by rfl)]
    have hZ := hGK hR.not
    have zx0 := hZ.cell 0; have zx1 := hZ.cell 1; have zx2 := hZ.cell 2; have zx3 := hZ.cell 3
    have zy0 := hZ.frozen 0; have zy1 := hZ.frozen 1; have zy2 := hZ.frozen 2; have zy3 := hZ.frozen 3
    simp at zx0 zx1 zx2 zx3
    have hB5 := (((hZ.set 0 (.string ⟨#[97]⟩)).set 1 (.slice A4 1 c4)).set 2 (.bool false)).set 3 (.int .i64 0)
    have hmm : Mod (· = gr) zw1 ((((zw1.setCell ⟨gr, 0, none⟩ (.string ⟨#[97]⟩)).setCell ⟨gr, 1, none⟩ (.slice A4 1 c4)).setCell ⟨gr, 2, none⟩ (.bool false)).setCell ⟨gr, 3, none⟩ (.int .i64 0)) := ((((Mod.refl (· = gr) zw1).setCell (.inl rfl) _).setCell (.inl rfl) _).setCell (.inl rfl) _).setCell (.inl rfl) _
    go_simp
    refine hK undef _ (InvF.last ⟨hM1.trans hmm, (by simpa using hB1), ⟨fun hs => absurd hs (by rw [upd_same]; decide), ⟨hG1.1.mod hmm (by omega), hG1.2.mod hmm (fun k arr fr hk => blk_tyR hZ hk (by decide))⟩⟩⟩ ⟨upd_same _ 4 _, (by simpa using hB5)⟩ ?_)
    intro k hk hDk hlv
    have hkl := hR.lt k hDk
    have hv := hI.2 k hDk (liveB_of hlv)
    match k, hk, hDk, hlv, hkl, hv with
    | 0, _, _, _, _, hv => exact hv
    | 1, _, _, _, _, hv => exact hv
    | 2, _, _, _, _, hv => exact hv
    | 3, _, _, _, _, hv => exact hv
    | 4, hk, _, _, _, _ => exact absurd rfl hk
    | 5, _, _, _, _, hv => exact hv
    | k + 6, _, _, _, hkl, _ => exact absurd hkl (by simp)
   ·intro D V zw1 a hR hI K hK
    obtain ⟨hM1, hB1, hG1⟩ := hI.1
    obtain ⟨hGK, hG1⟩ := hG1
    have zd3 := hR.pred 3 (by kernel_rfl)
    have zF3 : V 3 = .bool true := hI.2 3 zd3 rfl
    have zf3 := zF3; clear zF3
    have ze46 := hR.frame.done (t := 46) (j := 3) (by kernel_rfl) hR.ok zd3
    rw [if_pos (by rfl)]
    go_simp
    exact hK (.bool true) _ (hI.next hR (by kernel_rfl) (Mod.refl _ _) (PB.quiet hI.1 (Mod.refl _ _) (HGs.out D 5 zw1 zw1 (by omega) (hI.1).g (Mod.refl _ _))) (upd_same V 5 _))
  ·intro D V w3 hD hI
   obtain ⟨hM1, hB1, hG1⟩ := hI.1
   have hMx := hM1
   clear hM1
   have hBx := hB1
   clear hB1
   have hGx := hG1.2
   clear hG1
   have zF0 : V 0 = .agg #[.string ⟨#[97]⟩, .slice A4 1 c4, .bool false, .int .i64 0] := hI.2 0 (hD 0 (by decide)) rfl
   have zf0 := zF0; clear zF0
   have zF1 : V 1 = .pointer (some ⟨g4, 3, none⟩) := hI.2 1 (hD 1 (by decide)) rfl
   have zf1 := zF1; clear zF1
   have zF2 : V 2 = .int .i64 0 := hI.2 2 (hD 2 (by decide)) rfl
   have zf2 := zF2; clear zF2
   have zF3 : V 3 = .bool true := hI.2 3 (hD 3 (by decide)) rfl
   have zf3 := zF3; clear zF3
   have zF4 : V 4 = undef ∧ Blk w3 gr 99 #[.string ⟨#[97]⟩, .slice A4 1 c4, .bool false, .int .i64 0] := hI.2 4 (hD 4 (by decide)) rfl
   obtain ⟨zf4, b4_0⟩ := zF4
   have zF5 : V 5 = .bool true := hI.2 5 (hD 5 (by decide)) rfl
   have zf5 := zF5; clear zF5
   clear hI hD HGs
   simp only [frAll, Act.put, List.setIfInBounds_toArray, List.set_cons_zero, List.set_cons_succ, Nat.zero_add, Nat.reduceAdd, zf0, zf1, zf2, zf3, zf4, zf5]
   clear zf0 zf1 zf2 zf3 zf4 zf5
   clear V D
   have hX := b4_0
   have x0 := hX.cell 0; have x1 := hX.cell 1; have x2 := hX.cell 2; have x3 := hX.cell 3; simp at x0 x1 x2 x3
   go_wp2_with fail
   try simp only [Exit.inBlock, Exit.then]
   refine bodyPost_ret (v := .tuple #[.agg #[.string ⟨#[97]⟩, .slice A4 1 c4, .bool false, .int .i64 0], .bool true]) (by simp [results, Tryz.results71, go_sem, x0, x1, x2, x3]) rfl ?_
   exact ⟨A4, c4, rfl, hGx.2, (HP.out.trans HW2.out).trans' hMx (fun i hi hlt => by omega)⟩

end Go.Proofs.YtaidkmnbjbnciaaGreatDoor

/- askLine of the program, for any words. -/
namespace Go.Proofs.YtaidkmnbjbnciaaGreatDoor
set_option linter.unusedVariables false
set_option linter.unusedSimpArgs false
open Go.RowKit

end Go.Proofs.YtaidkmnbjbnciaaGreatDoor

/- ruleLine of the program, for any words. -/
namespace Go.Proofs.YtaidkmnbjbnciaaGreatDoor
set_option linter.unusedVariables false
set_option linter.unusedSimpArgs false
open Go.RowKit

/-- Two blocks of old. -/
def TwoB (Z : World) (g gr : Nat) (t1 t2 : TypeId) (c1 c2 : Array Value) : Prop := Blk Z g t1 c1 ∧ Blk Z gr t2 c2
theorem TwoB.far {Z : World} {g gr q : Nat} {t1 t2 : TypeId} {c1 c2 : Array Value} (h : TwoB Z g gr t1 t2 c1 c2) (h1 : g ≠ q) (h2 : gr ≠ q) (j : Nat) (u : Value) : TwoB (Z.setCell ⟨q, j, none⟩ u) g gr t1 t2 c1 c2 := ⟨h.1.far h1 u, h.2.far h2 u⟩
theorem inI_calls (w : World) (n lo hi : Int) : Calls Tryz.prog 105 #[.int .i64 n, .int .i64 lo, .int .i64 hi] w (BoolPost w (decide (lo ≤ n) && decide (n ≤ hi))) := by
 go_enter Tryz.func105, Tryz.ntmps105
 by_cases h : lo ≤ n
 ·go_wp2_with fail
  go_ret
  exact BoolPost.of (by simp [h]) (Mod.refl _ _)
 ·go_wp2_with fail
  go_ret
  exact BoolPost.of (by rw [decide_eq_false (show ¬ lo ≤ n by omega)]; rfl) (Mod.refl _ _)

end Go.Proofs.YtaidkmnbjbnciaaGreatDoor

/- The one line read into a layout: the closure, lines, ReadLayout, decides. -/
namespace Go.Proofs.YtaidkmnbjbnciaaGreatDoor
set_option linter.unusedVariables false
set_option linter.unusedSimpArgs false
open Go.RowKit

theorem info_ask : (Tryz.prog.info? 99).map (fun i => (i.zero, i.size, i.bytes)) = some (some (.agg #[.string ⟨#[]⟩, .slice none 0 0, .bool false, .int .i64 0]), 4, 56) := by kernel_rfl
def RlcPost (w : World) (gl : Nat) (e : Ending) (w' : World) : Prop := ∃ (A : Option Addr) (c : Nat) (x : AskR), e = .returned (.bool true) ∧ Blk w' gl 29 #[.slice A 1 c, .slice none 0 0] ∧ Asks w' (.slice A 1 c) [x] ∧ x.field = [97] ∧ x.ch = [[98]] ∧ x.many = false ∧ x.spread = 0 ∧ Mod (· = gl) w w'
set_option maxRecDepth 100000 in
set_option maxHeartbeats 8000000 in
theorem rl1_calls (w : World) (g off c gl c0 n0 : Nat) (hn0 : n0 = 0) (A0 : Option Addr) (hr : RowAt w 9 g off (strsV ws5)) (h1 : 5 ≤ c) (h2 : c ≤ 1000) (hA : Asc w) (hB : Blk w gl 29 #[.slice A0 n0 c0, .slice none 0 0]) (ho : w.ownsRow w.heap.size 99 4 (.slice A0 n0 c0) n0 []) :
  Calls Tryz.prog 70 #[.slice (some ⟨g, off, none⟩) 5 c, .pointer (some ⟨gl, 0, none⟩)] w (RlcPost w gl) := by
 obtain ⟨i0, hi0, hz0, hz1, hz2⟩ := info_parts info_ask
 have HAL := Lib.hid (askLine_calls w g off c hr h1 h2 hA)
 have HB := Lib.hid hB
 have HO := Lib.hid ho
 have hglw := hB.lt
 have HN0 := Lib.hid hn0
 have hn1 : n0 ≤ 1 := by omega
 clear hr hA hB ho hn0
 go_enter Tryz.func70, Tryz.ntmps70
 go_wp2_with fail
 refine HAL.out.mono ?_
 rintro e w1 ⟨A, cc, rfl, hs, hm⟩
 have hz := hm.size
 have HB2 := Lib.hid ((HB.out.modp hm).alloc (.cells #[.string ⟨#[97]⟩, .slice A 1 cc, .bool false, .int .i64 0] 99))
 have HX2 := Lib.hid (Blk.new w1 99 #[.string ⟨#[97]⟩, .slice A 1 cc, .bool false, .int .i64 0])
 have HO2 := Lib.hid ((own_pure HO.out hm).alloc (.cells #[.string ⟨#[97]⟩, .slice A 1 cc, .bool false, .int .i64 0] 99))
 have HS2 := Lib.hid (hs.pure ((Mod.refl _ _).alloc (.cells #[.string ⟨#[97]⟩, .slice A 1 cc, .bool false, .int .i64 0] 99)))
 have HM2 : Hid (Pure w (w1.alloc (.cells #[.string ⟨#[97]⟩, .slice A 1 cc, .bool false, .int .i64 0] 99))) := Lib.hid (hm.alloc _)
 have hz2' : (w1.alloc (.cells #[.string ⟨#[97]⟩, .slice A 1 cc, .bool false, .int .i64 0] 99)).heap.size = w1.heap.size + 1 := by simp
 clear hs hm HAL HB HO
 go_upto_region 2 with (fail)
 generalize (w1.alloc (.cells #[.string ⟨#[97]⟩, .slice A 1 cc, .bool false, .int .i64 0] 99)) = W at *
 generalize w1.heap.size = g4 at *
 have hz2a := Nat.le_of_eq hz2'
 have hz2b := Nat.le_of_eq hz2'.symm
 clear hz2'
 have hB2 := HB2.out
 have hX2 := HX2.out
 have hownS := HO2.out
 have hmS := HM2.out
 have x0 := hB2.cell 0; have x1 := hB2.cell 1; simp at x0 x1
 have y0 := hX2.cell 0; have y1 := hX2.cell 1; have y2 := hX2.cell 2; have y3 := hX2.cell 3; simp at y0 y1 y2 y3
 clear hB2 hX2
 go_wp2_with ((at_builtin; refine wpList_append_lies _ rfl _ _ _ rfl w.heap.size 99 i0 _ 4 56 Tryz.underlying26 hi0 hz0 hz1 hz2 rfl (by omega) (.slice A0 n0 c0) n0 ([]) rfl (hownS.alloc _) ⟨W.heap.size, 0, none⟩ 1 1 [.string ⟨#[97]⟩, .slice A 1 cc, .bool false, .int .i64 0] rfl rfl (World.news_of_block (cs := #[.string ⟨#[97]⟩, .slice A 1 cc, .bool false, .int .i64 0]) (t := 99) (fr := (0, 0)) (heap_alloc_new W _)) (by simp [Value.oneCell']) (by omega) (by simp [maxLen]; omega) (by omega) (by have := hmS.size; simp; omega) (W.heap.size + 1) (by simp) ?_; intro g5 cap5 w5 hown5 hgrow hat hlt5); have hB6 := (HB2.out.alloc (.cells #[.string ⟨#[97]⟩, .slice A 1 cc, .bool false, .int .i64 0] 99)).mod (mod_grown hgrow) (fun hv => by have h2 := HB2.out.alloc (.cells #[.string ⟨#[97]⟩, .slice A 1 cc, .bool false, .int .i64 0] 99); unfold Blk at h2; exact absurd (own_ty (HO2.out.alloc (.cells #[.string ⟨#[97]⟩, .slice A 1 cc, .bool false, .int .i64 0] 99)) hv h2) (by decide)); have q1 := hB6.cell 0; have q2 := hB6.frozen 0; simp at q1)
 go_ret
 obtain rfl := HN0.out
 have hob := own_block hownS
 have hoa := hownS.alloc (.cells #[.string ⟨#[97]⟩, .slice A 1 cc, .bool false, .int .i64 0] 99)
 have mG := mod_grown hgrow
 have h7 : w5.ownsRow w.heap.size 99 4 (.slice (some ⟨g5, 0, none⟩) 1 cap5) 1 (askV [⟨[97], A, cc, [[98]], false, 0⟩]) := by simpa [askV, askC] using hown5
 have hm8 : Mod (· = gl) w5 (w5.setCell ⟨gl, 0, none⟩ (.slice (some ⟨g5, 0, none⟩) 1 cap5)) := (Mod.refl (· = gl) w5).setCell (.inl rfl) _
 refine ⟨some ⟨g5, 0, none⟩, cap5, ⟨[97], A, cc, [[98]], false, 0⟩, rfl, by have h5 := hB6.set 0 (.slice (some ⟨g5, 0, none⟩) 1 cap5); simpa using h5, ⟨(Sl.of_own h7).mod hm8 (fun k arr fr hk => blk_tyR hB6 hk (by decide)), fun x hx => ?_⟩, rfl, rfl, rfl, rfl, ?_⟩
 ·rw [List.mem_singleton.1 hx]
  exact (((HS2.out.pure (pure_alloc _ _)).mod mG (fun i arr fr hi hv => absurd (own_ty hoa hv hi) (by decide)))).mod hm8 (fun k arr fr hk => blk_tyR hB6 hk (by decide))
 ·have hpm : Mod (· = gl) w w5 := Mod.of_pure ((HM2.out.alloc _).grown hgrow (fun i hi => .inr (hob i hi)))
  exact hpm.setCell (p := ⟨gl, 0, none⟩) (.inl rfl) _

theorem RlcPost.base {w w1 w' : World} {gl : Nat} {e : Ending} (h : RlcPost w1 gl e w') (hp : Pure w w1) : RlcPost w gl e w' := by
 obtain ⟨A, c, x, h1, h2, h3, h4, h5, h6, h7, h8⟩ := h
 exact ⟨A, c, x, h1, h2, h3, h4, h5, h6, h7, (Mod.of_pure hp).trans h8⟩
def decT : Str := [97, 115, 107, 32, 97, 32, 111, 110, 101, 32, 110, 111, 110, 101, 32, 98, 10]
def decL : Str := [97, 115, 107, 32, 97, 32, 111, 110, 101, 32, 110, 111, 110, 101, 32, 98]
theorem decT_lines : linesP decT = [decL] := by decide +kernel
theorem decT_whole : wholeP decT = true := by decide +kernel
theorem decL_words : Lib.split decL [32] = ws5 := by decide +kernel
set_option maxRecDepth 100000 in
set_option maxHeartbeats 8000000 in
theorem rlines_calls (w : World) (gl : Nat) (hM : MlnS w) (hA : Asc w) (hB : Blk w gl 29 #[.slice none 0 0, .slice none 0 0]) :
  Calls Tryz.prog 69 #[.string ⟨decT.toArray⟩, .func (.func 70) #[] #[.pointer (some ⟨gl, 0, none⟩)]] w (fun e w' => e = .returned (.int .i64 (-1)) ∧ ∃ e2, RlcPost w gl e2 w') := by
 have HL := Lib.hid (baseLines_calls w decT hM (by decide))
 unfold LinesPost at HL
 rw [decT_lines, decT_whole] at HL
 have HSP := Lib.hid (fun W (h : Pure w W) => split_calls W decL [32] (hM.pure h) (by decide) (by decide))
 rw [decL_words] at HSP
 have HRL := Lib.hid (fun W (h : Pure w W) g c (hr : RowAt W 9 g 0 (strsV ws5)) (hc : 5 ≤ c) (hc2 : c ≤ 1000) => rl1_calls W g 0 c gl 0 0 rfl none hr hc hc2 (hA.pure h) (hB.modp h) ⟨rfl, .inl ⟨rfl, rfl⟩⟩)
 have HCN := Lib.hid (fun W g (h : Blk W g 9 (strsV ws5).toArray) => containsQs_calls W _ ws5 [] (blkSl3 h))
 rw [show (ws5.any fun x => ([] : Str) == x) = false by decide] at HCN
 generalize hdt : decT = dt at *
 clear hM hA hB hdt
 go_enter Tryz.func69, Tryz.ntmps69
 go_wp2_with fail
 refine HL.out.mono ?_
 rintro e w1 ⟨AL, cL, rfl, hsl, hm1⟩
 obtain ⟨A', n', c', e1, hc1, hc2, hl1, hr1⟩ := hsl
 injection e1 with e1 e2 e3
 have e2' : n' = 1 := e2.symm
 subst e1 e2' e3
 obtain ⟨gL, oL, rfl, hrow⟩ := hr1 (by omega)
 have HROW := Lib.hid hrow
 have HM1 := Lib.hid hm1
 clear hl1 hr1 hrow hm1 HL e2
 go_wp2_with fail
 go_loopg [17] 1 (fun gk i wr => (gk = 1 ∧ i = .int .i64 0 ∧ Pure w1 wr) ∨ (gk = 0 ∧ i = .int .i64 1 ∧ ∃ e2, RlcPost w gl e2 wr))
 case atStart => exact .inl ⟨rfl, rfl, Mod.refl _ _⟩
 case round =>
  rcases hrel with ⟨rfl, rfl, hm⟩ | ⟨rfl, rfl, hR⟩
  ·have hq := (HROW.out.mod hm _root_.id).cell (i := 0) (u := .string ⟨decL.toArray⟩) rfl
   rw [Nat.add_zero] at hq
   have HM2 := Lib.hid (HM1.out.trans hm)
   have HS := Lib.hid (HSP.out wr HM2.out)
   clear hm
   generalize decL = dl at *
   go_wp2_with fail
   refine HS.out.mono ?_
   rintro e w2 ⟨rfl, rfl⟩
   have hB5 := Blk.new wr 9 (strsV ws5).toArray
   have HC := Lib.hid (HCN.out _ _ hB5)
   have HB5 := Lib.hid hB5
   have HM3 := Lib.hid (HM2.out.alloc (.cells (strsV ws5).toArray 9))
   clear hB5 hq HS HCN HSP
   go_wp2_with fail
   refine HC.out.mono ?_
   rintro e w3 ⟨rfl, hm3⟩
   have HB6 := Lib.hid (HB5.out.modp hm3)
   have HM6 := Lib.hid (HM3.out.trans hm3)
   have HR6 := Lib.hid (HRL.out w3 HM6.out wr.heap.size 5 HB6.out.row0 (by omega) (by omega))
   clear HC hm3 HM3 HB5 HRL
   go_wp2_with fail
   refine HR6.out.mono ?_
   rintro e w4 hR4
   have HR4 := Lib.hid (hR4.base HM6.out)
   obtain ⟨A4, c4, x4, rfl, _⟩ := hR4
   clear HR6 HB6 HM6
   go_wp2_with fail
   go_roundg 0
   case measure => omega
   case rel => exact .inr ⟨rfl, by simp, _, HR4.out⟩
  ·have HRR := Lib.hid hR
   clear hR HSP HCN HRL HROW HM1
   go_wp2_with fail
   go_ret
   exact ⟨rfl, HRR.out⟩

theorem layE_x {x : AskR} (h1 : x.field = [97]) (h2 : x.ch = [[98]]) (h3 : x.many = false) (h4 : x.spread = 0) : layE ⟨[x], []⟩ = 0 := by
 obtain ⟨f, A, c, ch, m, s⟩ := x
 simp only [] at h1 h2 h3 h4
 subst h1 h2 h3 h4
 rfl
def RdPost (w : World) (e : Ending) (w' : World) : Prop := ∃ (A : Option Addr) (c : Nat), e = .returned (.tuple #[.agg #[.slice A 1 c, .slice none 0 0], .int .i64 0, .int .i64 0]) ∧ Pure w w'
set_option maxRecDepth 100000 in
set_option maxHeartbeats 8000000 in
theorem readLayout_calls (w : World) (hM : MlnS w) (hA : Asc w) : Calls Tryz.prog 13 #[.string ⟨decT.toArray⟩] w (RdPost w) := by
 have hp : Pure w ((w.alloc (.cells #[.slice none 0 0, .slice none 0 0] 29)).alloc (.cells #[.slice none 0 0, .slice none 0 0] 29)) := (pure_alloc _ _).trans (pure_alloc _ _)
 have HP := Lib.hid hp
 have HG := Lib.hid ((Blk.new w 29 #[.slice none 0 0, .slice none 0 0]).alloc (.cells #[.slice none 0 0, .slice none 0 0] 29))
 have HLN := Lib.hid (rlines_calls ((w.alloc (.cells #[.slice none 0 0, .slice none 0 0] 29)).alloc (.cells #[.slice none 0 0, .slice none 0 0] 29)) (w.heap.size + 1) (hM.pure hp) (hA.pure hp) (Blk.snd _ _ _ _))
 have hdl : ((decT.length : Nat) : Int) = 17 := rfl
 have hds : (⟨decT.toArray⟩ : ByteArray).size = 17 := rfl
 generalize decT = dt at *
 clear hM hA hp
 go_enter Tryz.func13, Tryz.ntmps13
 go_wp2_with fail
 refine HLN.out.mono ?_
 rintro e w1 ⟨rfl, e2, A, c, x, _, hB, hAs, hx1, hx2, hx3, hx4, hm⟩
 have HM := Lib.hid hm
 have HG1 := Lib.hid (HG.out.mod hm (by omega))
 have HB1 := Lib.hid hB
 have HCL := Lib.hid (checkLayout_calls w1 (.agg #[.slice A 1 c, .slice none 0 0]) ⟨[x], []⟩ ⟨A, 1, c, none, 0, 0, rfl, hAs, Sl.nil_⟩ ⟨by simp, by simp, fun a ha => by
  rw [List.mem_singleton.1 ha]
  exact ⟨by rw [hx1]; simp [StB], by rw [hx2]; simp [StsA], by rw [hx4]; omega, by rw [hx4]; omega⟩, fun r hr => absurd hr (by simp)⟩)
 rw [layE_x hx1 hx2 hx3 hx4] at HCL
 have hz0 : (w.alloc (.cells #[.slice none 0 0, .slice none 0 0] 29)).heap.size = w.heap.size + 1 := by simp
 have hB1 := HB1.out
 have x0 := hB1.cell 0; have x1 := hB1.cell 1; simp at x0 x1
 clear hm hB hAs hx1 hx2 hx3 hx4 HG HLN hB1
 generalize hgr : w.heap.size = gr at *
 have hgr2 := Nat.le_of_eq hgr
 clear hgr
 go_wp2_with fail
 refine HCL.out.mono ?_
 rintro e w2 ⟨rfl, hm2⟩
 have hB2 := HB1.out.modp hm2
 have hG2 := HG1.out.modp hm2
 have HGE := Lib.hid ((hG2.set 0 (.slice A 1 c)).set 1 (.slice none 0 0))
 have HM2 := Lib.hid hm2
 have y0 := hB2.cell 0; have y1 := hB2.cell 1; simp at y0 y1
 have z0 := hG2.cell 0; have zf0 := hG2.frozen 0; have z1 := hG2.cell 1; have zf1 := hG2.frozen 1; simp at z0 z1
 clear hB2 hG2 HCL x0 x1 hm2
 go_wp2_with fail
 have hGE := HGE.out
 have u0 := hGE.cell 0; have u1 := hGE.cell 1; simp at u0 u1
 try simp only [Exit.inBlock, Exit.then]
 refine bodyPost_ret (v := .tuple #[.agg #[.slice A 1 c, .slice none 0 0], .int .i64 0, .int .i64 0]) (by simp [results, Tryz.results13, go_sem, u0, u1]) rfl ?_
 refine ⟨A, c, rfl, ?_⟩
 have h1 : Pure w w2 := (HP.out.trans' HM.out (fun i hi hlt => by omega)).trans HM2.out
 exact (h1.setCell (p := ⟨gr, 0, none⟩) (.inr (by show w.heap.size ≤ gr; omega)) _).setCell (p := ⟨gr, 1, none⟩) (.inr (by show w.heap.size ≤ gr; omega)) _
set_option maxRecDepth 100000 in
set_option maxHeartbeats 4000000 in
theorem decides_calls (w : World) (hM : MlnS w) (hA : Asc w) : Calls Tryz.prog 16 #[] w (BoolPost w true) := by
 have HRD := Lib.hid (readLayout_calls w hM hA)
 rw [show decT.toArray = #[97, 115, 107, 32, 97, 32, 111, 110, 101, 32, 110, 111, 110, 101, 32, 98, 10] from rfl] at HRD
 clear hM hA
 go_enter Tryz.func16, Tryz.ntmps16
 go_wp2_with fail
 refine HRD.out.mono ?_
 rintro e w1 ⟨A, c, rfl, hm⟩
 have HP := Lib.hid (hm.alloc (.cells #[.slice A 1 c, .slice none 0 0] 29))
 have hB := Blk.new w1 29 #[.slice A 1 c, .slice none 0 0]
 have x0 := hB.cell 0; have x1 := hB.cell 1; simp at x0 x1
 clear hB hm HRD
 go_wp2_with fail
 go_ret
 exact BoolPost.of rfl HP.out

end Go.Proofs.YtaidkmnbjbnciaaGreatDoor
