/- Texts of the proof of DecisionMerges, put together: DecE. -/
import Derived.Test.YtkkndblcejmmjaaGreatDoorDecisionMergesZ13
import Derived.Test.YtkkndblcejmmjaaGreatDoorDecisionMergesZ21
import Derived.Test.YtkkndblcejmmjaaGreatDoorDecisionMergesZ29
import Derived.Test.YtkkndblcejmmjaaGreatDoorDecisionMergesZ32
/- Decisions of their own: values and copied of the program. -/
namespace Go.Proofs.YtkkndblcejmmjaaGreatDoor
set_option linter.unusedVariables false
set_option linter.unusedSimpArgs false
open Go.RowKit

theorem likes.snoc {xs ys : List ChoR} {x y : ChoR} (h : likes xs ys) (h1 : x.field = y.field) (h2 : x.ch = y.ch) : likes (xs ++ [x]) (ys ++ [y]) := by
 unfold likes at h ⊢
 rw [List.map_append, List.map_append, h, List.map_cons, List.map_cons, h1, h2]
theorem likes.tr {xs ys zs : List ChoR} (h : likes xs ys) (k : likes ys zs) : likes xs zs := Eq.trans h k
theorem likes.sy {xs ys : List ChoR} (h : likes xs ys) : likes ys xs := Eq.symm h
/-- The slices of choices behind a step that writes blocks of another type, or none. -/
theorem ChoS.mod {w w' : World} {S : Nat → Prop} {cs : List ChoR} (h : ChoS w cs) (hm : Mod S w w') (hs : ∀ g arr fr, w.heap[g]? = some (.cells arr 9 fr) → ¬ S g) : ChoS w' cs := fun x hx => (h x hx).mod hm hs
theorem ChoS.snoc {w : World} {cs : List ChoR} {x : ChoR} (h : ChoS w cs) (hx : Sl w 9 1 (.slice x.A x.ch.length x.c) (strsV x.ch)) : ChoS w (cs ++ [x]) := fun y hy => by
 rcases List.mem_append.1 hy with hy | hy
 ·exact h y hy
 ·rw [List.mem_singleton.1 hy]; exact hx
/-- Values of their own, like cs. -/
def VcOk (w : World) (base : Nat) (A : Option Addr) (c : Nat) (cs' cs : List ChoR) : Prop := w.ownsRow base 105 2 (.slice A cs'.length c) cs'.length (choV cs') ∧ ChoS w cs' ∧ likes cs' cs
theorem VcOk.pure {w w' : World} {base c : Nat} {A : Option Addr} {cs' cs : List ChoR} (h : VcOk w base A c cs' cs) (hm : Pure w w') : VcOk w' base A c cs' cs := ⟨own_pure h.1 hm, h.2.1.pure hm, h.2.2⟩
/-- One more choice is appended. -/
theorem VcOk.app {w w' : World} {base c c5 n' : Nat} {A A5 : Option Addr} {cs' cs : List ChoR} {x y : ChoR} (h : VcOk w base A c cs' cs) (hm : Mod (fun j => (Value.slice A cs'.length c).ownBlock = some j) w w') (hx : Sl w 9 1 (.slice x.A x.ch.length x.c) (strsV x.ch)) (h1 : x.field = y.field) (h2 : x.ch = y.ch)
  (hn : n' = cs'.length + 1) (hown : w'.ownsRow base 105 2 (.slice A5 n' c5) n' (choV cs' ++ choC x)) : VcOk w' base A5 c5 (cs' ++ [x]) (cs ++ [y]) := by
 have hty : ∀ i arr fr, w.heap[i]? = some (.cells arr 9 fr) → ¬ (Value.slice A cs'.length c).ownBlock = some i := fun i arr fr hi hv => absurd (own_ty h.1 hv hi) (by decide)
 subst hn
 exact ⟨by simpa [choV_snoc] using hown, ChoS.snoc (h.2.1.mod hm hty) (hx.mod hm hty), h.2.2.snoc h1 h2⟩
/-- A slice of strings. -/
def SlK (w : World) (v : Value) (xs : List Str) : Prop := Sl w 9 1 v (strsV xs)
theorem SlK.pure {w w' : World} {v : Value} {xs : List Str} (h : SlK w v xs) (hm : Pure w w') : SlK w' v xs := Sl.pure h hm
def VcPost (w : World) (cs : List ChoR) (e : Ending) (w' : World) : Prop := ∃ (A : Option Addr) (c : Nat) (cs' : List ChoR), e = .returned (.slice A cs'.length c) ∧ VcOk w' w.heap.size A c cs' cs ∧ Pure w w'
def VcRel (w : World) (base : Nat) (cs : List ChoR) (gk : Nat) (x i : Value) (wr : World) : Prop :=
 ∃ (k cap : Nat) (A : Option Addr) (cs' : List ChoR), cs.length - k = gk ∧ k ≤ cs.length ∧ x = .slice A cs'.length cap ∧ i = .int .i64 (k : Int) ∧ VcOk wr base A cap cs' (cs.take k) ∧ Pure w wr ∧ base ≤ wr.heap.size

set_option maxRecDepth 100000 in
set_option maxHeartbeats 4000000 in
theorem pvalues_calls (w : World) (A : Option Addr) (n c : Nat) (cs : List ChoR) (hV : Vals w (.slice A n c) cs) (hn : cs.length ≤ 100000) (hz : ∀ x ∈ cs, ChoB x) : Calls Tryz.prog 96 #[.slice A n c] w (VcPost w cs) := by
  obtain ⟨i0, hi0, hz0, hz1, hz2⟩ := info_parts info_cho
  have hl := hV.len
  have HV := Lib.hid hV
  have HZ := Lib.hid hz
  subst hl
  clear hV hz
  go_enter Tryz.func96, Tryz.ntmps96
  go_wp2_with fail
  obtain ⟨base, hbase⟩ : ∃ base, base = w.heap.size := ⟨_, rfl⟩
  have hs1 := Nat.le_of_eq hbase
  have hs2 := Nat.le_of_eq hbase.symm
  unfold VcPost
  rw [← hbase]
  clear hbase
  go_loopg [3, 8] cs.length (fun gk x i wr => VcRel w base cs gk x i wr)
  case atStart => exact ⟨0, 0, none, [], by omega, by omega, rfl, rfl, ⟨World.ownsRow_nil _ _ _ _, fun x h => absurd h (by simp), rfl⟩, Mod.refl _ _, by omega⟩
  case round =>
    obtain ⟨k, cap, Ao, cs', rfl, hk, rfl, rfl, hO, hm, hb⟩ := hrel
    by_cases hlt : k < cs.length
    · obtain ⟨g, off, rfl, q0, q1⟩ := (HV.out.pure hm).cells hlt
      have hsx := (HV.out.2 _ (List.getElem_mem hlt)).pure hm
      have hxz := HZ.out _ (List.getElem_mem hlt)
      have HTK := Lib.hid (List.take_succ_eq_append_getElem hlt)
      have HXM := Lib.hid (List.getElem_mem hlt)
      generalize cs[k] = x at *
      obtain ⟨xf, xA, xc, xs⟩ := x
      simp only at q0 q1 hsx hxz
      have HCL := Lib.hid (fun W (h : Pure w W) => cloneC_calls W _ xs (((HV.out.2 _ HXM.out).pure h)) (by have := hxz.2.1; simp only at this; omega))
      have hpb := pure_alloc wr (.cells #[.string ⟨xf.toArray⟩, .slice xA xs.length xc] 105)
      have HXB := Lib.hid (Blk.new wr 105 #[.string ⟨xf.toArray⟩, .slice xA xs.length xc])
      have HMB := Lib.hid (hm.trans hpb)
      have HO1 := Lib.hid (hO.pure hpb)
      have HLT : Hid (∀ i, (Value.slice Ao cs'.length cap).ownBlock = some i → i < wr.heap.size) := Lib.hid (fun i hi => (hO.1.lt i hi).2)
      have hcl : cs'.length ≤ 100000 := by have := hO.2.2.len; have h2 : (cs.take k).length ≤ k := by simp; omega
                                           omega
      clear hsx hm hO hpb
      go_upto_region 5 with (fail)
      clear q0 q1
      generalize (wr.alloc (.cells #[.string ⟨xf.toArray⟩, .slice xA xs.length xc] 105)) = w1 at *
      have hb2 : base ≤ w1.heap.size := by have := HMB.out.size; omega
      generalize wr.heap.size = g3 at *
      have HGs := Lib.hid (show ∀ (D : Nat → Bool) (zzi : Nat) (zq zq' : World), zzi ≠ 8 → (fun D zq => (D 8 = false → (fun Z => VcOk Z base Ao cap cs' (cs.take k)) zq) ∧ (fun Z => Blk Z g3 105 #[.string ⟨xf.toArray⟩, .slice xA xs.length xc]) zq) D zq → Mod (fun _ => False) zq zq' → (fun D zq => (D 8 = false → (fun Z => VcOk Z base Ao cap cs' (cs.take k)) zq) ∧ (fun Z => Blk Z g3 105 #[.string ⟨xf.toArray⟩, .slice xA xs.length xc]) zq) (upd D zzi true) zq' from by intro D zzi zq zq' hi hh hm; refine ⟨fun hs => ?_, ?_⟩; (rw [upd_ne _ _ (Ne.symm hi)] at hs; have h := hh.1 hs; (exact h.pure hm)); (have h := hh.2; (exact h.modp hm)))
      refine wp_region_inv (by kernel_rfl) (by kernel_rfl) (InvF (R := Mod (fun _ => False)) [.is (.slice Ao cs'.length cap),
          .is (.pointer (some ⟨g3, 0, none⟩)),
          .is (.string ⟨xf.toArray⟩),
          .is (.pointer (some ⟨g3, 1, none⟩)),
          .is (.slice xA xs.length xc),
          ⟨fun zv zw => ∃ (A_5 : Option Addr) (c_5 : Nat), zv = .slice A_5 xs.length c_5 ∧ SlK zw (.slice A_5 xs.length c_5) xs, (by rintro zv zw zx ⟨A_5, c_5, rfl, q0⟩ hm; exact ⟨A_5, c_5, rfl, (SlK.pure q0 hm)⟩), none, some 6⟩,
          ⟨fun zv zw => ∃ (A_6 : Option Addr) (c_6 : Nat), zv = .agg #[.string ⟨xf.toArray⟩, .slice A_6 xs.length c_6] ∧ SlK zw (.slice A_6 xs.length c_6) xs, (by rintro zv zw zx ⟨A_6, c_6, rfl, q0⟩ hm; exact ⟨A_6, c_6, rfl, (SlK.pure q0 hm)⟩), none, some 7⟩,
          ⟨fun zv zw => ∃ (A_7 : Option Addr) (c_7 : Nat) (g_7 : Nat), zv = .slice (some ⟨g_7, 0, none⟩) 1 1 ∧ w1.heap.size ≤ g_7 ∧ Blk zw g_7 105 #[.string ⟨xf.toArray⟩, .slice A_7 xs.length c_7] ∧ SlK zw (.slice A_7 xs.length c_7) xs, (by rintro zv zw zx ⟨A_7, c_7, g_7, rfl, c0, q0, q1⟩ hm; exact ⟨A_7, c_7, g_7, rfl, c0, (q0.modp hm), (SlK.pure q1 hm)⟩), none, some 8⟩,
          ⟨fun zv zw => ∃ (g_8 : Nat) (c_8 : Nat) (A_8 : Option Addr) (d_8 : Nat), zv = .slice (some ⟨g_8, 0, none⟩) (cs'.length + 1) c_8 ∧ VcOk zw base (some ⟨g_8, 0, none⟩) c_8 (cs' ++ [⟨xf, A_8, d_8, xs⟩]) (cs.take k ++ [⟨xf, xA, xc, xs⟩]), (by rintro zv zw zx ⟨g_8, c_8, A_8, d_8, rfl, q0⟩ hm; exact ⟨g_8, c_8, A_8, d_8, rfl, (q0.pure hm)⟩), none, none⟩,
          ⟨fun zv zw => ∃ (g_9 : Nat) (c_9 : Nat) (A_9 : Option Addr) (d_9 : Nat), zv = .slice (some ⟨g_9, 0, none⟩) (cs'.length + 1) c_9 ∧ VcOk zw base (some ⟨g_9, 0, none⟩) c_9 (cs' ++ [⟨xf, A_9, d_9, xs⟩]) (cs.take k ++ [⟨xf, xA, xc, xs⟩]), (by rintro zv zw zx ⟨g_9, c_9, A_9, d_9, rfl, q0⟩ hm; exact ⟨g_9, c_9, A_9, d_9, rfl, (q0.pure hm)⟩), none, none⟩]
          (PB w (fun _ => False) w1.heap.size (fun D zq => (D 8 = false → (fun Z => VcOk Z base Ao cap cs' (cs.take k)) zq) ∧ (fun Z => Blk Z g3 105 #[.string ⟨xf.toArray⟩, .slice xA xs.length xc]) zq))) (InvF.start (PB.start HMB.out (Nat.le_refl _) (⟨fun _ => HO1.out.pure ((Mod.refl _ _).drew), HXB.out.drew⟩))) ?_ ?_
      · refine .cons ?_ (.cons ?_ (.cons ?_ (.cons ?_ (.cons ?_ (.cons ?_ (.cons ?_ (.cons ?_ (.cons ?_ (.cons ?_ .nil)))))))))
        · intro D V zw1 a hR hI K hK
          obtain ⟨hM1, hB1, hG1⟩ := hI.1
          obtain ⟨hGK, hG1⟩ := hG1
          have ze3 := hR.frame.undone (t := 3) (j := 9) (by kernel_rfl) (hR.later 9 rfl (by kernel_rfl)) rfl
          rw [if_pos (by rfl)]
          go_simp
          exact hK (.slice Ao cs'.length cap) _ (hI.next hR (by kernel_rfl) (Mod.refl _ _) (PB.quiet hI.1 (Mod.refl _ _) (HGs.out D 0 zw1 zw1 (by omega) (hI.1).g (Mod.refl _ _))) (upd_same V 0 _))
        · intro D V zw1 a hR hI K hK
          obtain ⟨hM1, hB1, hG1⟩ := hI.1
          obtain ⟨hGK, hG1⟩ := hG1
          have ze5 := hR.frame.other (t := 5) (by kernel_rfl) rfl
          rw [if_pos (by rfl)]
          go_simp
          exact hK (.pointer (some ⟨g3, 0, none⟩)) _ (hI.next hR (by kernel_rfl) (Mod.refl _ _) (PB.quiet hI.1 (Mod.refl _ _) (HGs.out D 1 zw1 zw1 (by omega) (hI.1).g (Mod.refl _ _))) (upd_same V 1 _))
        · intro D V zw1 a hR hI K hK
          obtain ⟨hM1, hB1, hG1⟩ := hI.1
          obtain ⟨hGK, hG1⟩ := hG1
          have zd1 := hR.pred 1 (by kernel_rfl)
          have zF1 : V 1 = .pointer (some ⟨g3, 0, none⟩) := hI.2 1 zd1 rfl
          have zf1 := zF1; clear zF1
          have ze13 := hR.frame.done (t := 13) (j := 1) (by kernel_rfl) hR.ok zd1
          have zx0 := hG1.cell 0
          simp at zx0
          rw [if_pos (by rfl)]
          go_simp
          exact hK (.string ⟨xf.toArray⟩) _ (hI.next hR (by kernel_rfl) (Mod.refl _ _) (PB.quiet hI.1 (Mod.refl _ _) (HGs.out D 2 zw1 zw1 (by omega) (hI.1).g (Mod.refl _ _))) (upd_same V 2 _))
        · intro D V zw1 a hR hI K hK
          obtain ⟨hM1, hB1, hG1⟩ := hI.1
          obtain ⟨hGK, hG1⟩ := hG1
          have ze5 := hR.frame.other (t := 5) (by kernel_rfl) rfl
          rw [if_pos (by rfl)]
          go_simp
          exact hK (.pointer (some ⟨g3, 1, none⟩)) _ (hI.next hR (by kernel_rfl) (Mod.refl _ _) (PB.quiet hI.1 (Mod.refl _ _) (HGs.out D 3 zw1 zw1 (by omega) (hI.1).g (Mod.refl _ _))) (upd_same V 3 _))
        · intro D V zw1 a hR hI K hK
          obtain ⟨hM1, hB1, hG1⟩ := hI.1
          obtain ⟨hGK, hG1⟩ := hG1
          have zd3 := hR.pred 3 (by kernel_rfl)
          have zF3 : V 3 = .pointer (some ⟨g3, 1, none⟩) := hI.2 3 zd3 rfl
          have zf3 := zF3; clear zF3
          have ze15 := hR.frame.done (t := 15) (j := 3) (by kernel_rfl) hR.ok zd3
          have zx0 := hG1.cell 1
          simp at zx0
          rw [if_pos (by rfl)]
          go_simp
          exact hK (.slice xA xs.length xc) _ (hI.next hR (by kernel_rfl) (Mod.refl _ _) (PB.quiet hI.1 (Mod.refl _ _) (HGs.out D 4 zw1 zw1 (by omega) (hI.1).g (Mod.refl _ _))) (upd_same V 4 _))
        · intro D V zw1 a hR hI K hK
          obtain ⟨hM1, hB1, hG1⟩ := hI.1
          obtain ⟨hGK, hG1⟩ := hG1
          have zd4 := hR.pred 4 (by kernel_rfl)
          have zF4 : V 4 = .slice xA xs.length xc := hI.2 4 zd4 rfl
          have zf4 := zF4; clear zF4
          have ze16 := hR.frame.done (t := 16) (j := 4) (by kernel_rfl) hR.ok zd4
          rw [if_pos (by rfl)]
          go_simp
          refine (HCL.out zw1 hM1).mono ?_
          rintro e zw2 ⟨v1, rfl, hown2, hm2⟩
          obtain ⟨A_0, n2, c_0, rfl⟩ := (Sl.of_own hown2).form
          have hn2 : xs.length = n2 := Sl.lenS (Sl.of_own hown2)
          subst hn2
          exact hK (.slice A_0 xs.length c_0) _ (hI.next hR (by kernel_rfl) hm2 (PB.quiet hI.1 hm2 (HGs.out D 5 _ _ (by omega) (hI.1).g hm2)) (⟨A_0, c_0, upd_same V 5 _, (Sl.of_own hown2)⟩))
        · intro D V zw1 a hR hI K hK
          obtain ⟨hM1, hB1, hG1⟩ := hI.1
          obtain ⟨hGK, hG1⟩ := hG1
          have zd2 := hR.pred 2 (by kernel_rfl)
          have zF2 : V 2 = .string ⟨xf.toArray⟩ := hI.2 2 zd2 rfl
          have zf2 := zF2; clear zF2
          have zd5 := hR.pred 5 (by kernel_rfl)
          have zF5 : ∃ (A_5 : Option Addr) (c_5 : Nat), V 5 = .slice A_5 xs.length c_5 ∧ SlK zw1 (.slice A_5 xs.length c_5) xs := hI.2 5 zd5 (by show (!D 6) = true; rw [hR.not]; rfl)
          obtain ⟨A_5, c_5, zf5, b5_0⟩ := zF5
          have ze14 := hR.frame.done (t := 14) (j := 2) (by kernel_rfl) hR.ok zd2
          have ze17 := hR.frame.done (t := 17) (j := 5) (by kernel_rfl) hR.ok zd5
          rw [if_pos (by rfl)]
          go_simp
          exact hK (_) _ (hI.next hR (by kernel_rfl) (Mod.refl _ _) (PB.quiet hI.1 (Mod.refl _ _) (HGs.out D 6 zw1 zw1 (by omega) (hI.1).g (Mod.refl _ _))) (⟨A_5, c_5, upd_same V 6 _, b5_0⟩))
        · intro D V zw1 a hR hI K hK
          obtain ⟨hM1, hB1, hG1⟩ := hI.1
          obtain ⟨hGK, hG1⟩ := hG1
          have zd6 := hR.pred 6 (by kernel_rfl)
          have zF6 : ∃ (A_6 : Option Addr) (c_6 : Nat), V 6 = .agg #[.string ⟨xf.toArray⟩, .slice A_6 xs.length c_6] ∧ SlK zw1 (.slice A_6 xs.length c_6) xs := hI.2 6 zd6 (by show (!D 7) = true; rw [hR.not]; rfl)
          obtain ⟨A_6, c_6, zf6, b6_0⟩ := zF6
          have ze18 := hR.frame.done (t := 18) (j := 6) (by kernel_rfl) hR.ok zd6
          rw [if_pos (by rfl)]
          go_simp
          exact hK (_) _ (hI.next hR (by kernel_rfl) ((Mod.refl _ _).alloc _) (PB.quiet hI.1 (pure_alloc _ _) (HGs.out D 7 _ _ (by omega) (hI.1).g ((Mod.refl _ _).alloc _))) (⟨A_6, c_6, _, upd_same V 7 _, (by omega), (Blk.new _ _ _), (SlK.pure b6_0 (pure_alloc _ _))⟩))
        · intro D V zw1 a hR hI K hK
          obtain ⟨hM1, hB1, hG1⟩ := hI.1
          obtain ⟨hGK, hG1⟩ := hG1
          have zd0 := hR.pred 0 (by kernel_rfl)
          have zF0 : V 0 = .slice Ao cs'.length cap := hI.2 0 zd0 rfl
          have zf0 := zF0; clear zF0
          have zd7 := hR.pred 7 (by kernel_rfl)
          have zF7 : ∃ (A_7 : Option Addr) (c_7 : Nat) (g_7 : Nat), V 7 = .slice (some ⟨g_7, 0, none⟩) 1 1 ∧ w1.heap.size ≤ g_7 ∧ Blk zw1 g_7 105 #[.string ⟨xf.toArray⟩, .slice A_7 xs.length c_7] ∧ SlK zw1 (.slice A_7 xs.length c_7) xs := hI.2 7 zd7 (by show (!D 8) = true; rw [hR.not]; rfl)
          obtain ⟨A_7, c_7, g_7, zf7, c7_0, b7_0, b7_1⟩ := zF7
          have ze12 := hR.frame.done (t := 12) (j := 0) (by kernel_rfl) hR.ok zd0
          have ze19 := hR.frame.done (t := 19) (j := 7) (by kernel_rfl) hR.ok zd7
          rw [if_pos (by rfl)]
          have hown := (hGK hR.not).1
          refine wp_append_lies _ (.tmp 12) (.tmp 19) 37 (by rfl) base 105 i0 _ 2 40 Tryz.underlying37 hi0 hz0 hz1 hz2 (by rfl) (by omega) (.slice Ao cs'.length cap) (cs'.length) (choV cs') ?_ hown ⟨g_7, 0, none⟩ 1 1 [.string ⟨xf.toArray⟩, .slice A_7 xs.length c_7] ?_ (by rfl) (World.news_of_block (cs := #[.string ⟨xf.toArray⟩, .slice A_7 xs.length c_7]) (t := 105) (fr := (0, 0)) b7_0) (by simp [Value.oneCell']) (by omega) (by simp [maxLen]; omega) (by omega) (by omega) zw1.heap.size rfl ?_
          · show a.tmps.getD 12 undef = _; simp [ze12, zf0]
          · show a.tmps.getD 19 undef = _; simp [ze19, zf7]
          intro g5 cap5 zw2 hown5 hgrow hat hlt5
          have hT := mod_grown hgrow
          have hTb : ∀ j, (.slice Ao cs'.length cap : Value).ownBlock = some j → base ≤ j := own_block hown
          refine hK _ _ (InvF.last (PB.writes hI.1 (fun j hj hl => by have := hTb j hj; omega) hT ⟨fun hs => absurd hs (by rw [upd_same]; decide), (hG1.mod hT (fun h => by have := HLT.out _ h; omega))⟩) ⟨_, _, A_7, c_7, upd_same V 8 _, (hGK hR.not).app hT (x := ⟨xf, A_7, c_7, xs⟩) (y := ⟨xf, xA, xc, xs⟩) b7_1 rfl rfl rfl hown5⟩ ?_)
          intro k hk hDk hlv
          have hkl := hR.lt k hDk
          have hv := hI.2 k hDk (liveB_of hlv)
          match k, hk, hDk, hlv, hkl, hv with
          | 0, _, _, _, _, hv => exact hv
          | 1, _, _, _, _, hv => exact hv
          | 2, _, _, _, _, hv => exact hv
          | 3, _, _, _, _, hv => exact hv
          | 4, _, _, _, _, hv => exact hv
          | 5, _, _, hlv, _, _ => exact absurd hlv (by show ¬ (!upd D 8 true 6) = true; rw [upd_ne _ _ (by omega), hR.closed 7 _ 6 rfl (by kernel_rfl) (hR.pred 7 (by kernel_rfl))]; decide)
          | 6, _, _, hlv, _, _ => exact absurd hlv (by show ¬ (!upd D 8 true 7) = true; rw [upd_ne _ _ (by omega), hR.pred 7 (by kernel_rfl)]; decide)
          | 7, _, _, hlv, _, _ => exact absurd hlv (by show ¬ (!upd D 8 true 8) = true; rw [upd_same]; decide)
          | 8, hk, _, _, _, _ => exact absurd rfl hk
          | 9, _, hDk, _, _, _ => exact absurd hDk (by rw [hR.later 9 rfl (by kernel_rfl)]; decide)
          | k + 10, _, _, _, hkl, _ => exact absurd hkl (by simp)
        · intro D V zw1 a hR hI K hK
          obtain ⟨hM1, hB1, hG1⟩ := hI.1
          obtain ⟨hGK, hG1⟩ := hG1
          have zd8 := hR.pred 8 (by kernel_rfl)
          have zF8 : ∃ (g_8 : Nat) (c_8 : Nat) (A_8 : Option Addr) (d_8 : Nat), V 8 = .slice (some ⟨g_8, 0, none⟩) (cs'.length + 1) c_8 ∧ VcOk zw1 base (some ⟨g_8, 0, none⟩) c_8 (cs' ++ [⟨xf, A_8, d_8, xs⟩]) (cs.take k ++ [⟨xf, xA, xc, xs⟩]) := hI.2 8 zd8 rfl
          obtain ⟨g_8, c_8, A_8, d_8, zf8, b8_0⟩ := zF8
          have ze20 := hR.frame.done (t := 20) (j := 8) (by kernel_rfl) hR.ok zd8
          rw [if_pos (by rfl)]
          go_simp
          exact hK (.slice (some ⟨g_8, 0, none⟩) (cs'.length + 1) c_8) _ (hI.next hR (by kernel_rfl) (Mod.refl _ _) (PB.quiet hI.1 (Mod.refl _ _) (HGs.out D 9 zw1 zw1 (by omega) (hI.1).g (Mod.refl _ _))) (⟨g_8, c_8, A_8, d_8, upd_same V 9 _, b8_0⟩))
      · intro D V w2 hD hI
        obtain ⟨hM1, hB1, hG1⟩ := hI.1
        have hMx := hM1
        clear hM1
        have hBx := hB1
        clear hB1
        have hGx := hG1.2
        clear hG1
        have zF0 : V 0 = .slice Ao cs'.length cap := hI.2 0 (hD 0 (by decide)) rfl
        have zf0 := zF0; clear zF0
        have zF1 : V 1 = .pointer (some ⟨g3, 0, none⟩) := hI.2 1 (hD 1 (by decide)) rfl
        have zf1 := zF1; clear zF1
        have zF2 : V 2 = .string ⟨xf.toArray⟩ := hI.2 2 (hD 2 (by decide)) rfl
        have zf2 := zF2; clear zF2
        have zF3 : V 3 = .pointer (some ⟨g3, 1, none⟩) := hI.2 3 (hD 3 (by decide)) rfl
        have zf3 := zF3; clear zF3
        have zF4 : V 4 = .slice xA xs.length xc := hI.2 4 (hD 4 (by decide)) rfl
        have zf4 := zF4; clear zF4
        have zF8 : ∃ (g_8 : Nat) (c_8 : Nat) (A_8 : Option Addr) (d_8 : Nat), V 8 = .slice (some ⟨g_8, 0, none⟩) (cs'.length + 1) c_8 ∧ VcOk w2 base (some ⟨g_8, 0, none⟩) c_8 (cs' ++ [⟨xf, A_8, d_8, xs⟩]) (cs.take k ++ [⟨xf, xA, xc, xs⟩]) := hI.2 8 (hD 8 (by decide)) rfl
        obtain ⟨g_8, c_8, A_8, d_8, zf8, b8_0⟩ := zF8
        have zF9 : ∃ (g_9 : Nat) (c_9 : Nat) (A_9 : Option Addr) (d_9 : Nat), V 9 = .slice (some ⟨g_9, 0, none⟩) (cs'.length + 1) c_9 ∧ VcOk w2 base (some ⟨g_9, 0, none⟩) c_9 (cs' ++ [⟨xf, A_9, d_9, xs⟩]) (cs.take k ++ [⟨xf, xA, xc, xs⟩]) := hI.2 9 (hD 9 (by decide)) rfl
        obtain ⟨g_9, c_9, A_9, d_9, zf9, b9_0⟩ := zF9
        clear hI hD HGs
        simp only [frAll, Act.put, List.setIfInBounds_toArray, List.set_cons_zero, List.set_cons_succ, Nat.zero_add, Nat.reduceAdd, zf0, zf1, zf2, zf3, zf4, zf8, zf9]
        clear zf0 zf1 zf2 zf3 zf4 zf8 zf9
        generalize V 5 = u5
        generalize V 6 = u6
        generalize V 7 = u7
        clear V D
        have HV8 := Lib.hid b9_0
        clear b8_0 b9_0 hGx hBx HO1 HCL
        go_wp2_with fail
        go_roundg (cs.length - (k + 1))
        case measure => omega
        case rel =>
          exact ⟨k + 1, c_9, some ⟨g_9, 0, none⟩, cs' ++ [⟨xf, A_9, d_9, xs⟩], rfl, by omega, by simp, by simp, by rw [HTK.out]; exact HV8.out, hMx, by have := hMx.size; omega⟩
    · have hke : cs.length = k := by omega
      have HO := Lib.hid hO
      have HMZ := Lib.hid hm
      have HTZ : Hid (cs.take k = cs) := Lib.hid (List.take_of_length_le (by omega))
      clear hO hm
      go_wp2_with fail
      go_ret
      exact ⟨Ao, cap, cs', rfl, by rw [← HTZ.out, ← Nat.le_antisymm hs1 hs2]; exact HO.out, HMZ.out⟩

/-- Decisions but for the places of their slices. -/
def DecR.key (d : DecR) : Int × Int × Str × Str × Bool × List (Str × List Str) := (d.no, d.at_, d.rev, d.item, d.sec, d.vals.map fun x => (x.field, x.ch))
def likesD (xs ys : List DecR) : Prop := xs.map DecR.key = ys.map DecR.key
theorem likesD.len {xs ys : List DecR} (h : likesD xs ys) : xs.length = ys.length := by
 have := congrArg List.length h
 simpa using this
theorem likesD.snoc {xs ys : List DecR} {x y : DecR} (h : likesD xs ys) (h1 : x.key = y.key) : likesD (xs ++ [x]) (ys ++ [y]) := by
 unfold likesD at h ⊢
 rw [List.map_append, List.map_append, h, List.map_cons, List.map_cons, h1]
theorem likesD.refl (xs : List DecR) : likesD xs xs := rfl
theorem Vals.mod {w w' : World} {S : Nat → Prop} {v : Value} {cs : List ChoR} (h : Vals w v cs) (hm : Mod S w w') (h1 : ∀ g arr fr, w.heap[g]? = some (.cells arr 105 fr) → ¬ S g) (h2 : ∀ g arr fr, w.heap[g]? = some (.cells arr 9 fr) → ¬ S g) : Vals w' v cs := ⟨Sl.mod h.1 hm h1, h.2.mod hm h2⟩
theorem DecS.mod {w w' : World} {S : Nat → Prop} {ds : List DecR} (h : DecS w ds) (hm : Mod S w w') (h1 : ∀ g arr fr, w.heap[g]? = some (.cells arr 105 fr) → ¬ S g) (h2 : ∀ g arr fr, w.heap[g]? = some (.cells arr 9 fr) → ¬ S g) : DecS w' ds := fun x hx => (h x hx).mod hm h1 h2
theorem DecS.snoc {w : World} {ds : List DecR} {x : DecR} (h : DecS w ds) (hx : Vals w (.slice x.A x.vals.length x.c) x.vals) : DecS w (ds ++ [x]) := fun y hy => by
 rcases List.mem_append.1 hy with hy | hy
 ·exact h y hy
 ·rw [List.mem_singleton.1 hy]; exact hx
theorem DecS.app {w : World} {ds es : List DecR} (h : DecS w ds) (k : DecS w es) : DecS w (ds ++ es) := fun y hy => by
 rcases List.mem_append.1 hy with hy | hy
 ·exact h y hy
 ·exact k y hy
theorem Vals.of_vc {w : World} {base c : Nat} {A : Option Addr} {cs' cs : List ChoR} (h : VcOk w base A c cs' cs) : Vals w (.slice A cs'.length c) cs' := ⟨Sl.of_own h.1, h.2.1⟩
theorem info_dec : (Tryz.prog.info? 40).map (fun i => (i.zero, i.size, i.bytes)) = some (some (.agg #[.int .i64 0, .int .i64 0, .string ⟨#[]⟩, .string ⟨#[]⟩, .bool false, .slice none 0 0]), 6, 80) := by kernel_rfl
/-- Decisions of their own, like ds. -/
def DcOk (w : World) (base : Nat) (A : Option Addr) (c : Nat) (ds' ds : List DecR) : Prop := w.ownsRow base 40 6 (.slice A ds'.length c) ds'.length (decV ds') ∧ DecS w ds' ∧ likesD ds' ds
theorem DcOk.pure {w w' : World} {base c : Nat} {A : Option Addr} {ds' ds : List DecR} (h : DcOk w base A c ds' ds) (hm : Pure w w') : DcOk w' base A c ds' ds := ⟨own_pure h.1 hm, h.2.1.pure hm, h.2.2⟩
def DcPost (w : World) (ds : List DecR) (e : Ending) (w' : World) : Prop := ∃ (A : Option Addr) (c : Nat) (ds' : List DecR), e = .returned (.slice A ds'.length c) ∧ DcOk w' w.heap.size A c ds' ds ∧ Pure w w'
def DcRel (w : World) (base : Nat) (ds : List DecR) (gk : Nat) (x i : Value) (wr : World) : Prop :=
 ∃ (k cap : Nat) (A : Option Addr) (ds' : List DecR), ds.length - k = gk ∧ k ≤ ds.length ∧ x = .slice A ds'.length cap ∧ i = .int .i64 (k : Int) ∧ DcOk wr base A cap ds' (ds.take k) ∧ Pure w wr ∧ base ≤ wr.heap.size

set_option maxRecDepth 100000 in
set_option maxHeartbeats 4000000 in
theorem copied_calls (w : World) (A : Option Addr) (n c : Nat) (ds : List DecR) (hV : Decs w (.slice A n c) ds) (hn : ds.length ≤ 100000) (hz : ∀ x ∈ ds, DecB x) : Calls Tryz.prog 58 #[.slice A n c] w (DcPost w ds) := by
  obtain ⟨i0, hi0, hz0, hz1, hz2⟩ := info_parts info_dec
  have hl := hV.len
  have HV := Lib.hid hV
  have HZ := Lib.hid hz
  subst hl
  clear hV hz
  go_enter Tryz.func58, Tryz.ntmps58
  go_wp2_with fail
  obtain ⟨base, hbase⟩ : ∃ base, base = w.heap.size := ⟨_, rfl⟩
  have hs1 := Nat.le_of_eq hbase
  have hs2 := Nat.le_of_eq hbase.symm
  unfold DcPost
  rw [← hbase]
  clear hbase
  go_loopg [3, 8] ds.length (fun gk x i wr => DcRel w base ds gk x i wr)
  case atStart => exact ⟨0, 0, none, [], by omega, by omega, rfl, rfl, ⟨World.ownsRow_nil _ _ _ _, fun x h => absurd h (by simp), rfl⟩, Mod.refl _ _, by omega⟩
  case round =>
    obtain ⟨k, cap, Ao, ds', rfl, hk, rfl, rfl, hO, hm, hb⟩ := hrel
    by_cases hlt : k < ds.length
    · obtain ⟨g, off, rfl, q0, q1, q2, q3, q4, q5⟩ := (HV.out.pure hm).cells hlt
      have hsx := (HV.out.2 _ (List.getElem_mem hlt)).pure hm
      have hxz := HZ.out _ (List.getElem_mem hlt)
      have HTK := Lib.hid (List.take_succ_eq_append_getElem hlt)
      generalize ds[k] = x at *
      obtain ⟨xno, xat, xrev, xitem, xsec, xA, xc, xv⟩ := x
      simp only at q0 q1 q2 q3 q4 q5 hsx hxz
      have hpb := pure_alloc wr (.cells #[.int .i64 xno, .int .i64 xat, .string ⟨xrev.toArray⟩, .string ⟨xitem.toArray⟩, .bool xsec, .slice xA xv.length xc] 40)
      have HC := Lib.hid (pvalues_calls (wr.alloc (.cells #[.int .i64 xno, .int .i64 xat, .string ⟨xrev.toArray⟩, .string ⟨xitem.toArray⟩, .bool xsec, .slice xA xv.length xc] 40)) xA xv.length xc xv (hsx.pure hpb) (by have := hxz.2.2.2.2.2.2.1; simp only at this; omega) hxz.2.2.2.2.2.2.2)
      have HXB := Lib.hid (Blk.new wr 40 #[.int .i64 xno, .int .i64 xat, .string ⟨xrev.toArray⟩, .string ⟨xitem.toArray⟩, .bool xsec, .slice xA xv.length xc])
      have HMB := Lib.hid (hm.trans hpb)
      have HO1 := Lib.hid (hO.pure hpb)
      have HLT : Hid (∀ i, (Value.slice Ao ds'.length cap).ownBlock = some i → i < wr.heap.size) := Lib.hid (fun i hi => (hO.1.lt i hi).2)
      clear hsx hxz hm hO hpb
      go_upto_region 5 with (fail)
      generalize (wr.alloc (.cells #[.int .i64 xno, .int .i64 xat, .string ⟨xrev.toArray⟩, .string ⟨xitem.toArray⟩, .bool xsec, .slice xA xv.length xc] 40)) = w1 at *
      generalize wr.heap.size = g3 at *
      have hX := HXB.out
      clear q0 q1 q2 q3 q4 q5
      have d0 := hX.cell 0; have df0 := hX.frozen 0; have d1 := hX.cell 1; have df1 := hX.frozen 1; have d2 := hX.cell 2; have df2 := hX.frozen 2; have d3 := hX.cell 3; have df3 := hX.frozen 3; have d4 := hX.cell 4; have df4 := hX.frozen 4; have d5 := hX.cell 5; have df5 := hX.frozen 5; simp at d0 d1 d2 d3 d4 d5
      clear hX
      go_wp2_with fail
      refine HC.out.mono ?_
      rintro e w2 ⟨A2, c2, cs2, rfl, hvc, m2⟩
      have HX2 := Lib.hid (HXB.out.modp m2)
      have HO2 := Lib.hid (HO1.out.pure m2)
      have HM2 := Lib.hid (HMB.out.trans m2)
      have hX := HX2.out
      have h3 : g3 < w2.heap.size := HX2.out.lt
      have hms : Mod (· = g3) w2 (w2.setCell ⟨g3, 5, none⟩ (.slice A2 cs2.length c2)) := Mod.setCell (S := (· = g3)) (p := ⟨g3, 5, none⟩) (Mod.refl _ _) (.inl rfl) _
      have hty1 : ∀ i arr fr, w2.heap[i]? = some (.cells arr 105 fr) → ¬ i = g3 := fun i arr fr hi => blk_ty HX2.out hi (by decide)
      have hty2 : ∀ i arr fr, w2.heap[i]? = some (.cells arr 9 fr) → ¬ i = g3 := fun i arr fr hi => blk_ty HX2.out hi (by decide)
      have HX3 : Hid (Blk (w2.setCell ⟨g3, 5, none⟩ (.slice A2 cs2.length c2)) g3 40 #[.int .i64 xno, .int .i64 xat, .string ⟨xrev.toArray⟩, .string ⟨xitem.toArray⟩, .bool xsec, .slice A2 cs2.length c2]) := Lib.hid (by simpa using HX2.out.set 5 (.slice A2 cs2.length c2))
      have HV3 := Lib.hid ((Vals.of_vc hvc).mod hms hty1 hty2)
      have HLK : Hid (likes cs2 xv) := Lib.hid hvc.2.2
      have HO3 : Hid (DcOk (w2.setCell ⟨g3, 5, none⟩ (.slice A2 cs2.length c2)) base Ao cap ds' (ds.take k)) := Lib.hid ⟨own_mod HO2.out.1 hms (fun i hi => by have := HLT.out i hi; omega), HO2.out.2.1.mod hms hty1 hty2, HO2.out.2.2⟩
      have HM3 : Hid (Pure w (w2.setCell ⟨g3, 5, none⟩ (.slice A2 cs2.length c2))) := Lib.hid (HM2.out.setCell (.inr (by show w.heap.size ≤ g3; omega)) _)
      clear d0 d1 d2 d3 d4 d5 df0 df1 df2 df3 df4 df5 HC HXB HMB HO1 HO2 HM2 hvc m2 hms hty1 hty2 HX2
      have d0 := hX.cell 0; have df0 := hX.frozen 0; have d1 := hX.cell 1; have df1 := hX.frozen 1; have d2 := hX.cell 2; have df2 := hX.frozen 2; have d3 := hX.cell 3; have df3 := hX.frozen 3; have d4 := hX.cell 4; have df4 := hX.frozen 4; have d5 := hX.cell 5; have df5 := hX.frozen 5; simp at d0 d1 d2 d3 d4 d5
      clear hX
      go_upto_region 6 with (fail)
      clear d0 d1 d2 d3 d4 d5 df0 df1 df2 df3 df4 df5
      generalize (w2.setCell ⟨g3, 5, none⟩ (.slice A2 cs2.length c2)) = w3 at *
      have hX := HX3.out
      have d0 := hX.cell 0; have d1 := hX.cell 1; have d2 := hX.cell 2; have d3 := hX.cell 3; have d4 := hX.cell 4; have d5 := hX.cell 5; simp at d0 d1 d2 d3 d4 d5
      clear hX
      have hownO := HO3.out.1
      have hmO := HM3.out
      have hcl : ds'.length ≤ 100000 := by have := HO3.out.2.2.len; have h2 : (ds.take k).length ≤ k := by simp; omega
                                           omega
      have hb3 : base ≤ w3.heap.size := by have := HM3.out.size; omega
      go_wp2_with ((at_builtin; refine wpList_append_lies _ rfl _ _ _ rfl base 40 i0 _ 6 80 Tryz.underlying31 hi0 hz0 hz1 hz2 rfl (by omega) (.slice Ao ds'.length cap) ds'.length (decV ds') rfl (hownO.alloc _) ⟨w3.heap.size, 0, none⟩ 1 1 [.int .i64 xno, .int .i64 xat, .string ⟨xrev.toArray⟩, .string ⟨xitem.toArray⟩, .bool xsec, .slice A2 cs2.length c2] rfl rfl (World.news_of_block (cs := #[.int .i64 xno, .int .i64 xat, .string ⟨xrev.toArray⟩, .string ⟨xitem.toArray⟩, .bool xsec, .slice A2 cs2.length c2]) (t := 40) (fr := (0, 0)) (heap_alloc_new w3 _)) (by simp [Value.oneCell']) (by omega) (by simp [maxLen]; omega) (by omega) (by have := hmO.size; simp; omega) (w3.heap.size + 1) (by simp) ?_; intro g5 cap5 w5 hown5 hgrow hat hlt5))
      have hob := own_block hownO
      have hoa := hownO.alloc (.cells #[.int .i64 xno, .int .i64 xat, .string ⟨xrev.toArray⟩, .string ⟨xitem.toArray⟩, .bool xsec, .slice A2 cs2.length c2] 40)
      have mG := mod_grown hgrow
      have hz5 := mG.size
      simp only [World.size_alloc] at hz5
      have hty1 : ∀ i arr fr, (w3.alloc (.cells #[.int .i64 xno, .int .i64 xat, .string ⟨xrev.toArray⟩, .string ⟨xitem.toArray⟩, .bool xsec, .slice A2 cs2.length c2] 40)).heap[i]? = some (.cells arr 105 fr) → ¬ (Value.slice Ao ds'.length cap).ownBlock = some i := fun i arr fr hi hv => absurd (own_ty hoa hv hi) (by decide)
      have hty2 : ∀ i arr fr, (w3.alloc (.cells #[.int .i64 xno, .int .i64 xat, .string ⟨xrev.toArray⟩, .string ⟨xitem.toArray⟩, .bool xsec, .slice A2 cs2.length c2] 40)).heap[i]? = some (.cells arr 9 fr) → ¬ (Value.slice Ao ds'.length cap).ownBlock = some i := fun i arr fr hi hv => absurd (own_ty hoa hv hi) (by decide)
      go_roundg (ds.length - (k + 1))
      case measure => omega
      case rel =>
        refine ⟨k + 1, cap5, some ⟨g5, 0, none⟩, ds' ++ [⟨xno, xat, xrev, xitem, xsec, A2, c2, cs2⟩], rfl, by omega, by simp, by simp, ⟨by simpa [decV_snoc, decC] using hown5, DecS.snoc (DecS.mod (HO3.out.2.1.pure (pure_alloc _ _)) mG hty1 hty2) (Vals.mod (HV3.out.pure (pure_alloc _ _)) mG hty1 hty2), ?_⟩, (HM3.out.alloc _).grown hgrow (fun i hi => .inr (by have := hob i hi; omega)), by omega⟩
        rw [HTK.out]
        refine HO3.out.2.2.snoc ?_
        have hlk := HLK.out
        unfold likes at hlk
        simp only [DecR.key, hlk]
    · have hke : ds.length = k := by omega
      have HO := Lib.hid hO
      have HMZ := Lib.hid hm
      have HTZ : Hid (ds.take k = ds) := Lib.hid (List.take_of_length_le (by omega))
      clear hO hm
      go_wp2_with fail
      go_ret
      exact ⟨Ao, cap, ds', rfl, by rw [← HTZ.out, ← Nat.le_antisymm hs1 hs2]; exact HO.out, HMZ.out⟩

end Go.Proofs.YtkkndblcejmmjaaGreatDoor
