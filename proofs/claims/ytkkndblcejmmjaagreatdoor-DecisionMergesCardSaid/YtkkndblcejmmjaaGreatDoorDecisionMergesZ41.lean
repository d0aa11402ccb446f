/- Texts of the proof of DecisionMerges, put together: MrgL, MrgM. -/
import Derived.Test.YtkkndblcejmmjaaGreatDoorDecisionMergesZ36
import Derived.Test.YtkkndblcejmmjaaGreatDoorDecisionMergesZ37
import Derived.Test.YtkkndblcejmmjaaGreatDoorDecisionMergesZ39
import Derived.Test.YtkkndblcejmmjaaGreatDoorDecisionMergesZ40
/- Merge of the program. -/
namespace Go.Proofs.YtkkndblcejmmjaaGreatDoor
set_option linter.unusedVariables false
set_option linter.unusedSimpArgs false
open Go.RowKit Go.Sort Go.Shelf

/-- What Merge answers: an error, or the merged decisions, numbered. -/
def MgPost (w : World) (al : List AskR) (q : Int) (cs : List Cnt) (e : Ending) (w' : World) : Prop :=
 ∃ (A : Option Addr) (k c : Nat) (zs : List DecR), e = .returned (.tuple #[.slice A k c, .int .i64 q]) ∧ (q ≠ 0 → k = 0) ∧ (q = 0 → Decs w' (.slice A k c) zs ∧ MgC al cs (zs.map DecR.cnt) ∧ NumD zs zs.length) ∧ Pure w w'
theorem MgPost.err {w w' : World} {al : List AskR} {q p : Int} {cs : List Cnt} (h : q = p) (hp : p ≠ 0) (hm : Pure w w') : MgPost w al q cs (.returned (.tuple #[.slice none 0 0, .int .i64 p])) w' := ⟨none, 0, 0, [], by rw [h], fun _ => rfl, fun h0 => absurd (h.symm.trans h0) hp, hm⟩
def mgE (L : LayR) (ds es : List DecR) : Int := if decsE L ds ≠ 0 then decsE L ds else decsE L es

theorem decB_like {xs ys : List DecR} (h : likesD xs ys) (hy : ∀ y ∈ ys, DecB y) : ∀ x ∈ xs, DecB x := by
 intro x hx
 have : x.key ∈ ys.map DecR.key := by rw [← h]; exact List.mem_map_of_mem hx
 obtain ⟨y, hy2, e⟩ := List.mem_map.1 this
 have hb := hy y hy2
 unfold DecR.key at e
 simp only [Prod.mk.injEq] at e
 obtain ⟨e1, e2, e3, e4, e5, e6⟩ := e
 obtain ⟨b1, b2, b3, b4, b5, b6, b7, b8⟩ := hb
 refine ⟨by omega, by omega, by omega, by omega, e3 ▸ b5, e4 ▸ b6, ?_, ?_⟩
 ·have := congrArg List.length e6
  simp at this; omega
 ·intro z hz
  have hm : (z.field, z.ch) ∈ y.vals.map (fun x => (x.field, x.ch)) := by rw [e6]; exact List.mem_map_of_mem (f := fun x : ChoR => (x.field, x.ch)) hz
  obtain ⟨u, hu, e7⟩ := List.mem_map.1 hm
  simp only [Prod.mk.injEq] at e7
  have := b8 u hu
  unfold ChoB at this ⊢
  rw [← e7.1, ← e7.2]; exact this
/-- The two lists' copies put together. -/
def CatP (w w2 wx : World) (gl : Nat) (lay : Array Value) (ds : List DecR) (p : Value) : Prop := ∃ xs, OwD wx w2.heap.size p xs ∧ DecS wx xs ∧ likesD xs ds ∧ Pure w2 wx ∧ Blk wx gl 29 lay
theorem Blk.cell0 {w : World} {g : Nat} {t : TypeId} {u : Value} (h : Blk w g t #[u]) : w.cell? ⟨g, 0, none⟩ = some u := by
 have := h.cell 0
 simpa using this
theorem compK_mem {eq : DecR → DecR → Bool} {x : DecR} : ∀ {t : List DecR} {p : DecR}, x ∈ compK eq p t → x ∈ t
 | [], _, h => absurd h (by simp [compK])
 | y :: t, p, h => by
  unfold compK at h
  split at h
  ·exact List.mem_cons_of_mem _ (compK_mem h)
  ·rcases List.mem_cons.1 h with e | e
   ·exact e ▸ List.mem_cons_self
   ·exact List.mem_cons_of_mem _ (compK_mem e)
theorem compF_mem {eq : DecR → DecR → Bool} {x : DecR} : ∀ {t : List DecR}, x ∈ compF eq t → x ∈ t
 | [], h => absurd h (by simp [compF])
 | y :: t, h => by
  rcases List.mem_cons.1 h with e | e
  ·exact e ▸ List.mem_cons_self
  ·exact List.mem_cons_of_mem _ (compK_mem e)
def MgRel (w : World) (base : Nat) (v : Value) (m : Nat) (CC : List Cnt) (gk : Nat) (i : Value) (wr : World) : Prop := ∃ (k : Nat) (us : List DecR), m - k = gk ∧ k ≤ m ∧ i = .int .i64 (k : Int) ∧ NumR wr base v m k CC us ∧ Pure w wr
set_option maxRecDepth 100000 in
set_option maxHeartbeats 8000000 in
theorem merge_calls (w : World) (vl : Value) (L : LayR) (A1 A2 : Option Addr) (k1 k2 : Nat) (ds es : List DecR) (hL : LayV w L vl) (hLB : LayB L) (hD : Decs w (.slice A1 ds.length k1) ds) (hE : Decs w (.slice A2 es.length k2) es)
  (hz1 : ∀ d ∈ ds, DecB d) (hz2 : ∀ d ∈ es, DecB d) (hn1 : ds.length ≤ 2000) (hn2 : es.length ≤ 2000) :
  Calls Tryz.prog 32 #[vl, .slice A1 ds.length k1, .slice A2 es.length k2] w (MgPost w L.asks (mgE L ds es) ((ds ++ es).map DecR.cnt)) := by
 have HC1 := Lib.hid (fun W (h : Pure w W) => dcheck_calls W vl L A1 ds.length k1 ds (hL.pure h) hLB (hD.pure h) hz1 (by omega))
 have HC2 := Lib.hid (fun W (h : Pure w W) => dcheck_calls W vl L A2 es.length k2 es (hL.pure h) hLB (hE.pure h) hz2 (by omega))
 have HP1 := Lib.hid (fun W (h : Pure w W) => copied_calls W A1 ds.length k1 ds (hD.pure h) (by omega) hz1)
 have HP2 := Lib.hid (fun W (h : Pure w W) => copied_calls W A2 es.length k2 es (hE.pure h) (by omega) hz2)
 have HQ : Hid (mgE L ds es = if decsE L ds ≠ 0 then decsE L ds else decsE L es) := Lib.hid rfl
 have HOK1 := Lib.hid (fun h => okV_right (L := L) (ds := ds) h)
 have HOK2 := Lib.hid (fun h => okV_right (L := L) (ds := es) h)
 have HLV := Lib.hid (fun W (h : Pure w W) => hL.pure h)
 have HZ := Lib.hid (And.intro hz1 hz2)
 obtain ⟨A, n, c, A3, n3, c3, rfl, _, _⟩ := hL
 generalize hqm : mgE L ds es = qm at *
 generalize decsE L ds = qa at *
 generalize decsE L es = qb at *
 have HB0 := Lib.hid (Blk.new w 29 #[.slice A n c, .slice A3 n3 c3])
 have HM0 := Lib.hid (pure_alloc w (.cells #[.slice A n c, .slice A3 n3 c3] 29))
 have HF1 : Hid (∀ (W : World) (g : Nat), Blk W g 41 #[.int .i64 qa, .int .i64 qb] → Calls Tryz.prog 55 #[.slice (some ⟨g, 0, none⟩) 2 2] W (IntPost W qm)) := Lib.hid (fun W g h => by
  have := firstE_calls W g 2 [qa, qb] h.row0 (by simp)
  rw [HQ.out]
  rwa [show firstErr [qa, qb] = if qa ≠ 0 then qa else qb by by_cases h1 : qa = 0 <;> by_cases h2 : qb = 0 <;> simp [firstErr, h1, h2]] at this)
 clear hD hE hz1 hz2 hqm
 go_enter Tryz.func32, Tryz.ntmps32
 go_upto_region 1 with (fail)
 generalize (w.alloc (.cells #[.slice A n c, .slice A3 n3 c3] 29)) = w1 at *
 generalize hgl : w.heap.size = gl at *
 clear hgl
 have HGs := Lib.hid (show ∀ (D : Nat → Bool) (zzi : Nat) (zq zq' : World), (fun _ zq => (fun Z => Blk Z gl 29 #[.slice A n c, .slice A3 n3 c3]) zq) D zq → Mod (fun _ => False) zq zq' → (fun _ zq => (fun Z => Blk Z gl 29 #[.slice A n c, .slice A3 n3 c3]) zq) (upd D zzi true) zq' from by intro D zzi zq zq' h hm; (exact h.modp hm))
 refine wp_region_inv (by kernel_rfl) (by kernel_rfl) (InvF (R := Mod (fun _ => False)) [.is (.agg #[.slice A n c, .slice A3 n3 c3]),
   .is (.slice A1 ds.length k1),
   .is (.int .i64 qa),
   .is (.agg #[.slice A n c, .slice A3 n3 c3]),
   .is (.slice A2 es.length k2),
   .is (.int .i64 qb),
   ⟨fun zv zw => ∃ (g_6 : Nat), zv = .slice (some ⟨g_6, 0, none⟩) 2 2 ∧ w1.heap.size ≤ g_6 ∧ Blk zw g_6 41 #[.int .i64 qa, .int .i64 qb], (by rintro zv zw zx ⟨g_6, rfl, c0, q0⟩ hm; exact ⟨g_6, rfl, c0, (q0.modp hm)⟩), none, some 7⟩,
   .is (.int .i64 qm),
   .is (.int .i64 qm)]
   (PB w (fun _ => False) w1.heap.size (fun _ zq => (fun Z => Blk Z gl 29 #[.slice A n c, .slice A3 n3 c3]) zq))) (InvF.start (PB.start HM0.out (Nat.le_refl _) (HB0.out.drew))) ?_ ?_
 ·refine .cons ?_ (.cons ?_ (.cons ?_ (.cons ?_ (.cons ?_ (.cons ?_ (.cons ?_ (.cons ?_ (.cons ?_ .nil))))))))
  ·intro D V zw1 a hR hI K hK
   obtain ⟨hM1, hB1, hG1⟩ := hI.1
   have ze3 := hR.frame.other (t := 3) (by kernel_rfl) rfl
   have zx0 := hG1.cell 0; have zx1 := hG1.cell 1
   simp at zx0 zx1
   rw [if_pos (by rfl)]
   go_simp
   exact hK (.agg #[.slice A n c, .slice A3 n3 c3]) _ (hI.next hR (by kernel_rfl) (Mod.refl _ _) (PB.quiet hI.1 (Mod.refl _ _) (HGs.out D 0 zw1 zw1 (hI.1).g (Mod.refl _ _))) (upd_same V 0 _))
  ·intro D V zw1 a hR hI K hK
   obtain ⟨hM1, hB1, hG1⟩ := hI.1
   have ze1 := hR.frame.other (t := 1) (by kernel_rfl) rfl
   rw [if_pos (by rfl)]
   go_simp
   exact hK (.slice A1 ds.length k1) _ (hI.next hR (by kernel_rfl) (Mod.refl _ _) (PB.quiet hI.1 (Mod.refl _ _) (HGs.out D 1 zw1 zw1 (hI.1).g (Mod.refl _ _))) (upd_same V 1 _))
  ·intro D V zw1 a hR hI K hK
   obtain ⟨hM1, hB1, hG1⟩ := hI.1
   have zd0 := hR.pred 0 (by kernel_rfl)
   have zF0 : V 0 = .agg #[.slice A n c, .slice A3 n3 c3] := hI.2 0 zd0 rfl
   have zf0 := zF0; clear zF0
   have zd1 := hR.pred 1 (by kernel_rfl)
   have zF1 : V 1 = .slice A1 ds.length k1 := hI.2 1 zd1 rfl
   have zf1 := zF1; clear zF1
   have ze12 := hR.frame.done (t := 12) (j := 0) (by kernel_rfl) hR.ok zd0
   have ze13 := hR.frame.done (t := 13) (j := 1) (by kernel_rfl) hR.ok zd1
   rw [if_pos (by rfl)]
   go_simp
   refine (HC1.out zw1 hM1).mono ?_
   rintro e zw2 ⟨rfl, hm2⟩
   exact hK (.int .i64 qa) _ (hI.next hR (by kernel_rfl) hm2 (PB.quiet hI.1 hm2 (HGs.out D 2 _ _ (hI.1).g hm2)) (upd_same V 2 _))
  ·intro D V zw1 a hR hI K hK
   obtain ⟨hM1, hB1, hG1⟩ := hI.1
   have ze3 := hR.frame.other (t := 3) (by kernel_rfl) rfl
   have zx0 := hG1.cell 0; have zx1 := hG1.cell 1
   simp at zx0 zx1
   rw [if_pos (by rfl)]
   go_simp
   exact hK (.agg #[.slice A n c, .slice A3 n3 c3]) _ (hI.next hR (by kernel_rfl) (Mod.refl _ _) (PB.quiet hI.1 (Mod.refl _ _) (HGs.out D 3 zw1 zw1 (hI.1).g (Mod.refl _ _))) (upd_same V 3 _))
  ·intro D V zw1 a hR hI K hK
   obtain ⟨hM1, hB1, hG1⟩ := hI.1
   have ze2 := hR.frame.other (t := 2) (by kernel_rfl) rfl
   rw [if_pos (by rfl)]
   go_simp
   exact hK (.slice A2 es.length k2) _ (hI.next hR (by kernel_rfl) (Mod.refl _ _) (PB.quiet hI.1 (Mod.refl _ _) (HGs.out D 4 zw1 zw1 (hI.1).g (Mod.refl _ _))) (upd_same V 4 _))
  ·intro D V zw1 a hR hI K hK
   obtain ⟨hM1, hB1, hG1⟩ := hI.1
   have zd3 := hR.pred 3 (by kernel_rfl)
   have zF3 : V 3 = .agg #[.slice A n c, .slice A3 n3 c3] := hI.2 3 zd3 rfl
   have zf3 := zF3; clear zF3
   have zd4 := hR.pred 4 (by kernel_rfl)
   have zF4 : V 4 = .slice A2 es.length k2 := hI.2 4 zd4 rfl
   have zf4 := zF4; clear zF4
   have ze15 := hR.frame.done (t := 15) (j := 3) (by kernel_rfl) hR.ok zd3
   have ze16 := hR.frame.done (t := 16) (j := 4) (by kernel_rfl) hR.ok zd4
   rw [if_pos (by rfl)]
   go_simp
   refine (HC2.out zw1 hM1).mono ?_
   rintro e zw2 ⟨rfl, hm2⟩
   exact hK (.int .i64 qb) _ (hI.next hR (by kernel_rfl) hm2 (PB.quiet hI.1 hm2 (HGs.out D 5 _ _ (hI.1).g hm2)) (upd_same V 5 _))
  ·intro D V zw1 a hR hI K hK
   obtain ⟨hM1, hB1, hG1⟩ := hI.1
   have zd2 := hR.pred 2 (by kernel_rfl)
   have zF2 : V 2 = .int .i64 qa := hI.2 2 zd2 rfl
   have zf2 := zF2; clear zF2
   have zd5 := hR.pred 5 (by kernel_rfl)
   have zF5 : V 5 = .int .i64 qb := hI.2 5 zd5 rfl
   have zf5 := zF5; clear zF5
   have ze14 := hR.frame.done (t := 14) (j := 2) (by kernel_rfl) hR.ok zd2
   have ze17 := hR.frame.done (t := 17) (j := 5) (by kernel_rfl) hR.ok zd5
   rw [if_pos (by rfl)]
   go_simp
   exact hK (_) _ (hI.next hR (by kernel_rfl) ((Mod.refl _ _).alloc _) (PB.quiet hI.1 (pure_alloc _ _) (HGs.out D 6 _ _ (hI.1).g ((Mod.refl _ _).alloc _))) (⟨_, upd_same V 6 _, (by omega), (Blk.new _ _ _)⟩))
  ·intro D V zw1 a hR hI K hK
   obtain ⟨hM1, hB1, hG1⟩ := hI.1
   have zd6 := hR.pred 6 (by kernel_rfl)
   have zF6 : ∃ (g_6 : Nat), V 6 = .slice (some ⟨g_6, 0, none⟩) 2 2 ∧ w1.heap.size ≤ g_6 ∧ Blk zw1 g_6 41 #[.int .i64 qa, .int .i64 qb] := hI.2 6 zd6 (by show (!D 7) = true; rw [hR.not]; rfl)
   obtain ⟨g_6, zf6, c6_0, b6_0⟩ := zF6
   have ze18 := hR.frame.done (t := 18) (j := 6) (by kernel_rfl) hR.ok zd6
   rw [if_pos (by rfl)]
   go_simp
   refine (HF1.out zw1 _ b6_0).mono ?_
   rintro e zw2 ⟨rfl, hm2⟩
   exact hK (.int .i64 qm) _ (hI.next hR (by kernel_rfl) hm2 (PB.quiet hI.1 hm2 (HGs.out D 7 _ _ (hI.1).g hm2)) (upd_same V 7 _))
  ·intro D V zw1 a hR hI K hK
   obtain ⟨hM1, hB1, hG1⟩ := hI.1
   have zd7 := hR.pred 7 (by kernel_rfl)
   have zF7 : V 7 = .int .i64 qm := hI.2 7 zd7 rfl
   have zf7 := zF7; clear zF7
   have ze19 := hR.frame.done (t := 19) (j := 7) (by kernel_rfl) hR.ok zd7
   rw [if_pos (by rfl)]
   go_simp
   exact hK (.int .i64 qm) _ (hI.next hR (by kernel_rfl) (Mod.refl _ _) (PB.quiet hI.1 (Mod.refl _ _) (HGs.out D 8 zw1 zw1 (hI.1).g (Mod.refl _ _))) (upd_same V 8 _))
 ·intro D V w2 hD hI
  obtain ⟨hM1, hB1, hG1⟩ := hI.1
  have hMx := hM1
  clear hM1
  have hBx := hB1
  clear hB1
  have hGx := hG1
  clear hG1
  have zF0 : V 0 = .agg #[.slice A n c, .slice A3 n3 c3] := hI.2 0 (hD 0 (by decide)) rfl
  have zf0 := zF0; clear zF0
  have zF1 : V 1 = .slice A1 ds.length k1 := hI.2 1 (hD 1 (by decide)) rfl
  have zf1 := zF1; clear zF1
  have zF2 : V 2 = .int .i64 qa := hI.2 2 (hD 2 (by decide)) rfl
  have zf2 := zF2; clear zF2
  have zF3 : V 3 = .agg #[.slice A n c, .slice A3 n3 c3] := hI.2 3 (hD 3 (by decide)) rfl
  have zf3 := zF3; clear zF3
  have zF4 : V 4 = .slice A2 es.length k2 := hI.2 4 (hD 4 (by decide)) rfl
  have zf4 := zF4; clear zF4
  have zF5 : V 5 = .int .i64 qb := hI.2 5 (hD 5 (by decide)) rfl
  have zf5 := zF5; clear zF5
  have zF7 : V 7 = .int .i64 qm := hI.2 7 (hD 7 (by decide)) rfl
  have zf7 := zF7; clear zF7
  have zF8 : V 8 = .int .i64 qm := hI.2 8 (hD 8 (by decide)) rfl
  have zf8 := zF8; clear zF8
  clear hI hD HGs
  simp only [frAll, Act.put, List.setIfInBounds_toArray, List.set_cons_zero, List.set_cons_succ, Nat.zero_add, Nat.reduceAdd, zf0, zf1, zf2, zf3, zf4, zf5, zf7, zf8]
  clear zf0 zf1 zf2 zf3 zf4 zf5 zf7 zf8
  generalize V 6 = u6
  clear V D
  have HM2 := Lib.hid hMx
  have HB2 := Lib.hid hGx
  clear hMx hGx hBx HC1 HC2 HF1 HB0 HM0
  by_cases hq : qm = 0
  ·subst hq
   have h0 : qa = 0 ∧ qb = 0 := by
    have := HQ.out
    by_cases h : qa = 0
    ·rw [if_neg (by simp [h])] at this; exact ⟨h, this.symm⟩
    ·rw [if_pos h] at this; exact absurd this.symm h
   have HOK := Lib.hid (And.intro (HOK1.out h0.1) (HOK2.out h0.2))
   clear HQ HOK1 HOK2 h0
   obtain ⟨i0, hi0, hz0, hz1, hz2⟩ := info_parts info_dec
   have hw2 := HM2.out.size
   have hgl2 := HB2.out.lt
   go_upto_region 4 with (fail)
   go_cut [9] (fun p wx => CatP w w2 wx gl #[.slice A n c, .slice A3 n3 c3] (ds ++ es) p)
   case first =>
    go_wp2_with fail
    refine (HP1.out _ HM2.out).mono ?_
    rintro e w3 ⟨A5, c5, ds1, rfl, hdc1, hm⟩
    have HM3 := Lib.hid (HM2.out.trans hm)
    have HP3 := Lib.hid hm
    have HB3 := Lib.hid (HB2.out.modp hm)
    have HD1 := Lib.hid hdc1
    clear hm hdc1
    go_wp2_with fail
    refine (HP2.out _ HM3.out).mono ?_
    rintro e w4 ⟨A6, c6, ds2, rfl, hdc2, hm⟩
    have HB4 := Lib.hid (HB3.out.modp hm)
    have HP4 := Lib.hid (HP3.out.trans hm)
    have hdc1 := (HD1.out.pure hm).base (b2 := w2.heap.size) (Nat.le_refl _)
    have hd2 := hdc2.base (b2 := w2.heap.size) HP3.out.size
    have hl1 := Nat.le_of_eq hdc1.2.2.len
    have hl2 := Nat.le_of_eq hdc2.2.2.len
    have hw4 := HP4.out.size
    have HD2 := Lib.hid hd2
    replace HD1 := Lib.hid hdc1
    rcases hd2.1.2 with ⟨hv, h0⟩ | ⟨g, cap, _, hv, _⟩
    ·obtain rfl : ds2 = [] := List.eq_nil_of_length_eq_zero h0
     cases hv
     have hown := hdc1.1
     clear h0 hd2 hdc1 hdc2 hm hl2 hl1
     go_wp2_with (at_builtin; (refine wpList_append_own_none rfl _ _ _ rfl w2.heap.size 40 i0 6 Tryz.underlying31 hi0 _ _ _ rfl hown rfl ?_))
     go_meet
     exact ⟨ds1, HD1.out.1, HD1.out.2.1, by simpa using HD1.out.2.2.app HD2.out.2.2, HP4.out, HB4.out⟩
    ·cases hv
     have hown := hdc1.1
     have HN := Lib.hid (own_newsK hd2.1)
     have HO := Lib.hid (decV_one ds2)
     have HBL := Lib.hid (decV_len ds2)
     have hds1 : ds1.length ≤ 2000 := by omega
     have hds2 : ds2.length ≤ 2000 := by omega
     clear hd2 hdc1 hdc2 hm
     go_wp2_with (at_builtin; refine wpList_append_own_at _ rfl _ _ _ rfl w2.heap.size 40 i0 _ 6 80 Tryz.underlying31 hi0 hz0 hz1 hz2 rfl (by omega) _ ds1.length _ rfl hown ⟨g, 0, none⟩ ds2.length _ (decV ds2) rfl HBL.out HN.out HO.out (by simp [maxLen]; omega) (by omega) (by omega) ?_; intro v5 w5 hown5 hgrow hn5 hat)
     have hT := mod_grown hgrow
     obtain ⟨t1, t2⟩ : (∀ i arr fr, w4.heap[i]? = some (.cells arr 105 fr) → ¬ (Value.slice A5 ds1.length c5).ownBlock = some i) ∧ (∀ i arr fr, w4.heap[i]? = some (.cells arr 9 fr) → ¬ (Value.slice A5 ds1.length c5).ownBlock = some i) := ⟨fun i arr fr hi hv => absurd (own_ty hown hv hi) (by decide), fun i arr fr hi hv => absurd (own_ty hown hv hi) (by decide)⟩
     have hbk := own_block hown
     have HFIN : Hid (CatP w w2 w5 gl #[.slice A n c, .slice A3 n3 c3] (ds ++ es) v5) := Lib.hid ⟨ds1 ++ ds2, by unfold OwD; rw [decV_app, List.length_append]; exact hown5, DecS.app (HD1.out.2.1.mod hT t1 t2) (HD2.out.2.1.mod hT t1 t2), HD1.out.2.2.app HD2.out.2.2, HP4.out.grown hgrow (fun j hj => .inr (hbk j hj)), HB4.out.mod hT (fun h => by have := hbk _ h; omega)⟩
     clear hT t1 t2 hbk hown5 hgrow hn5 hat HD1 HD2 HP4 HB4
     go_wp2_with fail
     go_meet
     exact HFIN.out
   case rest =>
    obtain ⟨xs, hown, hds, hlk, hpw, hbl⟩ := hcut
    obtain ⟨wx, hwx⟩ : ∃ W, W = wc := ⟨wc, rfl⟩
    subst hwx
    have HCS : Hid (xs.map DecR.cnt = (ds ++ es).map DecR.cnt) := Lib.hid hlk.cnts
    have HOKX : Hid (∀ x ∈ xs, okV L.asks x.vals) := Lib.hid (okV_cnts HCS.out (fun y hy => by
     rcases List.mem_append.1 hy with h | h
     ·exact HOK.out.1 y h
     ·exact HOK.out.2 y h))
    have HXZ : Hid (∀ x ∈ xs, DecB x) := Lib.hid (decB_like hlk (fun y hy => by
     rcases List.mem_append.1 hy with h | h
     ·exact HZ.out.1 y h
     ·exact HZ.out.2 y h))
    have HXL : Hid (xs.length ≤ 4000) := Lib.hid (by rw [hlk.len, List.length_append]; omega)
    have HB4 := Lib.hid hbl
    have HOWN := Lib.hid hown
    have HDS := Lib.hid hds
    have HP4 := Lib.hid hpw
    obtain ⟨w4, hw4⟩ : ∃ W, W = wx := ⟨wx, rfl⟩
    subst hw4
    clear hlk hbl hown hds hpw HOK HZ HP1 HP2
    have hs4 := HP4.out.size
    have B0 := Blk.new w4 130 #[.nilFunc]
    have q0 : (w4.alloc (.cells #[.nilFunc] 130)).cell? ⟨w4.heap.size, 0, none⟩ = some .nilFunc := B0.cell 0
    have q1 : (w4.alloc (.cells #[.nilFunc] 130)).frozen? ⟨w4.heap.size, 0, none⟩ = false := B0.frozen 0
    have hst : Sem.run Tryz.prog (store ⟨w4.heap.size, 0, none⟩ (.func (.func 80) #[] #[.pointer (some ⟨gl, 0, none⟩)])) (w4.alloc (.cells #[.nilFunc] 130)) = .ok () ((w4.alloc (.cells #[.nilFunc] 130)).setCell ⟨w4.heap.size, 0, none⟩ (.func (.func 80) #[] #[.pointer (some ⟨gl, 0, none⟩)])) := by
     refine (run_store _ _ _ _ _ rfl).trans ?_
     simp [stored, q0, q1]
    go_upto_region 6 with (fail)
    have HB5 := Lib.hid (HB4.out.alloc (.cells #[.func (.func 80) #[] #[.pointer (some ⟨gl, 0, none⟩)]] 130))
    have HG5 := Lib.hid (Blk.new w4 130 #[.func (.func 80) #[] #[.pointer (some ⟨gl, 0, none⟩)]])
    have HA5 := Lib.hid (pure_alloc w4 (.cells #[.func (.func 80) #[] #[.pointer (some ⟨gl, 0, none⟩)]] 130))
    generalize hw5 : (w4.alloc (.cells #[.func (.func 80) #[] #[.pointer (some ⟨gl, 0, none⟩)]] 130)) = w5 at *
    generalize hg10 : w4.heap.size = g10 at *
    clear hst q0 q1 B0 hw5 hg10
    have hown5 := HOWN.out.pure HA5.out
    have hds5 := HDS.out.pure HA5.out
    have HP5 := Lib.hid (HP4.out.trans HA5.out)
    have hbk := own_block hown5
    have HLW : Hid (∀ W, Mod (fun k => u9.ownBlock = some k) w5 W → LayV W L (.agg #[.slice A n c, .slice A3 n3 c3])) := Lib.hid (fun W h => HLV.out W ((HM2.out.trans HP5.out).trans' h (fun i hi hlt => by have := hbk i hi; omega)))
    have HEL : Hid (∀ W, Mod (fun k => u9.ownBlock = some k) w5 W → ∀ x ∈ xs, DecEl W x) := Lib.hid (fun W h x hx => (hds5.mod h (fun i arr fr hi hv => absurd (own_ty hown5 hv hi) (by decide)) (fun i arr fr hi hv => absurd (own_ty hown5 hv hi) (by decide))) x hx)
    have HBW : Hid (∀ W, Mod (fun k => u9.ownBlock = some k) w5 W → Blk W gl 29 #[.slice A n c, .slice A3 n3 c3] ∧ Blk W g10 130 #[.func (.func 80) #[] #[.pointer (some ⟨gl, 0, none⟩)]]) := Lib.hid (fun W h => ⟨HB5.out.mod h (fun hv => by have := hbk _ hv; omega), HG5.out.mod h (fun hv => by
     obtain ⟨arr, ha⟩ := own_heap hown5 hv
     have := HG5.out
     unfold Blk at this
     rw [ha] at this
     injection this with this
     injection this with _ this
     exact absurd this (by decide))⟩)
    have HO : Hid (SWO (ltOf fun x y : {d // d ∈ xs} => cmpM L.asks x.1 y.1)) := Lib.hid (swo_of ((cmpM_G L.asks).on (fun x : {d // d ∈ xs} => (⟨x.1, HOKX.out x.1 x.2⟩ : {d : DecR // okV L.asks d.vals}))))
    have HSORT := Lib.hid (sortDec_calls w5 w2.heap.size xs.length u9 (.pointer (some ⟨gl, 0, none⟩)) (cmpM L.asks) xs 80 hown5 (by have := HXL.out; omega) HO.out (fun _ _ => rfl)
     (fun x y W hx hy h => mrg1_calls W gl L A A3 n c n3 c3 x y (HBW.out W h).1 (HLW.out W h) hLB (HEL.out W h x hx) (HEL.out W h y hy) (HXZ.out x hx) (HXZ.out y hy) (fun z hz => (HOKX.out x hx z hz).1)))
    clear HO hown5 hds5 hbk
    have hq10 := HG5.out.cell 0
    simp at hq10
    go_wp2_with fail
    refine HSORT.out.mono ?_
    rintro e w6 ⟨ys, hpm, hso, rfl, hown6, hm6⟩
    have HPM := Lib.hid hpm
    have hly := hpm.length_eq
    have hown6' : OwD w6 w2.heap.size u9 ys := by unfold OwD; rw [hly]; exact hown6
    have HM6 := Lib.hid hm6
    have HCMP := Lib.hid (compactOwn_calls w6 w2.heap.size u9 ys 87 (.pointer (some ⟨g10, 0, none⟩)) (fun x y => decide (cmpM L.asks x y = 0)) (by have := HXL.out; omega) hown6' (fun _ _ _ => rfl)
     (fun x y W hx hy h => mrg2_calls W g10 gl L A A3 n c n3 c3 x y (HBW.out W (hm6.trans h)).2.cell0 (HBW.out W (hm6.trans h)).1 (HLW.out W (hm6.trans h)) hLB (HEL.out W (hm6.trans h) x (hpm.mem_iff.1 hx)) (HEL.out W (hm6.trans h) y (hpm.mem_iff.1 hy)) (HXZ.out x (hpm.mem_iff.1 hx)) (HXZ.out y (hpm.mem_iff.1 hy)) (fun z hz => (HOKX.out x (hpm.mem_iff.1 hx) z hz).1)))
    have HMG := Lib.hid (mgc_prog HOKX.out hpm hso)
    have HLC : Hid ((compF (fun x y => decide (cmpM L.asks x y = 0)) ys).length ≤ 4000) := Lib.hid (by have h1 := compF_len (fun x y => decide (cmpM L.asks x y = 0)) ys; have h2 := HXL.out; omega)
    have HDZ := Lib.hid (fun W (h : Mod (fun k => u9.ownBlock = some k) w5 W) (x : DecR) (hx : x ∈ compF (fun x y => decide (cmpM L.asks x y = 0)) ys) => HEL.out W h x (hpm.mem_iff.1 (compF_mem hx)))
    have HPW : Hid (∀ W, Mod (fun k => u9.ownBlock = some k) w5 W → Pure w W) := Lib.hid (fun W h => (HM2.out.trans HP5.out).trans' h (fun i hi hlt => by have := own_block hown6 i hi; omega))
    clear hpm hso hown6 hown6' hm6 hly HSORT HPM HBW HEL HLW HXZ
    generalize hzs : compF (fun x y => decide (cmpM L.asks x y = 0)) ys = zs at *
    clear hzs
    go_wp2_with fail
    refine HCMP.out.mono ?_
    rintro e w7 ⟨A7, c7, rfl, hown7, hm7⟩
    have HM7 := Lib.hid (HM6.out.trans hm7)
    have hlz := HLC.out
    have HN0 : Hid (NumR w7 w2.heap.size (.slice A7 zs.length c7) zs.length 0 (zs.map DecR.cnt) zs) := Lib.hid ⟨hown7, rfl, HDZ.out w7 HM7.out, rfl, fun i h hi => absurd hi (by omega)⟩
    have HP7 := Lib.hid (HPW.out w7 HM7.out)
    have HMC : Hid (MgC L.asks ((ds ++ es).map DecR.cnt) (zs.map DecR.cnt)) := Lib.hid (by rw [← HCS.out]; exact HMG.out)
    clear hown7 hm7 HCMP HM6 HM7 HDZ HPW HLC HMG HCS
    generalize zs.map DecR.cnt = CC at *
    generalize hm9 : zs.length = m at *
    clear hm9
    have hm5 : ¬ (5000 : Int) < (m : Int) := by omega
    go_wp2_with fail
    go_loopg [40] m (fun gk i wr => MgRel w w2.heap.size (.slice A7 m c7) m CC gk i wr)
    case atStart => exact ⟨0, zs, by omega, by omega, rfl, HN0.out, HP7.out⟩
    case round =>
     clear HN0 HP7 hm5
     obtain ⟨k, us, rfl, hk, rfl, hN, hm⟩ := hrel
     by_cases hlt : k < m
     ·obtain ⟨g7, cap7, he, hge, _⟩ := hN.1.form (by omega)
      cases he
      obtain ⟨us2, hN2⟩ := hN.step hlt
      obtain ⟨⟨z0, hz0⟩, hf0⟩ := hN.cellNo hlt
      have HN2 := Lib.hid hN2
      have HP8 := Lib.hid (hm.setCell (p := ⟨g7, k * 6, none⟩) (.inr (by show w.heap.size ≤ g7; omega)) (.int .i64 ((k : Int) + 1)))
      clear hN hN2 hm
      have k4 : (0 : Int) ≤ (k : Int) := by omega
      have k5 : (k : Int) < (m : Int) := by omega
      go_wp2_with fail
      go_roundg (m - (k + 1))
      case measure => omega
      case rel => exact ⟨k + 1, us2, rfl, by omega, by simp, HN2.out, HP8.out⟩
     ·obtain rfl : m = k := by omega
      clear hlt hk
      go_wp2_with fail
      refine bodyPost_ret (v := .tuple #[.slice A7 m c7, .int .i64 0]) (by simp [results, Tryz.results32, go_sem]) rfl ?_
      obtain ⟨n1, n2, n3, n4, n5⟩ := hN
      exact ⟨_, _, _, us, rfl, fun h => absurd rfl h, fun _ => ⟨⟨Sl.of_own n1, n3⟩, by rw [n4]; exact HMC.out, by rw [n2]; exact n5⟩, hm⟩
  ·have hq' : (qm != 0) = true := by simpa using hq
   go_wp2_with fail
   refine bodyPost_ret (v := .tuple #[.slice none 0 0, .int .i64 qm]) (by simp [results, Tryz.results32, go_sem]) rfl ?_
   exact MgPost.err rfl hq HM2.out

end Go.Proofs.YtkkndblcejmmjaaGreatDoor

/- DecisionsOf of the reference. -/
namespace Go.Proofs.YtkkndblcejmmjaaGreatDoor
set_option linter.unusedVariables false
set_option linter.unusedSimpArgs false
open Go.RowKit Go.Sort Go.Shelf

theorem decEq_cnt (x y : DecR) (h : x.no = y.no) : decEq x y = decide (x.cnt = y.cnt) := by
 rw [Bool.eq_iff_iff, decEq_iff, decide_eq_true_eq]
 unfold DecR.like DecR.cnt likes
 simp only [Prod.mk.injEq]
 constructor
 ·rintro ⟨_, a, b, c, d, e⟩; exact ⟨a, c, b, d, e⟩
 ·rintro ⟨a, c, b, d, e⟩; exact ⟨h, a, b, c, d, e⟩
/-- Each once, without a number. -/
def zD (xs : List DecR) : List DecR := (dups xs).map fun d => d.numb 0
theorem zD_snoc (xs : List DecR) (x : DecR) : zD (xs ++ [x]) = if (zD xs).any (fun y => decEq y (x.numb 0)) then zD xs else zD xs ++ [x.numb 0] := by
 unfold zD
 rw [dups_snoc, List.any_map]
 have e : ((fun y : DecR => decEq y (x.numb 0)) ∘ fun d : DecR => d.numb 0) = fun y : DecR => decide (y.cnt = x.cnt) := by
  funext y
  exact decEq_cnt (y.numb 0) (x.numb 0) rfl
 rw [e]
 unfold dupF
 split
 ·rfl
 ·simp
theorem zD_mem {xs : List DecR} {y : DecR} (h : y ∈ zD xs) : ∃ x ∈ xs, y = x.numb 0 := by
 obtain ⟨x, hx, rfl⟩ := List.mem_map.1 h
 exact ⟨x, (dups_spec xs).2.2 x hx, rfl⟩
theorem zD_cnt (xs : List DecR) : (zD xs).map DecR.cnt = (dups xs).map DecR.cnt := by
 unfold zD
 rw [List.map_map]
 rfl
theorem mgc_zD {al : List AskR} {xs rs : List DecR} (hok : ∀ x ∈ xs, okV al x.vals) (hr : rs.Perm (zD xs)) (hq : SortedM al rs) : MgC al (xs.map DecR.cnt) (rs.map DecR.cnt) := by
 obtain ⟨d1, d2, d3⟩ := dups_spec xs
 have hp := hr.map DecR.cnt
 rw [zD_cnt] at hp
 have hok2 : ∀ x ∈ rs, okV al x.vals := fun x hx => by
  obtain ⟨y, hy, e⟩ := zD_mem (hr.mem_iff.1 hx)
  subst e
  exact hok y hy
 exact ⟨dups_rise (al := al) (xs := rs) hok2 hq (hp.nodup_iff.2 d1), fun c => by rw [hp.mem_iff, d2]⟩
def DoRel (w : World) (base gl : Nat) (lay : Array Value) (xs : List DecR) (gk : Nat) (o i : Value) (wr : World) : Prop :=
 ∃ (k cap : Nat) (Ao : Option Addr), xs.length - k = gk ∧ k ≤ xs.length ∧ o = .slice Ao (zD (xs.take k)).length cap ∧ i = .int .i64 (k : Int) ∧ DcG wr base Ao cap (zD (xs.take k)) ∧ (zD (xs.take k)).length ≤ k ∧ Blk wr gl 29 lay ∧ Pure w wr ∧ base ≤ wr.heap.size

set_option maxRecDepth 100000 in
set_option maxHeartbeats 8000000 in
theorem decisionsOf_calls (w : World) (vl : Value) (L : LayR) (A1 A2 : Option Addr) (k1 k2 : Nat) (ds es : List DecR) (hL : LayV w L vl) (hLB : LayB L) (hD : Decs w (.slice A1 ds.length k1) ds) (hE : Decs w (.slice A2 es.length k2) es)
  (hN1 : NilD (.slice A1 ds.length k1)) (hN2 : NilD (.slice A2 es.length k2)) (hz1 : ∀ d ∈ ds, DecB d) (hz2 : ∀ d ∈ es, DecB d) (hn1 : ds.length ≤ 2000) (hn2 : es.length ≤ 2000) (h1 : decsE L ds = 0) (h2 : decsE L es = 0) :
  Calls Tryz.prog 34 #[vl, .slice A1 ds.length k1, .slice A2 es.length k2] w (MgPost w L.asks 0 ((ds ++ es).map DecR.cnt)) := by
 have HCC := Lib.hid (fun W g (h : Pure w W) (hB : Blk W g 31 #[.slice A1 ds.length k1, .slice A2 es.length k2]) => concatDec_calls W (.slice (some ⟨g, 0, none⟩) 2 2) [ds, es]
  ⟨[.slice A1 ds.length k1, .slice A2 es.length k2], ⟨_, 2, 2, rfl, by omega, by omega, rfl, fun _ => ⟨g, 0, rfl, Blk.row0 hB⟩⟩, rfl, fun i hi => by
   match i, hi with
   | 0, _ => exact ⟨_, rfl, hD.1.pure h, hN1⟩
   | 1, _ => exact ⟨_, rfl, hE.1.pure h, hN2⟩⟩ (by simp [lensD]; omega))
 have hfl : [ds, es].flatten = ds ++ es := by simp
 rw [hfl] at HCC
 have HOKX : Hid (∀ x ∈ ds ++ es, okV L.asks x.vals) := Lib.hid (fun y hy => by
  rcases List.mem_append.1 hy with h | h
  ·exact okV_right h1 y h
  ·exact okV_right h2 y h)
 have HXZ : Hid (∀ x ∈ ds ++ es, DecB x) := Lib.hid (fun y hy => by
  rcases List.mem_append.1 hy with h | h
  ·exact hz1 y h
  ·exact hz2 y h)
 have HSX : Hid (∀ W, Pure w W → DecS W (ds ++ es)) := Lib.hid (fun W h => DecS.app (hD.2.pure h) (hE.2.pure h))
 have HXL : Hid ((ds ++ es).length ≤ 4000) := Lib.hid (by rw [List.length_append]; omega)
 have HLV := Lib.hid (fun W (h : Pure w W) => hL.pure h)
 obtain ⟨A, n, c, A3, n3, c3, rfl, _, _⟩ := hL
 have HB0 := Lib.hid (Blk.new w 29 #[.slice A n c, .slice A3 n3 c3])
 have HM0 := Lib.hid (pure_alloc w (.cells #[.slice A n c, .slice A3 n3 c3] 29))
 clear hD hE hz1 hz2 hN1 hN2 h1 h2 hfl
 generalize hxs : ds ++ es = xs at *
 clear hxs
 obtain ⟨i0, hi0, hz0, hz1, hz2⟩ := info_parts info_dec
 go_enter Tryz.func34, Tryz.ntmps34
 go_upto_region 1 with (fail)
 generalize (w.alloc (.cells #[.slice A n c, .slice A3 n3 c3] 29)) = w1 at *
 generalize hgl : w.heap.size = gl at *
 have hgl2 := Nat.le_of_eq hgl
 clear hgl
 have HM1 := Lib.hid (HM0.out.trans (pure_alloc w1 (.cells #[.slice A1 ds.length k1, .slice A2 es.length k2] 31)))
 have HB1 := Lib.hid (HB0.out.alloc (.cells #[.slice A1 ds.length k1, .slice A2 es.length k2] 31))
 have HK1 := Lib.hid (Blk.new w1 31 #[.slice A1 ds.length k1, .slice A2 es.length k2])
 go_wp2_with fail
 refine (HCC.out _ _ HM1.out HK1.out).mono ?_
 rintro e w2 ⟨vx, rfl, hox, hm⟩
 have HM2 := Lib.hid (HM1.out.trans hm)
 have HB2 := Lib.hid (HB1.out.modp hm)
 obtain ⟨Ax, cx, rfl⟩ := own_formD hox
 have HDX : Hid (Decs w2 (.slice Ax xs.length cx) xs) := Lib.hid ⟨Sl.of_own hox, HSX.out _ HM2.out⟩
 clear hox hm HCC HK1 HB1 HM1 HB0 HM0 HSX
 have hwb := HM2.out.size
 have hglb := HB2.out.lt
 go_wp2_with fail
 go_loopg [8, 17] xs.length (fun gk o i wr => DoRel w2 w2.heap.size gl #[.slice A n c, .slice A3 n3 c3] xs gk o i wr)
 case atStart => exact ⟨0, 0, none, by omega, by omega, rfl, rfl, ⟨World.ownsRow_nil _ _ _ _, fun x h => absurd h (by simp [zD, dups])⟩, by simp [zD, dups], HB2.out, Mod.refl _ _, Nat.le_refl _⟩
 case round =>
  clear HB2
  obtain ⟨k, cap, Ao, rfl, hk, rfl, rfl, hdc, hlk, hbl, hm, hbs⟩ := hrel
  have HXK := HXL.out
  have HOW := Lib.hid hdc
  have HB3 := Lib.hid hbl
  have HP3 := Lib.hid hm
  clear hdc hbl hm
  by_cases hlt : k < xs.length
  ·obtain ⟨g, off, rfl, q0, q1, q2, q3, q4, q5⟩ := (HDX.out.pure HP3.out).cells hlt
   have HEL := Lib.hid (fun W (h : Pure wr W) => (HDX.out.pure (HP3.out.trans h)).el hlt)
   have HTK := Lib.hid (zD_snoc (xs.take k) xs[k])
   have HTS := Lib.hid (List.take_succ_eq_append_getElem hlt)
   have HZM := Lib.hid (fun W (h : Pure wr W) (y : DecR) (hy : y ∈ zD (xs.take k)) => (HOW.out.pure h).2 y hy)
   generalize xs[k] = x at *
   generalize zD (xs.take k) = zs at *
   go_upto_region 5 with (fail)
   have HX3 := Lib.hid (Blk.new wr 40 #[.int .i64 x.no, .int .i64 x.at_, .string ⟨x.rev.toArray⟩, .string ⟨x.item.toArray⟩, .bool x.sec, .slice x.A x.vals.length x.c])
   have HPA := Lib.hid (pure_alloc wr (.cells #[.int .i64 x.no, .int .i64 x.at_, .string ⟨x.rev.toArray⟩, .string ⟨x.item.toArray⟩, .bool x.sec, .slice x.A x.vals.length x.c] 40))
   generalize (wr.alloc (.cells #[.int .i64 x.no, .int .i64 x.at_, .string ⟨x.rev.toArray⟩, .string ⟨x.item.toArray⟩, .bool x.sec, .slice x.A x.vals.length x.c] 40)) = w3 at *
   generalize hg3 : wr.heap.size = g3 at *
   have hgl3 := Nat.le_of_eq hg3
   have hX := HX3.out
   have hx0 := hX.cell 0
   have hf0 := hX.frozen 0
   simp at hx0
   clear hX hg3 q0 q1 q2 q3 q4 q5
   go_upto_region 6 with (fail)
   have HX4 : Hid (Blk (w3.setCell ⟨g3, 0, none⟩ (.int .i64 0)) g3 40 (decC (x.numb 0)).toArray) := Lib.hid (by simpa [decC, DecR.numb] using HX3.out.set 0 (.int .i64 0))
   have HP4 : Hid (Pure wr (w3.setCell ⟨g3, 0, none⟩ (.int .i64 0))) := Lib.hid (HPA.out.setCell (.inr (by show wr.heap.size ≤ g3; omega)) _)
   generalize (w3.setCell ⟨g3, 0, none⟩ (.int .i64 0)) = w4 at *
   clear hx0 hf0 HX3 HPA
   have HCT := Lib.hid (containsDc_calls w4 (.slice Ao zs.length cap) zs 90 (.pointer (some ⟨g3, 0, none⟩)) (fun y => decEq y (x.numb 0)) (Sl.of_own ((HOW.out.pure HP4.out).1)) (fun _ _ => rfl)
    (fun y W hy h => dof1_calls W g3 y (x.numb 0) (HX4.out.modp h) (HZM.out W (HP4.out.trans h) y hy) (HEL.out W (HP4.out.trans h))))
   go_wp2_with fail
   refine HCT.out.mono ?_
   rintro e w6 ⟨rfl, hm⟩
   have HP5 := Lib.hid (HP4.out.trans hm)
   have HX5 := Lib.hid (HX4.out.modp hm)
   have HO5 := Lib.hid (HOW.out.pure HP5.out)
   have HB5 := Lib.hid (HB3.out.modp HP5.out)
   have HM5 := Lib.hid (HP3.out.trans HP5.out)
   have hs5 := HP5.out.size
   have hgs5 := HX5.out.lt
   have HE5 := Lib.hid (HEL.out _ HP5.out)
   clear hm HCT HP4 HX4 HOW HB3 HP3 HZM HEL HP5
   cases hc : zs.any (fun y => decEq y (x.numb 0))
   ·have HN : Hid (zD (xs.take (k + 1)) = zs ++ [x.numb 0]) := Lib.hid (by rw [HTS.out, HTK.out, hc]; rfl)
    clear hc HTK HTS
    have hX := HX5.out
    simp only [decC, DecR.numb] at hX
    have d0 := hX.cell 0; have d1 := hX.cell 1; have d2 := hX.cell 2; have d3 := hX.cell 3; have d4 := hX.cell 4; have d5 := hX.cell 5; simp at d0 d1 d2 d3 d4 d5
    clear hX
    have hownO := HO5.out.1
    have hmO := HM5.out
    go_wp2_with ((at_builtin; refine wpList_append_lies _ rfl _ _ _ rfl w2.heap.size 40 i0 _ 6 80 Tryz.underlying31 hi0 hz0 hz1 hz2 rfl (by omega) (.slice Ao zs.length cap) zs.length (decV zs) rfl (hownO.alloc _) ⟨w6.heap.size, 0, none⟩ 1 1 [.int .i64 0, .int .i64 x.at_, .string ⟨x.rev.toArray⟩, .string ⟨x.item.toArray⟩, .bool x.sec, .slice x.A x.vals.length x.c] rfl rfl (World.news_of_block (cs := #[.int .i64 0, .int .i64 x.at_, .string ⟨x.rev.toArray⟩, .string ⟨x.item.toArray⟩, .bool x.sec, .slice x.A x.vals.length x.c]) (t := 40) (fr := (0, 0)) (heap_alloc_new w6 _)) (by simp [Value.oneCell']) (by omega) (by simp [maxLen]; omega) (by omega) (by have := hmO.size; simp; omega) (w6.heap.size + 1) (by simp) ?_; intro g5 cap5 w5 hown5 hgrow hat hlt5))
    have hob := own_block hownO
    have mG := mod_grown hgrow
    have hz5 := mG.size
    simp only [World.size_alloc] at hz5
    have hpa := pure_alloc w6 (.cells #[.int .i64 0, .int .i64 x.at_, .string ⟨x.rev.toArray⟩, .string ⟨x.item.toArray⟩, .bool x.sec, .slice x.A x.vals.length x.c] 40)
    have hdc := (HO5.out.pure hpa).app (x := x.numb 0) (HE5.out.pure hpa) mG rfl (by simpa [decC, DecR.numb] using hown5)
    go_roundg (xs.length - (k + 1))
    case measure => omega
    case rel =>
     refine ⟨k + 1, cap5, some ⟨g5, 0, none⟩, rfl, by omega, by rw [HN.out]; simp, by simp, by rw [HN.out]; exact hdc, by rw [HN.out]; simp; omega, (HB5.out.alloc _).mod mG (fun h => by have := hob _ h; omega), (HM5.out.alloc _).grown hgrow (fun i hi => .inr (hob i hi)), by omega⟩
   ·have HN : Hid (zD (xs.take (k + 1)) = zs) := Lib.hid (by rw [HTS.out, HTK.out, hc]; rfl)
    clear hc HTK HTS
    go_wp2_with fail
    go_roundg (xs.length - (k + 1))
    case measure => omega
    case rel => exact ⟨k + 1, cap, Ao, rfl, by omega, by rw [HN.out], by simp, by rw [HN.out]; exact HO5.out, by rw [HN.out]; omega, HB5.out, HM5.out, by omega⟩
  ·obtain rfl : k = xs.length := by omega
   have e : xs.take xs.length = xs := List.take_length
   rw [e] at hlk HOW ⊢
   have HZK : Hid (∀ y ∈ zD xs, okV L.asks y.vals) := Lib.hid (fun y hy => by obtain ⟨x, hx, rfl⟩ := zD_mem hy; exact HOKX.out x hx)
   have HZZ : Hid (∀ y ∈ zD xs, DecB y) := Lib.hid (fun y hy => by
    obtain ⟨x, hx, rfl⟩ := zD_mem hy
    obtain ⟨_, _, b3, b4, b5, b6, b7⟩ := HXZ.out x hx
    exact ⟨by simp [DecR.numb], by simp [DecR.numb], b3, b4, b5, b6, b7⟩)
   have HMG := Lib.hid (fun rs => mgc_zD (al := L.asks) (xs := xs) (rs := rs) HOKX.out)
   clear e hlt hk HDX HXZ HOKX
   generalize zD xs = zs at *
   have hbk := own_block HOW.out.1
   have hnl := HB3.out.lt
   have hownZ := HOW.out.1
   have HLW : Hid (∀ W, Mod (fun k => (Value.slice Ao zs.length cap).ownBlock = some k) wr W → LayV W L (.agg #[.slice A n c, .slice A3 n3 c3]) ∧ Blk W gl 29 #[.slice A n c, .slice A3 n3 c3]) := Lib.hid (fun W h => ⟨HLV.out W ((HM2.out.trans HP3.out).trans' h (fun i hi hlt => by have := hbk i hi; omega)), HB3.out.mod h (fun hv => by have := hbk _ hv; omega)⟩)
   have HEW : Hid (∀ W, Mod (fun k => (Value.slice Ao zs.length cap).ownBlock = some k) wr W → DecS W zs) := Lib.hid (fun W h => HOW.out.2.mod h (fun i arr fr hi hv => absurd (own_ty hownZ hv hi) (by decide)) (fun i arr fr hi hv => absurd (own_ty hownZ hv hi) (by decide)))
   have HO : Hid (SWO (ltOf fun x y : {d // d ∈ zs} => cmpMR L.asks x.1 y.1)) := Lib.hid (swo_of (((cmpM_G L.asks).on (fun x : {d // d ∈ zs} => (⟨x.1, HZK.out x.1 x.2⟩ : {d : DecR // okV L.asks d.vals}))).congr (fun x y => cmpMR_sg L.asks x.1 y.1 (HZK.out x.1 x.2))))
   have HSORT := Lib.hid (sortDec_calls wr w2.heap.size zs.length (.slice Ao zs.length cap) (.pointer (some ⟨gl, 0, none⟩)) (cmpMR L.asks) zs 91 hownZ (by omega) HO.out (fun _ _ => rfl)
    (fun x y W hx hy h => mrg2R_calls W gl L A A3 n c n3 c3 x y (HLW.out W h).2 (HLW.out W h).1 hLB (HEW.out W h x hx) (HEW.out W h y hy) (HZZ.out x hx) (HZZ.out y hy) (fun z hz => (HZK.out x hx z hz).1) (fun z hz => (HZK.out y hy z hz).1)))
   have HPW : Hid (∀ W, Mod (fun k => (Value.slice Ao zs.length cap).ownBlock = some k) wr W → Pure w W) := Lib.hid (fun W h => (HM2.out.trans HP3.out).trans' h (fun i hi hlt => by have := hbk i hi; omega))
   clear HO hownZ hbk HLW HZZ
   generalize hm9 : zs.length = m at *
   have HZM := Lib.hid hm9
   clear hm9
   have hm5 : ¬ (5000 : Int) < (m : Int) := by omega
   go_wp2_with fail
   refine HSORT.out.mono ?_
   rintro e w7 ⟨ys, hpm, hso, rfl, hown7, hm7⟩
   have HN0 : Hid (NumR w7 w2.heap.size (.slice Ao m cap) m 0 (ys.map DecR.cnt) ys) := Lib.hid ⟨hown7, by rw [hpm.length_eq]; exact HZM.out, fun x hx => HEW.out w7 hm7 x (hpm.mem_iff.1 hx), rfl, fun i h hi => absurd hi (by omega)⟩
   have HP7 := Lib.hid (HPW.out w7 hm7)
   have HMC : Hid (MgC L.asks (xs.map DecR.cnt) (ys.map DecR.cnt)) := Lib.hid (HMG.out ys hpm (hso.imp_of_mem (fun {x y} hx hy h => by
    have h1 := cmpMR_sg L.asks y x (HZK.out y (hpm.mem_iff.1 hy))
    intro h2
    apply h
    have h3 := (sgI_neg _).2 h2
    rw [← h1] at h3
    exact (sgI_neg _).1 h3)))
   clear hown7 hm7 HPW HEW HZK hpm hso HMG HSORT HZM
   generalize ys.map DecR.cnt = CC at *
   go_wp2_with fail
   go_loopg [39] m (fun gk i wr => MgRel w w2.heap.size (.slice Ao m cap) m CC gk i wr)
   case atStart => exact ⟨0, ys, by omega, by omega, rfl, HN0.out, HP7.out⟩
   case round =>
    clear HN0 HP7 hm5
    obtain ⟨k, us, rfl, hk, rfl, hN, hm⟩ := hrel
    by_cases hlt : k < m
    ·obtain ⟨g7, cap7, he, hge, _⟩ := hN.1.form (by omega)
     cases he
     obtain ⟨us2, hN2⟩ := hN.step hlt
     obtain ⟨⟨z0, hz0⟩, hf0⟩ := hN.cellNo hlt
     have HN2 := Lib.hid hN2
     have HP8 := Lib.hid (hm.setCell (p := ⟨g7, k * 6, none⟩) (.inr (by show w.heap.size ≤ g7; omega)) (.int .i64 ((k : Int) + 1)))
     clear hN hN2 hm
     have k4 : (0 : Int) ≤ (k : Int) := by omega
     have k5 : (k : Int) < (m : Int) := by omega
     go_wp2_with fail
     go_roundg (m - (k + 1))
     case measure => omega
     case rel => exact ⟨k + 1, us2, rfl, by omega, by simp, HN2.out, HP8.out⟩
    ·obtain rfl : m = k := by omega
     clear hlt hk
     go_wp2_with fail
     refine bodyPost_ret (v := .tuple #[.slice Ao m cap, .int .i64 0]) (by simp [results, Tryz.results34, go_sem]) rfl ?_
     obtain ⟨n1, n2, n3, n4, n5⟩ := hN
     exact ⟨_, _, _, us, rfl, fun h => absurd rfl h, fun _ => ⟨⟨Sl.of_own n1, n3⟩, by rw [n4]; exact HMC.out, by rw [n2]; exact n5⟩, hm⟩

end Go.Proofs.YtkkndblcejmmjaaGreatDoor
