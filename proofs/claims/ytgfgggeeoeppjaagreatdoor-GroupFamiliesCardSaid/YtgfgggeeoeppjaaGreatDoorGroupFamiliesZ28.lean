/- Texts of the proof of GroupFamilies, put together: WayA, WayB, InsZ. -/
import Derived.Test.YtgfgggeeoeppjaaGreatDoorGroupFamiliesZ20
import Derived.Test.YtgfgggeeoeppjaaGreatDoorGroupFamiliesZ22
import Derived.Test.YtgfgggeeoeppjaaGreatDoorGroupFamiliesZ27
set_option linter.unusedVariables false
set_option linter.unusedSimpArgs false
set_option maxRecDepth 100000
/- The way to an item: the first closure of FamiliesOf. -/
namespace Go.Proofs.YtgfgggeeoeppjaaGreatDoor
open Go.RowKit
def WayS (l : List Itm) (i : Nat) : List Str := (wayI l i).map (idAt2 l)
def WyRel (w : World) (l : List Itm) (i : Nat) (js : List Nat) (gk : Nat) (x k : Value) (wr : World) : Prop :=
 ∃ (m : Nat) (out : List Str) (g c : Nat), js.length - m = gk ∧ m ≤ js.length ∧ x = .slice (some ⟨g, 0, none⟩) out.length c ∧ k = .int .i64 (m : Int) ∧ out = ((js.take m).reverse ++ [i]).map (idAt2 l) ∧
  wr.ownsRow w.heap.size 9 1 (.slice (some ⟨g, 0, none⟩) out.length c) out.length (strsV out) ∧ Pure w wr
theorem WyRel.len {js : List Nat} {m : Nat} {l : List Itm} {i : Nat} {out : List Str} (h : out = ((js.take m).reverse ++ [i]).map (idAt2 l)) (hm : m ≤ js.length) : out.length = m + 1 := by
 subst h;simp
 omega
set_option maxHeartbeats 8000000 in
theorem way_calls (w : World) (gc : Nat) (v : Value) (l : List Itm) (hR : Right l) (i : Nat) (hi : i < l.length) (hv : Its w v l) (hb : w.cell? ⟨gc, 0, none⟩ = some v) :
  Calls Tryz.prog 110 #[.int .i64 (i : Int), .pointer (some ⟨gc, 0, none⟩)] w (BelPost w (WayS l i)) := by
 obtain ⟨i0, hi0, hz0, hz1, hz2⟩ := info_parts info_str7;have HAB := Lib.hid (rabove_calls w v l l[i] i (List.getElem?_eq_getElem hi) hv (by have := hR.len; omega));have HLEN := hR.len;obtain ⟨js, hjs⟩ : ∃ js, js = chn l (l.length + 1) i := ⟨_, rfl⟩;have HJS : Hid (js.reverse ++ [i] = wayI l i) := Lib.hid (by rw [hjs, chn_noloop l hR.loop i hi]; rfl)
 have hjl : js.length ≤ l.length + 1 := by rw [hjs]; exact chn_len l _ _
 have HJB : Hid (∀ k ∈ js, k < l.length) := Lib.hid (fun k hk => by rw [hjs] at hk; obtain ⟨j, _, hj⟩ := (mem_chn _ _ _ _).1 hk; exact stp_lt l hj);unfold RAbPost at HAB;rw [← hjs] at HAB;obtain ⟨A, n, c, rfl, hc1, hc2, hl2, hr⟩ := hv
 have hln : l.length = n := by rw [itV_len] at hl2; omega
 subst hln;obtain ⟨g, off, rfl, hrow⟩ := hr (by omega);have HROW := Lib.hid hrow;have HB := Lib.hid hb
 have i1 : (0 : Int) ≤ (i : Int) := by omega
 have i2 : (i : Int) < (l.length : Int) := by omega
 clear hl2 hr hrow hjs
 go_enter Tryz.func110, Tryz.ntmps110
 go_wp2_with fail
 refine HAB.out.mono ?_;rintro e w1 ⟨Aj, capj, bl, rfl, hownj, m1⟩;have hb1 := m1.keep HB.out id;have q0 := (item_cells (HROW.out.mod m1 id) hi).1;have HSJ := Lib.hid (Sl.of_own hownj);have HM1 := Lib.hid m1;have O0 := World.ownsRow_lit (base := w1.heap.size) (e := 9) (size := 1) w1 #[.string ⟨l[i].id.toArray⟩] 1 (by simp) (by simp [maxLen]) rfl;have HO0 := Lib.hid O0;have HI : Hid (l[i].id = idAt2 l i) := Lib.hid (idAt2_eq hi).symm;have HCB : Hid (∀ W, Pure w1 W → W.cell? ⟨gc, 0, none⟩ = some (.slice (some ⟨g, off, none⟩) l.length c)) := Lib.hid (fun W h => h.keep hb1 id);have HRW : Hid (∀ W, Pure w1 W → ∀ k (hk : k < l.length), W.cell? ⟨g, off + k * 7, none⟩ = some (.string ⟨l[k].id.toArray⟩)) := Lib.hid (fun W h k hk => (item_cells (HROW.out.mod (m1.trans h) id) hk).1);have m2 := Lib.hid (pure_alloc w1 (.cells #[.string ⟨l[i].id.toArray⟩] 9));clear hb hownj m1 O0 HROW HAB HB
 go_wp2_with fail
 clear hb1 q0;generalize w1.alloc (.cells #[.string ⟨l[i].id.toArray⟩] 9) = W at *
 go_loopg [6, 23] js.length (fun gk x k wr => WyRel w1 l i js gk x k wr)
 case atStart => exact ⟨0, [l[i].id], _, _, by omega, by omega, rfl, rfl, by simp [HI.out], HO0.out, m2.out⟩
 case round =>
  clear HO0 m2 HI;obtain ⟨m, out, go, co, rfl, hm, rfl, rfl, hout, hown, hmo⟩ := hrel;have hol := WyRel.len hout hm;have ho1 := Nat.le_of_eq hol;have ho2 := Nat.le_of_eq hol.symm;have HOUT := Lib.hid hout;clear hout hol
  by_cases hlt : m < js.length
  ·obtain ⟨gj, offj, rfl, hrow⟩ := (HSJ.out.pure hmo).rowS (by omega);have q1 := hrow.cell (natsV_get js m hlt);have hql : js[m] < l.length := HJB.out _ (List.getElem_mem hlt);have q2 := HRW.out wr hmo js[m] hql;have qc := HCB.out wr hmo;have HQ : Hid (l[js[m]].id = idAt2 l js[m]) := Lib.hid (idAt2_eq hql).symm;have HT : Hid (js.take (m + 1) = js.take m ++ [js[m]]) := Lib.hid (List.take_succ_eq_append_getElem hlt)
   have i3 : (0 : Int) ≤ (js[m] : Int) := by omega
   have i4 : ((js[m] : Nat) : Int) < (l.length : Int) := by omega
   have i5 : (m : Int) < (js.length : Int) := by omega
   clear hrow;rw [HQ.out] at q2;clear HQ;generalize hqe : js[m] = q at *;clear hqe;have m3 := pure_alloc wr (.cells #[.string ⟨(idAt2 l q).toArray⟩] 9);have O3 := World.ownsRow_lit (base := w1.heap.size) (e := 9) (size := 1) wr #[.string ⟨(idAt2 l q).toArray⟩] 1 hmo.size (by simp [maxLen]) rfl;have hownA := own_pure hown m3;have hnews := World.ownsRow.cells hownA (g := go) rfl;have hone := strsV_one out
   have hsl : (strsV out).length = out.length * 1 := by rw [strsV_len]; omega
   have HM3 := Lib.hid (hmo.trans m3);have hlw := hmo.size;clear hown hmo m3 hownA
   go_wp2_with (at_builtin; (refine wpList_append_own_at _ rfl _ _ _ rfl w1.heap.size 9 i0 _ 1 16 Tryz.underlying29 hi0 hz0 hz1 hz2 rfl (by omega) (.slice (some ⟨wr.heap.size, 0, none⟩) 1 1) 1 _ rfl O3 ⟨go, 0, none⟩ out.length _ _ rfl hsl hnews hone (by simp [maxLen]; omega) (by omega) HM3.out.size ?_); intro v5 w5 hown5 hgrow hnil hat; obtain ⟨g5, c5, rfl, hg5, hg6, hc5, hc6⟩ := own_form hown5 (by omega); clear hnil)
   have hm5 := grown_mod (v := .slice (some ⟨wr.heap.size, 0, none⟩) 1 1) hgrow
   go_roundg (js.length - (m + 1))
   case measure => omega
   case rel =>
    have hol : (idAt2 l q :: out).length = 1 + out.length := by simp; omega
    refine ⟨m + 1, idAt2 l q :: out, g5, c5, rfl, by omega, by rw [hol], by simp, ?_, ?_, HM3.out.trans' hm5 (fun i hi hl => ?_)⟩
    ·rw [HOUT.out, HT.out];simp
    ·rw [hol];exact hown5
    ·simp [Value.ownBlock] at hi
     omega
  ·obtain rfl : m = js.length := by omega
   have HFI : Hid (out = WayS l i) := Lib.hid (by rw [HOUT.out, List.take_length, HJS.out]; rfl);have HOW := Lib.hid (own_base hown (base' := w.heap.size) HM1.out.size);have HMM := Lib.hid (HM1.out.trans hmo);clear hown hmo
   go_wp2_with fail
   go_ret;exact ⟨_, rfl, by rw [← HFI.out]; exact HOW.out, HMM.out⟩
end Go.Proofs.YtgfgggeeoeppjaaGreatDoor
/- The comparison of FamiliesOf, by the ways. -/
namespace Go.Proofs.YtgfgggeeoeppjaaGreatDoor
open Go.RowKit
def SlW (w : World) (v : Value) (xs : List Str) : Prop := Sl w 9 1 v (strsV xs)
theorem SlW.mod {w w' : World} {v : Value} {xs : List Str} (h : SlW w v xs) (hm : Pure w w') : SlW w' v xs := Sl.pure h hm
theorem SlW.nil {w w' : World} {v : Value} {xs : List Str} (h : SlW w v xs) (hm : Mod (fun _ => False) w w') : SlW w' v xs := Sl.pure h hm
theorem wayI_lt {l : List Itm} {i : Nat} (hi : i < l.length) : ∀ k ∈ wayI l i, k < l.length := by
 intro k hk;unfold wayI at hk
 rcases List.mem_append.1 hk with h | h
 ·obtain ⟨j, _, hj⟩ := (mem_chn _ _ _ _).1 (List.mem_reverse.1 h);exact stp_lt l hj
 ·rw [List.mem_singleton.1 h];exact hi
def wayF (gc : Nat) : Value := .func (.func 110) #[] #[.pointer (some ⟨gc, 0, none⟩)]
set_option maxHeartbeats 8000000 in
theorem ways_calls (w : World) (gw gc : Nat) (v : Value) (l : List Itm) (hR : Right l) (i j : Nat) (hi : i < l.length) (hj : j < l.length) (hv : Its w v l) (hb : w.cell? ⟨gc, 0, none⟩ = some v) (hb2 : w.cell? ⟨gw, 0, none⟩ = some (wayF gc)) :
  Calls Tryz.prog 113 #[.int .i64 (i : Int), .int .i64 (j : Int), .pointer (some ⟨gw, 0, none⟩)] w (CmpPost w (lexL (wayI l i) (wayI l j))) := by
 have HW := Lib.hid (fun (W : World) (k : Nat) (hk : k < l.length) (h1 : Its W v l) (h2 : W.cell? ⟨gc, 0, none⟩ = some v) => way_calls W gc v l hR k hk h1 h2);have HC := Lib.hid (hR.cmp_lex (wayI_lt hi) (wayI_lt hj));have HI := Lib.hid hi;have HJ := Lib.hid hj;have HV := Lib.hid hv;unfold wayF at hb2;clear hR hi hj hv
 go_enter Tryz.func113, Tryz.ntmps113
 go_wp2_with fail
 have HGs := Lib.hid (show ∀ (D : Nat → Bool) (zzi : Nat) (zq zq' : World), (fun _ zq => (fun W => Its W v l ∧ W.cell? ⟨gc, 0, none⟩ = some v ∧ W.cell? ⟨gw, 0, none⟩ = some (.func (.func 110) #[] #[.pointer (some ⟨gc, 0, none⟩)])) zq) D zq → Mod (fun _ => False) zq zq' → (fun _ zq => (fun W => Its W v l ∧ W.cell? ⟨gc, 0, none⟩ = some v ∧ W.cell? ⟨gw, 0, none⟩ = some (.func (.func 110) #[] #[.pointer (some ⟨gc, 0, none⟩)])) zq) (upd D zzi true) zq' from by intro D zzi zq zq' h hm; (exact ⟨Sl.pure h.1 hm, hm.keep h.2.1 id, hm.keep h.2.2 id⟩))
 refine wp_region_inv (by kernel_rfl) (by kernel_rfl) (InvF (R := Mod (fun _ => False)) [.is (.func (.func 110) #[] #[.pointer (some ⟨gc, 0, none⟩)]),
   .is (.int .i64 (i : Int)),
   ⟨fun zv zw => ∃ (v_2 : Value), zv = v_2 ∧ SlW zw v_2 (WayS l i), (by rintro zv zw zx ⟨v_2, hze, q0⟩ hm; exact ⟨v_2, hze, (q0.mod hm)⟩), none, none⟩,
   .is (.func (.func 110) #[] #[.pointer (some ⟨gc, 0, none⟩)]),
   .is (.int .i64 (j : Int)),
   ⟨fun zv zw => ∃ (v_5 : Value), zv = v_5 ∧ SlW zw v_5 (WayS l j), (by rintro zv zw zx ⟨v_5, hze, q0⟩ hm; exact ⟨v_5, hze, (q0.mod hm)⟩), none, none⟩,
   .is (.int .i64 (cmpL (WayS l i) (WayS l j))),
   .is (.int .i64 (cmpL (WayS l i) (WayS l j)))]
   (PB w (fun _ => False) w.heap.size (fun _ zq => (fun W => Its W v l ∧ W.cell? ⟨gc, 0, none⟩ = some v ∧ W.cell? ⟨gw, 0, none⟩ = some (.func (.func 110) #[] #[.pointer (some ⟨gc, 0, none⟩)])) zq))) (InvF.start (PB.start (Mod.refl _ _) (Nat.le_refl _) (⟨HV.out, hb, hb2⟩))) ?_ ?_
 ·refine .cons ?_ (.cons ?_ (.cons ?_ (.cons ?_ (.cons ?_ (.cons ?_ (.cons ?_ (.cons ?_ .nil)))))))
  ·intro D V zw1 a hR hI K hK;obtain ⟨hM1, hB1, hG1⟩ := hI.1;obtain ⟨hG1a, hG1b, hG1c⟩ := hG1;have ze2 := hR.frame.other (t := 2) (by kernel_rfl) rfl;rw [if_pos (by rfl)];go_simp;exact hK (.func (.func 110) #[] #[.pointer (some ⟨gc, 0, none⟩)]) _ (hI.next hR (by kernel_rfl) (Mod.refl _ _) (PB.quiet hI.1 (Mod.refl _ _) (HGs.out D 0 zw1 zw1 (hI.1).g (Mod.refl _ _))) (upd_same V 0 _))
  ·intro D V zw1 a hR hI K hK;obtain ⟨hM1, hB1, hG1⟩ := hI.1;obtain ⟨hG1a, hG1b, hG1c⟩ := hG1;have ze0 := hR.frame.other (t := 0) (by kernel_rfl) rfl;rw [if_pos (by rfl)];go_simp;exact hK (.int .i64 (i : Int)) _ (hI.next hR (by kernel_rfl) (Mod.refl _ _) (PB.quiet hI.1 (Mod.refl _ _) (HGs.out D 1 zw1 zw1 (hI.1).g (Mod.refl _ _))) (upd_same V 1 _))
  ·intro D V zw1 a hR hI K hK;obtain ⟨hM1, hB1, hG1⟩ := hI.1;obtain ⟨hG1a, hG1b, hG1c⟩ := hG1;have zd0 := hR.pred 0 (by kernel_rfl);have zf0 : V 0 = .func (.func 110) #[] #[.pointer (some ⟨gc, 0, none⟩)] := hI.2 0 zd0 rfl;have zd1 := hR.pred 1 (by kernel_rfl);have zf1 : V 1 = .int .i64 (i : Int) := hI.2 1 zd1 rfl;have ze6 := hR.frame.done (t := 6) (j := 0) (by kernel_rfl) hR.ok zd0;have ze7 := hR.frame.done (t := 7) (j := 1) (by kernel_rfl) hR.ok zd1;rw [if_pos (by rfl)];go_simp;refine (HW.out _ i HI.out hG1a hG1b).mono ?_;rintro e zw2 ⟨v_0, rfl, hown2, hm2⟩;exact hK (v_0) _ (hI.next hR (by kernel_rfl) hm2 (PB.quiet hI.1 hm2 (HGs.out D 2 _ _ (hI.1).g hm2)) (⟨v_0, upd_same V 2 _, Sl.of_own hown2⟩))
  ·intro D V zw1 a hR hI K hK;obtain ⟨hM1, hB1, hG1⟩ := hI.1;obtain ⟨hG1a, hG1b, hG1c⟩ := hG1;have ze2 := hR.frame.other (t := 2) (by kernel_rfl) rfl;rw [if_pos (by rfl)];go_simp;exact hK (.func (.func 110) #[] #[.pointer (some ⟨gc, 0, none⟩)]) _ (hI.next hR (by kernel_rfl) (Mod.refl _ _) (PB.quiet hI.1 (Mod.refl _ _) (HGs.out D 3 zw1 zw1 (hI.1).g (Mod.refl _ _))) (upd_same V 3 _))
  ·intro D V zw1 a hR hI K hK;obtain ⟨hM1, hB1, hG1⟩ := hI.1;obtain ⟨hG1a, hG1b, hG1c⟩ := hG1;have ze1 := hR.frame.other (t := 1) (by kernel_rfl) rfl;rw [if_pos (by rfl)];go_simp;exact hK (.int .i64 (j : Int)) _ (hI.next hR (by kernel_rfl) (Mod.refl _ _) (PB.quiet hI.1 (Mod.refl _ _) (HGs.out D 4 zw1 zw1 (hI.1).g (Mod.refl _ _))) (upd_same V 4 _))
  ·intro D V zw1 a hR hI K hK;obtain ⟨hM1, hB1, hG1⟩ := hI.1;obtain ⟨hG1a, hG1b, hG1c⟩ := hG1;have zd3 := hR.pred 3 (by kernel_rfl);have zf3 : V 3 = .func (.func 110) #[] #[.pointer (some ⟨gc, 0, none⟩)] := hI.2 3 zd3 rfl;have zd4 := hR.pred 4 (by kernel_rfl);have zf4 : V 4 = .int .i64 (j : Int) := hI.2 4 zd4 rfl;have ze9 := hR.frame.done (t := 9) (j := 3) (by kernel_rfl) hR.ok zd3;have ze10 := hR.frame.done (t := 10) (j := 4) (by kernel_rfl) hR.ok zd4;rw [if_pos (by rfl)];go_simp;refine (HW.out _ j HJ.out hG1a hG1b).mono ?_;rintro e zw2 ⟨v_0, rfl, hown2, hm2⟩;exact hK (v_0) _ (hI.next hR (by kernel_rfl) hm2 (PB.quiet hI.1 hm2 (HGs.out D 5 _ _ (hI.1).g hm2)) (⟨v_0, upd_same V 5 _, Sl.of_own hown2⟩))
  ·intro D V zw1 a hR hI K hK;obtain ⟨hM1, hB1, hG1⟩ := hI.1;obtain ⟨hG1a, hG1b, hG1c⟩ := hG1;have zd2 := hR.pred 2 (by kernel_rfl);have zF2 : ∃ (v_2 : Value), V 2 = v_2 ∧ SlW zw1 v_2 (WayS l i) := hI.2 2 zd2 rfl;obtain ⟨v_2, zf2, b2_0⟩ := zF2;have zd5 := hR.pred 5 (by kernel_rfl);have zF5 : ∃ (v_5 : Value), V 5 = v_5 ∧ SlW zw1 v_5 (WayS l j) := hI.2 5 zd5 rfl;obtain ⟨v_5, zf5, b5_0⟩ := zF5;have ze8 := hR.frame.done (t := 8) (j := 2) (by kernel_rfl) hR.ok zd2;have ze11 := hR.frame.done (t := 11) (j := 5) (by kernel_rfl) hR.ok zd5;rw [if_pos (by rfl)];go_simp;refine (compareS_calls _ _ _ _ _ b2_0 b5_0).mono ?_;rintro e zw2 ⟨rfl, hw2⟩;subst hw2;have hm2 := Mod.refl (fun _ => False) zw1;exact hK (.int .i64 (cmpL (WayS l i) (WayS l j))) _ (hI.next hR (by kernel_rfl) hm2 (PB.quiet hI.1 hm2 (HGs.out D 6 _ _ (hI.1).g hm2)) (upd_same V 6 _))
  ·intro D V zw1 a hR hI K hK;obtain ⟨hM1, hB1, hG1⟩ := hI.1;obtain ⟨hG1a, hG1b, hG1c⟩ := hG1;have zd6 := hR.pred 6 (by kernel_rfl);have zf6 : V 6 = .int .i64 (cmpL (WayS l i) (WayS l j)) := hI.2 6 zd6 rfl;have ze12 := hR.frame.done (t := 12) (j := 6) (by kernel_rfl) hR.ok zd6;rw [if_pos (by rfl)];go_simp;exact hK (.int .i64 (cmpL (WayS l i) (WayS l j))) _ (hI.next hR (by kernel_rfl) (Mod.refl _ _) (PB.quiet hI.1 (Mod.refl _ _) (HGs.out D 7 zw1 zw1 (hI.1).g (Mod.refl _ _))) (upd_same V 7 _))
 ·intro D V w1 hD hI;obtain ⟨hM1, hB1, hG1⟩ := hI.1;have hMx := hM1;clear hM1;have hBx := hB1;clear hB1;have hGx := hG1;clear hG1;have zf0 : V 0 = .func (.func 110) #[] #[.pointer (some ⟨gc, 0, none⟩)] := hI.2 0 (hD 0 (by decide)) rfl;have zf1 : V 1 = .int .i64 (i : Int) := hI.2 1 (hD 1 (by decide)) rfl;have zF2 : ∃ (v_2 : Value), V 2 = v_2 ∧ SlW w1 v_2 (WayS l i) := hI.2 2 (hD 2 (by decide)) rfl;obtain ⟨v_2, zf2, b2_0⟩ := zF2;have zf3 : V 3 = .func (.func 110) #[] #[.pointer (some ⟨gc, 0, none⟩)] := hI.2 3 (hD 3 (by decide)) rfl;have zf4 : V 4 = .int .i64 (j : Int) := hI.2 4 (hD 4 (by decide)) rfl;have zF5 : ∃ (v_5 : Value), V 5 = v_5 ∧ SlW w1 v_5 (WayS l j) := hI.2 5 (hD 5 (by decide)) rfl;obtain ⟨v_5, zf5, b5_0⟩ := zF5;have zf6 : V 6 = .int .i64 (cmpL (WayS l i) (WayS l j)) := hI.2 6 (hD 6 (by decide)) rfl;have zf7 : V 7 = .int .i64 (cmpL (WayS l i) (WayS l j)) := hI.2 7 (hD 7 (by decide)) rfl;clear hI hD HGs;simp only [frAll, Act.put, List.setIfInBounds_toArray, List.set_cons_zero, List.set_cons_succ, Nat.zero_add, Nat.reduceAdd, zf0, zf1, zf2, zf3, zf4, zf5, zf6, zf7];clear zf0 zf1 zf2 zf3 zf4 zf5 zf6 zf7;clear V D
  go_wp2_with fail
  go_ret;exact ⟨_, rfl, HC.out, hMx⟩
end Go.Proofs.YtgfgggeeoeppjaaGreatDoor
/- slices.SortFunc over no numbers. -/
namespace Go.Proofs.YtgfgggeeoeppjaaGreatDoor
open Go.RowKit
attribute [local go_sem ↓] Go.wp_at_zero Go.wp_at_succ
def NonePostZ (w : World) (e : Ending) (w' : World) : Prop := e = .returned (.tuple #[]) ∧ Pure w w'
set_option maxHeartbeats 2000000 in
theorem insert0_calls (w : World) (A : Option Addr) (cap : Nat) (fv : Value) : Calls Tryz.prog 196 #[.slice A 0 cap, .int .i64 0, .int .i64 0, fv] w (NonePostZ w) := by
 go_enter Tryz.func196, Tryz.ntmps196
 go_wp2_with fail
 refine wp_loop_rounds 1 ?_;rw [rounds_succ]
 go_wp2_with fail
 go_end0
 exact ⟨rfl, Mod.refl _ _⟩
set_option maxHeartbeats 2000000 in
theorem pdq0_calls (w : World) (A : Option Addr) (cap : Nat) (fv vl : Value) : Calls Tryz.prog 165 #[.slice A 0 cap, .int .i64 0, .int .i64 0, vl, fv] w (NonePostZ w) := by
 have H := Lib.hid (insert0_calls w A cap fv)
 go_enter Tryz.func165, Tryz.ntmps165
 go_wp2_with fail
 refine wp_loop_rounds 1 ?_;rw [rounds_succ]
 go_wp2_with fail
 refine H.out.mono ?_;rintro e w1 ⟨rfl, hm⟩
 go_wp2_with fail
 go_end0
 exact ⟨rfl, hm⟩
set_option maxHeartbeats 2000000 in
theorem sort0_calls (w : World) (A : Option Addr) (cap : Nat) (fv : Value) : Calls Tryz.prog 112 #[.slice A 0 cap, fv] w (NonePostZ w) := by
 have HL := Lib.hid (lenU_calls w 0 (by omega));have H := Lib.hid (fun (vl : Value) (W : World) => pdq0_calls W A cap fv vl)
 go_enter Tryz.func112, Tryz.ntmps112
 go_wp2_with fail
 refine HL.out.mono ?_;rintro e w1 ⟨v, rfl, hm⟩
 go_wp2_with fail
 refine (H.out _ _).mono ?_;rintro e w2 ⟨rfl, hm2⟩
 go_wp2_with fail
 go_end0
 exact ⟨rfl, hm.trans hm2⟩
end Go.Proofs.YtgfgggeeoeppjaaGreatDoor
