/- Texts of the proof of DeskHands, put together: FamO, EqS, SamF, WhoR, PlcR, SprB, SprF, DskM, DskB, DskQ, DskS, DskA, CntA, SprC, DskC, DskT, ItmI. -/
import Derived.Test.YtgfgggeeoeppjaaGreatDoorDeskHandsZ10
import Derived.Test.YtgfgggeeoeppjaaGreatDoorDeskHandsZ14
import Derived.Test.YtgfgggeeoeppjaaGreatDoorDeskHandsZ19
import Derived.Test.YtgfgggeeoeppjaaGreatDoorDeskHandsZ20
import Derived.Test.YtgfgggeeoeppjaaGreatDoorDeskHandsZ22
import Derived.Test.YtgfgggeeoeppjaaGreatDoorDeskHandsZ24
import Derived.Test.YtgfgggeeoeppjaaGreatDoorDeskHandsZ26
import Derived.Test.YtgfgggeeoeppjaaGreatDoorDeskHandsZ32
import Derived.Test.YtgfgggeeoeppjaaGreatDoorDeskHandsZ36
import Derived.Deep.DeepCutAuto
import Derived.Deep.CutBlock
import Derived.Laws.AppendOwnNone
set_option linter.unusedVariables false
set_option linter.unusedSimpArgs false
set_option maxRecDepth 100000
/- FamiliesOf of the reference. -/
namespace Go.Proofs.YtgfgggeeoeppjaaGreatDoor
open Go.RowKit
def FamOPost (w : World) (l : List Itm) (e : Ending) (w' : World) : Prop := ∃ v fs, e = .returned v ∧ FmR w' v fs ∧ fmS fs = famsS l ∧ Pure w w'
def FiRel (W0 : World) (gm n gk : Nat) (k : Value) (wr : World) : Prop :=
 ∃ m : Nat, n - m = gk ∧ m ≤ n ∧ k = .int .i64 (m : Int) ∧ wr.ownsRow gm 3 1 (.slice (some ⟨gm, 0, none⟩) n n) n (natsV (List.range m ++ List.replicate (n - m) 0)) ∧ Mod (· = gm) W0 wr
theorem fill_set (n m : Nat) (h : m < n) : (List.range m ++ List.replicate (n - m) 0).set m m = List.range (m + 1) ++ List.replicate (n - (m + 1)) 0 := by
 rw [List.set_append_right _ _ (by simp), show n - m = (n - (m + 1)) + 1 by omega, List.replicate_succ];simp [List.range_succ]
theorem natsV_zeros (n : Nat) : natsV (List.replicate n 0) = List.replicate n (.int .i64 0) := by simp [natsV]
def FoRel (W0 : World) (base : Nat) (l : List Itm) (gk : Nat) (x i : Value) (wr : World) : Prop :=
 ∃ (k : Nat) (fs : List Fm) (Ao : Option Addr) (cap : Nat), (allI l).length - k = gk ∧ k ≤ (allI l).length ∧ x = .slice Ao fs.length cap ∧ i = .int .i64 (k : Int) ∧ fmS fs = famT l (foldK l k) ∧ FoOwn wr base (.slice Ao fs.length cap) fs ∧ Pure W0 wr ∧ base ≤ wr.heap.size
def FoCut (W0 : World) (base : Nat) (l : List Itm) (k i : Nat) (x : Value) (wx : World) : Prop :=
 ∃ (fs0 : List Fm) (t : Str) (A : Option Addr) (ids : List Str) (c g cap bl : Nat), x = .slice (some ⟨g, 0, none⟩) (fs0.length + 1) cap ∧ FoLast wx base g cap bl fs0 t (.slice A ids.length c) ids ∧
  fmS fs0 ++ [(t, ids ++ [idAt2 l i])] = famT l (foldK l (k + 1)) ∧ Pure W0 wx ∧ base ≤ wx.heap.size ∧ fs0.length ≤ k ∧ ids.length ≤ k
theorem all_perm' {l : List Itm} (hR : Right l) : (allI l).Perm (List.range l.length) := all_perm hR.loop hR.end5
def FoNew (w : World) (base gf cf : Nat) (fs0 : List Fm) (t : Str) (ids : List Str) (id : Str) : Prop := ∃ v5, FoOwn w base (.slice (some ⟨gf, 0, none⟩) (fs0.length + 1) cf) (fs0 ++ [(t, v5, ids ++ [id])])
theorem FoNew.pure {w w' : World} {base gf cf : Nat} {fs0 : List Fm} {t : Str} {ids : List Str} {id : Str} (h : FoNew w base gf cf fs0 t ids id) (hm : Pure w w') : FoNew w' base gf cf fs0 t ids id := by
 obtain ⟨v5, h⟩ := h;exact ⟨v5, h.pure hm⟩
theorem foCut_mk {W0 wx : World} {base k i : Nat} {l : List Itm} {vo : Value} {fs : List Fm} (h : FoOwn wx base vo fs) (hne : fs ≠ []) (hfs : ∀ fs0 p, fs = fs0 ++ [p] → fmS fs0 ++ [(p.1, p.2.2 ++ [idAt2 l i])] = famT l (foldK l (k + 1)))
  (h1 : fs.length ≤ k + 1) (h2 : ∀ p ∈ fs, p.2.2.length ≤ k) (hm : Pure W0 wx) (hs : base ≤ wx.heap.size) : FoCut W0 base l k i vo wx := by
 obtain ⟨fs0, t, A, ids, c, g, cap, bl, rfl, hv, hL⟩ := h.last hne;exact ⟨fs0, t, A, ids, c, g, cap, bl, hv, hL, hfs _ _ rfl, hm, hs, by simpa using h1, h2 (t, .slice A ids.length c, ids) (by simp)⟩
def SoPost (w : World) (gm : Nat) (l : List Itm) (e : Ending) (w' : World) : Prop :=
 e = .returned (.tuple #[]) ∧ (∀ k (hk : k < (allI l).length), w'.cell? ⟨gm, k, none⟩ = some (.int .i64 ((allI l)[k] : Int))) ∧ Mod (· = gm) w w'
theorem order_calls (w : World) (gm gw gc : Nat) (v : Value) (l : List Itm) (hR : Right l) (hl : l.length ≤ 12) (hown : w.ownsRow gm 3 1 (.slice (some ⟨gm, 0, none⟩) l.length l.length) l.length (natsV (List.range l.length)))
  (hv : ∀ W, Mod (· = gm) w W → Its W v l ∧ W.cell? ⟨gc, 0, none⟩ = some v ∧ W.cell? ⟨gw, 0, none⟩ = some (wayF gc)) :
  Calls Tryz.prog 112 #[.slice (some ⟨gm, 0, none⟩) l.length l.length, .func (.func 113) #[] #[.pointer (some ⟨gw, 0, none⟩)]] w (SoPost w gm l) := by
 have hp := all_perm' hR
 by_cases h0 : l.length = 0
 ·rw [h0];refine (sort0_calls _ _ _ _).mono ?_;rintro e w' ⟨rfl, hm⟩;refine ⟨rfl, fun k hk => ?_, Mod.of_pure hm⟩;have := hp.length_eq;simp at this
  omega
 ·refine (sortFunc_calls w gm gm l.length l.length (List.range l.length) 113 (.pointer (some ⟨gw, 0, none⟩)) (fun i j => lexL (wayI l i) (wayI l j)) hown (by omega) hl (fun a b c h1 h2 => lexL_trans h1 h2) ?_ List.nodup_range (fun a b W => by rfl) ?_).mono ?_
  ·intro a _ b _ hab;exact lexL_total (fun h => hab (wayI_inj h))
  ·intro a b W ha hb hm;obtain ⟨h1, h2, h3⟩ := hv W hm;exact ways_calls W gw gc v l hR a b (List.mem_range.1 ha) (List.mem_range.1 hb) h1 h2 h3
  ·rintro e w' ⟨ys, hperm, hsort, rfl, ho, hm⟩;have hys : ys = allI l := ways_unique hsort (all_sorted hR.loop) (hperm.trans hp.symm);subst hys
   have hle : (allI l).length = l.length := by have := hp.length_eq; simpa using this
   refine ⟨rfl, fun k hk => ?_, hm⟩;rw [ho.cellAt k (by omega), natsV_get _ k hk]
set_option maxHeartbeats 8000000 in
theorem familiesOf_calls (w : World) (v : Value) (l : List Itm) (hv : Its w v l) (hR : Right l) (hl : l.length ≤ 12) : Calls Tryz.prog 51 #[v] w (FamOPost w l) := by
 obtain ⟨i0, hi0, hz0, hz1, hz2⟩ := info_parts info_fam;have HR := Lib.hid hR;have HV := Lib.hid hv;have hmk := run_make_one (P := Tryz.prog) 22 3 (.int .i64 0) 8 Tryz.underlying22 info_int7 rfl .i64 .i64 l.length (l.length : Int) rfl (by omega) (by omega) (natsV (List.replicate l.length 0)).toArray (by rw [natsV_zeros]);obtain ⟨A, n, c, rfl, hc1, hc2, hl2, hr⟩ := hv
 have hln : l.length = n := by rw [itV_len] at hl2; omega
 subst hln;clear hl2 hr hR;have B0 := Blk.new (w.alloc (.cells #[.slice A l.length c] 26)) 178 #[.nilFunc];rw [World.size_alloc] at B0;have q0 : ((w.alloc (.cells #[.slice A l.length c] 26)).alloc (.cells #[.nilFunc] 178)).cell? ⟨w.heap.size + 1, 0, none⟩ = some .nilFunc := B0.cell 0;have q1 : ((w.alloc (.cells #[.slice A l.length c] 26)).alloc (.cells #[.nilFunc] 178)).frozen? ⟨w.heap.size + 1, 0, none⟩ = false := B0.frozen 0
 have hst : Sem.run Tryz.prog (store ⟨w.heap.size + 1, 0, none⟩ (.func (.func 110) #[] #[.pointer (some ⟨w.heap.size, 0, none⟩)])) ((w.alloc (.cells #[.slice A l.length c] 26)).alloc (.cells #[.nilFunc] 178)) = .ok () (((w.alloc (.cells #[.slice A l.length c] 26)).alloc (.cells #[.nilFunc] 178)).setCell ⟨w.heap.size + 1, 0, none⟩ (.func (.func 110) #[] #[.pointer (some ⟨w.heap.size, 0, none⟩)])) := by
  refine (run_store _ _ _ _ _ rfl).trans ?_;simp [stored, q0, q1]
 have K1 := ((Blk.new w 26 #[.slice A l.length c]).alloc (.cells #[wayF w.heap.size] 178));have K2 := Blk.snd w (.cells #[.slice A l.length c] 26) 178 #[wayF w.heap.size]
 have hsz : ((w.alloc (.cells #[.slice A l.length c] 26)).alloc (.cells #[wayF w.heap.size] 178)).heap.size = w.heap.size + 1 + 1 := by simp
 have M0 : Pure w ((w.alloc (.cells #[.slice A l.length c] 26)).alloc (.cells #[wayF w.heap.size] 178)) := (pure_alloc _ _).trans (pure_alloc _ _);have q3 : ((w.alloc (.cells #[.slice A l.length c] 26)).alloc (.cells #[wayF w.heap.size] 178)).cell? ⟨w.heap.size, 0, none⟩ = some (.slice A l.length c) := K1.cell 0;have HK1 := Lib.hid K1;have HK2 := Lib.hid K2;have HSZ := Lib.hid hsz;have HM0 := Lib.hid M0;have HST := Lib.hid (rfl : wayF w.heap.size = wayF w.heap.size);clear B0 K1 K2 hsz M0;unfold wayF at q3 HK1 HK2 HSZ HM0
 go_enter Tryz.func51, Tryz.ntmps51
 go_wp2_with fail
 have hgc1 : w.heap.size ≤ w.heap.size := Nat.le_refl _;generalize ((w.alloc (.cells #[.slice A l.length c] 26)).alloc (.cells #[.func (.func 110) #[] #[.pointer (some ⟨w.heap.size, 0, none⟩)]] 178)) = W1 at *;have HWF : Hid (∀ gc, (Value.func (.func 110) #[] #[.pointer (some ⟨gc, 0, none⟩)]) = wayF gc) := Lib.hid (fun _ => rfl);clear hst q0 q1 HST;have hgm := HSZ.out.symm;have O1 := World.ownsRow_lit (base := W1.heap.size) (e := 3) (size := 1) W1 (natsV (List.replicate l.length 0)).toArray l.length (by simp [natsV_len]) (by simp [maxLen]; omega) (by simp [natsV_len]);rw [hgm] at ⊢;have hs1 := Nat.le_of_eq HSZ.out;have hs2 := Nat.le_of_eq HSZ.out.symm;clear hgm HSZ hmk;obtain ⟨gc, hgc⟩ : ∃ gc, gc = w.heap.size := ⟨_, rfl⟩;rw [← hgc] at HK1 HK2 hs1 hs2 q3 ⊢;have hgc2 := Nat.le_of_eq hgc;have hgc3 := Nat.le_of_eq hgc.symm;clear hgc hgc1;have MW := pure_alloc W1 (.cells (natsV (List.replicate l.length 0)).toArray 3);have K1 := Lib.hid (HK1.out.alloc (.cells (natsV (List.replicate l.length 0)).toArray 3));have K2 := Lib.hid (HK2.out.alloc (.cells (natsV (List.replicate l.length 0)).toArray 3));have M2 := Lib.hid (HM0.out.trans MW);generalize (W1.alloc (.cells (natsV (List.replicate l.length 0)).toArray 3)) = W2 at *;generalize W1.heap.size = gm at *;have HO1 := Lib.hid O1
 have HVW : Hid (∀ W, Mod (· = gm) W2 W → Pure w W ∧ Its W (.slice A l.length c) l ∧ W.cell? ⟨gc, 0, none⟩ = some (.slice A l.length c) ∧ W.cell? ⟨gc + 1, 0, none⟩ = some (wayF gc)) := Lib.hid (fun W h => by
  have hp : Pure w W := M2.out.trans' h (fun i hi hlt => by omega)
  exact ⟨hp, HV.out.pure hp, (K1.out.mod h (by omega)).cell 0, (K2.out.mod h (by omega)).cell 0⟩)
 clear O1 MW HK1 HK2 HM0 K1 K2 M2 HV W1 q3 HWF
 go_loopg [16] l.length (fun gk k wr => FiRel W2 gm l.length gk k wr)
 case atStart => exact ⟨0, by omega, by omega, rfl, by simpa using HO1.out, Mod.refl _ _⟩
 case round =>
  clear HO1;obtain ⟨m, rfl, hm, rfl, hown, hM⟩ := hrel
  by_cases hlt : m < l.length
  ·have c0 := hown.cellAt m (by omega);have c1 := hown.frozenAt m
   have c2 : (natsV (List.range m ++ List.replicate (l.length - m) 0))[m]? = some (.int .i64 0) := by
    rw [natsV_append, List.getElem?_append_right (by simp [natsV_len]), natsV_len, List.length_range, Nat.sub_self];rw [natsV_get _ 0 (by simp; omega)];simp
   rw [c2] at c0;obtain ⟨hset, hgr⟩ := hown.stored m (.int .i64 (m : Int));rw [natsV_set, fill_set _ _ hlt] at hset;have hM2 := Lib.hid (hM.setCell (p := ⟨gm, m, none⟩) (.inl rfl) (.int .i64 (m : Int)));have HSET := Lib.hid hset
   have i1 : (0 : Int) ≤ (m : Int) := by omega
   have i2 : (m : Int) < (l.length : Int) := by omega
   clear hown hM hset hgr c2
   go_wp2_with fail
   go_roundg (l.length - (m + 1))
   case measure => omega
   case rel => exact ⟨m + 1, rfl, by omega, rfl, HSET.out, hM2.out⟩
  ·obtain rfl : m = l.length := by omega
   have hO : wr.ownsRow gm 3 1 (.slice (some ⟨gm, 0, none⟩) l.length l.length) l.length (natsV (List.range l.length)) := by simpa using hown
   have HSO := Lib.hid (order_calls wr gm (gc + 1) gc (.slice A l.length c) l HR.out hl hO (fun W h => (HVW.out W (hM.trans h)).2));have HM := Lib.hid hM;clear hown hO hM
   go_wp2_with fail
   refine HSO.out.mono ?_;rintro e w3 ⟨rfl, hord, hm3⟩;obtain ⟨P3, V3, C3, _⟩ := HVW.out w3 (HM.out.trans hm3)
   have hle : (allI l).length = l.length := by have := (all_perm' HR.out).length_eq; simpa using this
   have hle1 := Nat.le_of_eq hle;have hle2 := Nat.le_of_eq hle.symm;have HORD : Hid (∀ W, Pure w3 W → ∀ k (hk : k < (allI l).length), W.cell? ⟨gm, k, none⟩ = some (.int .i64 ((allI l)[k] : Int))) := Lib.hid (fun W h k hk => h.keep (hord k hk) id);have HC3 : Hid (∀ W, Pure w3 W → W.cell? ⟨gc, 0, none⟩ = some (.slice A l.length c)) := Lib.hid (fun W h => h.keep C3 id);have HV3 := Lib.hid V3;have HP3 := Lib.hid P3;have hgl : gc < w3.heap.size := lt_of_cell C3;clear hm3 hord P3 V3 C3 hle HSO HM HVW;obtain ⟨base, hba⟩ : ∃ base, base = w3.heap.size := ⟨_, rfl⟩;have hb1 := Nat.le_of_eq hba;have hb2 := Nat.le_of_eq hba.symm;clear hba
   go_wp2_with fail
   go_loopg [6, 29] (allI l).length (fun gk x i wr => FoRel w3 base l gk x i wr)
   case atStart => exact ⟨0, [], none, 0, by omega, by omega, rfl, rfl, by simp [fmS, famT, foldK], ⟨⟨rfl, .inl ⟨rfl, rfl⟩⟩, .inl rfl⟩, Mod.refl _ _, hb1⟩
   case round =>
    obtain ⟨k, fs, Ao, cap, rfl, hk, rfl, rfl, hfs, hown, hm, hsz⟩ := hrel
    by_cases hlt : k < (allI l).length
    ·obtain ⟨hfl, hfi⟩ := fo_len hk hfs;have hi : (allI l)[k] < l.length := (mem_all HR.out.end5 _).1 (List.getElem_mem hlt);have q1 := HORD.out wr hm k hlt;have HTOP := Lib.hid (HR.out.top_iff hi);have HF1 := Lib.hid (foldK_succ hlt)
     have HFN : Hid (upI l (allI l)[k] ≠ none → foldK l k ≠ []) := Lib.hid (fun h => by
      refine foldK_ne ?_ hk
      rcases Nat.eq_zero_or_pos k with rfl | h0
      ·exact absurd (all_first l hlt) h
      ·exact h0)
     generalize (allI l)[k] = i at *;have HII : Hid (l[i].id = idAt2 l i) := Lib.hid (idAt2_eq hi).symm;obtain ⟨A', n', c', he, _, _, hl2, hr⟩ := HV3.out
     injection he with he1 he2 he3
     subst he1 he2 he3;obtain ⟨g, off, rfl, hrow⟩ := hr (by omega);clear hl2 hr;have hgb : g < base := Nat.lt_of_lt_of_le hrow.lt (by omega);have HCI : Hid (∀ W, Pure w3 W → W.cell? ⟨g, off + i * 7, none⟩ = some (.string ⟨l[i].id.toArray⟩)) := Lib.hid (fun W h => (item_cells (hrow.mod h id) hi).1);have q2 := (item_cells (hrow.mod hm id) hi).2.2.2.2.2.1;have q3 := HC3.out wr hm;have q4 := HCI.out wr hm
     have i1 : (0 : Int) ≤ (i : Int) := by omega
     have i2 : (i : Int) < (l.length : Int) := by omega
     have HFS := Lib.hid hfs;have HOWN := Lib.hid hown;have HHM := Lib.hid hm;have hown1 := hown.1;clear hrow hfs hown hm
     go_upto_if 38 with (fail)
     go_cut [6] (fun x wx => FoCut w3 base l k i x wx)
     case first =>
      cases he : l[i].par.isEmpty
      ·have hne : upI l i ≠ none := fun h => by
        rw [HTOP.out.1 h] at he
        cases he
       have HNE := Lib.hid hne;clear hne
       go_wp2_with fail
       go_meet
       have hfn : fs ≠ [] := by
        rintro rfl;have h := HFS.out;simp only [fmS, List.map_nil] at h;refine HFN.out HNE.out ?_;unfold famT at h;exact List.map_eq_nil_iff.1 h.symm
       refine foCut_mk HOWN.out hfn ?_ (by omega) hfi HHM.out hsz;rintro fs0 p rfl;rw [HF1.out];refine (famT_kid HNE.out (fs0 := fmS fs0) (p := (p.1, p.2.2)) ?_).symm;rw [← HFS.out];simp [fmS]
      ·have htop : upI l i = none := HTOP.out.2 (by simpa using he);have HT := Lib.hid htop;clear htop
       go_wp2_with (at_builtin; refine wpList_append_lies _ rfl _ _ _ rfl base 90 i0 _ 2 40 Tryz.underlying83 hi0 hz0 hz1 hz2 rfl (by omega) (.slice Ao fs.length cap) fs.length (fmV fs) rfl (hown1.alloc _) ⟨wr.heap.size, 0, none⟩ 1 1 [.string ⟨l[i].id.toArray⟩, .slice none 0 0] rfl rfl (World.news_of_block (cs := #[.string ⟨l[i].id.toArray⟩, .slice none 0 0]) (t := 90) (fr := (0, 0)) (heap_alloc_new wr _)) (by simp [Value.oneCell']) (by omega) (by simp [maxLen]; omega) (by omega) (by have := HHM.out.size; simp; omega) (wr.heap.size + 1) (by simp) ?_; intro g5 cap5 w5 hown5 hgrow hat hlt5)
       go_meet;have hT := (HOWN.out.pure (pure_alloc wr _)).top hgrow rfl hown5 (by simp; omega);refine foCut_mk hT (by simp) ?_ (by simp; omega) ?_ ((HHM.out.alloc _).grown hgrow (fun k hk => .inr (by have := own_block hown1 k hk; omega))) (Nat.le_trans (by simp; omega) hgrow.size)
       ·rintro fs0 p hp;obtain ⟨h1, h2⟩ := List.append_inj' hp (by simp)
        injection h2 with h2 _
        subst h1 h2;rw [HF1.out, famT_top HT.out, ← HFS.out, HII.out]
        rfl
       ·intro p hp
        rcases List.mem_append.1 hp with hp | hp
        ·exact hfi p hp
        ·rw [List.mem_singleton.1 hp];simp
     case rest =>
      clear HFS HOWN HHM hown1 hfl hfi hsz HTOP HF1 HFN q1 q2 q3 q4;obtain ⟨fs0, t, Ai, ids, ci, gf, cf, bl, rfl, hL, hEQ, hm, hsz, hf0, hid⟩ := hcut;generalize l[i].id = idv at *;have HOL : Hid (∀ j, (Value.slice Ai ids.length ci).ownBlock = some j → j < wc.heap.size) := Lib.hid (fun j hj => (hL.own.lt j hj).2);have hgf := hL.lt;have hgf1 := hgf.1;have hgf2 := hgf.2;have hbl1 := hL.b1;have hbl2 := hL.b2;have HL := Lib.hid hL;have HEQ := Lib.hid hEQ;have HMC := Lib.hid hm;have q3 := HC3.out wc hm;have q4 := HCI.out wc hm;clear hL hEQ hm hgf hi0 hz0 hz1 hz2 i0;obtain ⟨i0, hi0, hz0, hz1, hz2⟩ := info_parts info_str7
      go_wp2_with fail
      have HGs := Lib.hid (show ∀ (D : Nat → Bool) (zzi : Nat) (zq zq' : World), zzi ≠ 11 → (fun D zq => (D 11 = false → (fun Z => FoLast Z base gf cf bl fs0 t (.slice Ai ids.length ci) ids) zq) ∧ (fun Z => Z.cell? ⟨gc, 0, none⟩ = some (.slice (some ⟨g, off, none⟩) l.length c) ∧ Z.cell? ⟨g, off + i * 7, none⟩ = some (.string ⟨idv.toArray⟩)) zq) D zq → Mod (fun _ => False) zq zq' → (fun D zq => (D 11 = false → (fun Z => FoLast Z base gf cf bl fs0 t (.slice Ai ids.length ci) ids) zq) ∧ (fun Z => Z.cell? ⟨gc, 0, none⟩ = some (.slice (some ⟨g, off, none⟩) l.length c) ∧ Z.cell? ⟨g, off + i * 7, none⟩ = some (.string ⟨idv.toArray⟩)) zq) (upd D zzi true) zq' from by intro D zzi zq zq' hi hh hm; refine ⟨fun hs => ?_, ?_⟩; (rw [upd_ne _ _ (Ne.symm hi)] at hs; have h := hh.1 hs; (exact h.pure hm)); (have h := hh.2; (exact ⟨hm.keep h.1 _root_.id, hm.keep h.2 _root_.id⟩)))
      refine wp_region_inv (by kernel_rfl) (by kernel_rfl) (InvF (R := Mod (fun _ => False)) [.is (.pointer (some ⟨gf, fs0.length * 2, none⟩)),
        .is (.pointer (some ⟨gf, fs0.length * 2, none⟩)),
        .is (.pointer (some ⟨gf, fs0.length * 2, none⟩)),
        .is (.pointer (some ⟨gf, fs0.length * 2 + 1, none⟩)),
        .is (.slice Ai ids.length ci),
        .is (.slice (some ⟨g, off, none⟩) l.length c),
        .is (.int .i64 (i : Int)),
        .is (.pointer (some ⟨g, off + i * 7, none⟩)),
        .is (.pointer (some ⟨g, off + i * 7, none⟩)),
        .is (.string ⟨idv.toArray⟩),
        ⟨fun zv zw => ∃ (g_10 : Nat), zv = .slice (some ⟨g_10, 0, none⟩) 1 1 ∧ wc.heap.size ≤ g_10 ∧ Blk zw g_10 9 #[.string ⟨idv.toArray⟩], (by rintro zv zw zx ⟨g_10, rfl, c0, q0⟩ hm; exact ⟨g_10, rfl, c0, (q0.modp hm)⟩), none, some 11⟩,
        ⟨fun zv zw => ∃ (g_11 : Nat) (c_11 : Nat), zv = .slice (some ⟨g_11, 0, none⟩) (ids.length + 1) c_11 ∧ FoPre zw base gf cf bl fs0 t (.slice Ai ids.length ci) ids idv (.slice (some ⟨g_11, 0, none⟩) (ids.length + 1) c_11), (by rintro zv zw zx ⟨g_11, c_11, rfl, q0⟩ hm; exact ⟨g_11, c_11, rfl, (q0.pure hm)⟩), none, some 14⟩,
        .is (.pointer (some ⟨gf, fs0.length * 2, none⟩)),
        .is (.pointer (some ⟨gf, fs0.length * 2 + 1, none⟩)),
        ⟨fun zv zw => zv = undef ∧ FoNew zw base gf cf fs0 t ids idv, (by rintro zv zw zx ⟨rfl, q0⟩ hm; exact ⟨rfl, (q0.pure hm)⟩), none, none⟩]
        (PB w3 (fun _ => False) wc.heap.size (fun D zq => (D 11 = false → (fun Z => FoLast Z base gf cf bl fs0 t (.slice Ai ids.length ci) ids) zq) ∧ (fun Z => Z.cell? ⟨gc, 0, none⟩ = some (.slice (some ⟨g, off, none⟩) l.length c) ∧ Z.cell? ⟨g, off + i * 7, none⟩ = some (.string ⟨idv.toArray⟩)) zq))) (InvF.start (PB.start HMC.out (Nat.le_refl _) (⟨fun _ => HL.out.pure ((Mod.refl _ _).drew), ⟨q3, q4⟩⟩))) ?_ ?_
      ·refine .cons ?_ (.cons ?_ (.cons ?_ (.cons ?_ (.cons ?_ (.cons ?_ (.cons ?_ (.cons ?_ (.cons ?_ (.cons ?_ (.cons ?_ (.cons ?_ (.cons ?_ (.cons ?_ (.cons ?_ .nil))))))))))))))
       ·intro D V zw1 a hR hI K hK;obtain ⟨hM1, hB1, hG1⟩ := hI.1;obtain ⟨hGK, hG1⟩ := hG1;obtain ⟨hG1a, hG1b⟩ := hG1;have ze9 := hR.frame.other (t := 9) (by kernel_rfl) rfl;rw [if_pos (by rfl)];go_simp;exact hK (.pointer (some ⟨gf, fs0.length * 2, none⟩)) _ (hI.next hR (by kernel_rfl) (Mod.refl _ _) (PB.quiet hI.1 (Mod.refl _ _) (HGs.out D 0 zw1 zw1 (by omega) (hI.1).g (Mod.refl _ _))) (upd_same V 0 _))
       ·intro D V zw1 a hR hI K hK;obtain ⟨hM1, hB1, hG1⟩ := hI.1;obtain ⟨hGK, hG1⟩ := hG1;obtain ⟨hG1a, hG1b⟩ := hG1;have ze9 := hR.frame.other (t := 9) (by kernel_rfl) rfl;rw [if_pos (by rfl)];go_simp;exact hK (.pointer (some ⟨gf, fs0.length * 2, none⟩)) _ (hI.next hR (by kernel_rfl) (Mod.refl _ _) (PB.quiet hI.1 (Mod.refl _ _) (HGs.out D 1 zw1 zw1 (by omega) (hI.1).g (Mod.refl _ _))) (upd_same V 1 _))
       ·intro D V zw1 a hR hI K hK;obtain ⟨hM1, hB1, hG1⟩ := hI.1;obtain ⟨hGK, hG1⟩ := hG1;obtain ⟨hG1a, hG1b⟩ := hG1;have zd1 := hR.pred 1 (by kernel_rfl);have zf1 : V 1 = .pointer (some ⟨gf, fs0.length * 2, none⟩) := hI.2 1 zd1 rfl;have ze54 := hR.frame.done (t := 54) (j := 1) (by kernel_rfl) hR.ok zd1;rw [if_pos (by rfl)];go_simp;exact hK (.pointer (some ⟨gf, fs0.length * 2, none⟩)) _ (hI.next hR (by kernel_rfl) (Mod.refl _ _) (PB.quiet hI.1 (Mod.refl _ _) (HGs.out D 2 zw1 zw1 (by omega) (hI.1).g (Mod.refl _ _))) (upd_same V 2 _))
       ·intro D V zw1 a hR hI K hK;obtain ⟨hM1, hB1, hG1⟩ := hI.1;obtain ⟨hGK, hG1⟩ := hG1;obtain ⟨hG1a, hG1b⟩ := hG1;have zd2 := hR.pred 2 (by kernel_rfl);have zf2 : V 2 = .pointer (some ⟨gf, fs0.length * 2, none⟩) := hI.2 2 zd2 rfl;have ze55 := hR.frame.done (t := 55) (j := 2) (by kernel_rfl) hR.ok zd2;rw [if_pos (by rfl)];go_simp;exact hK (.pointer (some ⟨gf, fs0.length * 2 + 1, none⟩)) _ (hI.next hR (by kernel_rfl) (Mod.refl _ _) (PB.quiet hI.1 (Mod.refl _ _) (HGs.out D 3 zw1 zw1 (by omega) (hI.1).g (Mod.refl _ _))) (upd_same V 3 _))
       ·intro D V zw1 a hR hI K hK;obtain ⟨hM1, hB1, hG1⟩ := hI.1;obtain ⟨hGK, hG1⟩ := hG1;obtain ⟨hG1a, hG1b⟩ := hG1;have zd3 := hR.pred 3 (by kernel_rfl);have zf3 : V 3 = .pointer (some ⟨gf, fs0.length * 2 + 1, none⟩) := hI.2 3 zd3 rfl;have ze56 := hR.frame.done (t := 56) (j := 3) (by kernel_rfl) hR.ok zd3;have zx0 := (hGK (hR.later 11 rfl (by kernel_rfl))).cell;rw [if_pos (by rfl)];go_simp;exact hK (.slice Ai ids.length ci) _ (hI.next hR (by kernel_rfl) (Mod.refl _ _) (PB.quiet hI.1 (Mod.refl _ _) (HGs.out D 4 zw1 zw1 (by omega) (hI.1).g (Mod.refl _ _))) (upd_same V 4 _))
       ·intro D V zw1 a hR hI K hK;obtain ⟨hM1, hB1, hG1⟩ := hI.1;obtain ⟨hGK, hG1⟩ := hG1;obtain ⟨hG1a, hG1b⟩ := hG1;have ze1 := hR.frame.other (t := 1) (by kernel_rfl) rfl;have zx0 := hG1a;rw [if_pos (by rfl)];go_simp;exact hK (.slice (some ⟨g, off, none⟩) l.length c) _ (hI.next hR (by kernel_rfl) (Mod.refl _ _) (PB.quiet hI.1 (Mod.refl _ _) (HGs.out D 5 zw1 zw1 (by omega) (hI.1).g (Mod.refl _ _))) (upd_same V 5 _))
       ·intro D V zw1 a hR hI K hK;obtain ⟨hM1, hB1, hG1⟩ := hI.1;obtain ⟨hGK, hG1⟩ := hG1;obtain ⟨hG1a, hG1b⟩ := hG1;have ze8 := hR.frame.other (t := 8) (by kernel_rfl) rfl;rw [if_pos (by rfl)];go_simp;exact hK (.int .i64 (i : Int)) _ (hI.next hR (by kernel_rfl) (Mod.refl _ _) (PB.quiet hI.1 (Mod.refl _ _) (HGs.out D 6 zw1 zw1 (by omega) (hI.1).g (Mod.refl _ _))) (upd_same V 6 _))
       ·intro D V zw1 a hR hI K hK;obtain ⟨hM1, hB1, hG1⟩ := hI.1;obtain ⟨hGK, hG1⟩ := hG1;obtain ⟨hG1a, hG1b⟩ := hG1;have zd5 := hR.pred 5 (by kernel_rfl);have zf5 : V 5 = .slice (some ⟨g, off, none⟩) l.length c := hI.2 5 zd5 rfl;have zd6 := hR.pred 6 (by kernel_rfl);have zf6 : V 6 = .int .i64 (i : Int) := hI.2 6 zd6 rfl;have ze58 := hR.frame.done (t := 58) (j := 5) (by kernel_rfl) hR.ok zd5;have ze59 := hR.frame.done (t := 59) (j := 6) (by kernel_rfl) hR.ok zd6;rw [if_pos (by rfl)];go_simp;exact hK (.pointer (some ⟨g, off + i * 7, none⟩)) _ (hI.next hR (by kernel_rfl) (Mod.refl _ _) (PB.quiet hI.1 (Mod.refl _ _) (HGs.out D 7 zw1 zw1 (by omega) (hI.1).g (Mod.refl _ _))) (upd_same V 7 _))
       ·intro D V zw1 a hR hI K hK;obtain ⟨hM1, hB1, hG1⟩ := hI.1;obtain ⟨hGK, hG1⟩ := hG1;obtain ⟨hG1a, hG1b⟩ := hG1;have zd7 := hR.pred 7 (by kernel_rfl);have zf7 : V 7 = .pointer (some ⟨g, off + i * 7, none⟩) := hI.2 7 zd7 rfl;have ze60 := hR.frame.done (t := 60) (j := 7) (by kernel_rfl) hR.ok zd7;rw [if_pos (by rfl)];go_simp;exact hK (.pointer (some ⟨g, off + i * 7, none⟩)) _ (hI.next hR (by kernel_rfl) (Mod.refl _ _) (PB.quiet hI.1 (Mod.refl _ _) (HGs.out D 8 zw1 zw1 (by omega) (hI.1).g (Mod.refl _ _))) (upd_same V 8 _))
       ·intro D V zw1 a hR hI K hK;obtain ⟨hM1, hB1, hG1⟩ := hI.1;obtain ⟨hGK, hG1⟩ := hG1;obtain ⟨hG1a, hG1b⟩ := hG1;have zd8 := hR.pred 8 (by kernel_rfl);have zf8 : V 8 = .pointer (some ⟨g, off + i * 7, none⟩) := hI.2 8 zd8 rfl;have ze61 := hR.frame.done (t := 61) (j := 8) (by kernel_rfl) hR.ok zd8;have zx0 := hG1b;rw [if_pos (by rfl)];go_simp;exact hK (.string ⟨idv.toArray⟩) _ (hI.next hR (by kernel_rfl) (Mod.refl _ _) (PB.quiet hI.1 (Mod.refl _ _) (HGs.out D 9 zw1 zw1 (by omega) (hI.1).g (Mod.refl _ _))) (upd_same V 9 _))
       ·intro D V zw1 a hR hI K hK;obtain ⟨hM1, hB1, hG1⟩ := hI.1;obtain ⟨hGK, hG1⟩ := hG1;obtain ⟨hG1a, hG1b⟩ := hG1;have zd9 := hR.pred 9 (by kernel_rfl);have zf9 : V 9 = .string ⟨idv.toArray⟩ := hI.2 9 zd9 rfl;have ze62 := hR.frame.done (t := 62) (j := 9) (by kernel_rfl) hR.ok zd9;rw [if_pos (by rfl)];go_simp;exact hK (_) _ (hI.next hR (by kernel_rfl) ((Mod.refl _ _).alloc _) (PB.quiet hI.1 (pure_alloc _ _) (HGs.out D 10 _ _ (by omega) (hI.1).g ((Mod.refl _ _).alloc _))) (⟨_, upd_same V 10 _, (by omega), (Blk.new _ _ _)⟩))
       ·intro D V zw1 a hR hI K hK;obtain ⟨hM1, hB1, hG1⟩ := hI.1;obtain ⟨hGK, hG1⟩ := hG1;obtain ⟨hG1a, hG1b⟩ := hG1;have zd4 := hR.pred 4 (by kernel_rfl);have zf4 : V 4 = .slice Ai ids.length ci := hI.2 4 zd4 rfl;have zd10 := hR.pred 10 (by kernel_rfl);have zF10 : ∃ (g_10 : Nat), V 10 = .slice (some ⟨g_10, 0, none⟩) 1 1 ∧ wc.heap.size ≤ g_10 ∧ Blk zw1 g_10 9 #[.string ⟨idv.toArray⟩] := hI.2 10 zd10 (by show (!D 11) = true; rw [hR.not]; rfl);obtain ⟨g_10, zf10, c10_0, b10_0⟩ := zF10;have ze57 := hR.frame.done (t := 57) (j := 4) (by kernel_rfl) hR.ok zd4;have ze63 := hR.frame.done (t := 63) (j := 10) (by kernel_rfl) hR.ok zd10;rw [if_pos (by rfl)];have hown := (hGK hR.not).own;refine wp_append_lies _ (.tmp 57) (.tmp 63) 29 (by rfl) bl 9 i0 _ 1 16 Tryz.underlying29 hi0 hz0 hz1 hz2 (by rfl) (by omega) (.slice Ai ids.length ci) (ids.length) (strsV ids) ?_ hown ⟨g_10, 0, none⟩ 1 1 [.string ⟨idv.toArray⟩] ?_ (by rfl) (World.news_of_block (cs := #[.string ⟨idv.toArray⟩]) (t := 9) (fr := (0, 0)) b10_0) (by simp [Value.oneCell']) (by omega) (by simp [maxLen]; omega) (by omega) (by omega) zw1.heap.size rfl ?_
        ·show a.tmps.getD 57 undef = _; simp [ze57, zf4]
        ·show a.tmps.getD 63 undef = _; simp [ze63, zf10]
        intro g5 cap5 zw2 hown5 hgrow hat hlt5;have hT := mod_grown hgrow;have hTb : ∀ j, (.slice Ai ids.length ci : Value).ownBlock = some j → bl ≤ j := own_block hown;have hTl : ∀ j, (.slice Ai ids.length ci : Value).ownBlock = some j → j < wc.heap.size := HOL.out;refine hK _ _ (InvF.last (PB.writes hI.1 (fun j hj hl => by have := hTb j hj; omega) hT ⟨fun hs => absurd hs (by rw [upd_same]; decide), ⟨hT.keep hG1a (fun h => by have h3 : bl ≤ gc := hTb _ h; omega), hT.keep hG1b (fun h => by have h3 : bl ≤ g := hTb _ h; omega)⟩⟩) ⟨_, _, upd_same V 11 _, ⟨_, _, hGK hR.not, hgrow, rfl, hown5⟩⟩ ?_);intro k hk hDk hlv;have hkl := hR.lt k hDk;have hv := hI.2 k hDk (liveB_of hlv)
        match k, hk, hDk, hlv, hkl, hv with
        | 0, _, _, _, _, hv => exact hv
        | 1, _, _, _, _, hv => exact hv
        | 2, _, _, _, _, hv => exact hv
        | 3, _, _, _, _, hv => exact hv
        | 4, _, _, _, _, hv => exact hv
        | 5, _, _, _, _, hv => exact hv
        | 6, _, _, _, _, hv => exact hv
        | 7, _, _, _, _, hv => exact hv
        | 8, _, _, _, _, hv => exact hv
        | 9, _, _, _, _, hv => exact hv
        | 10, _, _, hlv, _, _ => exact absurd hlv (by show ¬ (!upd D 11 true 11) = true; rw [upd_same]; decide)
        | 11, hk, _, _, _, _ => exact absurd rfl hk
        | 12, _, _, _, _, hv => exact hv
        | 13, _, _, _, _, hv => exact hv
        | 14, _, hDk, _, _, _ => exact absurd hDk (by rw [hR.later 14 rfl (by kernel_rfl)]; decide)
        | k + 15, _, _, _, hkl, _ => exact absurd hkl (by simp)
       ·intro D V zw1 a hR hI K hK;obtain ⟨hM1, hB1, hG1⟩ := hI.1;obtain ⟨hGK, hG1⟩ := hG1;obtain ⟨hG1a, hG1b⟩ := hG1;have zd0 := hR.pred 0 (by kernel_rfl);have zf0 : V 0 = .pointer (some ⟨gf, fs0.length * 2, none⟩) := hI.2 0 zd0 rfl;have ze53 := hR.frame.done (t := 53) (j := 0) (by kernel_rfl) hR.ok zd0;rw [if_pos (by rfl)];go_simp;exact hK (.pointer (some ⟨gf, fs0.length * 2, none⟩)) _ (hI.next hR (by kernel_rfl) (Mod.refl _ _) (PB.quiet hI.1 (Mod.refl _ _) (HGs.out D 12 zw1 zw1 (by omega) (hI.1).g (Mod.refl _ _))) (upd_same V 12 _))
       ·intro D V zw1 a hR hI K hK;obtain ⟨hM1, hB1, hG1⟩ := hI.1;obtain ⟨hGK, hG1⟩ := hG1;obtain ⟨hG1a, hG1b⟩ := hG1;have zd12 := hR.pred 12 (by kernel_rfl);have zf12 : V 12 = .pointer (some ⟨gf, fs0.length * 2, none⟩) := hI.2 12 zd12 rfl;have ze65 := hR.frame.done (t := 65) (j := 12) (by kernel_rfl) hR.ok zd12;rw [if_pos (by rfl)];go_simp;exact hK (.pointer (some ⟨gf, fs0.length * 2 + 1, none⟩)) _ (hI.next hR (by kernel_rfl) (Mod.refl _ _) (PB.quiet hI.1 (Mod.refl _ _) (HGs.out D 13 zw1 zw1 (by omega) (hI.1).g (Mod.refl _ _))) (upd_same V 13 _))
       ·intro D V zw1 a hR hI K hK;obtain ⟨hM1, hB1, hG1⟩ := hI.1;obtain ⟨hGK, hG1⟩ := hG1;obtain ⟨hG1a, hG1b⟩ := hG1;have zd13 := hR.pred 13 (by kernel_rfl);have zf13 : V 13 = .pointer (some ⟨gf, fs0.length * 2 + 1, none⟩) := hI.2 13 zd13 rfl;have zd11 := hR.pred 11 (by kernel_rfl);have zF11 : ∃ (g_11 : Nat) (c_11 : Nat), V 11 = .slice (some ⟨g_11, 0, none⟩) (ids.length + 1) c_11 ∧ FoPre zw1 base gf cf bl fs0 t (.slice Ai ids.length ci) ids idv (.slice (some ⟨g_11, 0, none⟩) (ids.length + 1) c_11) := hI.2 11 zd11 (by show (!D 14) = true; rw [hR.not]; rfl);obtain ⟨g_11, c_11, zf11, b11_0⟩ := zF11;have ze66 := hR.frame.done (t := 66) (j := 13) (by kernel_rfl) hR.ok zd13;have ze64 := hR.frame.done (t := 64) (j := 11) (by kernel_rfl) hR.ok zd11;rw [if_pos (by rfl)];have hP := b11_0;have zx0 := hP.cell;have zy0 : zw1.frozen? ⟨gf, fs0.length * 2 + 1, none⟩ = false := hP.outs.frozenAt _;have hSt := hP.store;go_simp;refine hK undef _ (InvF.last ⟨hM1.setCell (.inr (by show _ ≤ gf; omega)) _, (by simpa using hB1), ⟨fun hs => absurd hs (by rw [upd_ne _ _ (by omega), hR.pred 11 (by kernel_rfl)]; decide), ⟨cell_far hG1a (by show gf ≠ gc; omega), cell_far hG1b (by show gf ≠ g; omega)⟩⟩⟩ ⟨upd_same _ 14 _, _, hSt⟩ ?_);intro k hk hDk hlv;have hkl := hR.lt k hDk;have hv := hI.2 k hDk (liveB_of hlv)
        match k, hk, hDk, hlv, hkl, hv with
        | 0, _, _, _, _, hv => exact hv
        | 1, _, _, _, _, hv => exact hv
        | 2, _, _, _, _, hv => exact hv
        | 3, _, _, _, _, hv => exact hv
        | 4, _, _, _, _, hv => exact hv
        | 5, _, _, _, _, hv => exact hv
        | 6, _, _, _, _, hv => exact hv
        | 7, _, _, _, _, hv => exact hv
        | 8, _, _, _, _, hv => exact hv
        | 9, _, _, _, _, hv => exact hv
        | 10, _, _, hlv, _, _ => exact absurd hlv (by show ¬ (!upd D 14 true 11) = true; rw [upd_ne _ _ (by omega), hR.pred 11 (by kernel_rfl)]; decide)
        | 11, _, _, hlv, _, _ => exact absurd hlv (by show ¬ (!upd D 14 true 14) = true; rw [upd_same]; decide)
        | 12, _, _, _, _, hv => exact hv
        | 13, _, _, _, _, hv => exact hv
        | 14, hk, _, _, _, _ => exact absurd rfl hk
        | k + 15, _, _, _, hkl, _ => exact absurd hkl (by simp)
      ·intro D V w7 hD hI;obtain ⟨hM1, hB1, hG1⟩ := hI.1;have hMx := hM1;clear hM1;have hBx := hB1;clear hB1;have hGx := hG1.2;clear hG1;have zf0 : V 0 = .pointer (some ⟨gf, fs0.length * 2, none⟩) := hI.2 0 (hD 0 (by decide)) rfl;have zf1 : V 1 = .pointer (some ⟨gf, fs0.length * 2, none⟩) := hI.2 1 (hD 1 (by decide)) rfl;have zf2 : V 2 = .pointer (some ⟨gf, fs0.length * 2, none⟩) := hI.2 2 (hD 2 (by decide)) rfl;have zf3 : V 3 = .pointer (some ⟨gf, fs0.length * 2 + 1, none⟩) := hI.2 3 (hD 3 (by decide)) rfl;have zf4 : V 4 = .slice Ai ids.length ci := hI.2 4 (hD 4 (by decide)) rfl;have zf5 : V 5 = .slice (some ⟨g, off, none⟩) l.length c := hI.2 5 (hD 5 (by decide)) rfl;have zf6 : V 6 = .int .i64 (i : Int) := hI.2 6 (hD 6 (by decide)) rfl;have zf7 : V 7 = .pointer (some ⟨g, off + i * 7, none⟩) := hI.2 7 (hD 7 (by decide)) rfl;have zf8 : V 8 = .pointer (some ⟨g, off + i * 7, none⟩) := hI.2 8 (hD 8 (by decide)) rfl;have zf9 : V 9 = .string ⟨idv.toArray⟩ := hI.2 9 (hD 9 (by decide)) rfl;have zf12 : V 12 = .pointer (some ⟨gf, fs0.length * 2, none⟩) := hI.2 12 (hD 12 (by decide)) rfl;have zf13 : V 13 = .pointer (some ⟨gf, fs0.length * 2 + 1, none⟩) := hI.2 13 (hD 13 (by decide)) rfl;have zF14 : V 14 = undef ∧ FoNew w7 base gf cf fs0 t ids idv := hI.2 14 (hD 14 (by decide)) rfl;obtain ⟨zf14, b14_0⟩ := zF14;clear hI hD HGs;simp only [frAll, Act.put, List.setIfInBounds_toArray, List.set_cons_zero, List.set_cons_succ, Nat.zero_add, Nat.reduceAdd, zf0, zf1, zf2, zf3, zf4, zf5, zf6, zf7, zf8, zf9, zf12, zf13, zf14];clear zf0 zf1 zf2 zf3 zf4 zf5 zf6 zf7 zf8 zf9 zf12 zf13 zf14;generalize V 10 = u10;generalize V 11 = u11;clear V D;obtain ⟨v5, hFN⟩ := b14_0;have hsz7 := hMx.size;have HFO := Lib.hid hFN;have HMX := Lib.hid hMx;clear hFN hMx
       go_wp2_with fail
       go_roundg ((allI l).length - (k + 1))
       case measure => omega
       case rel =>
        refine ⟨k + 1, fs0 ++ [(t, v5, ids ++ [idv])], some ⟨gf, 0, none⟩, cf, rfl, by omega, by simp, by simp, ?_, by simpa using HFO.out, HMX.out, by omega⟩;rw [← HEQ.out, HII.out];simp [fmS]
    ·obtain rfl : k = (allI l).length := by omega
     have HFO := Lib.hid hown;have HHM := Lib.hid hm;have HFS : Hid (fmS fs = famsS l) := Lib.hid (by rw [hfs, foldK_all]);clear hown hm hfs
     go_wp2_with fail
     go_ret;exact ⟨_, fs, rfl, HFO.out.fm, HFS.out, HP3.out.trans HHM.out⟩
end Go.Proofs.YtgfgggeeoeppjaaGreatDoor
/- slices.Equal over strings: the same lists. -/
namespace Go.Proofs.YtgfgggeeoeppjaaGreatDoor
open Go.RowKit
end Go.Proofs.YtgfgggeeoeppjaaGreatDoor
/- Equal families. -/
namespace Go.Proofs.YtgfgggeeoeppjaaGreatDoor
open Go.RowKit
theorem FmR.at {w : World} {A : Option Addr} {n c : Nat} {xs : List Fm} (h : FmR w (.slice A n c) xs) {k : Nat} (hk : k < xs.length) :
  ∃ g off B m d, A = some ⟨g, off, none⟩ ∧ w.cell? ⟨g, off + k * 2, none⟩ = some (.string ⟨xs[k].1.toArray⟩) ∧ w.cell? ⟨g, off + k * 2 + 1, none⟩ = some (.slice B m d) ∧ xs[k].2.1 = .slice B m d ∧ Sl w 9 1 (.slice B m d) (strsV xs[k].2.2) := by
 have hs := h.2 _ (List.getElem_mem hk);obtain ⟨B, m, d, hu⟩ := hs.form;obtain ⟨A', n', c', hf, _, _, hl, hr⟩ := h.1
 injection hf with e1 e2 e3
 subst e1 e2 e3;rw [fmV_len] at hl;obtain ⟨g, off, rfl, hrow⟩ := hr (by omega);obtain ⟨g1, g2⟩ := fmV_get xs k hk;refine ⟨g, off, B, m, d, rfl, hrow.cell g1, ?_, hu, by rw [← hu]; exact hs⟩;have := hrow.cell g2;rw [hu] at this;exact this
theorem FmR.len {w : World} {A : Option Addr} {n c : Nat} {xs : List Fm} (h : FmR w (.slice A n c) xs) : xs.length = n ∧ n ≤ 9223372036854775807 := by
 obtain ⟨A', n', c', hf, h4, h5, hl, _⟩ := h.1
 injection hf with e1 e2 e3
 rw [fmV_len] at hl
 omega
end Go.Proofs.YtgfgggeeoeppjaaGreatDoor
/- WholeOf of the reference. -/
namespace Go.Proofs.YtgfgggeeoeppjaaGreatDoor
open Go.RowKit
set_option maxHeartbeats 1000000 in
theorem indexSq_calls (w : World) (v : Value) (xs : List Str) (y : Str) (hv : Sl w 9 1 v (strsV xs)) : Calls Tryz.prog 77 #[v, .string ⟨y.toArray⟩] w (IntPost w (idxQ (fun x => y == x) xs 0)) := by
 obtain ⟨A, n, c, rfl, hc1, hc2, hl, hr⟩ := hv
 have hln : xs.length = n := by rw [strsV_len] at hl; omega
 subst hln;have HR := Lib.hid hr;clear hl hr
 go_enter Tryz.func77, Tryz.ntmps77
 go_wp2_with fail
 go_loopg [8] xs.length (fun gk i wr => ∃ k : Nat, xs.length - k = gk ∧ k ≤ xs.length ∧ i = .int .i64 (k : Int) ∧ idxQ (fun x => y == x) xs 0 = idxQ (fun x => y == x) (xs.drop k) (k : Int) ∧ w = wr)
 case atStart => exact ⟨0, by omega, by omega, rfl, rfl, rfl⟩
 case round =>
  obtain ⟨k, rfl, hk, rfl, hix, rfl⟩ := hrel;have HIX := Lib.hid hix;clear hix
  by_cases hlt : k < xs.length
  ·obtain ⟨g, off, rfl, hrow⟩ := HR.out (by omega);have hq := hrow.cell (strsV_get xs k hlt);have hd : xs.drop k = xs[k] :: xs.drop (k + 1) := List.drop_eq_getElem_cons hlt
   have hi2 : idxQ (fun x => y == x) xs 0 = if (fun x => y == x) xs[k] then (k : Int) else idxQ (fun x => y == x) (xs.drop (k + 1)) ((k : Int) + 1) := by rw [HIX.out, hd]; rfl
   have HI2 := Lib.hid hi2;clear hd hi2 hrow HIX;generalize xs[k] = x at *
   have heq : (y == x) = (y == x) := by first | rfl | (exact Bool.eq_iff_iff.2 (by simp; try omega))
   cases hp : (y == x)
   ·have hp2 := heq.trans hp;have HP := Lib.hid hp;clear hp heq
    go_wp2_with fail
    go_roundg (xs.length - (k + 1))
    case measure => omega
    case rel => exact ⟨k + 1, rfl, hlt, by simp, by rw [HI2.out]; simp only [HP.out]; simp, rfl⟩
   ·have hp2 := heq.trans hp;have HP := Lib.hid hp;clear hp heq
    go_wp2_with fail
    go_ret;exact IntPost.of (by rw [HI2.out]; simp only [HP.out]; simp) (Mod.refl _ _)
  ·have hke : k = xs.length := by omega
   subst hke
   go_wp2_with fail
   go_ret;exact IntPost.of (by rw [HIX.out, List.drop_of_length_le (Nat.le_refl _)]; rfl) (Mod.refl _ _)
set_option maxHeartbeats 1000000 in
theorem containsSq_calls (w : World) (v : Value) (xs : List Str) (y : Str) (hv : Sl w 9 1 v (strsV xs)) : Calls Tryz.prog 48 #[v, .string ⟨y.toArray⟩] w (BoolPost w (xs.any (fun x => y == x))) := by
 have HC := Lib.hid (indexSq_calls w v xs y hv);have HI := Lib.hid (idxQ_any (fun x => y == x) xs 0 (by omega));obtain ⟨A, n, c, rfl⟩ := hv.form;clear hv
 go_enter Tryz.func48, Tryz.ntmps48
 go_wp2_with fail
 refine HC.out.mono ?_;rintro e w1 ⟨rfl, hm1⟩;generalize idxQ (fun x => y == x) xs 0 = r at *
 go_wp2_with fail
 go_ret;exact BoolPost.of HI.out.symm hm1
theorem any_eq_mem (s : Str) (ids : List Str) : (ids.any fun x => s == x) = decide (s ∈ ids) := by
 rw [Bool.eq_iff_iff, decide_eq_true_eq, List.any_eq_true]
 constructor
 ·rintro ⟨x, hx, h⟩;rw [beq_iff_eq] at h;subst h;exact hx
 ·intro h;exact ⟨s, h, by simp⟩
end Go.Proofs.YtgfgggeeoeppjaaGreatDoor
/- FamilyOf, ChildrenOf, DepthOf of the reference. -/
namespace Go.Proofs.YtgfgggeeoeppjaaGreatDoor
open Go.RowKit
def RFmPost (w : World) (l : List Itm) (id : Str) (e : Ending) (w' : World) : Prop :=
 ∃ (A : Option Addr) (n c : Nat), e = .returned (.agg #[.string ⟨(idAt2 l (tpI l (idxId l id))).toArray⟩, .slice A n c]) ∧ Sl w' 9 1 (.slice A n c) (strsV (fmB l id)) ∧ Pure w w'
theorem Right.fam_has {l : List Itm} (h : Right l) {id : Str} (hi : idxId l id < l.length) (hie : l[idxId l id].id = id) {k : Nat} (hk : k < (famsS l).length) (hk2 : k < (topsI l).length) :
  id ∈ (famsS l)[k].2 ↔ (topsI l)[k] = tpI l (idxId l id) := by
 have e : (famsS l)[k].2 = belS l 4 (topsI l)[k] := by simp [famsS]
 rw [e];have ht : (topsI l)[k] ∈ topsI l := List.getElem_mem hk2;unfold belS;rw [List.mem_map]
 constructor
 ·rintro ⟨x, hx, he⟩;obtain ⟨hxl, hxt⟩ := (h.bel_top ht).1 hx;have : x = idxId l id := h.id2_inj hxl hi (by rw [he, idAt2_eq hi, hie]);rw [← hxt, this]
 ·intro he;exact ⟨idxId l id, (h.bel_top ht).2 ⟨hi, he.symm⟩, by rw [idAt2_eq hi, hie]⟩
def RfRel (w : World) (g4 : Nat) (l : List Itm) (id : Str) (gk : Nat) (i : Value) (wr : World) : Prop :=
 ∃ k : Nat, (famsS l).length - k = gk ∧ k ≤ (famsS l).length ∧ i = .int .i64 (k : Int) ∧ (∀ j (hj : j < (famsS l).length), j < k → id ∉ (famsS l)[j].2) ∧ Blk wr g4 90 #[.string ⟨#[]⟩, .slice none 0 0] ∧ Pure w wr
set_option maxHeartbeats 8000000 in
theorem rfamilyOf_calls (w : World) (v : Value) (l : List Itm) (id : Str) (hv : Its w v l) (hR : Right l) (hl : l.length ≤ 12) (hi : idxId l id < l.length) (hie : l[idxId l id].id = id) : Calls Tryz.prog 52 #[v, .string ⟨id.toArray⟩] w (RFmPost w l id) := by
 have hp := pure_alloc w (.cells #[.string ⟨#[]⟩, .slice none 0 0] 90);have HFO := Lib.hid (familiesOf_calls _ v l (hv.pure hp) hR hl);have HB := Lib.hid (Blk.new w 90 #[.string ⟨#[]⟩, .slice none 0 0]);have HP := Lib.hid hp
 have hfl : (famsS l).length = (topsI l).length := by simp [famsS]
 have HH : Hid (∀ k (hk : k < (famsS l).length) (hk2 : k < (topsI l).length), id ∈ (famsS l)[k].2 ↔ (topsI l)[k] = tpI l (idxId l id)) := Lib.hid (fun k hk hk2 => hR.fam_has hi hie hk hk2);have HTM := Lib.hid (hR.tpI_mem hi);obtain ⟨A, n, c, rfl⟩ := Sl.form hv;clear hv hR hi hie hp
 go_enter Tryz.func52, Tryz.ntmps52
 go_wp2_with fail
 obtain ⟨g4, hg4⟩ : ∃ g4, g4 = w.heap.size := ⟨_, rfl⟩;have hg1 := Nat.le_of_eq hg4;have hg2 := Nat.le_of_eq hg4.symm;rw [← hg4] at HB ⊢;clear hg4;generalize (w.alloc (.cells #[.string ⟨#[]⟩, .slice none 0 0] 90)) = W at *;refine HFO.out.mono ?_;rintro e w1 ⟨v1, fs, rfl, hfm, hfs, m1⟩;obtain ⟨Af, nf, cf, rfl⟩ := hfm.1.form;have hnf := hfm.len.1;subst hnf;have HF1 : Hid (∀ W, Pure w1 W → FmR W (.slice Af fs.length cf) fs) := Lib.hid (fun W h => hfm.pure h)
 have hfl2 : (famsS l).length = fs.length := by rw [← hfs]; simp [fmS]
 have HFS := Lib.hid hfs;have hfl3 := Nat.le_of_eq hfl2;have hfl4 := Nat.le_of_eq hfl2.symm;have hfl5 := Nat.le_of_eq hfl;have hfl6 := Nat.le_of_eq hfl.symm
 have hfb : (topsI l).length ≤ 12 := by
  unfold topsI;exact Nat.le_trans (List.length_filter_le _ _) (by simp; omega)
 have HB1 := Lib.hid (HB.out.mod m1 _root_.id);have HM1 := Lib.hid (HP.out.trans m1);clear HFO HB HP hfm hfs m1 hfl2 hfl
 go_wp2_with fail
 go_loopg [10] (famsS l).length (fun gk i wr => RfRel w1 g4 l id gk i wr)
 case atStart => exact ⟨0, by omega, by omega, rfl, fun j _ hj => absurd hj (by omega), HB1.out, Mod.refl _ _⟩
 case round =>
  clear HB1;obtain ⟨k, rfl, hk, rfl, hno, hB, hm⟩ := hrel;have HNO := Lib.hid hno;clear hno
  by_cases hlt : k < (famsS l).length
  ·have hkf : k < fs.length := by omega
   have hkt : k < (topsI l).length := by omega
   obtain ⟨g, off, B, m, d, rfl, q1, q2, _, s1⟩ := (HF1.out wr hm).at hkf
   have hfe : (famsS l)[k] = (fs[k].1, fs[k].2.2) := by
    have := congrArg (fun x => x[k]?) HFS.out
    simpa [fmS, hkf, hlt] using this.symm
   have hfe2 : (famsS l)[k] = (idAt2 l (topsI l)[k], belS l 4 (topsI l)[k]) := by simp [famsS]
   have HHK := HH.out k hlt hkt;rw [hfe] at HHK;have HHK := Lib.hid HHK
   have HNK : Hid (id ∉ fs[k].2.2 → ∀ j (hj : j < (famsS l).length), j < k + 1 → id ∉ (famsS l)[j].2) := Lib.hid (fun h j hj hjk => by
    rcases Nat.lt_or_ge j k with h2 | h2
    ·exact HNO.out j hj h2
    ·have : j = k := by omega
     subst this;rw [hfe]
     exact h)
   have HF1K : Hid (fs[k].1 = idAt2 l (topsI l)[k] ∧ fs[k].2.2 = belS l 4 (topsI l)[k]) := Lib.hid (by
    rw [hfe] at hfe2
    injection hfe2 with h1 h2
    exact ⟨h1, h2⟩)
   have hp2 := pure_alloc wr (.cells #[.string ⟨fs[k].1.toArray⟩, .slice B m d] 90);have HCC := Lib.hid (containsSq_calls _ (.slice B m d) fs[k].2.2 id (s1.pure hp2));rw [any_eq_mem] at HCC;have HS2 := Lib.hid (s1.pure hp2);have HB2 := Lib.hid (Blk.new wr 90 #[.string ⟨fs[k].1.toArray⟩, .slice B m d]);have HB4 := Lib.hid (hB.alloc (.cells #[.string ⟨fs[k].1.toArray⟩, .slice B m d] 90));have HM2 := Lib.hid (hm.trans hp2);have hg4l : g4 < wr.heap.size := hB.lt;clear hfe hfe2 HNO hp2 s1 hB hm;generalize fs[k].1 = fa at *;generalize fs[k].2.2 = fb at *;obtain ⟨bd, hbd⟩ : ∃ bd, decide (id ∈ fb) = bd := ⟨_, rfl⟩;rw [hbd] at HCC;have HBD := Lib.hid hbd;clear hbd
   go_wp2_with fail
   refine HCC.out.mono ?_;rintro e w3 ⟨rfl, m3⟩;have hB3 := HB2.out.mod m3 _root_.id;have hB4 := HB4.out.mod m3 _root_.id;have HM3 := Lib.hid (HM2.out.trans m3);have hS3 := HS2.out.pure m3;have HB43 := Lib.hid hB4;generalize wr.heap.size = gx at *
   cases bd
   ·have HN := Lib.hid (HNK.out (of_decide_eq_false HBD.out));clear HCC HB2 HB4 HM2 m3 hB3 hB4 HS2 HNK HF1K HHK HBD hS3
    go_wp2_with fail
    go_roundg ((famsS l).length - (k + 1))
    case measure => omega
    case rel => exact ⟨k + 1, rfl, by omega, by simp, HN.out, HB43.out, HM3.out⟩
   ·have HT : Hid ((topsI l)[k] = tpI l (idxId l id)) := Lib.hid (HHK.out.1 (of_decide_eq_true HBD.out));obtain ⟨he1, he2⟩ := HF1K.out;have HE1 : Hid (fa = idAt2 l (tpI l (idxId l id)) ∧ fb = fmB l id) := Lib.hid ⟨by rw [he1, HT.out], by rw [he2, HT.out]; rfl⟩;have HS3 := Lib.hid (Sl.set_ne (Sl.set_ne hS3 hB4 (by decide) (j := 0) (.string ⟨fa.toArray⟩)) (hB4.set 0 (.string ⟨fa.toArray⟩)) (by decide) (j := 1) (.slice B m d));have s0 := hB3.cell 0; have s1 := hB3.cell 1; simp at s0 s1;have t0 := hB4.cell 0; have tf0 := hB4.frozen 0; have t1 := hB4.cell 1; have tf1 := hB4.frozen 1; simp at t0 t1;clear HCC HB2 HB4 HM2 m3 hB3 hB4 HS2 HNK HF1K HHK HBD hS3 he1 he2 HT HTM
    go_wp2_with fail
    have hB9 := HB43.out.set2 (x := .string ⟨fa.toArray⟩) (y := .slice B m d);have u0 := hB9.cell 0; have u1 := hB9.cell 1; simp at u0 u1;refine bodyPost_ret (v := .agg #[.string ⟨fa.toArray⟩, .slice B m d]) (by simp [results, Tryz.results52, go_sem, u0, u1]) rfl ?_;refine ⟨B, m, d, by rw [HE1.out.1], by rw [← HE1.out.2]; exact HS3.out, ((HM1.out.trans HM3.out).setCell (.inr (by show _ ≤ g4; omega)) _).setCell (.inr (by show _ ≤ g4; omega)) _⟩
  ·exfalso
   obtain ⟨j, hj, he⟩ := List.getElem_of_mem HTM.out;exact HNO.out j (by omega) (by omega) ((HH.out j (by omega) hj).2 he)
end Go.Proofs.YtgfgggeeoeppjaaGreatDoor
/- SpreadOf of the reference. -/
namespace Go.Proofs.YtgfgggeeoeppjaaGreatDoor
open Go.RowKit
def OwT (w : World) (bw : Nat) (v : Value) (n : Nat) (xs : List Str) : Prop := w.ownsRow bw 9 1 v n (strsV xs)
theorem OwT.pure {w w' : World} {bw n : Nat} {v : Value} {xs : List Str} (h : OwT w bw v n xs) (hm : Pure w w') : OwT w' bw v n xs := own_pure h hm
end Go.Proofs.YtgfgggeeoeppjaaGreatDoor
/- The map from an item to its family's items. -/
namespace Go.Proofs.YtgfgggeeoeppjaaGreatDoor
open Go.RowKit
def BfM (w : World) (bf : Nat) (fs : List Fm) (D : List Str) : Prop :=
 ∃ n V, MapS w bf n V ∧ n ≤ D.length ∧ (∀ s v, V s = some v → ∃ p ∈ fs, v = p.2.1 ∧ s ∈ p.2.2) ∧ ∀ s ∈ D, V s ≠ none
theorem BfM.pure {w w' : World} {bf : Nat} {fs : List Fm} {D : List Str} (h : BfM w bf fs D) (hm : Pure w w') : BfM w' bf fs D := by
 obtain ⟨n, V, h1, h2, h3, h4⟩ := h;exact ⟨n, V, h1.pure hm, h2, h3, h4⟩
theorem BfM.start {w : World} {bf : Nat} {fs : List Fm} (h : MapS w bf 0 fun _ => none) : BfM w bf fs [] := ⟨0, _, h, by simp, fun s v e => (by cases e), fun s hs => absurd hs (by simp)⟩
theorem BfM.store {w : World} {bf : Nat} {fs : List Fm} {D : List Str} (h : BfM w bf fs D) (hD : D.length ≤ 1000000) {p : Fm} (hp : p ∈ fs) {s : Str} (hs : s ∈ p.2.2) (hl : s.length ≤ 1000000) :
  ∃ w', (Instr.mapUpdate 114 (.map (some bf)) (.string ⟨s.toArray⟩) p.2.1).run Tryz.prog w = .ok () w' ∧ BfM w' bf fs (D ++ [s]) ∧ Mod (· = bf) w w' := by
 obtain ⟨n, V, h1, h2, h3, h4⟩ := h;obtain ⟨w', hr, hM, hm⟩ := h1.store (t := 114) (e := 29) Tryz.underlying114 (by omega) s hl p.2.1;refine ⟨w', hr, ⟨n + 1, _, hM, by simp; omega, fun t v hv => ?_, fun t ht => ?_⟩, hm⟩
 ·replace hv : (if t = s then some p.2.1 else V t) = some v := hv
  by_cases e : t = s
  ·rw [if_pos e] at hv
   injection hv with hv
   exact ⟨p, hp, hv.symm, by rw [e]; exact hs⟩
  ·rw [if_neg e] at hv;exact h3 t v hv
 ·show (if t = s then some p.2.1 else V t) ≠ none
  by_cases e : t = s
  ·rw [if_pos e]; exact fun h => by cases h
  ·rw [if_neg e]
   rcases List.mem_append.1 ht with h | h
   ·exact h4 t h
   ·exact absurd (List.mem_singleton.1 h) e
def fmD (fs : List Fm) : List Str := fs.flatMap fun p => p.2.2
theorem fmD_take {fs : List Fm} {k : Nat} (h : k < fs.length) : fmD (fs.take (k + 1)) = fmD (fs.take k) ++ fs[k].2.2 := by
 unfold fmD;rw [List.take_succ_eq_append_getElem h, List.flatMap_append];simp
theorem fmD_le {fs : List Fm} {k : Nat} : (fmD (fs.take k)).length ≤ (fmD fs).length := by
 have h : fmD fs = fmD (fs.take k) ++ fmD (fs.drop k) := by
  unfold fmD;rw [← List.flatMap_append, List.take_append_drop]
 rw [h, List.length_append]
 omega
theorem fmD_pre {fs : List Fm} {k m : Nat} (h : k < fs.length) : (fmD (fs.take k) ++ fs[k].2.2.take m).length ≤ (fmD fs).length := by
 have h1 := fmD_le (fs := fs) (k := k + 1);rw [fmD_take h] at h1;simp only [List.length_append, List.length_take] at h1 ⊢
 omega
theorem fmD_fams {fs : List Fm} {its : List Itm} (hf : fmS fs = famsS its) : fmD fs = (topsI its).flatMap fun t => belS its 4 t := by
 have h1 : fmD fs = (fmS fs).flatMap fun p => p.2 := by
  unfold fmD fmS;rw [List.flatMap_map]
 rw [h1, hf];unfold famsS;rw [List.flatMap_map]
theorem fmD_len {fs : List Fm} {its : List Itm} (hf : fmS fs = famsS its) (hR : Right its) : (fmD fs).length = its.length := by rw [fmD_fams hf, hR.all_len]
theorem fmD_mem {fs : List Fm} {its : List Itm} (hf : fmS fs = famsS its) {s : Str} (hs : s ∈ fmD fs) : ∃ x ∈ its, x.id = s := by
 rw [fmD_fams hf] at hs;obtain ⟨t, ht, hs⟩ := List.mem_flatMap.1 hs;obtain ⟨i, hi, rfl⟩ := List.mem_map.1 hs;have hl := bel_lt 4 t i (mem_topsI.1 ht).1 hi;exact ⟨its[i], List.getElem_mem hl, (idAt2_eq hl).symm⟩
theorem fmD_of {fs : List Fm} {its : List Itm} (hf : fmS fs = famsS its) (hR : Right its) {x : Itm} (hx : x ∈ its) : x.id ∈ fmD fs ∧ ∀ p ∈ fs, x.id ∈ p.2.2 → p.2.2 = fmB its x.id := by
 obtain ⟨i, hi, rfl⟩ := List.getElem_of_mem hx
 have hix : idxId its its[i].id = i := by unfold idxId; rw [plc_self hR.distinct i hi]; rfl
 have hie : its[idxId its its[i].id].id = its[i].id := by simp only [hix]
 have hil : idxId its its[i].id < its.length := by rw [hix]; exact hi
 have hT := hR.tpI_mem hil;refine ⟨?_, fun p hp hs => ?_⟩
 ·rw [fmD_fams hf];refine List.mem_flatMap.2 ⟨_, hT, ?_⟩;unfold belS;rw [List.mem_map];exact ⟨i, (hR.bel_top hT).2 ⟨hi, by rw [hix]⟩, idAt2_eq hi⟩
 ·obtain ⟨k, hk, rfl⟩ := List.getElem_of_mem hp
  have hl : (famsS its).length = fs.length := by rw [← hf]; simp [fmS]
  have hl2 : (famsS its).length = (topsI its).length := by simp [famsS]
  have e : (famsS its)[k]'(by omega) = (fs[k].1, fs[k].2.2) := by
   have := congrArg (fun l => l[k]?) hf
   simpa [fmS, hk, hl] using this.symm
  have h1 := (hR.fam_has hil hie (k := k) (by omega) (by omega)).1 (by rw [e]; exact hs)
  have e2 : (famsS its)[k]'(by omega) = (idAt2 its ((topsI its)[k]'(by omega)), belS its 4 ((topsI its)[k]'(by omega))) := by simp [famsS]
  rw [e] at e2
  injection e2 with _ e3
  rw [e3, h1]
  rfl
theorem BfM.look {w : World} {bf : Nat} {fs : List Fm} {its : List Itm} (h : BfM w bf fs (fmD fs)) (hf : fmS fs = famsS its) (hR : Right its) (hF : ∀ p ∈ fs, Sl w 9 1 p.2.1 (strsV p.2.2)) {x : Itm} (hx : x ∈ its) (hl : x.id.length ≤ 1000000) :
  ∃ (A : Option Addr) (n c : Nat), (Instr.lookup 114 (.map (some bf)) (.string ⟨x.id.toArray⟩) false).run Tryz.prog w = .ok (.slice A n c) w ∧ Sl w 9 1 (.slice A n c) (strsV (fmB its x.id)) := by
 obtain ⟨n, V, h1, h2, h3, h4⟩ := h;obtain ⟨hm, hu⟩ := fmD_of hf hR hx;have hr := h1.lookup (t := 114) (e := 29) Tryz.underlying114 zero_strs x.id hl
 cases hV : V x.id with
 | none => exact absurd hV (h4 _ hm)
 | some v =>
  obtain ⟨p, hp, rfl, hs⟩ := h3 _ _ hV;rw [hV] at hr;have hS := hF p hp;rw [hu p hp hs] at hS;obtain ⟨A, m, c, e⟩ := hS.form;rw [e] at hS;refine ⟨A, m, c, ?_, hS⟩;rw [hr, e]
  rfl
theorem FmR.mod {w w' : World} {S : Nat → Prop} {v : Value} {xs : List Fm} (h : FmR w v xs) (hm : Mod S w w') (hs : ∀ g arr t fr, w.heap[g]? = some (.cells arr t fr) → ¬ S g) : FmR w' v xs :=
 ⟨h.1.mod hm (fun g arr fr hg => hs g arr _ fr hg), fun p hp => (h.2 p hp).mod hm (fun g arr fr hg => hs g arr _ fr hg)⟩
section
variable {w wr w' : World} {base bs bf bm bo g10 g3 nK nM m : Nat} {VK VM : Str → Option Value} {its : List Itm} {cs : List CodR} {fs : List Fm} {vf : Value} {c3 : Array Value} {D : List Str}
end
end Go.Proofs.YtgfgggeeoeppjaaGreatDoor
/- Desks in memory. -/
namespace Go.Proofs.YtgfgggeeoeppjaaGreatDoor
open Go.RowKit
structure BatR where
 no : Int
 out : Int
 inn : Int
 rev : Str
 A : Option Addr
 c : Nat
 items : List Str
def BatR.key (x : BatR) : BatK := (x.no, x.out, x.inn, x.rev, x.items)
def batC (x : BatR) : List Value := [.int .i64 x.no, .int .i64 x.out, .int .i64 x.inn, .string ⟨x.rev.toArray⟩, .slice x.A x.items.length x.c]
def batV (xs : List BatR) : List Value := xs.flatMap batC
theorem batV_len : ∀ xs : List BatR, (batV xs).length = xs.length * 5
 | [] => rfl
 | x :: t => by
  show (batC x ++ batV t).length = _
  rw [List.length_append, batV_len t];simp [batC]; omega
theorem batV_get : ∀ (xs : List BatR) (i : Nat) (h : i < xs.length), (batV xs)[i * 5]? = some (.int .i64 xs[i].no) ∧ (batV xs)[i * 5 + 1]? = some (.int .i64 xs[i].out) ∧ (batV xs)[i * 5 + 2]? = some (.int .i64 xs[i].inn) ∧
  (batV xs)[i * 5 + 3]? = some (.string ⟨xs[i].rev.toArray⟩) ∧ (batV xs)[i * 5 + 4]? = some (.slice xs[i].A xs[i].items.length xs[i].c)
 | [], i, h => absurd h (by simp)
 | x :: xs, 0, h => by simp [batV, batC]
 | x :: xs, i + 1, h => by
  have := batV_get xs i (by simpa using h)
  have e : (i + 1) * 5 = i * 5 + 1 + 1 + 1 + 1 + 1 := by omega
  simp only [batV, batC, List.flatMap_cons, List.cons_append, List.nil_append, e, List.getElem?_cons_succ, List.getElem_cons_succ];exact this
theorem batV_snoc (xs : List BatR) (p : BatR) : batV (xs ++ [p]) = batV xs ++ batC p := by simp [batV]
theorem batV_set : ∀ (xs : List BatR) (i : Nat) (h : i < xs.length) (u : Int), (batV xs).set (i * 5 + 2) (.int .i64 u) = batV (xs.set i { xs[i] with inn := u })
 | [], i, h, _ => absurd h (by simp)
 | x :: xs, 0, h, u => by simp [batV, batC]
 | x :: xs, i + 1, h, u => by
  have := batV_set xs i (by simpa using h) u
  have e : (i + 1) * 5 + 2 = i * 5 + 2 + 1 + 1 + 1 + 1 + 1 := by omega
  simp only [batV, batC, List.flatMap_cons, List.cons_append, List.nil_append, e, List.set_cons_succ, List.getElem_cons_succ] at this ⊢;rw [this]
def BatS (W : World) (xs : List BatR) : Prop := ∀ x ∈ xs, Sl W 9 1 (.slice x.A x.items.length x.c) (strsV x.items)
theorem BatS.pure {xs : List BatR} {w w' : World} (h : BatS w xs) (hm : Pure w w') : BatS w' xs := fun x hx => (h x hx).pure hm
theorem BatS.mod {xs : List BatR} {w w' : World} {S : Nat → Prop} (h : BatS w xs) (hm : Mod S w w') (hs : ∀ g arr fr, w.heap[g]? = some (.cells arr 9 fr) → ¬ S g) : BatS w' xs := fun x hx => (h x hx).mod hm hs
theorem BatS.snoc {xs : List BatR} {x : BatR} {w : World} (h : BatS w xs) (hx : Sl w 9 1 (.slice x.A x.items.length x.c) (strsV x.items)) : BatS w (xs ++ [x]) := fun y hy => by
 rcases List.mem_append.1 hy with hy | hy
 ·exact h y hy
 ·rw [List.mem_singleton.1 hy]; exact hx
def BatO (W : World) (base : Nat) (A : Option Addr) (c : Nat) (xs : List BatR) (ks : List BatK) : Prop := W.ownsRow base 42 5 (.slice A xs.length c) xs.length (batV xs) ∧ BatS W xs ∧ xs.map BatR.key = ks
theorem BatO.pure {W W' : World} {base c : Nat} {A : Option Addr} {xs : List BatR} {ks : List BatK} (h : BatO W base A c xs ks) (hm : Pure W W') : BatO W' base A c xs ks := ⟨own_pure h.1 hm, h.2.1.pure hm, h.2.2⟩
theorem BatO.mod {W W' : World} {S : Nat → Prop} {base c : Nat} {A : Option Addr} {xs : List BatR} {ks : List BatK} (h : BatO W base A c xs ks) (hm : Mod S W W') (h1 : ∀ j, (Value.slice A xs.length c).ownBlock = some j → ¬ S j) (hs : ∀ g arr fr, W.heap[g]? = some (.cells arr 9 fr) → ¬ S g) : BatO W' base A c xs ks :=
 ⟨own_mod h.1 hm h1, h.2.1.mod hm hs, h.2.2⟩
theorem BatO.app {w w' : World} {base n' c c5 : Nat} {A A5 : Option Addr} {xs : List BatR} {ks : List BatK} {x : BatR} (h : BatO w base A c xs ks) (hx : Sl w 9 1 (.slice x.A x.items.length x.c) (strsV x.items)) (hm : Mod (fun j => (Value.slice A xs.length c).ownBlock = some j) w w') (hn : n' = xs.length + 1)
  (hown : w'.ownsRow base 42 5 (.slice A5 n' c5) n' (batV xs ++ batC x)) : BatO w' base A5 c5 (xs ++ [x]) (ks ++ [x.key]) := by
 have hty : ∀ i arr fr, w.heap[i]? = some (.cells arr 9 fr) → ¬ (Value.slice A xs.length c).ownBlock = some i := fun i arr fr hi hv => absurd (own_ty h.1 hv hi) (by decide);subst hn;exact ⟨by simpa [batV_snoc] using hown, (h.2.1.mod hm hty).snoc (hx.mod hm hty), by rw [List.map_append, h.2.2]; rfl⟩
theorem BatO.kl {w : World} {base c : Nat} {A : Option Addr} {xs : List BatR} {ks : List BatK} (h : BatO w base A c xs ks) : xs.length = ks.length := by rw [← h.2.2]; simp
theorem BatO.cells {w : World} {base c : Nat} {A : Option Addr} {xs : List BatR} {ks : List BatK} (h : BatO w base A c xs ks) {k : Nat} (hk : k < xs.length) : ∃ g, A = some ⟨g, 0, none⟩ ∧ w.cell? ⟨g, k * 5, none⟩ = some (.int .i64 xs[k].no) ∧ w.cell? ⟨g, k * 5 + 1, none⟩ = some (.int .i64 xs[k].out) ∧
  w.cell? ⟨g, k * 5 + 2, none⟩ = some (.int .i64 xs[k].inn) ∧ w.cell? ⟨g, k * 5 + 3, none⟩ = some (.string ⟨xs[k].rev.toArray⟩) ∧ w.cell? ⟨g, k * 5 + 4, none⟩ = some (.slice xs[k].A xs[k].items.length xs[k].c) ∧ w.frozen? ⟨g, k * 5 + 2, none⟩ = false := by
 obtain ⟨h0, h1, h2, h3, h4⟩ := batV_get xs k hk
 have hA : ∃ g, A = some ⟨g, 0, none⟩ := by
  rcases h.1.2 with ⟨e, h0⟩ | ⟨g, cap, cur, e, _⟩
  ·exact absurd h0 (by omega)
  ·injection e with e; exact ⟨g, e⟩
 obtain ⟨g, rfl⟩ := hA;exact ⟨g, rfl, (h.1.cellAt (k * 5) (by omega)).trans h0, (h.1.cellAt (k * 5 + 1) (by omega)).trans h1, (h.1.cellAt (k * 5 + 2) (by omega)).trans h2, (h.1.cellAt (k * 5 + 3) (by omega)).trans h3, (h.1.cellAt (k * 5 + 4) (by omega)).trans h4, h.1.frozenAt _⟩
theorem zero_int (W : World) : (zeroValue 3).run Tryz.prog W = .ok (.int .i64 0) W := by kernel_rfl
def StM (W : World) (bm : Nat) (F : Int → Int) (ids : List Str) (st : Str → Int) : Prop := MapX W bm ids.length (fun s => if s ∈ ids then some (.int .i64 (F (st s))) else none)
section
variable {W W' : World} {bm : Nat} {F : Int → Int} {ids : List Str} {st : Str → Int}
theorem StM.pure (h : StM W bm F ids st) (hm : Pure W W') : StM W' bm F ids st := MapX.pure h hm
theorem StM.mod {S : Nat → Prop} (h : StM W bm F ids st) (hm : Mod S W W') (hs : ¬ S bm) : StM W' bm F ids st := MapX.mod h hm hs
theorem StM.lt (h : StM W bm F ids st) : bm < W.heap.size := MapX.lt h
theorem StM.look (h : StM W bm F ids st) {s : Str} (hs : s ∈ ids) (hl : s.length ≤ 1000) : (Instr.lookup 47 (.map (some bm)) (.string ⟨s.toArray⟩) false).run Tryz.prog W = .ok (.int .i64 (F (st s))) W := by
 have h1 := MapX.lookup (t := 47) (e := 3) h Tryz.underlying47 zero_int s (by omega);simp only [if_pos hs] at h1;exact h1
theorem StM.store (h : StM W bm F ids st) (hn : ids.Nodup) (hl : ids.length ≤ 1000) {s : Str} (hs : s ∈ ids) (hsl : s.length ≤ 1000) (x : Int) :
  ∃ w', (Instr.mapUpdate 47 (.map (some bm)) (.string ⟨s.toArray⟩) (.int .i64 (F x))).run Tryz.prog W = .ok () w' ∧ StM w' bm F ids (fun q => if q = s then x else st q) ∧ Mod (· = bm) W w' := by
 obtain ⟨w', hr, hM, hm⟩ := (MapX.s h).store (t := 47) (e := 3) Tryz.underlying47 (by omega) s (by omega) (.int .i64 (F x));refine ⟨w', hr, ?_, hm⟩
 have e : (fun q => if q = s then some (Value.int .i64 (F x)) else if q ∈ ids then some (.int .i64 (F (st q))) else none) = (fun q => if q ∈ ids then some (.int .i64 (F (if q = s then x else st q))) else none) := by
  funext q
  by_cases e : q = s
  ·subst e; simp [hs]
  ·simp [e]
 rw [e] at hM;exact hM.exact hn (fun q => by by_cases hq : q ∈ ids <;> simp [hq])
end
def DkP (W : World) (g bm : Nat) (bo : Option Nat) (ids : List Str) (d : DskR) : Prop :=
 ∃ (FA : Option Addr) (fc : Nat) (fms : List Fm) (BA : Option Addr) (bc : Nat) (bts : List BatR), Blk W g 87 #[.slice FA fms.length fc, .map (some bm), .slice BA bts.length bc, .int .i64 d.last] ∧ FmR W (.slice FA fms.length fc) fms ∧ fms.map (fun p => p.2.2) = d.fams ∧
  StM W bm pst ids d.st ∧ BatO W 0 BA bc bts d.bats ∧ (Value.slice BA bts.length bc).ownBlock = bo
def OrL (W : World) (v : Value) (os : List (Value × List Str)) : Prop := Sl W 29 1 v (os.map fun p => p.1) ∧ ∀ p ∈ os, Sl W 9 1 p.1 (strsV p.2)
def DkR (W : World) (g bm : Nat) (bo : Option Nat) (ids : List Str) (d : DskR) : Prop :=
 ∃ (FA : Option Addr) (fc : Nat) (os : List (Value × List Str)) (BA : Option Addr) (bc : Nat) (bts : List BatR), Blk W g 50 #[.slice FA os.length fc, .map (some bm), .slice BA bts.length bc, .int .i64 d.last] ∧ OrL W (.slice FA os.length fc) os ∧ os.map (fun p => p.2) = d.fams ∧
  StM W bm (fun x => x) ids d.st ∧ BatO W 0 BA bc bts d.bats ∧ (Value.slice BA bts.length bc).ownBlock = bo
section
variable {W W' : World} {g bm : Nat} {bo : Option Nat} {ids : List Str} {d : DskR}
theorem OrL.mod {S : Nat → Prop} {v : Value} {os : List (Value × List Str)} (h : OrL W v os) (hm : Mod S W W') (h1 : ∀ g arr fr, W.heap[g]? = some (.cells arr 29 fr) → ¬ S g) (h2 : ∀ g arr fr, W.heap[g]? = some (.cells arr 9 fr) → ¬ S g) : OrL W' v os :=
 ⟨h.1.mod hm h1, fun p hp => (h.2 p hp).mod hm h2⟩
theorem OrL.pure {v : Value} {os : List (Value × List Str)} (h : OrL W v os) (hm : Pure W W') : OrL W' v os := ⟨h.1.pure hm, fun p hp => (h.2 p hp).pure hm⟩
theorem FmR.mod2 {S : Nat → Prop} {v : Value} {xs : List Fm} (h : FmR W v xs) (hm : Mod S W W') (h1 : ∀ g arr fr, W.heap[g]? = some (.cells arr 90 fr) → ¬ S g) (h2 : ∀ g arr fr, W.heap[g]? = some (.cells arr 9 fr) → ¬ S g) : FmR W' v xs :=
 ⟨h.1.mod hm h1, fun p hp => (h.2 p hp).mod hm h2⟩
theorem DkP.pure (h : DkP W g bm bo ids d) (hm : Pure W W') : DkP W' g bm bo ids d := by
 obtain ⟨FA, fc, fms, BA, bc, bts, h1, h2, h3, h4, h5, h6⟩ := h;exact ⟨FA, fc, fms, BA, bc, bts, h1.modp hm, h2.pure hm, h3, h4.pure hm, h5.pure hm, h6⟩
theorem DkR.pure (h : DkR W g bm bo ids d) (hm : Pure W W') : DkR W' g bm bo ids d := by
 obtain ⟨FA, fc, fms, BA, bc, bts, h1, h2, h3, h4, h5, h6⟩ := h;exact ⟨FA, fc, fms, BA, bc, bts, h1.modp hm, h2.pure hm, h3, h4.pure hm, h5.pure hm, h6⟩
theorem DkP.mod {S : Nat → Prop} (h : DkP W g bm bo ids d) (hm : Mod S W W') (k1 : ¬ S g) (k2 : ¬ S bm) (k3 : ∀ j, bo = some j → ¬ S j) (k4 : ∀ g arr fr, W.heap[g]? = some (.cells arr 90 fr) → ¬ S g) (k5 : ∀ g arr fr, W.heap[g]? = some (.cells arr 9 fr) → ¬ S g) : DkP W' g bm bo ids d := by
 obtain ⟨FA, fc, fms, BA, bc, bts, h1, h2, h3, h4, h5, h6⟩ := h;exact ⟨FA, fc, fms, BA, bc, bts, h1.mod hm k1, h2.mod2 hm k4 k5, h3, h4.mod hm k2, h5.mod hm (fun j hj => k3 j (by rw [← h6]; exact hj)) k5, h6⟩
theorem DkR.mod {S : Nat → Prop} (h : DkR W g bm bo ids d) (hm : Mod S W W') (k1 : ¬ S g) (k2 : ¬ S bm) (k3 : ∀ j, bo = some j → ¬ S j) (k4 : ∀ g arr fr, W.heap[g]? = some (.cells arr 29 fr) → ¬ S g) (k5 : ∀ g arr fr, W.heap[g]? = some (.cells arr 9 fr) → ¬ S g) : DkR W' g bm bo ids d := by
 obtain ⟨FA, fc, fms, BA, bc, bts, h1, h2, h3, h4, h5, h6⟩ := h;exact ⟨FA, fc, fms, BA, bc, bts, h1.mod hm k1, h2.mod hm k4 k5, h3, h4.mod hm k2, h5.mod hm (fun j hj => k3 j (by rw [← h6]; exact hj)) k5, h6⟩
end
def OwnSPost (w : World) (xs : List Str) (e : Ending) (w' : World) : Prop := ∃ (A : Option Addr) (c : Nat), e = .returned (.slice A xs.length c) ∧ w'.ownsRow w.heap.size 9 1 (.slice A xs.length c) xs.length (strsV xs) ∧ Pure w w'
end Go.Proofs.YtgfgggeeoeppjaaGreatDoor
/- Closures of Take; slices.ContainsFunc of batches. -/
namespace Go.Proofs.YtgfgggeeoeppjaaGreatDoor
open Go.RowKit
set_option maxHeartbeats 1000000 in
theorem indexBt_calls (w : World) (v : Value) (xs : List BatR) (F : Nat) (c1 : Value) (P : BatR → Bool) (hv : Sl w 42 5 v (batV xs))
  (hcf : ∀ (x : BatR) (W : World), Sem.run Tryz.prog (callFunc F #[.agg #[.int .i64 x.no, .int .i64 x.out, .int .i64 x.inn, .string ⟨x.rev.toArray⟩, .slice x.A x.items.length x.c], c1]) W = .ok (.enter F #[.agg #[.int .i64 x.no, .int .i64 x.out, .int .i64 x.inn, .string ⟨x.rev.toArray⟩, .slice x.A x.items.length x.c], c1]) W)
  (hF : ∀ (x : BatR) (W : World), x ∈ xs → Pure w W → Calls Tryz.prog F #[.agg #[.int .i64 x.no, .int .i64 x.out, .int .i64 x.inn, .string ⟨x.rev.toArray⟩, .slice x.A x.items.length x.c], c1] W (BoolPost W (P x))) :
  Calls Tryz.prog 115 #[v, .func (.func F) #[] #[c1]] w (IntPost w (idxQ P xs 0)) := by
 have HF := Lib.hid hF;obtain ⟨A, n, c, rfl, hc1, hc2, hl, hr⟩ := hv
 have hln : xs.length = n := by rw [batV_len] at hl; omega
 subst hln;have HR := Lib.hid hr;clear hF hl hr
 go_enter Tryz.func115, Tryz.ntmps115
 go_wp2_with fail
 go_loopg [8] xs.length (fun gk i wr => ∃ k : Nat, xs.length - k = gk ∧ k ≤ xs.length ∧ i = .int .i64 (k : Int) ∧ idxQ P xs 0 = idxQ P (xs.drop k) (k : Int) ∧ Pure w wr)
 case atStart => exact ⟨0, by omega, by omega, rfl, rfl, Mod.refl _ _⟩
 case round =>
  obtain ⟨k, rfl, hk, rfl, hix, hm⟩ := hrel;have HIX := Lib.hid hix;clear hix
  by_cases hlt : k < xs.length
  ·obtain ⟨g, off, rfl, hrow⟩ := HR.out (by omega);have hget := batV_get xs k hlt;have hq0 := (hrow.mod hm id).cell (hget.1);have hq1 := (hrow.mod hm id).cell (hget.2.1);rw [← Nat.add_assoc] at hq1;have hq2 := (hrow.mod hm id).cell (hget.2.2.1);rw [← Nat.add_assoc] at hq2;have hq3 := (hrow.mod hm id).cell (hget.2.2.2.1);rw [← Nat.add_assoc] at hq3;have hq4 := (hrow.mod hm id).cell (hget.2.2.2.2);rw [← Nat.add_assoc] at hq4;clear hget;have hd : xs.drop k = xs[k] :: xs.drop (k + 1) := List.drop_eq_getElem_cons hlt;have hcall := HF.out xs[k] wr (List.getElem_mem hlt) hm
   have hi2 : idxQ P xs 0 = if P xs[k] then (k : Int) else idxQ P (xs.drop (k + 1)) ((k : Int) + 1) := by rw [HIX.out, hd]; rfl
   have HI2 := Lib.hid hi2;have HC := Lib.hid hcall;clear hd hi2 hcall hrow HIX;generalize xs[k] = x at *
   go_wp2_with fail
   refine HC.out.mono ?_;rintro e w1 ⟨rfl, hm1⟩
   cases hp : P x
   ·go_wp2_with fail
    go_roundg (xs.length - (k + 1))
    case measure => omega
    case rel => exact ⟨k + 1, rfl, hlt, by simp, by rw [HI2.out, hp]; simp, hm.trans hm1⟩
   ·go_wp2_with fail
    go_ret;exact IntPost.of (by rw [HI2.out, hp]; rfl) (hm.trans hm1)
  ·have hke : k = xs.length := by omega
   subst hke
   go_wp2_with fail
   go_ret;exact IntPost.of (by rw [HIX.out, List.drop_of_length_le (Nat.le_refl _)]; rfl) hm
set_option maxHeartbeats 1000000 in
theorem containsBt_calls (w : World) (v : Value) (xs : List BatR) (F : Nat) (c1 : Value) (P : BatR → Bool) (hv : Sl w 42 5 v (batV xs))
  (hcf : ∀ (x : BatR) (W : World), Sem.run Tryz.prog (callFunc F #[.agg #[.int .i64 x.no, .int .i64 x.out, .int .i64 x.inn, .string ⟨x.rev.toArray⟩, .slice x.A x.items.length x.c], c1]) W = .ok (.enter F #[.agg #[.int .i64 x.no, .int .i64 x.out, .int .i64 x.inn, .string ⟨x.rev.toArray⟩, .slice x.A x.items.length x.c], c1]) W)
  (hF : ∀ (x : BatR) (W : World), x ∈ xs → Pure w W → Calls Tryz.prog F #[.agg #[.int .i64 x.no, .int .i64 x.out, .int .i64 x.inn, .string ⟨x.rev.toArray⟩, .slice x.A x.items.length x.c], c1] W (BoolPost W (P x))) :
  Calls Tryz.prog 53 #[v, .func (.func F) #[] #[c1]] w (BoolPost w (xs.any P)) := by
 have HC := Lib.hid (indexBt_calls w v xs F c1 P hv hcf hF);have HI := Lib.hid (idxQ_any P xs 0 (by omega));clear hcf hF;obtain ⟨A, n, c, rfl⟩ := hv.form;clear hv
 go_enter Tryz.func53, Tryz.ntmps53
 go_wp2_with fail
 refine HC.out.mono ?_;rintro e w1 ⟨rfl, hm1⟩;generalize idxQ P xs 0 = r at *
 go_wp2_with fail
 go_ret;exact BoolPost.of HI.out.symm hm1
set_option maxHeartbeats 2000000 in
theorem ptake1_calls (W : World) (g5 : Nat) (x : BatR) (rev : Str) (hB : Blk W g5 9 #[.string ⟨rev.toArray⟩]) : Calls Tryz.prog 54 #[.agg #[.int .i64 x.no, .int .i64 x.out, .int .i64 x.inn, .string ⟨x.rev.toArray⟩, .slice x.A x.items.length x.c], .pointer (some ⟨g5, 0, none⟩)] W (BoolPost W (decide (x.rev = rev) && decide (x.inn = -1))) := by
 obtain ⟨xn, xo, xi, xr, xA, xc, xs⟩ := x;have HP := Lib.hid (pure_alloc W (.cells #[.int .i64 xn, .int .i64 xo, .int .i64 xi, .string ⟨xr.toArray⟩, .slice xA xs.length xc] 42));have hb := Blk.new W 42 #[.int .i64 xn, .int .i64 xo, .int .i64 xi, .string ⟨xr.toArray⟩, .slice xA xs.length xc];have hb5 := hB.modp HP.out;obtain ⟨q, hq⟩ : ∃ q, q = (decide (xr = rev) && decide (xi = -1)) := ⟨_, rfl⟩
 show Calls Tryz.prog _ _ W (BoolPost W (decide (xr = rev) && decide (xi = -1)))
 rw [← hq];have HQ := Lib.hid hq;clear hq
 go_enter Tryz.func54, Tryz.ntmps54
 go_upto_region 1 with (fail)
 generalize (W.alloc (.cells #[.int .i64 xn, .int .i64 xo, .int .i64 xi, .string ⟨xr.toArray⟩, .slice xA xs.length xc] 42)) = w1 at *;generalize W.heap.size = g2 at *;have x0 := hb.cell 0; have x1 := hb.cell 1; have x2 := hb.cell 2; have x3 := hb.cell 3; have x4 := hb.cell 4; simp at x0 x1 x2 x3 x4;have y0 := hb5.cell 0; simp at y0;clear hb hb5 hB
 by_cases hf : xr = rev
 ·subst hf;have HE := Lib.hid (show q = (xi == -1) by (rw [HQ.out, decide_eq_true rfl, Bool.true_and]) <;> first | rfl | (rw [Bool.eq_iff_iff]; simp));clear HQ
  go_wp2_with fail
  go_ret;exact BoolPost.of HE.out HP.out
 ·have hf' : (xr == rev) = false := by simpa using hf
  have HE := Lib.hid (show q = false by rw [HQ.out]; simp [hf]);clear HQ hf
  go_wp2_with fail
  go_ret;exact BoolPost.of HE.out HP.out
set_option maxHeartbeats 2000000 in
theorem rtake1_calls (W : World) (g5 : Nat) (x : BatR) (rev : Str) (hB : Blk W g5 9 #[.string ⟨rev.toArray⟩]) : Calls Tryz.prog 64 #[.agg #[.int .i64 x.no, .int .i64 x.out, .int .i64 x.inn, .string ⟨x.rev.toArray⟩, .slice x.A x.items.length x.c], .pointer (some ⟨g5, 0, none⟩)] W (BoolPost W (decide (x.rev = rev) && decide (x.inn < 0))) := by
 obtain ⟨xn, xo, xi, xr, xA, xc, xs⟩ := x;have HP := Lib.hid (pure_alloc W (.cells #[.int .i64 xn, .int .i64 xo, .int .i64 xi, .string ⟨xr.toArray⟩, .slice xA xs.length xc] 42));have hb := Blk.new W 42 #[.int .i64 xn, .int .i64 xo, .int .i64 xi, .string ⟨xr.toArray⟩, .slice xA xs.length xc];have hb5 := hB.modp HP.out;obtain ⟨q, hq⟩ : ∃ q, q = (decide (xr = rev) && decide (xi < 0)) := ⟨_, rfl⟩
 show Calls Tryz.prog _ _ W (BoolPost W (decide (xr = rev) && decide (xi < 0)))
 rw [← hq];have HQ := Lib.hid hq;clear hq
 go_enter Tryz.func64, Tryz.ntmps64
 go_upto_region 1 with (fail)
 generalize (W.alloc (.cells #[.int .i64 xn, .int .i64 xo, .int .i64 xi, .string ⟨xr.toArray⟩, .slice xA xs.length xc] 42)) = w1 at *;generalize W.heap.size = g2 at *;have x0 := hb.cell 0; have x1 := hb.cell 1; have x2 := hb.cell 2; have x3 := hb.cell 3; have x4 := hb.cell 4; simp at x0 x1 x2 x3 x4;have y0 := hb5.cell 0; simp at y0;clear hb hb5 hB
 by_cases hf : xr = rev
 ·subst hf;have HE := Lib.hid (show q = decide (xi < 0) by (rw [HQ.out, decide_eq_true rfl, Bool.true_and]) <;> first | rfl | (rw [Bool.eq_iff_iff]; simp));clear HQ
  go_wp2_with fail
  go_ret;exact BoolPost.of HE.out HP.out
 ·have hf' : (xr == rev) = false := by simpa using hf
  have HE := Lib.hid (show q = false by rw [HQ.out]; simp [hf]);clear HQ hf
  go_wp2_with fail
  go_ret;exact BoolPost.of HE.out HP.out
def moE (a : Int) : Int := if inB a 0 5761439 = true then 0 else 1
set_option maxHeartbeats 1000000 in
theorem momentE_calls (w : World) (a : Int) : Calls Tryz.prog 58 #[.int .i64 a] w (IntPost w (moE a)) := by
 have HQ : Hid (moE a = if inB a 0 5761439 = true then 0 else 1) := Lib.hid rfl;have HM := Lib.hid (moment_calls a w);generalize moE a = q at *;generalize inB a 0 5761439 = f at *
 go_enter Tryz.func58, Tryz.ntmps58
 go_wp2_with fail
 refine HM.out.mono ?_;rintro e w1 ⟨rfl, rfl⟩
 go_wp2_with fail
 refine (whenQ_calls _ _ _ q (by rw [HQ.out]; cases f <;> rfl)).mono ?_;rintro e w2 ⟨rfl, hm⟩
 go_wp2_with fail
 go_ret;exact IntPost.of rfl hm
def hasB (d : DskR) (rev : Str) : Bool := d.bats.any fun b => decide (b.2.2.2.1 = rev) && decide (b.2.2.1 = -1)
theorem hasB_of {bts : List BatR} {ks : List BatK} {rev : Str} (h : bts.map BatR.key = ks) : (bts.any fun x => decide (x.rev = rev) && decide (x.inn = -1)) = ks.any (fun b => decide (b.2.2.2.1 = rev) && decide (b.2.2.1 = -1)) := by
 rw [← h, List.any_map]
 rfl
theorem hasB_of2 {bts : List BatR} {ks : List BatK} {rev : Str} (h : bts.map BatR.key = ks) (hn : ∀ b ∈ ks, b.2.2.1 = -1 ∨ 0 ≤ b.2.2.1) : (bts.any fun x => decide (x.rev = rev) && decide (x.inn < 0)) = ks.any (fun b => decide (b.2.2.2.1 = rev) && decide (b.2.2.1 = -1)) := by
 rw [← hasB_of h, Bool.eq_iff_iff, List.any_eq_true, List.any_eq_true]
 constructor
 ·rintro ⟨x, hx, h2⟩;have h3 := hn x.key (by rw [← h]; exact List.mem_map_of_mem hx);refine ⟨x, hx, ?_⟩;simp only [Bool.and_eq_true, decide_eq_true_eq] at h2 ⊢;refine ⟨h2.1, ?_⟩;have : x.key.2.2.1 = x.inn := rfl
  omega
 ·rintro ⟨x, hx, h2⟩;refine ⟨x, hx, ?_⟩;simp only [Bool.and_eq_true, decide_eq_true_eq] at h2 ⊢;exact ⟨h2.1, by omega⟩
def tkE (d : DskR) (rev : Str) (at_ most : Int) : Int :=
 if keyB rev = false then 5 else if moE at_ ≠ 0 then moE at_ else if at_ < d.last then 7 else if inB most 1 500 = false then 1 else if hasB d rev = true then 11 else 0
def tkF (d : DskR) (rev : Str) (at_ most : Int) : Int := if tkE d rev at_ most ≠ 0 then tkE d rev at_ most else if takL d.st most d.fams [] = [] then 8 else 0
def TkPost (K : World → Option Nat → DskR → Prop) (w : World) (g bm : Nat) (bo : Option Nat) (d : DskR) (rev : Str) (at_ most : Int) (e : Ending) (w' : World) : Prop :=
 (tkF d rev at_ most ≠ 0 ∧ e = .returned (.tuple #[.agg #[.int .i64 0, .int .i64 0, .int .i64 0, .string ⟨#[]⟩, .slice none 0 0], .int .i64 (tkF d rev at_ most)]) ∧ Pure w w') ∨
 (tkF d rev at_ most = 0 ∧ ∃ (A : Option Addr) (c : Nat) (bo' : Option Nat), e = .returned (.tuple #[.agg #[.int .i64 ((d.bats.length : Int) + 1), .int .i64 at_, .int .i64 (-1), .string ⟨rev.toArray⟩, .slice A (takL d.st most d.fams []).length c], .int .i64 0]) ∧
  Sl w' 9 1 (.slice A (takL d.st most d.fams []).length c) (strsV (takL d.st most d.fams [])) ∧ K w' bo' (dTake d rev at_ most) ∧ (∀ j, bo' = some j → bo = some j ∨ w.heap.size ≤ j) ∧ Mod (fun j => j = g ∨ j = bm ∨ bo = some j) w w')
end Go.Proofs.YtgfgggeeoeppjaaGreatDoor
/- What comes back to a desk. -/
namespace Go.Proofs.YtgfgggeeoeppjaaGreatDoor
open Go.RowKit
def dnE (its : List Str) : List Str → List Str → Int
 | [], _ => 0
 | s :: t, seen => if s ∉ its then 8 else if s ∈ seen then 6 else dnE its t (seen ++ [s])
theorem dnE_step (its done : List Str) {k : Nat} (h : k < done.length) : dnE its (done.drop k) (done.take k) = if done[k] ∉ its then 8 else if done[k] ∈ done.take k then 6 else dnE its (done.drop (k + 1)) (done.take (k + 1)) := by
 rw [List.drop_eq_getElem_cons h, List.take_succ_eq_append_getElem h]
 rfl
def batN : BatK := (0, 0, 0, [], [])
def rtE (d : DskR) (no at_ : Int) : Int :=
 if inB no 1 (d.bats.length : Int) = false then 8 else if (d.bats.getD (no - 1).toNat batN).2.2.1 ≠ -1 then 11 else if moE at_ ≠ 0 then moE at_ else if at_ < d.last then 7 else 0
def rtF (d : DskR) (no at_ : Int) (done : List Str) : Int := if rtE d no at_ ≠ 0 then rtE d no at_ else dnE (d.bats.getD (no - 1).toNat batN).2.2.2.2 done []
def inAt (b : BatK) (u : Int) : BatK := (b.1, b.2.1, u, b.2.2.2.1, b.2.2.2.2)
def dRet (d : DskR) (i : Nat) (b : BatK) (at_ : Int) (done : List Str) : DskR :=
 ⟨d.fams, fun s => if s ∈ b.2.2.2.2 then (if s ∈ done then -1 else 0) else d.st s, d.bats.set i (inAt b at_), at_⟩
def RtPost (K : World → DskR → Prop) (w : World) (g bm : Nat) (bo : Option Nat) (d : DskR) (no at_ : Int) (done : List Str) (e : Ending) (w' : World) : Prop :=
 (rtF d no at_ done ≠ 0 ∧ e = .returned (.int .i64 (rtF d no at_ done)) ∧ Pure w w') ∨
 (rtF d no at_ done = 0 ∧ e = .returned (.int .i64 0) ∧ K w' (dRet d (no - 1).toNat (d.bats.getD (no - 1).toNat batN) at_ done) ∧ Mod (fun j => j = g ∨ j = bm ∨ bo = some j) w w')
theorem BatO.inn {w : World} {c g i : Nat} {bts : List BatR} {ks : List BatK} (h : BatO w 0 (some ⟨g, 0, none⟩) c bts ks) (hi : i < bts.length) (u : Int) :
  BatO (w.setCell ⟨g, i * 5 + 2, none⟩ (.int .i64 u)) 0 (some ⟨g, 0, none⟩) c (bts.set i { bts[i] with inn := u }) (ks.set i (inAt bts[i].key u)) := by
 have h1 := (World.ownsRow.stored h.1 (i * 5 + 2) (.int .i64 u)).1;rw [batV_set _ _ hi] at h1;have hm : Mod (· = g) w (w.setCell ⟨g, i * 5 + 2, none⟩ (.int .i64 u)) := (Mod.refl (· = g) w).setCell (.inl rfl) _;have h2 := h.2.1.mod hm (fun j arr fr hj e => by subst e; exact absurd (own_ty (g := j) h.1 rfl hj) (by decide));refine ⟨?_, fun x hx => ?_, ?_⟩
 ·rw [List.length_set]; exact h1
 ·rcases List.mem_or_eq_of_mem_set hx with hx | rfl
  ·exact h2 x hx
  ·have h3 := h2 bts[i] (List.getElem_mem hi);exact h3
 ·rw [← h.2.2, List.map_set]
  rfl
theorem BatO.at_ {w : World} {c g : Nat} {bts : List BatR} {ks : List BatK} (h : BatO w 0 (some ⟨g, 0, none⟩) c bts ks) {i : Nat} (hi : i < bts.length) : ks.getD i batN = bts[i].key := by
 rw [← h.2.2];simp [List.getD, hi]
theorem BatO.fld {w : World} {c g : Nat} {bts : List BatR} {ks : List BatK} (h : BatO w 0 (some ⟨g, 0, none⟩) c bts ks) {i : Nat} (hi : i < bts.length) : w.cell? ⟨g, i * 5 + 2, none⟩ = some (.int .i64 bts[i].inn) ∧ w.cell? ⟨g, i * 5 + 4, none⟩ = some (.slice bts[i].A bts[i].items.length bts[i].c) ∧ w.cell? ⟨g, i * 5, none⟩ = some (.int .i64 bts[i].no) := by
 obtain ⟨g', e, h0, h1, h2, h3, h4, _⟩ := h.cells hi
 cases e
 exact ⟨h2, h4, h0⟩
theorem rtE_first {d : DskR} {no at_ : Int} (hi : inB no 1 (d.bats.length : Int) = true) {b : BatK} (hb : d.bats.getD (no - 1).toNat batN = b) : firstErr [if (b.2.2.1 != -1) = true then 11 else 0, moE at_, if decide (at_ < d.last) = true then 7 else 0] = rtE d no at_ := by
 unfold rtE;rw [if_neg (show ¬ inB no 1 (d.bats.length : Int) = false by rw [hi]; decide), hb]
 by_cases h0 : b.2.2.1 = -1
 ·by_cases h1 : moE at_ = 0
  ·by_cases h2 : at_ < d.last <;> simp [firstErr, h0, h1, h2]
  ·simp [firstErr, h0, h1]
 ·simp [firstErr, h0]
theorem zero_bool (W : World) : (zeroValue 4).run Tryz.prog W = .ok (.bool false) W := by kernel_rfl
theorem dn_first (its seen : List Str) (s : Str) : firstErr [if (!decide (s ∈ its)) = true then 8 else 0, if decide (s ∈ seen) = true then 6 else 0] = if s ∉ its then 8 else if s ∈ seen then 6 else 0 := by
 by_cases h1 : s ∈ its <;> by_cases h2 : s ∈ seen <;> simp [firstErr, h1, h2]
end Go.Proofs.YtgfgggeeoeppjaaGreatDoor
/- A new desk, plain; a key deleted from a map. -/
namespace Go.Proofs.YtgfgggeeoeppjaaGreatDoor
open Go.RowKit
theorem MapS.drop {w : World} {b n : Nat} {f : Str → Option Value} {t e : TypeId} (h : MapS w b n f) (ht : Tryz.prog.underlying t = some (.map 9 e)) (s : Str) (hs : s.length ≤ 1000000) (ty : TypeId) :
  ∃ w', (Builtin.delete_ #[t, 9] ty #[.map (some b), .string ⟨s.toArray⟩]).run Tryz.prog w = .ok (.tuple #[]) w' ∧ MapS w' b n (fun x => if x = s then none else f x) ∧ Mod (· = b) w w' := by
 obtain ⟨D, h1, h2, h3⟩ := h;obtain ⟨w', hr, hm, hg⟩ := h1.drop strKey ht (keyS s hs) ty;have hgr := hg.grown;refine ⟨w', hr, ⟨_, hm, fun x z => ?_, fun x => ?_⟩, ⟨hgr.os, hgr.tape, hgr.output, hgr.size, fun k hk hs => hgr.block k hk (fun x => hs (by injection x))⟩⟩
 ·by_cases hx : x = s
  ·subst hx;rw [Maps.atKey_del_same];simp
  ·rw [Maps.atKey_del_other (by simpa using hx), h2];simp [hx]
 ·by_cases hx : x = s
  ·subst hx;rw [Maps.has_del_same];simp
  ·rw [Maps.has_del_other (by simpa using hx), h3];simp [hx]
def fndF (fs : List (Str × List Str)) (s : Str) : List Str := ((fs.find? fun p => decide (p.1 = s)).map (·.2)).getD []
def newF (fs : List (Str × List Str)) (order : List Str) : List (List Str) := order.map (fndF fs) ++ (fs.filter fun p => decide (p.1 ∉ order)).map (·.2)
def ofE (tops : List Str) : List Str → List Str → Int
 | [], _ => 0
 | s :: t, seen => if s ∈ seen then 6 else if s ∉ tops then 8 else ofE tops t (seen ++ [s])
theorem ofE_step (tops order : List Str) {k : Nat} (h : k < order.length) : ofE tops (order.drop k) (order.take k) = if order[k] ∈ order.take k then 6 else if order[k] ∉ tops then 8 else ofE tops (order.drop (k + 1)) (order.take (k + 1)) := by
 rw [List.drop_eq_getElem_cons h, List.take_succ_eq_append_getElem h]
 rfl
theorem ofE_turn {tops seen : List Str} {s : Str} {r : Int} (h : ∀ x ∈ seen, x ∈ tops) : (if s ∈ seen then (6 : Int) else if s ∉ tops then 8 else r) = if s ∉ tops then 8 else if s ∈ seen then 6 else r := by
 by_cases h1 : s ∈ seen
 ·have := h s h1;simp [h1, this]
 ·simp [h1]
theorem flatten_le {α : Type} {M : Nat} : ∀ {l : List (List α)}, (∀ f ∈ l, f.length ≤ M) → l.flatten.length ≤ l.length * M
 | [], _ => by simp
 | a :: t, h => by
  have h1 := flatten_le (M := M) (l := t) (fun f hf => h f (List.mem_cons_of_mem _ hf));have h2 := h a List.mem_cons_self;rw [List.flatten_cons, List.length_append, List.length_cons, Nat.succ_mul]
  omega
theorem fndF_mem {fs : List (Str × List Str)} {s : Str} : fndF fs s = [] ∨ ∃ p ∈ fs, fndF fs s = p.2 := by
 unfold fndF
 cases h : fs.find? fun p => decide (p.1 = s) with
 | none => exact .inl rfl
 | some p => exact .inr ⟨p, List.mem_of_find?_eq_some h, rfl⟩
theorem newF_mem {fs : List (Str × List Str)} {order : List Str} {f : List Str} (h : f ∈ newF fs order) : f = [] ∨ ∃ p ∈ fs, f = p.2 := by
 unfold newF at h
 rcases List.mem_append.1 h with h | h
 ·obtain ⟨s, _, rfl⟩ := List.mem_map.1 h;exact fndF_mem
 ·obtain ⟨p, hp, rfl⟩ := List.mem_map.1 h;exact .inr ⟨p, (List.mem_filter.1 hp).1, rfl⟩
theorem newF_len (fs : List (Str × List Str)) (order : List Str) : (newF fs order).length ≤ order.length + fs.length := by
 unfold newF;rw [List.length_append, List.length_map, List.length_map];have := List.length_filter_le (fun p : Str × List Str => decide (p.1 ∉ order)) fs
 omega
def dNew (its : List Itm) (order : List Str) : DskR := ⟨newF (famsS its) order, fun _ => 0, [], 0⟩
theorem fam_ids {its : List Itm} {p : Str × List Str} (hp : p ∈ famsS its) {s : Str} (hs : s ∈ p.2) : s ∈ its.map (·.id) := by
 unfold famsS at hp;obtain ⟨t, ht, rfl⟩ := List.mem_map.1 hp;unfold belS at hs;obtain ⟨i, hi, rfl⟩ := List.mem_map.1 hs;have hl := bel_lt 4 t i (mem_topsI.1 ht).1 hi;rw [idAt2_eq hl];exact List.mem_map_of_mem (List.getElem_mem hl)
theorem fam_len {its : List Itm} (hR : Right its) {p : Str × List Str} (hp : p ∈ famsS its) : p.2.length ≤ its.length := by
 have h1 : ((famsS its).flatMap fun p => p.2).length = its.length := by
  unfold famsS;rw [List.flatMap_map];exact hR.all_len
 rw [← h1, List.flatMap_def];exact len_flatten (List.mem_map_of_mem hp)
theorem fams_len (its : List Itm) : (famsS its).length ≤ its.length := by
 unfold famsS topsI;rw [List.length_map];refine Nat.le_trans (List.length_filter_le _ _) ?_;simp
theorem dNew_ok {its : List Itm} (hR : Right its) (hn : its.length ≤ 12) (hz : ∀ x ∈ its, ItB x) {order : List Str} (ho : order.length ≤ 12) : DkOk (its.map (·.id)) (dNew its order) := by
 have hf : ∀ f ∈ newF (famsS its) order, f.length ≤ 12 := fun f hf => by
  rcases newF_mem hf with rfl | ⟨p, hp, rfl⟩
  ·simp
  ·have := fam_len hR hp; omega
 have hl := newF_len (famsS its) order;have hl2 := fams_len its;have hfl := flatten_le hf;refine ⟨?_, by simp; omega, fun s hs => ?_, fun f hf s hs => ?_, ?_, ?_, by simp [dNew], fun b hb => absurd hb (by simp [dNew]), fun b hb => absurd hb (by simp [dNew]), fun b hb => absurd hb (by simp [dNew])⟩
 ·exact List.pairwise_map.2 hR.distinct
 ·obtain ⟨x, hx, rfl⟩ := List.mem_map.1 hs;have := (hz x hx).1
  omega
 ·rcases newF_mem hf with rfl | ⟨p, hp, rfl⟩
  ·simp at hs
  ·exact fam_ids hp hs
 ·show (newF (famsS its) order).flatten.length ≤ 1000
  have : (newF (famsS its) order).length * 12 ≤ 24 * 12 := Nat.mul_le_mul_right _ (by omega)
  omega
 ·show (newF (famsS its) order).length ≤ 1000
  omega
theorem tops_nodup {its : List Itm} (hR : Right its) : ((famsS its).map (·.1)).Nodup := by
 unfold famsS;rw [List.map_map];have h : (topsI its).Nodup := (List.nodup_range).filter _;refine List.pairwise_map.2 (h.imp_of_mem fun {a b} ha hb hab he => hab ?_);have ha := (mem_topsI.1 ha).1;have hb := (mem_topsI.1 hb).1;have he2 : idAt2 its a = idAt2 its b := he;rw [idAt2_eq ha, idAt2_eq hb] at he2;exact id_inj hR.distinct ha hb he2
theorem find_rev {fs : List Fm} (h : (fs.map (·.1)).Nodup) (s : Str) : (fs.reverse.find? fun p => decide (p.1 = s)) = fs.find? fun p => decide (p.1 = s) := by
 induction fs with
 | nil => rfl
 | cons a t ih =>
  rw [List.map_cons, List.nodup_cons] at h;rw [List.reverse_cons, List.find?_append, ih h.2, List.find?_cons]
  by_cases e : a.1 = s
  ·have hn : (t.find? fun p => decide (p.1 = s)) = none := by
    rw [List.find?_eq_none];intro p hp hps;exact h.1 (by rw [e, ← of_decide_eq_true hps]; exact List.mem_map_of_mem hp)
   rw [hn];simp [e]
  ·cases hh : t.find? fun p => decide (p.1 = s) <;> simp [e, hh]
end Go.Proofs.YtgfgggeeoeppjaaGreatDoor
/- The open items of a family, those that are left; of the program. -/
namespace Go.Proofs.YtgfgggeeoeppjaaGreatDoor
open Go.RowKit
set_option maxHeartbeats 4000000 in
theorem open_calls (w : World) (g bm : Nat) (bo : Option Nat) (ids : List Str) (d : DskR) (hD : DkP w g bm bo ids d) (hO : DkOk ids d) (top : Str) (A : Option Addr) (n c : Nat) (f : List Str) (hf : Sl w 9 1 (.slice A n c) (strsV f)) (hfi : ∀ s ∈ f, s ∈ ids) (hfl : f.length ≤ 1000) :
  Calls Tryz.prog 60 #[.pointer (some ⟨g, 0, none⟩), .agg #[.string ⟨top.toArray⟩, .slice A n c]] w (OwnSPost w (opnF d.st f)) := by
 obtain ⟨i0, hi0, hz0, hz1, hz2⟩ := info_parts info_str7;have hfn := Sl.lenS hf;subst hfn;obtain ⟨FA, fc, fms, BA, bc, bts, hB, _, _, hS, _, _⟩ := hD;obtain ⟨_, _, _, e0, hc1, hc2, _, hr⟩ := hf
 cases e0
 have HB := Lib.hid hB;have HS := Lib.hid hS;have HR := Lib.hid hr;have HI := Lib.hid hfi;have HSL := Lib.hid hO.sl;have HP1 := Lib.hid (pure_alloc w (.cells #[.string ⟨top.toArray⟩, .slice A f.length c] 90));have HF3 := Lib.hid (Blk.new w 90 #[.string ⟨top.toArray⟩, .slice A f.length c])
 have hsz : w.heap.size ≤ (w.alloc (.cells #[.string ⟨top.toArray⟩, .slice A f.length c] 90)).heap.size := by simp
 unfold OwnSPost;clear hB hS hr hfi hO
 go_enter Tryz.func60, Tryz.ntmps60
 go_upto_region 2 with (fail)
 generalize (w.alloc (.cells #[.string ⟨top.toArray⟩, .slice A f.length c] 90)) = w1 at *;generalize hg3 : w.heap.size = g3 at *;have hg3a := Nat.le_of_eq hg3;have hg3b := Nat.le_of_eq hg3.symm;clear hg3;have hx := HF3.out;have x0 := hx.cell 0; have x1 := hx.cell 1; simp at x0 x1;clear hx HF3
 go_wp2_with fail
 go_loopg [5, 11] f.length (fun gk x i wr => ∃ (k cap : Nat) (Ao : Option Addr) (out : List Str), f.length - k = gk ∧ k ≤ f.length ∧ x = .slice Ao out.length cap ∧ i = .int .i64 (k : Int) ∧ out = opnF d.st (f.take k) ∧ out.length ≤ k ∧ wr.ownsRow g3 9 1 (.slice Ao out.length cap) out.length (strsV out) ∧ Pure w wr ∧ g3 ≤ wr.heap.size)
 case atStart => exact ⟨0, 0, none, [], by omega, by omega, rfl, rfl, by simp [opnF], by simp, ⟨rfl, .inl ⟨rfl, rfl⟩⟩, HP1.out, hsz⟩
 case round =>
  clear HP1 x0 x1;obtain ⟨k, cap, Ao, out, rfl, hk, rfl, rfl, hout, hol, hown, hm, hsz⟩ := hrel
  by_cases hlt : k < f.length
  ·obtain ⟨gf, off, rfl, hrow⟩ := HR.out (by omega);have hq := (hrow.mod hm id).cell (strsV_get f k hlt);have hx := HB.out.modp hm;have hmem := HI.out _ (List.getElem_mem hlt);have hlk := (HS.out.pure hm).look hmem (HSL.out _ hmem);have HKT := Lib.hid (opnF_take (st := d.st) hlt);have x0 := hx.cell 0; have x1 := hx.cell 1; have x2 := hx.cell 2; have x3 := hx.cell 3; simp at x0 x1 x2 x3;have HOUT := Lib.hid hout;have HOWN := Lib.hid hown;have HM := Lib.hid hm;clear hx hout hrow hmem;generalize f[k] = s at *
   by_cases h0 : d.st s = 0
   ·have hb : (pst (d.st s) == 0) = true := by simpa using (pst_zero _).2 h0
    have HN := Lib.hid (show opnF d.st (f.take (k + 1)) = out ++ [s] by rw [HKT.out, if_pos h0, HOUT.out]);have HOB := Lib.hid (own_block hown);clear HKT h0 HOUT
    go_wp2_with (at_builtin; refine wpList_append_lies _ rfl _ _ _ rfl g3 9 i0 _ 1 16 Tryz.underlying29 hi0 hz0 hz1 hz2 rfl (by omega) (.slice Ao out.length cap) out.length (strsV out) rfl (hown.alloc _) ⟨wr.heap.size, 0, none⟩ 1 1 [.string ⟨s.toArray⟩] rfl rfl (World.news_of_block (cs := #[.string ⟨s.toArray⟩]) (t := 9) (fr := (0, 0)) (heap_alloc_new wr _)) (by simp [Value.oneCell']) (by omega) (by simp [maxLen]; omega) (by omega) (by have := hm.size; simp; omega) (wr.heap.size + 1) (by simp) ?_; intro g5 cap5 w5 hown5 hgrow hat hlt5)
    have hz5 := hgrow.size;simp at hz5;have hm5 := grown_mod (v := .slice Ao out.length cap) hgrow
    go_roundg (f.length - (k + 1))
    case measure => omega
    case rel => exact ⟨k + 1, cap5, some ⟨g5, 0, none⟩, out ++ [s], rfl, by omega, by simp, by simp, HN.out.symm, by simp; omega, by have := hown5; simpa [strsV] using this, (HM.out.alloc _).trans' hm5 (fun i h hl => by have := HOB.out _ h; omega), by omega⟩
   ·have hb : (pst (d.st s) == 0) = false := by simpa using (fun h => h0 ((pst_zero _).1 h))
    have HN := Lib.hid (show opnF d.st (f.take (k + 1)) = out by rw [HKT.out, if_neg h0, HOUT.out]);clear HKT h0 HOUT hown hm
    go_wp2_with fail
    go_roundg (f.length - (k + 1))
    case measure => omega
    case rel => exact ⟨k + 1, cap, Ao, out, rfl, by omega, rfl, by simp, HN.out.symm, by omega, HOWN.out, HM.out, hsz⟩
  ·obtain rfl : k = f.length := by omega
   rw [List.take_length] at hout;have HOUT := Lib.hid hout;have HOW := Lib.hid hown;have HM2 := Lib.hid hm;clear hown hout hm
   go_wp2_with fail
   go_ret;rw [← HOUT.out];exact ⟨Ao, cap, rfl, own_baseK HOW.out hg3a, HM2.out⟩
theorem own_two {w : World} {base n c : Nat} {A : Option Addr} {xs : List Str} (h : w.ownsRow base 9 1 (.slice A n c) n (strsV xs)) : (A = none ∧ n = 0 ∧ c = 0 ∧ xs = []) ∨ ∃ g, A = some ⟨g, 0, none⟩ ∧ ∀ j u, (strsV xs)[j]? = some u → w.cell? ((⟨g, 0, none⟩ : Addr).add j) = some u := by
 have hl := h.1
 rcases h.2 with ⟨e, h0⟩ | ⟨g, cap, cur, e, _⟩
 ·injection e with e1 e2 e3
  subst h0;exact .inl ⟨e1, rfl, e3, List.eq_nil_of_length_eq_zero (by simpa [strsV] using hl)⟩
 ·injection e with e1 e2 e3
  subst e1;refine .inr ⟨g, rfl, fun j u hj => ?_⟩
  have hjl : j < (strsV xs).length := by
   rcases Nat.lt_or_ge j (strsV xs).length with h | h
   ·exact h
   ·rw [List.getElem?_eq_none h] at hj; cases hj
  have := (h.cellAt j (by omega)).trans hj
  by_cases j0 : j = 0
  ·subst j0; simpa [Addr.add] using this
  ·simpa [Addr.add, j0] using this
set_option maxHeartbeats 4000000 in
theorem left_calls (w : World) (g bm : Nat) (bo : Option Nat) (ids : List Str) (d : DskR) (hD : DkP w g bm bo ids d) (hO : DkOk ids d) :
  Calls Tryz.prog 25 #[.pointer (some ⟨g, 0, none⟩)] w (OwnSPost w (lftL d.st d.fams)) := by
 obtain ⟨i0, hi0, hz0, hz1, hz2⟩ := info_parts info_str7;have HDP := Lib.hid (fun W (h : Pure w W) => open_calls W g bm bo ids d (hD.pure h) hO);obtain ⟨FA, fc, fms, BA, bc, bts, hB, hF, hfe, hS, _, _⟩ := hD
 have hfl : fms.length = d.fams.length := by rw [← hfe]; simp
 have HB := Lib.hid hB;have HF := Lib.hid hF;have HFE := Lib.hid (fun k (h : k < fms.length) => show d.fams[k]'(by omega) = fms[k].2.2 by simp [← hfe]);have HFI := Lib.hid hO.fi;have HFL := Lib.hid hO.fl;have hfn := hO.fn
 have hfl9 : fms.length ≤ 1000 := by have := hO.fn; omega
 unfold OwnSPost;clear hB hS hF hfe hO;obtain ⟨g3, hg3⟩ : ∃ g3, g3 = w.heap.size := ⟨_, rfl⟩;have hg3a := Nat.le_of_eq hg3;have hg3b := Nat.le_of_eq hg3.symm;clear hg3;have hx := HB.out;have x0 := hx.cell 0; have x1 := hx.cell 1; have x2 := hx.cell 2; have x3 := hx.cell 3; simp at x0 x1 x2 x3;clear hx
 go_enter Tryz.func25, Tryz.ntmps25
 go_wp2_with fail
 go_loopg [3, 11] fms.length (fun gk x i wr => ∃ (k cap : Nat) (Ao : Option Addr) (out : List Str), fms.length - k = gk ∧ k ≤ fms.length ∧ x = .slice Ao out.length cap ∧ i = .int .i64 (k : Int) ∧ out = lftL d.st (d.fams.take k) ∧ wr.ownsRow g3 9 1 (.slice Ao out.length cap) out.length (strsV out) ∧ Pure w wr ∧ g3 ≤ wr.heap.size)
 case atStart => exact ⟨0, 0, none, [], by omega, by omega, rfl, rfl, by simp [lftL], ⟨rfl, .inl ⟨rfl, rfl⟩⟩, Mod.refl _ _, hg3a⟩
 case round =>
  clear x0 x1 x2 x3;obtain ⟨k, cap, Ao, out, rfl, hk, rfl, rfl, hout, hown, hm, hsz⟩ := hrel
  have hol : out.length ≤ 1000 := by
   have h1 := lftL_len d.st (d.fams.take k);have h2 := flatten_take_len (fs := d.fams) k;have h3 := HFL.out;rw [hout]; omega
  by_cases hlt : k < fms.length
  ·obtain ⟨gf, off, YA, yn, yc, rfl, p0, p1, e5, hfs⟩ := (HF.out.pure hm).at hlt;have HFS := Lib.hid hfs;have hfe := HFE.out k hlt;have HMF := Lib.hid (HFI.out _ (List.getElem_mem (show k < d.fams.length by omega)));have HLT := Lib.hid (lftL_take (st := d.st) (show k < d.fams.length by omega));have HLF := Lib.hid (Nat.le_trans (len_flatten (List.getElem_mem (show k < d.fams.length by omega))) HFL.out);rw [hfe] at HMF HLT HLF;have HOUT := Lib.hid hout;have HOWN := Lib.hid hown;have HM := Lib.hid hm;clear hfe hout hown hm hfs e5;generalize fms[k] = y at *;obtain ⟨top, yv, f⟩ := y;simp only at p0 p1 HFS HMF HLT HLF;have HP4 := Lib.hid (HM.out.trans (pure_alloc wr (.cells #[.string ⟨top.toArray⟩, .slice YA yn yc] 90)));have HB5 := Lib.hid (Blk.new wr 90 #[.string ⟨top.toArray⟩, .slice YA yn yc]);have HOW4 := Lib.hid (own_pure HOWN.out (pure_alloc wr (.cells #[.string ⟨top.toArray⟩, .slice YA yn yc] 90)));have HFS4 := Lib.hid (HFS.out.pure (pure_alloc wr (.cells #[.string ⟨top.toArray⟩, .slice YA yn yc] 90)))
   have hsz4 : g3 ≤ (wr.alloc (.cells #[.string ⟨top.toArray⟩, .slice YA yn yc] 90)).heap.size := by simp; omega
   clear HM HOWN HFS
   go_upto_region 5 with (fail)
   generalize (wr.alloc (.cells #[.string ⟨top.toArray⟩, .slice YA yn yc] 90)) = w4 at *;generalize wr.heap.size = g5 at *;clear p0 p1;have hx := HB5.out;have x0 := hx.cell 0; have x1 := hx.cell 1; simp at x0 x1;have HOP := Lib.hid (HDP.out w4 HP4.out top YA yn yc f HFS4.out HMF.out HLF.out);clear hx
   go_wp2_with fail
   refine HOP.out.mono ?_;rintro e w5 ⟨A5, c5, rfl, hown5, hm5⟩;have hown := own_pure HOW4.out hm5;have HMM := HP4.out.trans hm5;have HOB := Lib.hid (own_block hown)
   have hsz5 : g3 ≤ w5.heap.size := by have := hm5.size; omega
   have HN := Lib.hid (show lftL d.st (d.fams.take (k + 1)) = out ++ opnF d.st f by rw [HLT.out, HOUT.out]);have hop2 : (opnF d.st f).length ≤ 1000 := Nat.le_trans (opnF_len _ _) HLF.out;clear HOP HOW4 HP4 HFS4 HB5 x0 x1 HLT HOUT;generalize opnF d.st f = some_ at *;have hown5' := hown5
   have hl5 : (strsV some_).length = some_.length * 1 := by simp [strsV]
   have hone := strsV_one some_
   rcases own_two hown5 with ⟨rfl, h0, rfl, rfl⟩ | ⟨g2, rfl, hnews⟩
   ·have HM := Lib.hid HMM;have HOWN := Lib.hid hown;clear hown5' hown5 hm5 HMM
    go_wp2_with (at_builtin; (refine wpList_append_own_none rfl _ _ _ rfl g3 9 i0 1 Tryz.underlying29 hi0 (.slice Ao out.length cap) out.length _ rfl hown rfl ?_))
    go_roundg (fms.length - (k + 1))
    case measure => omega
    case rel => exact ⟨k + 1, cap, Ao, out, rfl, by omega, rfl, by simp, by rw [HN.out]; simp, HOWN.out, HM.out, hsz5⟩
   ·have HM := Lib.hid HMM;clear hown5' hown5 hm5 HMM
    go_wp2_with (at_builtin; (refine wpList_append_own_at _ rfl _ _ _ rfl g3 9 i0 _ 1 16 Tryz.underlying29 hi0 hz0 hz1 hz2 rfl (by omega) (.slice Ao out.length cap) out.length _ rfl hown ⟨g2, 0, none⟩ some_.length _ _ rfl hl5 hnews hone (by simp [maxLen]; omega) (by omega) (by omega) ?_); intro v6 w6 hown6 hgrow hnil hat; obtain ⟨A6, n6, c6, rfl⟩ := (Sl.of_own hown6).form; clear hnil)
    have hm6 := grown_mod (v := .slice Ao out.length cap) hgrow
    have hn6 : n6 = (out ++ some_).length := by
     rcases hown6.2 with ⟨h, h0⟩ | ⟨g, cap', cur, h, _⟩
     ·injection h with _ h1 _
      simp
      omega
     ·injection h with _ h1 _
      simp
      omega
    subst hn6
    go_roundg (fms.length - (k + 1))
    case measure => omega
    case rel =>
     refine ⟨k + 1, c6, A6, out ++ some_, rfl, by omega, rfl, by simp, HN.out.symm, ?_, HM.out.trans' hm6 (fun i hi hl => by have := HOB.out _ hi; omega), by have := hgrow.size; omega⟩
     have e1 : strsV (out ++ some_) = strsV out ++ strsV some_ := by simp [strsV]
     rw [e1];have h := hown6;rw [← List.length_append] at h;exact h
  ·obtain rfl : k = fms.length := by omega
   rw [List.take_of_length_le (by omega)] at hout;have HOUT := Lib.hid hout;have HOW := Lib.hid hown;have HM2 := Lib.hid hm;clear hown hout hm
   go_wp2_with fail
   go_ret;rw [← HOUT.out];exact ⟨Ao, cap, rfl, own_baseK HOW.out hg3b, HM2.out⟩
end Go.Proofs.YtgfgggeeoeppjaaGreatDoor
/- codingsError, givenError of the program. -/
namespace Go.Proofs.YtgfgggeeoeppjaaGreatDoor
open Go.RowKit
end Go.Proofs.YtgfgggeeoeppjaaGreatDoor
/- Spread of the program. -/
namespace Go.Proofs.YtgfgggeeoeppjaaGreatDoor
open Go.RowKit
def SlT (w : World) (v : Value) (xs : List Str) : Prop := Sl w 9 1 v (strsV xs)
theorem SlT.pure {w w' : World} {v : Value} {xs : List Str} (h : SlT w v xs) (hm : Pure w w') : SlT w' v xs := Sl.pure h hm
end Go.Proofs.YtgfgggeeoeppjaaGreatDoor
/- Take of the program. -/
namespace Go.Proofs.YtgfgggeeoeppjaaGreatDoor
open Go.RowKit
theorem Blk.set5 {w : World} {g : Nat} {t : TypeId} {a b c d e : Value} (h : Blk w g t #[a, b, c, d, e]) (x0 x1 x2 x3 x4 : Value) : Blk (((((w.setCell ⟨g, 0, none⟩ x0).setCell ⟨g, 1, none⟩ x1).setCell ⟨g, 2, none⟩ x2).setCell ⟨g, 3, none⟩ x3).setCell ⟨g, 4, none⟩ x4) g t #[x0, x1, x2, x3, x4] := by
 have := ((((h.set 0 x0).set 1 x1).set 2 x2).set 3 x3).set 4 x4
 simpa using this
theorem Mod.set5 {S : Nat → Prop} {w W : World} {g : Nat} (h : Mod S w W) (hg : S g ∨ w.heap.size ≤ g) (x0 x1 x2 x3 x4 : Value) : Mod S w (((((W.setCell ⟨g, 0, none⟩ x0).setCell ⟨g, 1, none⟩ x1).setCell ⟨g, 2, none⟩ x2).setCell ⟨g, 3, none⟩ x3).setCell ⟨g, 4, none⟩ x4) :=
 ((((h.setCell (p := ⟨g, 0, none⟩) hg x0).setCell (p := ⟨g, 1, none⟩) hg x1).setCell (p := ⟨g, 2, none⟩) hg x2).setCell (p := ⟨g, 3, none⟩) hg x3).setCell (p := ⟨g, 4, none⟩) hg x4
theorem inP_calls (w : World) (n a b : Int) : Calls Tryz.prog 59 #[.int .i64 n, .int .i64 a, .int .i64 b] w (BoolPost w (inB n a b)) := (in_calls n a b w).mono (by rintro e w' ⟨rfl, rfl⟩; exact BoolPost.of rfl (Mod.refl _ _))
theorem tkE_first (d : DskR) (rev : Str) (at_ most : Int) : firstErr [if (!keyB rev) = true then 5 else 0, moE at_, if decide (at_ < d.last) = true then 7 else 0, if (!inB most 1 500) = true then 1 else 0, if hasB d rev = true then 11 else 0] = tkE d rev at_ most := by
 unfold tkE
 cases keyB rev
 ·simp [firstErr]
 ·by_cases h1 : moE at_ = 0
  ·by_cases h2 : at_ < d.last
   ·simp [firstErr, h1, h2]
   ·cases inB most 1 500
    ·simp [firstErr, h1, h2]
    ·cases hasB d rev <;> simp [firstErr, h1, h2]
  ·simp [firstErr, h1]
theorem mapX_ne {w : World} {b n g : Nat} {f : Str → Option Value} {t : TypeId} {cs : Array Value} (h : MapX w b n f) (hB : Blk w g t cs) : g ≠ b := by
 rintro rfl;obtain ⟨D, ⟨es, clock, hb, _⟩, _⟩ := h;unfold Blk at hB;rw [hb] at hB
 cases hB
theorem mapX_cells {w : World} {b n : Nat} {f : Str → Option Value} (h : MapX w b n f) {g : Nat} {arr : Array Value} {t : TypeId} {fr : Nat × Nat} (hg : w.heap[g]? = some (.cells arr t fr)) : g ≠ b := by
 rintro rfl;obtain ⟨D, ⟨es, clock, hb, _⟩, _⟩ := h;rw [hb] at hg
 cases hg
theorem blk_ty2 {w : World} {g i : Nat} {t u : TypeId} {cs arr : Array Value} {fr : Nat × Nat} (h : Blk w g t cs) (hi : w.heap[i]? = some (.cells arr u fr)) (hne : u ≠ t) : i ≠ g := by
 rintro rfl;unfold Blk at h;rw [h] at hi
 injection hi with hi
 injection hi with _ h2 _
 exact hne h2.symm
def BtB (w : World) (A : Option Addr) (c : Nat) (xs : List BatR) (ks : List BatK) (g : Nat) (T : TypeId) (cl : Array Value) : Prop := BatO w 0 A c xs ks ∧ Blk w g T cl
theorem BtB.pure {w w' : World} {c g : Nat} {A : Option Addr} {xs : List BatR} {ks : List BatK} {T : TypeId} {cl : Array Value} (h : BtB w A c xs ks g T cl) (hm : Pure w w') : BtB w' A c xs ks g T cl := ⟨h.1.pure hm, h.2.modp hm⟩
theorem BtB.app {w w' : World} {c c5 n' g : Nat} {A A5 : Option Addr} {xs : List BatR} {ks : List BatK} {T : TypeId} {cl : Array Value} {x : BatR} (h : BtB w A c xs ks g T cl) (hT : T ≠ 42) (hm : Mod (fun j => (Value.slice A xs.length c).ownBlock = some j) w w')
  (hx : Sl w 9 1 (.slice x.A x.items.length x.c) (strsV x.items)) (hn : n' = xs.length + 1) (hown : w'.ownsRow 0 42 5 (.slice A5 n' c5) n' (batV xs ++ batC x)) : BtB w' A5 c5 (xs ++ [x]) (ks ++ [x.key]) g T cl :=
 ⟨h.1.app hx hm hn hown, h.2.mod hm (fun hv => by have h2 := h.2; unfold Blk at h2; exact hT (own_ty h.1.1 hv h2))⟩
theorem BtB.store {w : World} {c g q : Nat} {A : Option Addr} {xs : List BatR} {ks : List BatK} {T : TypeId} {cl : Array Value} (h : BtB w A c xs ks g T cl) (hT : T ≠ 42) (hS : T ≠ 9) (u : Value) : BtB (w.setCell ⟨g, q, none⟩ u) A c xs ks g T (cl.setIfInBounds q u) :=
 have hm : Mod (· = g) w (w.setCell ⟨g, q, none⟩ u) := (Mod.refl (· = g) w).setCell (.inl rfl) _
 ⟨h.1.mod hm (fun j hj e => by subst e; have h2 := h.2; unfold Blk at h2; exact hT (own_ty h.1.1 hj h2)) (fun i arr fr hi e => blk_ty2 h.2 hi (Ne.symm hS) e), h.2.set q u⟩
theorem blk2_far {w : World} {ga gb : Nat} {ta tb : TypeId} {ca cb : Array Value} (h : Blk w ga ta ca ∧ Blk w gb tb cb) {p : Addr} (h1 : ga ≠ p.block) (h2 : gb ≠ p.block) (u : Value) : Blk (w.setCell p u) ga ta ca ∧ Blk (w.setCell p u) gb tb cb := ⟨h.1.far h1 u, h.2.far h2 u⟩
theorem info_bat : (Tryz.prog.info? 42).map (fun i => (i.zero, i.size, i.bytes)) = some (some (.agg #[.int .i64 0, .int .i64 0, .int .i64 0, .string ⟨#[]⟩, .slice none 0 0]), 5, 64) := by kernel_rfl
set_option maxHeartbeats 8000000 in
theorem ptake_calls (w : World) (g bm : Nat) (bo : Option Nat) (ids : List Str) (d : DskR) (hD : DkP w g bm bo ids d) (hO : DkOk ids d) (rev : Str) (hrl : rev.length ≤ 1000) (at_ most : Int) (hbn : d.bats.length ≤ 900) :
  Calls Tryz.prog 15 #[.pointer (some ⟨g, 0, none⟩), .string ⟨rev.toArray⟩, .int .i64 at_, .int .i64 most] w (TkPost (fun W bo' d' => DkP W g bm bo' ids d') w g bm bo d rev at_ most) := by
 have HD := Lib.hid hD;have HO := Lib.hid hO;have HOP := Lib.hid (fun W (h : Pure w W) => open_calls W g bm bo ids d (hD.pure h) hO);obtain ⟨FA, fc, fms, BA, bc, bts, hB, hF, hfe, hS, hBT, hbo⟩ := hD;have HB := Lib.hid hB;have HF := Lib.hid hF;have HFE := Lib.hid hfe;have HS := Lib.hid hS;have HBT := Lib.hid hBT;have HBO := Lib.hid hbo
 have hfla : fms.length ≤ d.fams.length := by rw [← hfe]; simp
 have hflb : d.fams.length ≤ fms.length := by rw [← hfe]; simp
 have hfl9 : fms.length ≤ 1000 := by have := hO.fn; omega
 have hbla := Nat.le_of_eq hBT.kl;have hblb := Nat.le_of_eq hBT.kl.symm;have hgw := hB.lt;have hbmw := hS.lt;have hp1 := pure_alloc w (.cells #[.string ⟨rev.toArray⟩] 9);have hp2 := pure_alloc (w.alloc (.cells #[.string ⟨rev.toArray⟩] 9)) (.cells #[.int .i64 0, .int .i64 0, .int .i64 0, .string ⟨#[]⟩, .slice none 0 0] 42);have HM2 := Lib.hid (hp1.trans hp2);have HB52 := Lib.hid ((Blk.new w 9 #[.string ⟨rev.toArray⟩]).modp hp2);have HB82 := Lib.hid (Blk.snd w (.cells #[.string ⟨rev.toArray⟩] 9) 42 #[.int .i64 0, .int .i64 0, .int .i64 0, .string ⟨#[]⟩, .slice none 0 0]);have HTK := Lib.hid (tkE_first d rev at_ most);have HKF : Hid (tkF d rev at_ most = if tkE d rev at_ most ≠ 0 then tkE d rev at_ most else if takL d.st most d.fams [] = [] then 8 else 0) := Lib.hid rfl;unfold TkPost;obtain ⟨er, her⟩ : ∃ er, tkE d rev at_ most = er := ⟨_, rfl⟩;rw [her] at HTK HKF;obtain ⟨ef, hef⟩ : ∃ ef, tkF d rev at_ most = ef := ⟨_, rfl⟩;rw [hef] at HKF ⊢;obtain ⟨me, hme⟩ : ∃ me, moE at_ = me := ⟨_, rfl⟩;have HME := Lib.hid (fun W => by have := momentE_calls W at_; rwa [hme] at this);rw [hme] at HTK;obtain ⟨kb, hkb⟩ : ∃ kb, keyB rev = kb := ⟨_, rfl⟩;have HKY := Lib.hid (fun W => by have := key_any W rev (by omega); rwa [hkb] at this);rw [hkb] at HTK;obtain ⟨ib, hib⟩ : ∃ ib, inB most 1 500 = ib := ⟨_, rfl⟩;have HIN := Lib.hid (fun W => by have := inP_calls W most 1 500; rwa [hib] at this);rw [hib] at HTK;obtain ⟨hb, hhb⟩ : ∃ hb, hasB d rev = hb := ⟨_, rfl⟩;have HHB := Lib.hid ((hasB_of (rev := rev) hBT.2.2).trans hhb);rw [hhb] at HTK;obtain ⟨TL, hTL⟩ : ∃ TL, takL d.st most d.fams [] = TL := ⟨_, rfl⟩;rw [hTL] at HKF ⊢
 have hTLl : TL.length ≤ 1000 := by
  have h1 := takL_len d.st most d.fams [];have h2 := HO.out.fl;rw [hTL] at h1;simp only [List.length_nil, Nat.zero_add] at h1
  omega
 have HTI : Hid (∀ s ∈ TL, s ∈ ids) := Lib.hid (by rw [← hTL]; exact takL_mem _ _ (fun s h => absurd h (by simp)) HO.out.fi);have HTL := Lib.hid hTL;have HDT := Lib.hid (show dTake d rev at_ most = ⟨d.fams, fun s => if s ∈ TL then (d.bats.length : Int) + 1 else d.st s, d.bats ++ [((d.bats.length : Int) + 1, at_, -1, rev, TL)], at_⟩ by unfold dTake; rw [hTL]);clear hTL;clear hB hF hfe hS hBT hbo hp1 hp2 her hef hme hkb hib hhb hO
 go_enter Tryz.func15, Tryz.ntmps15
 go_upto_region 1 with (fail)
 generalize ((w.alloc (.cells #[.string ⟨rev.toArray⟩] 9)).alloc (.cells #[.int .i64 0, .int .i64 0, .int .i64 0, .string ⟨#[]⟩, .slice none 0 0] 42)) = w2 at *;generalize hg8 : w.heap.size + 1 = g8 at *;generalize hg5 : w.heap.size = g5 at *;have hg8a := Nat.le_of_eq hg8;have hg8b := Nat.le_of_eq hg8.symm;have hg5a := Nat.le_of_eq hg5;have hg5b := Nat.le_of_eq hg5.symm;clear hg8 hg5;have HCT := Lib.hid (containsBt_calls w2 (.slice BA bts.length bc) bts 54 (.pointer (some ⟨g5, 0, none⟩)) (fun x => decide (x.rev = rev) && decide (x.inn = -1)) (Sl.of_own (own_pure HBT.out.1 HM2.out)) (fun _ _ => rfl) (fun x W hx hm => ptake1_calls W g5 x rev (HB52.out.modp hm)));rw [HHB.out] at HCT;have hx := HB.out.modp HM2.out;have x0 := hx.cell 0; have x1 := hx.cell 1; have x2 := hx.cell 2; have x3 := hx.cell 3; simp at x0 x1 x2 x3;clear hx
 go_wp2_with fail
 refine HCT.out.mono ?_;rintro e w3 ⟨rfl, hm3⟩;have HM3 := Lib.hid (HM2.out.trans hm3);have HB53 := Lib.hid (HB52.out.modp hm3);have HB83 := Lib.hid (HB82.out.modp hm3);have HB3 := Lib.hid (HB.out.modp HM3.out);clear x0 x1 x2 x3 hm3 HM2 HB52 HB82 HCT HHB
 go_upto_region 2 with (fail)
 obtain ⟨e1, he1⟩ : ∃ e1 : Int, (if (!kb) = true then 5 else 0) = e1 := ⟨_, rfl⟩;obtain ⟨e3, he3⟩ : ∃ e3 : Int, (if decide (at_ < d.last) = true then 7 else 0) = e3 := ⟨_, rfl⟩;obtain ⟨e4, he4⟩ : ∃ e4 : Int, (if (!ib) = true then 1 else 0) = e4 := ⟨_, rfl⟩;obtain ⟨e5, he5⟩ : ∃ e5 : Int, (if hb = true then 11 else 0) = e5 := ⟨_, rfl⟩;rw [he1, he3, he4, he5] at HTK;have HE1 := Lib.hid he1;have HE3 := Lib.hid he3;have HE4 := Lib.hid he4;have HE5 := Lib.hid he5;have HFI := Lib.hid (fun (W : World) (g : Nat) (h : Blk W g 33 #[.int .i64 e1, .int .i64 me, .int .i64 e3, .int .i64 e4, .int .i64 e5]) => by have := firstE_calls W g 5 [e1, me, e3, e4, e5] h.row0 (by simp); rwa [HTK.out] at this);clear he1 he3 he4 he5 HTK;have HGs := Lib.hid (show ∀ (D : Nat → Bool) (zzi : Nat) (zq zq' : World), (fun _ zq => (fun Z => Blk Z g5 9 #[.string ⟨rev.toArray⟩] ∧ Blk Z g 87 #[.slice FA fms.length fc, .map (some bm), .slice BA bts.length bc, .int .i64 d.last]) zq) D zq → Mod (fun _ => False) zq zq' → (fun _ zq => (fun Z => Blk Z g5 9 #[.string ⟨rev.toArray⟩] ∧ Blk Z g 87 #[.slice FA fms.length fc, .map (some bm), .slice BA bts.length bc, .int .i64 d.last]) zq) (upd D zzi true) zq' from by intro D zzi zq zq' h hm; (exact ⟨h.1.modp hm, h.2.modp hm⟩))
 refine wp_region_inv (by kernel_rfl) (by kernel_rfl) (InvF (R := Mod (fun _ => False)) [.is (.string ⟨rev.toArray⟩),
   .is (.bool kb),
   .is (.bool (!kb)),
   .is (.int .i64 e1),
   .is (.int .i64 at_),
   .is (.int .i64 me),
   .is (.int .i64 at_),
   .is (.pointer (some ⟨g, 0, none⟩)),
   .is (.pointer (some ⟨g, 0, none⟩)),
   .is (.pointer (some ⟨g, 3, none⟩)),
   .is (.int .i64 d.last),
   .is (.bool (decide (at_ < d.last))),
   .is (.int .i64 e3),
   .is (.int .i64 most),
   .is (.bool ib),
   .is (.bool (!ib)),
   .is (.int .i64 e4),
   .is (.bool hb),
   .is (.int .i64 e5),
   ⟨fun zv zw => ∃ (g_19 : Nat), zv = .slice (some ⟨g_19, 0, none⟩) 5 5 ∧ w3.heap.size ≤ g_19 ∧ Blk zw g_19 33 #[.int .i64 e1, .int .i64 me, .int .i64 e3, .int .i64 e4, .int .i64 e5], (by rintro zv zw zx ⟨g_19, rfl, c0, q0⟩ hm; exact ⟨g_19, rfl, c0, (q0.modp hm)⟩), none, some 20⟩,
   .is (.int .i64 er),
   .is (.int .i64 er)]
   (PB w3 (fun _ => False) w3.heap.size (fun _ zq => (fun Z => Blk Z g5 9 #[.string ⟨rev.toArray⟩] ∧ Blk Z g 87 #[.slice FA fms.length fc, .map (some bm), .slice BA bts.length bc, .int .i64 d.last]) zq))) (InvF.start (PB.start (Mod.refl _ _) (Nat.le_refl _) (⟨HB53.out.drew, HB3.out.drew⟩))) ?_ ?_
 ·refine .cons ?_ (.cons ?_ (.cons ?_ (.cons ?_ (.cons ?_ (.cons ?_ (.cons ?_ (.cons ?_ (.cons ?_ (.cons ?_ (.cons ?_ (.cons ?_ (.cons ?_ (.cons ?_ (.cons ?_ (.cons ?_ (.cons ?_ (.cons ?_ (.cons ?_ (.cons ?_ (.cons ?_ (.cons ?_ .nil)))))))))))))))))))))
  ·intro D V zw1 a hR hI K hK;obtain ⟨hM1, hB1, hG1⟩ := hI.1;have ze5 := hR.frame.other (t := 5) (by kernel_rfl) rfl;have zx0 := hG1.1.cell 0;simp at zx0;rw [if_pos (by rfl)];go_simp;exact hK (.string ⟨rev.toArray⟩) _ (hI.next hR (by kernel_rfl) (Mod.refl _ _) (PB.quiet hI.1 (Mod.refl _ _) (HGs.out D 0 zw1 zw1 (hI.1).g (Mod.refl _ _))) (upd_same V 0 _))
  ·intro D V zw1 a hR hI K hK;obtain ⟨hM1, hB1, hG1⟩ := hI.1;have zd0 := hR.pred 0 (by kernel_rfl);have zf0 : V 0 = .string ⟨rev.toArray⟩ := hI.2 0 zd0 rfl;have ze25 := hR.frame.done (t := 25) (j := 0) (by kernel_rfl) hR.ok zd0;rw [if_pos (by rfl)];go_simp;refine (HKY.out zw1).mono ?_;rintro e zw2 ⟨rfl, hm2⟩;exact hK (.bool kb) _ (hI.next hR (by kernel_rfl) hm2 (PB.quiet hI.1 hm2 (HGs.out D 1 _ _ (hI.1).g hm2)) (upd_same V 1 _))
  ·intro D V zw1 a hR hI K hK;obtain ⟨hM1, hB1, hG1⟩ := hI.1;have zd1 := hR.pred 1 (by kernel_rfl);have zf1 : V 1 = .bool kb := hI.2 1 zd1 rfl;have ze26 := hR.frame.done (t := 26) (j := 1) (by kernel_rfl) hR.ok zd1;rw [if_pos (by rfl)];go_simp;exact hK (.bool (!kb)) _ (hI.next hR (by kernel_rfl) (Mod.refl _ _) (PB.quiet hI.1 (Mod.refl _ _) (HGs.out D 2 zw1 zw1 (hI.1).g (Mod.refl _ _))) (upd_same V 2 _))
  ·intro D V zw1 a hR hI K hK;obtain ⟨hM1, hB1, hG1⟩ := hI.1;have zd2 := hR.pred 2 (by kernel_rfl);have zf2 : V 2 = .bool (!kb) := hI.2 2 zd2 rfl;have ze27 := hR.frame.done (t := 27) (j := 2) (by kernel_rfl) hR.ok zd2;rw [if_pos (by rfl)];go_simp;refine (whenQ_calls zw1 (!kb) 5 e1 HE1.out).mono ?_;rintro e zw2 ⟨rfl, hm2⟩;exact hK (.int .i64 e1) _ (hI.next hR (by kernel_rfl) hm2 (PB.quiet hI.1 hm2 (HGs.out D 3 _ _ (hI.1).g hm2)) (upd_same V 3 _))
  ·intro D V zw1 a hR hI K hK;obtain ⟨hM1, hB1, hG1⟩ := hI.1;have ze2 := hR.frame.other (t := 2) (by kernel_rfl) rfl;rw [if_pos (by rfl)];go_simp;exact hK (.int .i64 at_) _ (hI.next hR (by kernel_rfl) (Mod.refl _ _) (PB.quiet hI.1 (Mod.refl _ _) (HGs.out D 4 zw1 zw1 (hI.1).g (Mod.refl _ _))) (upd_same V 4 _))
  ·intro D V zw1 a hR hI K hK;obtain ⟨hM1, hB1, hG1⟩ := hI.1;have zd4 := hR.pred 4 (by kernel_rfl);have zf4 : V 4 = .int .i64 at_ := hI.2 4 zd4 rfl;have ze29 := hR.frame.done (t := 29) (j := 4) (by kernel_rfl) hR.ok zd4;rw [if_pos (by rfl)];go_simp;refine (HME.out zw1).mono ?_;rintro e zw2 ⟨rfl, hm2⟩;exact hK (.int .i64 me) _ (hI.next hR (by kernel_rfl) hm2 (PB.quiet hI.1 hm2 (HGs.out D 5 _ _ (hI.1).g hm2)) (upd_same V 5 _))
  ·intro D V zw1 a hR hI K hK;obtain ⟨hM1, hB1, hG1⟩ := hI.1;have ze2 := hR.frame.other (t := 2) (by kernel_rfl) rfl;rw [if_pos (by rfl)];go_simp;exact hK (.int .i64 at_) _ (hI.next hR (by kernel_rfl) (Mod.refl _ _) (PB.quiet hI.1 (Mod.refl _ _) (HGs.out D 6 zw1 zw1 (hI.1).g (Mod.refl _ _))) (upd_same V 6 _))
  ·intro D V zw1 a hR hI K hK;obtain ⟨hM1, hB1, hG1⟩ := hI.1;have ze0 := hR.frame.other (t := 0) (by kernel_rfl) rfl;rw [if_pos (by rfl)];go_simp;exact hK (.pointer (some ⟨g, 0, none⟩)) _ (hI.next hR (by kernel_rfl) (Mod.refl _ _) (PB.quiet hI.1 (Mod.refl _ _) (HGs.out D 7 zw1 zw1 (hI.1).g (Mod.refl _ _))) (upd_same V 7 _))
  ·intro D V zw1 a hR hI K hK;obtain ⟨hM1, hB1, hG1⟩ := hI.1;have zd7 := hR.pred 7 (by kernel_rfl);have zf7 : V 7 = .pointer (some ⟨g, 0, none⟩) := hI.2 7 zd7 rfl;have ze32 := hR.frame.done (t := 32) (j := 7) (by kernel_rfl) hR.ok zd7;rw [if_pos (by rfl)];go_simp;exact hK (.pointer (some ⟨g, 0, none⟩)) _ (hI.next hR (by kernel_rfl) (Mod.refl _ _) (PB.quiet hI.1 (Mod.refl _ _) (HGs.out D 8 zw1 zw1 (hI.1).g (Mod.refl _ _))) (upd_same V 8 _))
  ·intro D V zw1 a hR hI K hK;obtain ⟨hM1, hB1, hG1⟩ := hI.1;have zd8 := hR.pred 8 (by kernel_rfl);have zf8 : V 8 = .pointer (some ⟨g, 0, none⟩) := hI.2 8 zd8 rfl;have ze33 := hR.frame.done (t := 33) (j := 8) (by kernel_rfl) hR.ok zd8;rw [if_pos (by rfl)];go_simp;exact hK (.pointer (some ⟨g, 3, none⟩)) _ (hI.next hR (by kernel_rfl) (Mod.refl _ _) (PB.quiet hI.1 (Mod.refl _ _) (HGs.out D 9 zw1 zw1 (hI.1).g (Mod.refl _ _))) (upd_same V 9 _))
  ·intro D V zw1 a hR hI K hK;obtain ⟨hM1, hB1, hG1⟩ := hI.1;have zd9 := hR.pred 9 (by kernel_rfl);have zf9 : V 9 = .pointer (some ⟨g, 3, none⟩) := hI.2 9 zd9 rfl;have ze34 := hR.frame.done (t := 34) (j := 9) (by kernel_rfl) hR.ok zd9;have zx0 := hG1.2.cell 3;simp at zx0;rw [if_pos (by rfl)];go_simp;exact hK (.int .i64 d.last) _ (hI.next hR (by kernel_rfl) (Mod.refl _ _) (PB.quiet hI.1 (Mod.refl _ _) (HGs.out D 10 zw1 zw1 (hI.1).g (Mod.refl _ _))) (upd_same V 10 _))
  ·intro D V zw1 a hR hI K hK;obtain ⟨hM1, hB1, hG1⟩ := hI.1;have zd6 := hR.pred 6 (by kernel_rfl);have zf6 : V 6 = .int .i64 at_ := hI.2 6 zd6 rfl;have zd10 := hR.pred 10 (by kernel_rfl);have zf10 : V 10 = .int .i64 d.last := hI.2 10 zd10 rfl;have ze31 := hR.frame.done (t := 31) (j := 6) (by kernel_rfl) hR.ok zd6;have ze35 := hR.frame.done (t := 35) (j := 10) (by kernel_rfl) hR.ok zd10;rw [if_pos (by rfl)];go_simp;exact hK (.bool (decide (at_ < d.last))) _ (hI.next hR (by kernel_rfl) (Mod.refl _ _) (PB.quiet hI.1 (Mod.refl _ _) (HGs.out D 11 zw1 zw1 (hI.1).g (Mod.refl _ _))) (upd_same V 11 _))
  ·intro D V zw1 a hR hI K hK;obtain ⟨hM1, hB1, hG1⟩ := hI.1;have zd11 := hR.pred 11 (by kernel_rfl);have zf11 : V 11 = .bool (decide (at_ < d.last)) := hI.2 11 zd11 rfl;have ze36 := hR.frame.done (t := 36) (j := 11) (by kernel_rfl) hR.ok zd11;rw [if_pos (by rfl)];go_simp;refine (whenQ_calls zw1 (decide (at_ < d.last)) 7 e3 HE3.out).mono ?_;rintro e zw2 ⟨rfl, hm2⟩;exact hK (.int .i64 e3) _ (hI.next hR (by kernel_rfl) hm2 (PB.quiet hI.1 hm2 (HGs.out D 12 _ _ (hI.1).g hm2)) (upd_same V 12 _))
  ·intro D V zw1 a hR hI K hK;obtain ⟨hM1, hB1, hG1⟩ := hI.1;have ze3 := hR.frame.other (t := 3) (by kernel_rfl) rfl;rw [if_pos (by rfl)];go_simp;exact hK (.int .i64 most) _ (hI.next hR (by kernel_rfl) (Mod.refl _ _) (PB.quiet hI.1 (Mod.refl _ _) (HGs.out D 13 zw1 zw1 (hI.1).g (Mod.refl _ _))) (upd_same V 13 _))
  ·intro D V zw1 a hR hI K hK;obtain ⟨hM1, hB1, hG1⟩ := hI.1;have zd13 := hR.pred 13 (by kernel_rfl);have zf13 : V 13 = .int .i64 most := hI.2 13 zd13 rfl;have ze38 := hR.frame.done (t := 38) (j := 13) (by kernel_rfl) hR.ok zd13;rw [if_pos (by rfl)];go_simp;refine (HIN.out zw1).mono ?_;rintro e zw2 ⟨rfl, hm2⟩;exact hK (.bool ib) _ (hI.next hR (by kernel_rfl) hm2 (PB.quiet hI.1 hm2 (HGs.out D 14 _ _ (hI.1).g hm2)) (upd_same V 14 _))
  ·intro D V zw1 a hR hI K hK;obtain ⟨hM1, hB1, hG1⟩ := hI.1;have zd14 := hR.pred 14 (by kernel_rfl);have zf14 : V 14 = .bool ib := hI.2 14 zd14 rfl;have ze39 := hR.frame.done (t := 39) (j := 14) (by kernel_rfl) hR.ok zd14;rw [if_pos (by rfl)];go_simp;exact hK (.bool (!ib)) _ (hI.next hR (by kernel_rfl) (Mod.refl _ _) (PB.quiet hI.1 (Mod.refl _ _) (HGs.out D 15 zw1 zw1 (hI.1).g (Mod.refl _ _))) (upd_same V 15 _))
  ·intro D V zw1 a hR hI K hK;obtain ⟨hM1, hB1, hG1⟩ := hI.1;have zd15 := hR.pred 15 (by kernel_rfl);have zf15 : V 15 = .bool (!ib) := hI.2 15 zd15 rfl;have ze40 := hR.frame.done (t := 40) (j := 15) (by kernel_rfl) hR.ok zd15;rw [if_pos (by rfl)];go_simp;refine (whenQ_calls zw1 (!ib) 1 e4 HE4.out).mono ?_;rintro e zw2 ⟨rfl, hm2⟩;exact hK (.int .i64 e4) _ (hI.next hR (by kernel_rfl) hm2 (PB.quiet hI.1 hm2 (HGs.out D 16 _ _ (hI.1).g hm2)) (upd_same V 16 _))
  ·intro D V zw1 a hR hI K hK;obtain ⟨hM1, hB1, hG1⟩ := hI.1;have ze10 := hR.frame.other (t := 10) (by kernel_rfl) rfl;rw [if_pos (by rfl)];go_simp;exact hK (.bool hb) _ (hI.next hR (by kernel_rfl) (Mod.refl _ _) (PB.quiet hI.1 (Mod.refl _ _) (HGs.out D 17 zw1 zw1 (hI.1).g (Mod.refl _ _))) (upd_same V 17 _))
  ·intro D V zw1 a hR hI K hK;obtain ⟨hM1, hB1, hG1⟩ := hI.1;have zd17 := hR.pred 17 (by kernel_rfl);have zf17 : V 17 = .bool hb := hI.2 17 zd17 rfl;have ze42 := hR.frame.done (t := 42) (j := 17) (by kernel_rfl) hR.ok zd17;rw [if_pos (by rfl)];go_simp;refine (whenQ_calls zw1 hb 11 e5 HE5.out).mono ?_;rintro e zw2 ⟨rfl, hm2⟩;exact hK (.int .i64 e5) _ (hI.next hR (by kernel_rfl) hm2 (PB.quiet hI.1 hm2 (HGs.out D 18 _ _ (hI.1).g hm2)) (upd_same V 18 _))
  ·intro D V zw1 a hR hI K hK;obtain ⟨hM1, hB1, hG1⟩ := hI.1;have zd3 := hR.pred 3 (by kernel_rfl);have zf3 : V 3 = .int .i64 e1 := hI.2 3 zd3 rfl;have zd5 := hR.pred 5 (by kernel_rfl);have zf5 : V 5 = .int .i64 me := hI.2 5 zd5 rfl;have zd12 := hR.pred 12 (by kernel_rfl);have zf12 : V 12 = .int .i64 e3 := hI.2 12 zd12 rfl;have zd16 := hR.pred 16 (by kernel_rfl);have zf16 : V 16 = .int .i64 e4 := hI.2 16 zd16 rfl;have zd18 := hR.pred 18 (by kernel_rfl);have zf18 : V 18 = .int .i64 e5 := hI.2 18 zd18 rfl;have ze28 := hR.frame.done (t := 28) (j := 3) (by kernel_rfl) hR.ok zd3;have ze30 := hR.frame.done (t := 30) (j := 5) (by kernel_rfl) hR.ok zd5;have ze37 := hR.frame.done (t := 37) (j := 12) (by kernel_rfl) hR.ok zd12;have ze41 := hR.frame.done (t := 41) (j := 16) (by kernel_rfl) hR.ok zd16;have ze43 := hR.frame.done (t := 43) (j := 18) (by kernel_rfl) hR.ok zd18;rw [if_pos (by rfl)];go_simp;exact hK (_) _ (hI.next hR (by kernel_rfl) ((Mod.refl _ _).alloc _) (PB.quiet hI.1 (pure_alloc _ _) (HGs.out D 19 _ _ (hI.1).g ((Mod.refl _ _).alloc _))) (⟨_, upd_same V 19 _, (by omega), (Blk.new _ _ _)⟩))
  ·intro D V zw1 a hR hI K hK;obtain ⟨hM1, hB1, hG1⟩ := hI.1;have zd19 := hR.pred 19 (by kernel_rfl);have zF19 : ∃ (g_19 : Nat), V 19 = .slice (some ⟨g_19, 0, none⟩) 5 5 ∧ w3.heap.size ≤ g_19 ∧ Blk zw1 g_19 33 #[.int .i64 e1, .int .i64 me, .int .i64 e3, .int .i64 e4, .int .i64 e5] := hI.2 19 zd19 (by show (!D 20) = true; rw [hR.not]; rfl);obtain ⟨g_19, zf19, c19_0, b19_0⟩ := zF19;have ze44 := hR.frame.done (t := 44) (j := 19) (by kernel_rfl) hR.ok zd19;rw [if_pos (by rfl)];go_simp;refine (HFI.out zw1 _ b19_0).mono ?_;rintro e zw2 ⟨rfl, hm2⟩;exact hK (.int .i64 er) _ (hI.next hR (by kernel_rfl) hm2 (PB.quiet hI.1 hm2 (HGs.out D 20 _ _ (hI.1).g hm2)) (upd_same V 20 _))
  ·intro D V zw1 a hR hI K hK;obtain ⟨hM1, hB1, hG1⟩ := hI.1;have zd20 := hR.pred 20 (by kernel_rfl);have zf20 : V 20 = .int .i64 er := hI.2 20 zd20 rfl;have ze45 := hR.frame.done (t := 45) (j := 20) (by kernel_rfl) hR.ok zd20;rw [if_pos (by rfl)];go_simp;exact hK (.int .i64 er) _ (hI.next hR (by kernel_rfl) (Mod.refl _ _) (PB.quiet hI.1 (Mod.refl _ _) (HGs.out D 21 zw1 zw1 (hI.1).g (Mod.refl _ _))) (upd_same V 21 _))
 ·intro D V w4 hD hI;obtain ⟨hM1, hB1, hG1⟩ := hI.1;have hMx := hM1;clear hM1;have hBx := hB1;clear hB1;have hGx := hG1;clear hG1;have zf0 : V 0 = .string ⟨rev.toArray⟩ := hI.2 0 (hD 0 (by decide)) rfl;have zf1 : V 1 = .bool kb := hI.2 1 (hD 1 (by decide)) rfl;have zf2 : V 2 = .bool (!kb) := hI.2 2 (hD 2 (by decide)) rfl;have zf3 : V 3 = .int .i64 e1 := hI.2 3 (hD 3 (by decide)) rfl;have zf4 : V 4 = .int .i64 at_ := hI.2 4 (hD 4 (by decide)) rfl;have zf5 : V 5 = .int .i64 me := hI.2 5 (hD 5 (by decide)) rfl;have zf6 : V 6 = .int .i64 at_ := hI.2 6 (hD 6 (by decide)) rfl;have zf7 : V 7 = .pointer (some ⟨g, 0, none⟩) := hI.2 7 (hD 7 (by decide)) rfl;have zf8 : V 8 = .pointer (some ⟨g, 0, none⟩) := hI.2 8 (hD 8 (by decide)) rfl;have zf9 : V 9 = .pointer (some ⟨g, 3, none⟩) := hI.2 9 (hD 9 (by decide)) rfl;have zf10 : V 10 = .int .i64 d.last := hI.2 10 (hD 10 (by decide)) rfl;have zf11 : V 11 = .bool (decide (at_ < d.last)) := hI.2 11 (hD 11 (by decide)) rfl;have zf12 : V 12 = .int .i64 e3 := hI.2 12 (hD 12 (by decide)) rfl;have zf13 : V 13 = .int .i64 most := hI.2 13 (hD 13 (by decide)) rfl;have zf14 : V 14 = .bool ib := hI.2 14 (hD 14 (by decide)) rfl;have zf15 : V 15 = .bool (!ib) := hI.2 15 (hD 15 (by decide)) rfl;have zf16 : V 16 = .int .i64 e4 := hI.2 16 (hD 16 (by decide)) rfl;have zf17 : V 17 = .bool hb := hI.2 17 (hD 17 (by decide)) rfl;have zf18 : V 18 = .int .i64 e5 := hI.2 18 (hD 18 (by decide)) rfl;have zf20 : V 20 = .int .i64 er := hI.2 20 (hD 20 (by decide)) rfl;have zf21 : V 21 = .int .i64 er := hI.2 21 (hD 21 (by decide)) rfl;clear hI hD HGs;simp only [frAll, Act.put, List.setIfInBounds_toArray, List.set_cons_zero, List.set_cons_succ, Nat.zero_add, Nat.reduceAdd, zf0, zf1, zf2, zf3, zf4, zf5, zf6, zf7, zf8, zf9, zf10, zf11, zf12, zf13, zf14, zf15, zf16, zf17, zf18, zf20, zf21];clear zf0 zf1 zf2 zf3 zf4 zf5 zf6 zf7 zf8 zf9 zf10 zf11 zf12 zf13 zf14 zf15 zf16 zf17 zf18 zf20 zf21;generalize V 19 = u19;clear V D;have HM4 := Lib.hid (HM3.out.trans hMx);have HB54 := Lib.hid hGx.1;have HB84 := Lib.hid (HB83.out.modp hMx);have HDB := Lib.hid hGx.2;clear hMx hGx hBx HM3 HB53 HB83 HB3 HFI HKY HME HIN HE1 HE3 HE4 HE5
  by_cases he : er = 0
  rotate_left
  ·have he' : (er != 0) = true := by simpa using he
   have hB8 := HB84.out;have t0 := hB8.cell 0; have tf0 := hB8.frozen 0; have t1 := hB8.cell 1; have tf1 := hB8.frozen 1; have t2 := hB8.cell 2; have tf2 := hB8.frozen 2; have t3 := hB8.cell 3; have tf3 := hB8.frozen 3; have t4 := hB8.cell 4; have tf4 := hB8.frozen 4; simp at t0 t1 t2 t3 t4;clear hB8
   go_wp2_with fail
   have hB9 := HB84.out.set5 (.int .i64 0) (.int .i64 0) (.int .i64 0) (.string ⟨#[]⟩) (.slice none 0 0);have u0 := hB9.cell 0; have u1 := hB9.cell 1; have u2 := hB9.cell 2; have u3 := hB9.cell 3; have u4 := hB9.cell 4; simp at u0 u1 u2 u3 u4;refine bodyPost_ret (v := .tuple #[.agg #[.int .i64 0, .int .i64 0, .int .i64 0, .string ⟨#[]⟩, .slice none 0 0], .int .i64 er]) (by simp [results, Tryz.results15, go_sem, u0, u1, u2, u3, u4]) rfl ?_
   have hq : ef = er := by rw [HKF.out, if_pos he]
   exact .inl ⟨by rw [hq]; exact he, by rw [hq], HM4.out.set5 (.inr (by omega)) _ _ _ _ _⟩
  subst he;have HKF2 := Lib.hid (show ef = if TL = [] then 8 else 0 by rw [HKF.out, if_neg (by simp)]);clear HKF;obtain ⟨bl, hbl⟩ : ∃ bl, bl = w4.heap.size := ⟨_, rfl⟩;have hbl1 := Nat.le_of_eq hbl;have hbl2 := Nat.le_of_eq hbl.symm;have hw4s := HM4.out.size;have hg8w := HB84.out.lt;clear hbl;have hx := HDB.out;have x0 := hx.cell 0; have x1 := hx.cell 1; have x2 := hx.cell 2; have x3 := hx.cell 3; simp at x0 x1 x2 x3;clear hx
  go_upto_block 0 with (fail)
  go_cut [12] (fun v wx => ∃ (A : Option Addr) (c : Nat), v = .slice A TL.length c ∧ wx.ownsRow bl 9 1 (.slice A TL.length c) TL.length (strsV TL) ∧ Pure w4 wx)
  case first =>
   obtain ⟨i0, hi0, hz0, hz1, hz2⟩ := info_parts info_str7;have HFK := Lib.hid (fun k (h : k < fms.length) => show d.fams[k]'(by omega) = fms[k].2.2 by simp [← HFE.out])
   go_wp2_with fail
   go_loopg [12, 55] fms.length (fun gk v i wr => ∃ (k cap : Nat) (Ao : Option Addr) (out : List Str), fms.length - k = gk ∧ k ≤ fms.length ∧ v = .slice Ao out.length cap ∧ i = .int .i64 (k : Int) ∧ takL d.st most (d.fams.drop k) out = TL ∧ out.length ≤ (d.fams.take k).flatten.length ∧ wr.ownsRow bl 9 1 (.slice Ao out.length cap) out.length (strsV out) ∧ Pure w4 wr ∧ bl ≤ wr.heap.size)
   case atStart => exact ⟨0, 0, none, [], by omega, by omega, rfl, rfl, HTL.out, by simp, ⟨rfl, .inl ⟨rfl, rfl⟩⟩, Mod.refl _ _, hbl1⟩
   case round =>
    clear x0 x1 x2 x3;obtain ⟨k, cap, Ao, out, rfl, hk, rfl, rfl, htl, hol0, hown, hm, hsz⟩ := hrel
    have hol : out.length ≤ 1000 := by
     have h2 := flatten_take_len (fs := d.fams) k;have h3 := HO.out.fl
     omega
    by_cases hlt : k < fms.length
    ·obtain ⟨gf, off, YA, yn, yc, rfl, p0, p1, e5, hfs⟩ := (HF.out.pure (HM4.out.trans hm)).at hlt;have HFS := Lib.hid hfs;have hfe := HFK.out k hlt;have HMF := Lib.hid (HO.out.fi _ (List.getElem_mem (show k < d.fams.length by omega)));have HLF := Lib.hid (Nat.le_trans (len_flatten (List.getElem_mem (show k < d.fams.length by omega))) HO.out.fl);have HFT := Lib.hid (show (d.fams.take (k + 1)).flatten.length = (d.fams.take k).flatten.length + (d.fams[k]'(by omega)).length by rw [List.take_succ_eq_append_getElem (show k < d.fams.length by omega), List.flatten_append, List.length_append, List.flatten_cons, List.flatten_nil, List.append_nil]);have HDR := Lib.hid htl;rw [List.drop_eq_getElem_cons (show k < d.fams.length by omega)] at HDR;rw [hfe] at HMF HLF HFT HDR;have HOWN := Lib.hid hown;have HM := Lib.hid hm;clear hfe hown hm hfs e5 htl;generalize fms[k] = y at *;obtain ⟨top, yv, f⟩ := y;simp only at p0 p1 HFS HMF HLF HFT HDR;have hpa := pure_alloc wr (.cells #[.string ⟨top.toArray⟩, .slice YA yn yc] 90);have HP4 := Lib.hid (HM.out.trans hpa);have HB5 := Lib.hid (Blk.new wr 90 #[.string ⟨top.toArray⟩, .slice YA yn yc]);have HOW4 := Lib.hid (own_pure HOWN.out hpa);have HFS4 := Lib.hid (HFS.out.pure hpa)
     have hsz4 : bl ≤ (wr.alloc (.cells #[.string ⟨top.toArray⟩, .slice YA yn yc] 90)).heap.size := by simp; omega
     clear HM HOWN HFS hpa
     go_upto_region 9 with (fail)
     generalize (wr.alloc (.cells #[.string ⟨top.toArray⟩, .slice YA yn yc] 90)) = w5 at *;generalize wr.heap.size = gy at *;clear p0 p1;have hx := HB5.out;have x0 := hx.cell 0; have x1 := hx.cell 1; simp at x0 x1;have HOQ := Lib.hid (HOP.out w5 (HM4.out.trans HP4.out) top YA yn yc f HFS4.out HMF.out HLF.out);clear hx
     go_wp2_with fail
     refine HOQ.out.mono ?_;rintro e w6 ⟨A6, c6, rfl, hown6, hm6⟩;have HOW := Lib.hid (own_pure HOW4.out hm6);have HMM := Lib.hid (HP4.out.trans hm6)
     have hsz6 : bl ≤ w6.heap.size := by have := hm6.size; omega
     have HO6 := Lib.hid hown6;have hop2 : (opnF d.st f).length ≤ f.length := opnF_len _ _;have hop3 : (opnF d.st f).length ≤ 1000 := Nat.le_trans hop2 HLF.out;have HTT := Lib.hid (show takL d.st most (f :: d.fams.drop (k + 1)) out = if out ≠ [] ∧ opnF d.st f ≠ [] ∧ most < (out.length : Int) + (opnF d.st f).length then out else takL d.st most (d.fams.drop (k + 1)) (out ++ opnF d.st f) from rfl);rw [HDR.out] at HTT;clear HOQ HOW4 HP4 HFS4 HB5 x0 x1 HDR hown6 hm6;generalize opnF d.st f = so at *;obtain ⟨cb, hcb⟩ : ∃ cb, cb = decide (out ≠ [] ∧ so ≠ [] ∧ most < (out.length : Int) + so.length) := ⟨_, rfl⟩;have HCB := Lib.hid hcb;clear hcb
     go_upto_region 10 with (fail)
     go_cut [78] (fun p wx => p = .bool cb ∧ w6 = wx)
     case first =>
      by_cases h1 : out = []
      ·subst h1;have HE := Lib.hid (show cb = false by rw [HCB.out]; exact decide_eq_false (fun h => h.1 rfl));clear HCB
       go_wp2_with fail
       go_meet;exact ⟨by rw [HE.out], rfl⟩
      ·have h1' : (0 : Int) < (out.length : Int) := by have := List.length_pos_iff.2 h1; omega
       by_cases h2 : so = []
       ·subst h2;have HE := Lib.hid (show cb = false by rw [HCB.out]; exact decide_eq_false (fun h => h.2.1 rfl));clear HCB
        go_wp2_with fail
        go_meet;exact ⟨by rw [HE.out], rfl⟩
       ·have h2' : (0 : Int) < (so.length : Int) := by have := List.length_pos_iff.2 h2; omega
        have HE := Lib.hid (show cb = decide (most < (out.length : Int) + so.length) by rw [HCB.out, decide_eq_decide]; exact ⟨fun h => h.2.2, fun h => ⟨h1, h2, h⟩⟩);clear HCB h1 h2
        go_wp2_with fail
        go_meet;exact ⟨by rw [HE.out], rfl⟩
     case rest =>
     obtain ⟨rfl, rfl⟩ := hcut
     cases cb
     ·have HT2 := Lib.hid (show takL d.st most (d.fams.drop (k + 1)) (out ++ so) = TL by rw [HTT.out, if_neg (of_decide_eq_false HCB.out.symm)]);have hown := HOW.out;have hmS := HMM.out;have HOB := Lib.hid (own_block hown)
      have hl5 : (strsV so).length = so.length * 1 := by simp [strsV]
      have hone := strsV_one so;clear HTT HCB
      rcases own_two HO6.out with ⟨rfl, h0, rfl, rfl⟩ | ⟨g2, rfl, hnews⟩
      ·go_wp2_with (at_builtin; refine wpList_append_own_none rfl _ _ _ rfl bl 9 i0 1 Tryz.underlying29 hi0 (.slice Ao out.length cap) out.length _ rfl hown rfl ?_)
       go_roundg (fms.length - (k + 1))
       case measure => omega
       case rel => exact ⟨k + 1, cap, Ao, out, rfl, by omega, rfl, by simp, by have := HT2.out; simpa using this, by rw [HFT.out]; omega, HOW.out, HMM.out, hsz6⟩
      ·go_wp2_with (at_builtin; (refine wpList_append_own_at _ rfl _ _ _ rfl bl 9 i0 _ 1 16 Tryz.underlying29 hi0 hz0 hz1 hz2 rfl (by omega) (.slice Ao out.length cap) out.length _ rfl hown ⟨g2, 0, none⟩ so.length _ _ rfl hl5 hnews hone (by simp [maxLen]; omega) (by omega) (by omega) ?_); intro v7 w7 hown7 hgrow hnil hat; obtain ⟨A7, n7, c7, rfl⟩ := (Sl.of_own hown7).form; clear hnil)
       have hm7 := grown_mod (v := .slice Ao out.length cap) hgrow
       have hn7 : n7 = (out ++ so).length := by
        rcases hown7.2 with ⟨h, h0⟩ | ⟨g, cap', cur, h, _⟩
        ·injection h with _ h1 _
         simp
         omega
        ·injection h with _ h1 _
         simp
         omega
       subst hn7
       go_roundg (fms.length - (k + 1))
       case measure => omega
       case rel =>
        refine ⟨k + 1, c7, A7, out ++ so, rfl, by omega, rfl, by simp, HT2.out, by rw [HFT.out, List.length_append]; omega, ?_, HMM.out.trans' hm7 (fun i hi hl => by have := HOB.out _ hi; omega), by have := hgrow.size; omega⟩
        have e1 : strsV (out ++ so) = strsV out ++ strsV so := by simp [strsV]
        rw [e1];have h := hown7;rw [← List.length_append] at h;exact h
     ·obtain rfl : TL = out := by rw [HTT.out, if_pos (of_decide_eq_true HCB.out.symm)]
      clear HTT HCB
      go_wp2_with fail
      go_meet;exact ⟨Ao, cap, rfl, HOW.out, HMM.out⟩
    ·obtain rfl : k = fms.length := by omega
     rw [List.drop_of_length_le (by omega)] at htl;obtain rfl : out = TL := htl;have HOW := Lib.hid hown;have HM2 := Lib.hid hm;clear hown hm
     go_wp2_with fail
     go_meet;exact ⟨Ao, cap, rfl, HOW.out, HM2.out⟩
  case rest =>
  obtain ⟨A6, c6, rfl, hown6, hm6⟩ := hcut;obtain ⟨w5, hw5⟩ : ∃ W, W = wc := ⟨wc, rfl⟩;subst hw5;have HOW := Lib.hid hown6;have HM5 := Lib.hid (HM4.out.trans hm6);have HB85 := Lib.hid (HB84.out.modp hm6);have HB55 := Lib.hid (HB54.out.modp hm6);have HDB5 := Lib.hid (HDB.out.modp hm6);have hw5s := hm6.size;clear hown6 hm6 HM4 HB84 HB54 HDB HOP HTL x0 x1 x2 x3
  by_cases hT : TL = []
  ·subst hT;have hB8 := HB85.out;have t0 := hB8.cell 0; have tf0 := hB8.frozen 0; have t1 := hB8.cell 1; have tf1 := hB8.frozen 1; have t2 := hB8.cell 2; have tf2 := hB8.frozen 2; have t3 := hB8.cell 3; have tf3 := hB8.frozen 3; have t4 := hB8.cell 4; have tf4 := hB8.frozen 4; simp at t0 t1 t2 t3 t4;clear hB8
   go_wp2_with fail
   have hB9 := HB85.out.set5 (.int .i64 0) (.int .i64 0) (.int .i64 0) (.string ⟨#[]⟩) (.slice none 0 0);have u0 := hB9.cell 0; have u1 := hB9.cell 1; have u2 := hB9.cell 2; have u3 := hB9.cell 3; have u4 := hB9.cell 4; simp at u0 u1 u2 u3 u4;refine bodyPost_ret (v := .tuple #[.agg #[.int .i64 0, .int .i64 0, .int .i64 0, .string ⟨#[]⟩, .slice none 0 0], .int .i64 8]) (by simp [results, Tryz.results15, go_sem, u0, u1, u2, u3, u4]) rfl ?_
   have hq : ef = 8 := by rw [HKF2.out]; simp
   exact .inl ⟨by rw [hq]; decide, by rw [hq], HM5.out.set5 (.inr (by omega)) _ _ _ _ _⟩
  have hT2 : ((TL.length : Int) == 0) = false := by rw [beq_eq_false_iff_ne]; have := List.length_pos_iff.2 hT; omega
  have HQ0 := Lib.hid (show ef = 0 by rw [HKF2.out, if_neg hT])
  obtain ⟨g2, rfl⟩ : ∃ g2, A6 = some ⟨g2, 0, none⟩ := by
   rcases own_two HOW.out with ⟨_, _, _, h⟩ | ⟨g2, h, _⟩
   ·exact absurd h hT
   ·exact ⟨g2, h⟩
  have hg2 : bl ≤ g2 := own_block HOW.out g2 rfl
  have hno : pst ((d.bats.length : Int) + 1) = 1 := by
   unfold pst;rw [if_neg (by omega), if_neg (by omega)]
  have HNO := Lib.hid hno;clear hT HKF2 hno
  go_upto_region 15 with (fail)
  have HS5 := Lib.hid (HS.out.pure HM5.out);have hgbm := mapX_ne HS5.out HDB5.out
  go_wp2_with fail
  go_loopg [89] TL.length (fun gk i wr => ∃ (k : Nat), TL.length - k = gk ∧ k ≤ TL.length ∧ i = .int .i64 (k : Int) ∧ StM wr bm pst ids (fun s => if s ∈ TL.take k then (d.bats.length : Int) + 1 else d.st s) ∧ Mod (· = bm) w5 wr)
  case atStart => exact ⟨0, by omega, by omega, rfl, by simpa using HS5.out, Mod.refl _ _⟩
  case round =>
   obtain ⟨k, rfl, hk, rfl, hst, hm⟩ := hrel
   by_cases hlt : k < TL.length
   ·have hown := own_mod HOW.out hm (fun j hj => by have hj2 : g2 = j := (by simpa [Value.ownBlock] using hj); show ¬ j = bm; omega);have hq := (hown.cellAt k (by omega)).trans (strsV_get TL k hlt);have hx := HDB5.out.mod hm hgbm;have hmem := HTI.out _ (List.getElem_mem hlt);obtain ⟨w6, hrun, hS6, hm6⟩ := hst.store HO.out.nd HO.out.il hmem (HO.out.sl _ hmem) ((d.bats.length : Int) + 1);rw [HNO.out] at hrun;have HS6 := Lib.hid hS6;have HMM := Lib.hid (hm.trans hm6);have HTT := Lib.hid (List.take_succ_eq_append_getElem hlt);have x0 := hx.cell 0; have x1 := hx.cell 1; have x2 := hx.cell 2; have x3 := hx.cell 3; simp at x0 x1 x2 x3;clear hx hown hmem hst hS6 hm6 hm;generalize TL[k] = s at *
    go_wp2_with fail
    go_roundg (TL.length - (k + 1))
    case measure => omega
    case rel =>
     refine ⟨k + 1, rfl, by omega, by simp, ?_, HMM.out⟩;rw [HTT.out]
     have e : (fun q => if q ∈ TL.take k ++ [s] then (d.bats.length : Int) + 1 else d.st q) = (fun q => if q = s then (d.bats.length : Int) + 1 else if q ∈ TL.take k then (d.bats.length : Int) + 1 else d.st q) := by
      funext q
      by_cases e1 : q = s
      ·subst e1; simp
      ·simp [e1]
     rw [e];exact HS6.out
   ·obtain rfl : k = TL.length := by omega
    rw [List.take_length] at hst;obtain ⟨w6, hw6⟩ : ∃ W, W = wr := ⟨wr, rfl⟩;subst hw6;have hcl : ∀ g arr t fr, w5.heap[g]? = some (.cells arr t fr) → ¬ g = bm := fun g arr t fr h => mapX_cells HS5.out h;have HS6 := Lib.hid hst;have HOW6 := Lib.hid (own_mod HOW.out hm (fun j hj => by have hj2 : g2 = j := (by simpa [Value.ownBlock] using hj); show ¬ j = bm; omega));have HDB6 := Lib.hid (HDB5.out.mod hm hgbm);have HB56 := Lib.hid (HB55.out.mod hm (fun h => by omega));have HB86 := Lib.hid (HB85.out.mod hm (fun h => by omega));have HF6 := Lib.hid ((HF.out.pure HM5.out).mod2 hm (fun g arr fr h => hcl g arr _ fr h) (fun g arr fr h => hcl g arr _ fr h));have HBT6 := Lib.hid ((HBT.out.pure HM5.out).mod hm (fun j hj e => by obtain ⟨arr, h⟩ := own_heap (own_pure HBT.out.1 HM5.out) hj; exact hcl j _ _ _ h e) (fun g arr fr h => hcl g arr _ fr h));have HM6 : Hid (Mod (fun j => j = g ∨ j = bm ∨ bo = some j) w w6) := Lib.hid ((Mod.of_pure HM5.out).trans' hm (fun i hi hlt => .inr (.inl hi)));have hw6s := hm.size;have HLT := Lib.hid (fun j (hj : (Value.slice BA bts.length bc).ownBlock = some j) => by obtain ⟨arr, h⟩ := own_heap HBT.out.1 hj; exact lt_of_heap h);clear hst hm hcl HS HS5 HB HF HBT HOW HDB5 HB55 HB85 HM5 hlt
    go_upto_region 20 with (fail)
    have HGs := Lib.hid (show ∀ (D : Nat → Bool) (zzi : Nat) (zq zq' : World), (fun _ zq => (fun Z => Blk Z g5 9 #[.string ⟨rev.toArray⟩] ∧ Blk Z g 87 #[.slice FA fms.length fc, .map (some bm), .slice BA bts.length bc, .int .i64 d.last]) zq) D zq → Mod (fun _ => False) zq zq' → (fun _ zq => (fun Z => Blk Z g5 9 #[.string ⟨rev.toArray⟩] ∧ Blk Z g 87 #[.slice FA fms.length fc, .map (some bm), .slice BA bts.length bc, .int .i64 d.last]) zq) (upd D zzi true) zq' from by intro D zzi zq zq' h hm; (exact ⟨h.1.modp hm, h.2.modp hm⟩))
    refine wp_region_inv (by kernel_rfl) (by kernel_rfl) (InvF (R := Mod (fun _ => False)) [.is (.pointer (some ⟨g, 0, none⟩)),
      .is (.pointer (some ⟨g, 0, none⟩)),
      .is (.pointer (some ⟨g, 2, none⟩)),
      .is (.slice BA bts.length bc),
      .is (.int .i64 (bts.length : Int)),
      .is (.int .i64 ((bts.length : Int) + 1)),
      .is (.int .i64 at_),
      .is (.string ⟨rev.toArray⟩),
      .is (.slice (some ⟨g2, 0, none⟩) TL.length c6),
      .is (.agg #[.int .i64 ((bts.length : Int) + 1), .int .i64 at_, (.int .i64 (-1)), .string ⟨rev.toArray⟩, .slice (some ⟨g2, 0, none⟩) TL.length c6]),
      ⟨fun zv zw => ∃ (g_10 : Nat), zv = .pointer (some ⟨g_10, 0, none⟩) ∧ w6.heap.size ≤ g_10 ∧ Blk zw g_10 42 #[.int .i64 0, .int .i64 0, .int .i64 0, .string ⟨#[]⟩, .slice none 0 0], (by rintro zv zw zx ⟨g_10, rfl, c0, q0⟩ hm; exact ⟨g_10, rfl, c0, (q0.modp hm)⟩), none, some 11⟩,
      ⟨fun zv zw => ∃ (g_11 : Nat), zv = .pointer (some ⟨g_11, 0, none⟩) ∧ w6.heap.size ≤ g_11 ∧ Blk zw g_11 42 #[.int .i64 ((bts.length : Int) + 1), .int .i64 at_, (.int .i64 (-1)), .string ⟨rev.toArray⟩, .slice (some ⟨g2, 0, none⟩) TL.length c6], (by rintro zv zw zx ⟨g_11, rfl, c0, q0⟩ hm; exact ⟨g_11, rfl, c0, (q0.modp hm)⟩), some 10, none⟩]
      (PB w6 (fun _ => False) w6.heap.size (fun _ zq => (fun Z => Blk Z g5 9 #[.string ⟨rev.toArray⟩] ∧ Blk Z g 87 #[.slice FA fms.length fc, .map (some bm), .slice BA bts.length bc, .int .i64 d.last]) zq))) (InvF.start (PB.start (Mod.refl _ _) (Nat.le_refl _) (⟨HB56.out.drew, HDB6.out.drew⟩))) ?_ ?_
    ·refine .cons ?_ (.cons ?_ (.cons ?_ (.cons ?_ (.cons ?_ (.cons ?_ (.cons ?_ (.cons ?_ (.cons ?_ (.cons ?_ (.cons ?_ (.cons ?_ .nil)))))))))))
     ·intro D V zw1 a hR hI K hK;obtain ⟨hM1, hB1, hG1⟩ := hI.1;have ze0 := hR.frame.other (t := 0) (by kernel_rfl) rfl;rw [if_pos (by rfl)];go_simp;exact hK (.pointer (some ⟨g, 0, none⟩)) _ (hI.next hR (by kernel_rfl) (Mod.refl _ _) (PB.quiet hI.1 (Mod.refl _ _) (HGs.out D 0 zw1 zw1 (hI.1).g (Mod.refl _ _))) (upd_same V 0 _))
     ·intro D V zw1 a hR hI K hK;obtain ⟨hM1, hB1, hG1⟩ := hI.1;have zd0 := hR.pred 0 (by kernel_rfl);have zf0 : V 0 = .pointer (some ⟨g, 0, none⟩) := hI.2 0 zd0 rfl;have ze99 := hR.frame.done (t := 99) (j := 0) (by kernel_rfl) hR.ok zd0;rw [if_pos (by rfl)];go_simp;exact hK (.pointer (some ⟨g, 0, none⟩)) _ (hI.next hR (by kernel_rfl) (Mod.refl _ _) (PB.quiet hI.1 (Mod.refl _ _) (HGs.out D 1 zw1 zw1 (hI.1).g (Mod.refl _ _))) (upd_same V 1 _))
     ·intro D V zw1 a hR hI K hK;obtain ⟨hM1, hB1, hG1⟩ := hI.1;have zd1 := hR.pred 1 (by kernel_rfl);have zf1 : V 1 = .pointer (some ⟨g, 0, none⟩) := hI.2 1 zd1 rfl;have ze100 := hR.frame.done (t := 100) (j := 1) (by kernel_rfl) hR.ok zd1;rw [if_pos (by rfl)];go_simp;exact hK (.pointer (some ⟨g, 2, none⟩)) _ (hI.next hR (by kernel_rfl) (Mod.refl _ _) (PB.quiet hI.1 (Mod.refl _ _) (HGs.out D 2 zw1 zw1 (hI.1).g (Mod.refl _ _))) (upd_same V 2 _))
     ·intro D V zw1 a hR hI K hK;obtain ⟨hM1, hB1, hG1⟩ := hI.1;have zd2 := hR.pred 2 (by kernel_rfl);have zf2 : V 2 = .pointer (some ⟨g, 2, none⟩) := hI.2 2 zd2 rfl;have ze101 := hR.frame.done (t := 101) (j := 2) (by kernel_rfl) hR.ok zd2;have zx0 := hG1.2.cell 2;simp at zx0;rw [if_pos (by rfl)];go_simp;exact hK (.slice BA bts.length bc) _ (hI.next hR (by kernel_rfl) (Mod.refl _ _) (PB.quiet hI.1 (Mod.refl _ _) (HGs.out D 3 zw1 zw1 (hI.1).g (Mod.refl _ _))) (upd_same V 3 _))
     ·intro D V zw1 a hR hI K hK;obtain ⟨hM1, hB1, hG1⟩ := hI.1;have zd3 := hR.pred 3 (by kernel_rfl);have zf3 : V 3 = .slice BA bts.length bc := hI.2 3 zd3 rfl;have ze102 := hR.frame.done (t := 102) (j := 3) (by kernel_rfl) hR.ok zd3;rw [if_pos (by rfl)];go_simp;exact hK (.int .i64 (bts.length : Int)) _ (hI.next hR (by kernel_rfl) (Mod.refl _ _) (PB.quiet hI.1 (Mod.refl _ _) (HGs.out D 4 zw1 zw1 (hI.1).g (Mod.refl _ _))) (upd_same V 4 _))
     ·intro D V zw1 a hR hI K hK;obtain ⟨hM1, hB1, hG1⟩ := hI.1;have zd4 := hR.pred 4 (by kernel_rfl);have zf4 : V 4 = .int .i64 (bts.length : Int) := hI.2 4 zd4 rfl;have ze103 := hR.frame.done (t := 103) (j := 4) (by kernel_rfl) hR.ok zd4;rw [if_pos (by rfl)];have zw : IntKind.i64.wrap ((bts.length : Int) + 1) = (bts.length : Int) + 1 := IntWalk.i64_in _ (by omega);go_simp;exact hK (.int .i64 ((bts.length : Int) + 1)) _ (hI.next hR (by kernel_rfl) (Mod.refl _ _) (PB.quiet hI.1 (Mod.refl _ _) (HGs.out D 5 zw1 zw1 (hI.1).g (Mod.refl _ _))) (upd_same V 5 _))
     ·intro D V zw1 a hR hI K hK;obtain ⟨hM1, hB1, hG1⟩ := hI.1;have ze2 := hR.frame.other (t := 2) (by kernel_rfl) rfl;rw [if_pos (by rfl)];go_simp;exact hK (.int .i64 at_) _ (hI.next hR (by kernel_rfl) (Mod.refl _ _) (PB.quiet hI.1 (Mod.refl _ _) (HGs.out D 6 zw1 zw1 (hI.1).g (Mod.refl _ _))) (upd_same V 6 _))
     ·intro D V zw1 a hR hI K hK;obtain ⟨hM1, hB1, hG1⟩ := hI.1;have ze5 := hR.frame.other (t := 5) (by kernel_rfl) rfl;have zx0 := hG1.1.cell 0;simp at zx0;rw [if_pos (by rfl)];go_simp;exact hK (.string ⟨rev.toArray⟩) _ (hI.next hR (by kernel_rfl) (Mod.refl _ _) (PB.quiet hI.1 (Mod.refl _ _) (HGs.out D 7 zw1 zw1 (hI.1).g (Mod.refl _ _))) (upd_same V 7 _))
     ·intro D V zw1 a hR hI K hK;obtain ⟨hM1, hB1, hG1⟩ := hI.1;have ze12 := hR.frame.other (t := 12) (by kernel_rfl) rfl;rw [if_pos (by rfl)];go_simp;exact hK (.slice (some ⟨g2, 0, none⟩) TL.length c6) _ (hI.next hR (by kernel_rfl) (Mod.refl _ _) (PB.quiet hI.1 (Mod.refl _ _) (HGs.out D 8 zw1 zw1 (hI.1).g (Mod.refl _ _))) (upd_same V 8 _))
     ·intro D V zw1 a hR hI K hK;obtain ⟨hM1, hB1, hG1⟩ := hI.1;have zd5 := hR.pred 5 (by kernel_rfl);have zf5 : V 5 = .int .i64 ((bts.length : Int) + 1) := hI.2 5 zd5 rfl;have zd6 := hR.pred 6 (by kernel_rfl);have zf6 : V 6 = .int .i64 at_ := hI.2 6 zd6 rfl;have zd7 := hR.pred 7 (by kernel_rfl);have zf7 : V 7 = .string ⟨rev.toArray⟩ := hI.2 7 zd7 rfl;have zd8 := hR.pred 8 (by kernel_rfl);have zf8 : V 8 = .slice (some ⟨g2, 0, none⟩) TL.length c6 := hI.2 8 zd8 rfl;have ze104 := hR.frame.done (t := 104) (j := 5) (by kernel_rfl) hR.ok zd5;have ze105 := hR.frame.done (t := 105) (j := 6) (by kernel_rfl) hR.ok zd6;have ze106 := hR.frame.done (t := 106) (j := 7) (by kernel_rfl) hR.ok zd7;have ze107 := hR.frame.done (t := 107) (j := 8) (by kernel_rfl) hR.ok zd8;rw [if_pos (by rfl)];go_simp;exact hK (_) _ (hI.next hR (by kernel_rfl) (Mod.refl _ _) (PB.quiet hI.1 (Mod.refl _ _) (HGs.out D 9 zw1 zw1 (hI.1).g (Mod.refl _ _))) (upd_same V 9 _))
     ·intro D V zw1 a hR hI K hK;obtain ⟨hM1, hB1, hG1⟩ := hI.1;rw [if_pos (by rfl)];go_simp;exact hK (_) _ (hI.next hR (by kernel_rfl) ((Mod.refl _ _).alloc _) (PB.quiet hI.1 (pure_alloc _ _) (HGs.out D 10 _ _ (hI.1).g ((Mod.refl _ _).alloc _))) (⟨_, upd_same V 10 _, (by omega), (Blk.new _ _ _)⟩))
     ·intro D V zw1 a hR hI K hK;obtain ⟨hM1, hB1, hG1⟩ := hI.1;have zd10 := hR.pred 10 (by kernel_rfl);have zF10 : ∃ (g_10 : Nat), V 10 = .pointer (some ⟨g_10, 0, none⟩) ∧ w6.heap.size ≤ g_10 ∧ Blk zw1 g_10 42 #[.int .i64 0, .int .i64 0, .int .i64 0, .string ⟨#[]⟩, .slice none 0 0] := hI.2 10 zd10 (by show (!D 11) = true; rw [hR.not]; rfl);obtain ⟨g_10, zf10, c10_0, b10_0⟩ := zF10;have zd9 := hR.pred 9 (by kernel_rfl);have zf9 : V 9 = .agg #[.int .i64 ((bts.length : Int) + 1), .int .i64 at_, (.int .i64 (-1)), .string ⟨rev.toArray⟩, .slice (some ⟨g2, 0, none⟩) TL.length c6] := hI.2 9 zd9 rfl;have ze18 := hR.frame.done (t := 18) (j := 10) (by kernel_rfl) hR.ok zd10;have ze108 := hR.frame.done (t := 108) (j := 9) (by kernel_rfl) hR.ok zd9;rw [if_pos (by rfl)];have zx0 := b10_0.cell 0; have zy0 := b10_0.frozen 0;have zx1 := b10_0.cell 1; have zy1 := b10_0.frozen 1;have zx2 := b10_0.cell 2; have zy2 := b10_0.frozen 2;have zx3 := b10_0.cell 3; have zy3 := b10_0.frozen 3;have zx4 := b10_0.cell 4; have zy4 := b10_0.frozen 4;simp at zx0 zy0 zx1 zy1 zx2 zy2 zx3 zy3 zx4 zy4;go_simp;refine hK undef _ (InvF.last ?_ ?_ ?_)
      ·exact ⟨(((((hM1.setCell (.inr (by show _ ≤ g_10; omega)) _).setCell (.inr (by show _ ≤ g_10; omega)) _).setCell (.inr (by show _ ≤ g_10; omega)) _).setCell (.inr (by show _ ≤ g_10; omega)) _).setCell (.inr (by show _ ≤ g_10; omega)) _), (by simpa using hB1), (blk2_far (blk2_far (blk2_far (blk2_far (blk2_far hG1 (by show g5 ≠ g_10; omega) (by show g ≠ g_10; omega) _) (by show g5 ≠ g_10; omega) (by show g ≠ g_10; omega) _) (by show g5 ≠ g_10; omega) (by show g ≠ g_10; omega) _) (by show g5 ≠ g_10; omega) (by show g ≠ g_10; omega) _) (by show g5 ≠ g_10; omega) (by show g ≠ g_10; omega) _)⟩
      ·exact ⟨g_10, (upd_ne V (i := 11) (k := 10) undef (by omega)).trans zf10, (by first | assumption | omega), (by have hset := (((((b10_0.set 0 (.int .i64 ((bts.length : Int) + 1))).set 1 (.int .i64 at_)).set 2 ((.int .i64 (-1)))).set 3 (.string ⟨rev.toArray⟩)).set 4 (.slice (some ⟨g2, 0, none⟩) TL.length c6)); simpa using hset)⟩
      ·intro k hk hDk hlv;have hkl := hR.lt k hDk;have hv := hI.2 k hDk (liveB_of hlv)
       match k, hk, hDk, hlv, hkl, hv with
       | 0, _, _, _, _, hv => exact hv
       | 1, _, _, _, _, hv => exact hv
       | 2, _, _, _, _, hv => exact hv
       | 3, _, _, _, _, hv => exact hv
       | 4, _, _, _, _, hv => exact hv
       | 5, _, _, _, _, hv => exact hv
       | 6, _, _, _, _, hv => exact hv
       | 7, _, _, _, _, hv => exact hv
       | 8, _, _, _, _, hv => exact hv
       | 9, _, _, _, _, hv => exact hv
       | 10, _, _, hlv, _, _ => exact absurd hlv (by show ¬ (!upd D 11 true 11) = true; rw [upd_same]; decide)
       | 11, hk, _, _, _, _ => exact absurd rfl hk
       | k + 12, _, _, _, hkl, _ => exact absurd hkl (by simp)
    ·intro D V w7 hD hI;obtain ⟨hM1, hB1, hG1⟩ := hI.1;have hMx := hM1;clear hM1;have hBx := hB1;clear hB1;have hGx := hG1;clear hG1;have zf0 : V 0 = .pointer (some ⟨g, 0, none⟩) := hI.2 0 (hD 0 (by decide)) rfl;have zf1 : V 1 = .pointer (some ⟨g, 0, none⟩) := hI.2 1 (hD 1 (by decide)) rfl;have zf2 : V 2 = .pointer (some ⟨g, 2, none⟩) := hI.2 2 (hD 2 (by decide)) rfl;have zf3 : V 3 = .slice BA bts.length bc := hI.2 3 (hD 3 (by decide)) rfl;have zf4 : V 4 = .int .i64 (bts.length : Int) := hI.2 4 (hD 4 (by decide)) rfl;have zf5 : V 5 = .int .i64 ((bts.length : Int) + 1) := hI.2 5 (hD 5 (by decide)) rfl;have zf6 : V 6 = .int .i64 at_ := hI.2 6 (hD 6 (by decide)) rfl;have zf7 : V 7 = .string ⟨rev.toArray⟩ := hI.2 7 (hD 7 (by decide)) rfl;have zf8 : V 8 = .slice (some ⟨g2, 0, none⟩) TL.length c6 := hI.2 8 (hD 8 (by decide)) rfl;have zf9 : V 9 = .agg #[.int .i64 ((bts.length : Int) + 1), .int .i64 at_, (.int .i64 (-1)), .string ⟨rev.toArray⟩, .slice (some ⟨g2, 0, none⟩) TL.length c6] := hI.2 9 (hD 9 (by decide)) rfl;have zF11 : ∃ (g_11 : Nat), V 10 = .pointer (some ⟨g_11, 0, none⟩) ∧ w6.heap.size ≤ g_11 ∧ Blk w7 g_11 42 #[.int .i64 ((bts.length : Int) + 1), .int .i64 at_, (.int .i64 (-1)), .string ⟨rev.toArray⟩, .slice (some ⟨g2, 0, none⟩) TL.length c6] := hI.2 11 (hD 11 (by decide)) rfl;obtain ⟨g_11, zf11, c11_0, b11_0⟩ := zF11;clear hI hD HGs;simp only [frAll, Act.put, List.setIfInBounds_toArray, List.set_cons_zero, List.set_cons_succ, Nat.zero_add, Nat.reduceAdd, zf0, zf1, zf2, zf3, zf4, zf5, zf6, zf7, zf8, zf9, zf11];clear zf0 zf1 zf2 zf3 zf4 zf5 zf6 zf7 zf8 zf9 zf11;clear V D;have HBN := Lib.hid b11_0;have hgn : w6.heap.size ≤ g_11 := c11_0;have HM7 := Lib.hid hMx;have HB57 := Lib.hid hGx.1;have HDB7 := Lib.hid hGx.2;have HB87 := Lib.hid (HB86.out.modp hMx);have HBT7 := Lib.hid (HBT6.out.pure hMx);have hgn7 := b11_0.lt;have hw7s := hMx.size;clear b11_0 c11_0 hMx hGx hBx HB56 HDB6 HB86 HBT6;generalize g_11 = gn at *
     obtain ⟨i0, hi0, hz0, hz1, hz2⟩ := info_parts info_bat
     obtain ⟨nb, hnb⟩ : ∃ nb, nb = (bts.length : Int) + 1 := ⟨_, rfl⟩;rw [← hnb] at HBN;have HNB := Lib.hid (show nb = (d.bats.length : Int) + 1 by rw [hnb]; omega);clear hnb;have HS7 := Lib.hid (HS6.out.pure HM7.out);have hgbm7 := mapX_ne HS7.out HDB7.out;have HSL7 := Lib.hid (Sl.of_own (own_pure HOW6.out HM7.out))
     go_upto_region 21 with (fail)
     have HGs := Lib.hid (show ∀ (D : Nat → Bool) (zzi : Nat) (zq zq' : World), zzi ≠ 7 → (fun D zq => (D 7 = false → (fun Z => BtB Z BA bc bts d.bats g 87 #[.slice FA fms.length fc, .map (some bm), .slice BA bts.length bc, .int .i64 d.last] ∧ Sl Z 9 1 (.slice (some ⟨g2, 0, none⟩) TL.length c6) (strsV TL)) zq) ∧ (fun Z => Blk Z gn 42 #[.int .i64 nb, .int .i64 at_, .int .i64 (-1), .string ⟨rev.toArray⟩, .slice (some ⟨g2, 0, none⟩) TL.length c6]) zq) D zq → Mod (fun _ => False) zq zq' → (fun D zq => (D 7 = false → (fun Z => BtB Z BA bc bts d.bats g 87 #[.slice FA fms.length fc, .map (some bm), .slice BA bts.length bc, .int .i64 d.last] ∧ Sl Z 9 1 (.slice (some ⟨g2, 0, none⟩) TL.length c6) (strsV TL)) zq) ∧ (fun Z => Blk Z gn 42 #[.int .i64 nb, .int .i64 at_, .int .i64 (-1), .string ⟨rev.toArray⟩, .slice (some ⟨g2, 0, none⟩) TL.length c6]) zq) (upd D zzi true) zq' from by intro D zzi zq zq' hi hh hm; refine ⟨fun hs => ?_, ?_⟩; (rw [upd_ne _ _ (Ne.symm hi)] at hs; have h := hh.1 hs; (exact ⟨h.1.pure hm, h.2.pure hm⟩)); (have h := hh.2; (exact h.modp hm)))
     refine wp_region_inv (by kernel_rfl) (by kernel_rfl) (InvF (R := Mod (fun _ => False)) [.is (.pointer (some ⟨g, 0, none⟩)),
       .is (.pointer (some ⟨g, 0, none⟩)),
       .is (.pointer (some ⟨g, 0, none⟩)),
       .is (.pointer (some ⟨g, 2, none⟩)),
       .is (.slice BA bts.length bc),
       .is (.agg #[.int .i64 nb, .int .i64 at_, .int .i64 (-1), .string ⟨rev.toArray⟩, .slice (some ⟨g2, 0, none⟩) TL.length c6]),
       ⟨fun zv zw => ∃ (g_6 : Nat), zv = .slice (some ⟨g_6, 0, none⟩) 1 1 ∧ w7.heap.size ≤ g_6 ∧ Blk zw g_6 42 #[.int .i64 nb, .int .i64 at_, .int .i64 (-1), .string ⟨rev.toArray⟩, .slice (some ⟨g2, 0, none⟩) TL.length c6], (by rintro zv zw zx ⟨g_6, rfl, c0, q0⟩ hm; exact ⟨g_6, rfl, c0, (q0.modp hm)⟩), none, some 7⟩,
       ⟨fun zv zw => ∃ (g_7 : Nat) (c_7 : Nat), zv = .slice (some ⟨g_7, 0, none⟩) (bts.length + 1) c_7 ∧ (bo = some g_7 ∨ w7.heap.size ≤ g_7) ∧ BtB zw (some ⟨g_7, 0, none⟩) c_7 (bts ++ [⟨nb, at_, -1, rev, some ⟨g2, 0, none⟩, c6, TL⟩]) (d.bats ++ [(nb, at_, -1, rev, TL)]) g 87 #[.slice FA fms.length fc, .map (some bm), .slice BA bts.length bc, .int .i64 d.last], (by rintro zv zw zx ⟨g_7, c_7, rfl, c0, q0⟩ hm; exact ⟨g_7, c_7, rfl, c0, (q0.pure hm)⟩), none, some 10⟩,
       .is (.pointer (some ⟨g, 0, none⟩)),
       .is (.pointer (some ⟨g, 2, none⟩)),
       ⟨fun zv zw => ∃ (g_10 : Nat) (c_10 : Nat), zv = undef ∧ (bo = some g_10 ∨ w7.heap.size ≤ g_10) ∧ BtB zw (some ⟨g_10, 0, none⟩) c_10 (bts ++ [⟨nb, at_, -1, rev, some ⟨g2, 0, none⟩, c6, TL⟩]) (d.bats ++ [(nb, at_, -1, rev, TL)]) g 87 #[.slice FA fms.length fc, .map (some bm), .slice (some ⟨g_10, 0, none⟩) (bts.length + 1) c_10, .int .i64 d.last], (by rintro zv zw zx ⟨g_10, c_10, rfl, c0, q0⟩ hm; exact ⟨g_10, c_10, rfl, c0, (q0.pure hm)⟩), none, none⟩]
       (PB w7 (fun j => j = g ∨ bo = some j) w7.heap.size (fun D zq => (D 7 = false → (fun Z => BtB Z BA bc bts d.bats g 87 #[.slice FA fms.length fc, .map (some bm), .slice BA bts.length bc, .int .i64 d.last] ∧ Sl Z 9 1 (.slice (some ⟨g2, 0, none⟩) TL.length c6) (strsV TL)) zq) ∧ (fun Z => Blk Z gn 42 #[.int .i64 nb, .int .i64 at_, .int .i64 (-1), .string ⟨rev.toArray⟩, .slice (some ⟨g2, 0, none⟩) TL.length c6]) zq))) (InvF.start (PB.start (Mod.refl _ _) (Nat.le_refl _) (⟨fun _ => ⟨BtB.pure ⟨HBT7.out, HDB7.out⟩ ((Mod.refl _ _).drew), HSL7.out.pure ((Mod.refl _ _).drew)⟩, HBN.out.drew⟩))) ?_ ?_
     ·refine .cons ?_ (.cons ?_ (.cons ?_ (.cons ?_ (.cons ?_ (.cons ?_ (.cons ?_ (.cons ?_ (.cons ?_ (.cons ?_ (.cons ?_ .nil))))))))))
      ·intro D V zw1 a hR hI K hK;obtain ⟨hM1, hB1, hG1⟩ := hI.1;obtain ⟨hGK, hG1⟩ := hG1;have ze0 := hR.frame.other (t := 0) (by kernel_rfl) rfl;rw [if_pos (by rfl)];go_simp;exact hK (.pointer (some ⟨g, 0, none⟩)) _ (hI.next hR (by kernel_rfl) (Mod.refl _ _) (PB.quiet hI.1 (Mod.refl _ _) (HGs.out D 0 zw1 zw1 (by omega) (hI.1).g (Mod.refl _ _))) (upd_same V 0 _))
      ·intro D V zw1 a hR hI K hK;obtain ⟨hM1, hB1, hG1⟩ := hI.1;obtain ⟨hGK, hG1⟩ := hG1;have ze0 := hR.frame.other (t := 0) (by kernel_rfl) rfl;rw [if_pos (by rfl)];go_simp;exact hK (.pointer (some ⟨g, 0, none⟩)) _ (hI.next hR (by kernel_rfl) (Mod.refl _ _) (PB.quiet hI.1 (Mod.refl _ _) (HGs.out D 1 zw1 zw1 (by omega) (hI.1).g (Mod.refl _ _))) (upd_same V 1 _))
      ·intro D V zw1 a hR hI K hK;obtain ⟨hM1, hB1, hG1⟩ := hI.1;obtain ⟨hGK, hG1⟩ := hG1;have zd1 := hR.pred 1 (by kernel_rfl);have zf1 : V 1 = .pointer (some ⟨g, 0, none⟩) := hI.2 1 zd1 rfl;have ze110 := hR.frame.done (t := 110) (j := 1) (by kernel_rfl) hR.ok zd1;rw [if_pos (by rfl)];go_simp;exact hK (.pointer (some ⟨g, 0, none⟩)) _ (hI.next hR (by kernel_rfl) (Mod.refl _ _) (PB.quiet hI.1 (Mod.refl _ _) (HGs.out D 2 zw1 zw1 (by omega) (hI.1).g (Mod.refl _ _))) (upd_same V 2 _))
      ·intro D V zw1 a hR hI K hK;obtain ⟨hM1, hB1, hG1⟩ := hI.1;obtain ⟨hGK, hG1⟩ := hG1;have zd2 := hR.pred 2 (by kernel_rfl);have zf2 : V 2 = .pointer (some ⟨g, 0, none⟩) := hI.2 2 zd2 rfl;have ze111 := hR.frame.done (t := 111) (j := 2) (by kernel_rfl) hR.ok zd2;rw [if_pos (by rfl)];go_simp;exact hK (.pointer (some ⟨g, 2, none⟩)) _ (hI.next hR (by kernel_rfl) (Mod.refl _ _) (PB.quiet hI.1 (Mod.refl _ _) (HGs.out D 3 zw1 zw1 (by omega) (hI.1).g (Mod.refl _ _))) (upd_same V 3 _))
      ·intro D V zw1 a hR hI K hK;obtain ⟨hM1, hB1, hG1⟩ := hI.1;obtain ⟨hGK, hG1⟩ := hG1;have zd3 := hR.pred 3 (by kernel_rfl);have zf3 : V 3 = .pointer (some ⟨g, 2, none⟩) := hI.2 3 zd3 rfl;have ze112 := hR.frame.done (t := 112) (j := 3) (by kernel_rfl) hR.ok zd3;have zx0 := (hGK (hR.later 7 rfl (by kernel_rfl))).1.2.cell 2;simp at zx0;rw [if_pos (by rfl)];go_simp;exact hK (.slice BA bts.length bc) _ (hI.next hR (by kernel_rfl) (Mod.refl _ _) (PB.quiet hI.1 (Mod.refl _ _) (HGs.out D 4 zw1 zw1 (by omega) (hI.1).g (Mod.refl _ _))) (upd_same V 4 _))
      ·intro D V zw1 a hR hI K hK;obtain ⟨hM1, hB1, hG1⟩ := hI.1;obtain ⟨hGK, hG1⟩ := hG1;have ze18 := hR.frame.other (t := 18) (by kernel_rfl) rfl;have zx0 := hG1.cell 0; have zx1 := hG1.cell 1; have zx2 := hG1.cell 2; have zx3 := hG1.cell 3; have zx4 := hG1.cell 4;simp at zx0 zx1 zx2 zx3 zx4;rw [if_pos (by rfl)];go_simp;exact hK (.agg #[.int .i64 nb, .int .i64 at_, .int .i64 (-1), .string ⟨rev.toArray⟩, .slice (some ⟨g2, 0, none⟩) TL.length c6]) _ (hI.next hR (by kernel_rfl) (Mod.refl _ _) (PB.quiet hI.1 (Mod.refl _ _) (HGs.out D 5 zw1 zw1 (by omega) (hI.1).g (Mod.refl _ _))) (upd_same V 5 _))
      ·intro D V zw1 a hR hI K hK;obtain ⟨hM1, hB1, hG1⟩ := hI.1;obtain ⟨hGK, hG1⟩ := hG1;have zd5 := hR.pred 5 (by kernel_rfl);have zf5 : V 5 = .agg #[.int .i64 nb, .int .i64 at_, .int .i64 (-1), .string ⟨rev.toArray⟩, .slice (some ⟨g2, 0, none⟩) TL.length c6] := hI.2 5 zd5 rfl;have ze114 := hR.frame.done (t := 114) (j := 5) (by kernel_rfl) hR.ok zd5;rw [if_pos (by rfl)];go_simp;exact hK (_) _ (hI.next hR (by kernel_rfl) ((Mod.refl _ _).alloc _) (PB.quiet hI.1 (pure_alloc _ _) (HGs.out D 6 _ _ (by omega) (hI.1).g ((Mod.refl _ _).alloc _))) (⟨_, upd_same V 6 _, (by omega), (Blk.new _ _ _)⟩))
      ·intro D V zw1 a hR hI K hK;obtain ⟨hM1, hB1, hG1⟩ := hI.1;obtain ⟨hGK, hG1⟩ := hG1;have zd4 := hR.pred 4 (by kernel_rfl);have zf4 : V 4 = .slice BA bts.length bc := hI.2 4 zd4 rfl;have zd6 := hR.pred 6 (by kernel_rfl);have zF6 : ∃ (g_6 : Nat), V 6 = .slice (some ⟨g_6, 0, none⟩) 1 1 ∧ w7.heap.size ≤ g_6 ∧ Blk zw1 g_6 42 #[.int .i64 nb, .int .i64 at_, .int .i64 (-1), .string ⟨rev.toArray⟩, .slice (some ⟨g2, 0, none⟩) TL.length c6] := hI.2 6 zd6 (by show (!D 7) = true; rw [hR.not]; rfl);obtain ⟨g_6, zf6, c6_0, b6_0⟩ := zF6;have ze113 := hR.frame.done (t := 113) (j := 4) (by kernel_rfl) hR.ok zd4;have ze115 := hR.frame.done (t := 115) (j := 6) (by kernel_rfl) hR.ok zd6;rw [if_pos (by rfl)];have hown := (hGK hR.not).1.1.1;refine wp_append_lies _ (.tmp 113) (.tmp 115) 48 (by rfl) 0 42 i0 _ 5 64 Tryz.underlying48 hi0 hz0 hz1 hz2 (by rfl) (by omega) (.slice BA bts.length bc) (bts.length) (batV bts) ?_ hown ⟨g_6, 0, none⟩ 1 1 [.int .i64 nb, .int .i64 at_, .int .i64 (-1), .string ⟨rev.toArray⟩, .slice (some ⟨g2, 0, none⟩) TL.length c6] ?_ (by rfl) (World.news_of_block (cs := #[.int .i64 nb, .int .i64 at_, .int .i64 (-1), .string ⟨rev.toArray⟩, .slice (some ⟨g2, 0, none⟩) TL.length c6]) (t := 42) (fr := (0, 0)) b6_0) (by simp [Value.oneCell']) (by omega) (by simp [maxLen]; omega) (by omega) (by omega) zw1.heap.size rfl ?_
       ·show a.tmps.getD 113 undef = _; simp [ze113, zf4]
       ·show a.tmps.getD 115 undef = _; simp [ze115, zf6]
       intro g5 cap5 zw2 hown5 hgrow hat hlt5;have hT := mod_grown hgrow;have hTb : ∀ j, (.slice BA bts.length bc : Value).ownBlock = some j → 0 ≤ j := own_block hown;refine hK _ _ (InvF.last (PB.writes hI.1 (fun j hj hl => .inr (by rw [← HBO.out]; exact hj)) hT ⟨fun hs => absurd hs (by rw [upd_same]; decide), (hG1.mod hT (fun h => by have := HLT.out _ h; omega))⟩) ⟨_, _, upd_same V 7 _, (by rw [← HBO.out]; rcases hat with h | h; exact .inl h; exact .inr (by omega)), (hGK hR.not).1.app (by decide) hT (x := ⟨nb, at_, -1, rev, some ⟨g2, 0, none⟩, c6, TL⟩) (hGK hR.not).2 rfl hown5⟩ ?_);intro k hk hDk hlv;have hkl := hR.lt k hDk;have hv := hI.2 k hDk (liveB_of hlv)
       match k, hk, hDk, hlv, hkl, hv with
       | 0, _, _, _, _, hv => exact hv
       | 1, _, _, _, _, hv => exact hv
       | 2, _, _, _, _, hv => exact hv
       | 3, _, _, _, _, hv => exact hv
       | 4, _, _, _, _, hv => exact hv
       | 5, _, _, _, _, hv => exact hv
       | 6, _, _, hlv, _, _ => exact absurd hlv (by show ¬ (!upd D 7 true 7) = true; rw [upd_same]; decide)
       | 7, hk, _, _, _, _ => exact absurd rfl hk
       | 8, _, _, _, _, hv => exact hv
       | 9, _, _, _, _, hv => exact hv
       | 10, _, hDk, _, _, _ => exact absurd hDk (by rw [hR.later 10 rfl (by kernel_rfl)]; decide)
       | k + 11, _, _, _, hkl, _ => exact absurd hkl (by simp)
      ·intro D V zw1 a hR hI K hK;obtain ⟨hM1, hB1, hG1⟩ := hI.1;obtain ⟨hGK, hG1⟩ := hG1;have zd0 := hR.pred 0 (by kernel_rfl);have zf0 : V 0 = .pointer (some ⟨g, 0, none⟩) := hI.2 0 zd0 rfl;have ze109 := hR.frame.done (t := 109) (j := 0) (by kernel_rfl) hR.ok zd0;rw [if_pos (by rfl)];go_simp;exact hK (.pointer (some ⟨g, 0, none⟩)) _ (hI.next hR (by kernel_rfl) (Mod.refl _ _) (PB.quiet hI.1 (Mod.refl _ _) (HGs.out D 8 zw1 zw1 (by omega) (hI.1).g (Mod.refl _ _))) (upd_same V 8 _))
      ·intro D V zw1 a hR hI K hK;obtain ⟨hM1, hB1, hG1⟩ := hI.1;obtain ⟨hGK, hG1⟩ := hG1;have zd8 := hR.pred 8 (by kernel_rfl);have zf8 : V 8 = .pointer (some ⟨g, 0, none⟩) := hI.2 8 zd8 rfl;have ze117 := hR.frame.done (t := 117) (j := 8) (by kernel_rfl) hR.ok zd8;rw [if_pos (by rfl)];go_simp;exact hK (.pointer (some ⟨g, 2, none⟩)) _ (hI.next hR (by kernel_rfl) (Mod.refl _ _) (PB.quiet hI.1 (Mod.refl _ _) (HGs.out D 9 zw1 zw1 (by omega) (hI.1).g (Mod.refl _ _))) (upd_same V 9 _))
      ·intro D V zw1 a hR hI K hK;obtain ⟨hM1, hB1, hG1⟩ := hI.1;obtain ⟨hGK, hG1⟩ := hG1;have zd9 := hR.pred 9 (by kernel_rfl);have zf9 : V 9 = .pointer (some ⟨g, 2, none⟩) := hI.2 9 zd9 rfl;have zd7 := hR.pred 7 (by kernel_rfl);have zF7 : ∃ (g_7 : Nat) (c_7 : Nat), V 7 = .slice (some ⟨g_7, 0, none⟩) (bts.length + 1) c_7 ∧ (bo = some g_7 ∨ w7.heap.size ≤ g_7) ∧ BtB zw1 (some ⟨g_7, 0, none⟩) c_7 (bts ++ [⟨nb, at_, -1, rev, some ⟨g2, 0, none⟩, c6, TL⟩]) (d.bats ++ [(nb, at_, -1, rev, TL)]) g 87 #[.slice FA fms.length fc, .map (some bm), .slice BA bts.length bc, .int .i64 d.last] := hI.2 7 zd7 (by show (!D 10) = true; rw [hR.not]; rfl);obtain ⟨g_7, c_7, zf7, c7_0, b7_0⟩ := zF7;have ze118 := hR.frame.done (t := 118) (j := 9) (by kernel_rfl) hR.ok zd9;have ze116 := hR.frame.done (t := 116) (j := 7) (by kernel_rfl) hR.ok zd7;rw [if_pos (by rfl)];have zx2 := b7_0.2.cell 2;have zy2 := b7_0.2.frozen 2;simp at zx2 zy2;have hmS : Mod (· = g) zw1 (zw1.setCell ⟨g, 2, none⟩ (.slice (some ⟨g_7, 0, none⟩) (bts.length + 1) c_7)) := (Mod.refl (· = g) zw1).setCell (.inl rfl) _;go_simp;refine hK undef _ (InvF.last ⟨hM1.trans' hmS (fun i hi hlt => .inl hi), (by simpa using hB1), ⟨fun hs => absurd hs (by rw [upd_ne _ _ (by omega), hR.pred 7 (by kernel_rfl)]; decide), hG1.mod hmS (by omega)⟩⟩ ⟨g_7, c_7, upd_same _ 10 _, c7_0, by have h := b7_0.store (q := 2) (by decide) (by decide) (.slice (some ⟨g_7, 0, none⟩) (bts.length + 1) c_7); simpa using h⟩ ?_);intro k hk hDk hlv;have hkl := hR.lt k hDk;have hv := hI.2 k hDk (liveB_of hlv)
       match k, hk, hDk, hlv, hkl, hv with
       | 0, _, _, _, _, hv => exact hv
       | 1, _, _, _, _, hv => exact hv
       | 2, _, _, _, _, hv => exact hv
       | 3, _, _, _, _, hv => exact hv
       | 4, _, _, _, _, hv => exact hv
       | 5, _, _, _, _, hv => exact hv
       | 6, _, _, hlv, _, _ => exact absurd hlv (by show ¬ (!upd D 10 true 7) = true; rw [upd_ne _ _ (by omega), hR.pred 7 (by kernel_rfl)]; decide)
       | 7, _, _, hlv, _, _ => exact absurd hlv (by show ¬ (!upd D 10 true 10) = true; rw [upd_same]; decide)
       | 8, _, _, _, _, hv => exact hv
       | 9, _, _, _, _, hv => exact hv
       | 10, hk, _, _, _, _ => exact absurd rfl hk
       | k + 11, _, _, _, hkl, _ => exact absurd hkl (by simp)
     ·intro D V w8 hD hI;obtain ⟨hM1, hB1, hG1⟩ := hI.1;have hMx := hM1;clear hM1;have hBx := hB1;clear hB1;have hGx := hG1.2;clear hG1;have zf0 : V 0 = .pointer (some ⟨g, 0, none⟩) := hI.2 0 (hD 0 (by decide)) rfl;have zf1 : V 1 = .pointer (some ⟨g, 0, none⟩) := hI.2 1 (hD 1 (by decide)) rfl;have zf2 : V 2 = .pointer (some ⟨g, 0, none⟩) := hI.2 2 (hD 2 (by decide)) rfl;have zf3 : V 3 = .pointer (some ⟨g, 2, none⟩) := hI.2 3 (hD 3 (by decide)) rfl;have zf4 : V 4 = .slice BA bts.length bc := hI.2 4 (hD 4 (by decide)) rfl;have zf5 : V 5 = .agg #[.int .i64 nb, .int .i64 at_, .int .i64 (-1), .string ⟨rev.toArray⟩, .slice (some ⟨g2, 0, none⟩) TL.length c6] := hI.2 5 (hD 5 (by decide)) rfl;have zf8 : V 8 = .pointer (some ⟨g, 0, none⟩) := hI.2 8 (hD 8 (by decide)) rfl;have zf9 : V 9 = .pointer (some ⟨g, 2, none⟩) := hI.2 9 (hD 9 (by decide)) rfl;have zF10 : ∃ (g_10 : Nat) (c_10 : Nat), V 10 = undef ∧ (bo = some g_10 ∨ w7.heap.size ≤ g_10) ∧ BtB w8 (some ⟨g_10, 0, none⟩) c_10 (bts ++ [⟨nb, at_, -1, rev, some ⟨g2, 0, none⟩, c6, TL⟩]) (d.bats ++ [(nb, at_, -1, rev, TL)]) g 87 #[.slice FA fms.length fc, .map (some bm), .slice (some ⟨g_10, 0, none⟩) (bts.length + 1) c_10, .int .i64 d.last] := hI.2 10 (hD 10 (by decide)) rfl;obtain ⟨g_10, c_10, zf10, c10_0, b10_0⟩ := zF10;clear hI hD HGs;simp only [frAll, Act.put, List.setIfInBounds_toArray, List.set_cons_zero, List.set_cons_succ, Nat.zero_add, Nat.reduceAdd, zf0, zf1, zf2, zf3, zf4, zf5, zf8, zf9, zf10];clear zf0 zf1 zf2 zf3 zf4 zf5 zf8 zf9 zf10;generalize V 6 = u6;generalize V 7 = u7;clear V D;have HBB := Lib.hid b10_0;have HGO := Lib.hid c10_0;have hown7 := own_pure HBT7.out.1 (Mod.refl _ _);have hboh : ∀ j, bo = some j → ∃ arr, w7.heap[j]? = some (.cells arr 42 (0, 0)) := fun j hj => own_heap HBT7.out.1 (by rw [HBO.out]; exact hj)
      have hbol : ∀ j, bo = some j → j < w.heap.size := fun j hj => by have := HLT.out j (by rw [HBO.out]; exact hj); omega
      have hn8 : ¬ (g8 = g ∨ bo = some g8) := fun h => by
       rcases h with h | h
       ·omega
       ·have := hbol _ h; omega
      have hnb : ¬ (bm = g ∨ bo = some bm) := fun h => by
       rcases h with h | h
       ·exact hgbm7 h.symm
       ·obtain ⟨arr, h2⟩ := hboh _ h;exact mapX_cells HS7.out h2 rfl
      have hnt : ∀ (T : TypeId), T ≠ 87 → T ≠ 42 → ∀ i arr fr, w7.heap[i]? = some (.cells arr T fr) → ¬ (i = g ∨ bo = some i) := fun T h1 h2 i arr fr hi h => by
       rcases h with h | h
       ·exact blk_ty2 HDB7.out hi h1 h
       ·obtain ⟨arr2, h3⟩ := hboh _ h;rw [hi] at h3
        injection h3 with h3
        injection h3 with _ h4 _
        exact h2 h4
      have hm9 : Mod (· = g) w8 (w8.setCell ⟨g, 3, none⟩ (.int .i64 at_)) := (Mod.refl (· = g) w8).setCell (.inl rfl) _;have HMX := Lib.hid (hMx.trans' hm9 (fun i hi hlt => .inl hi));have HBB9 := Lib.hid (b10_0.store (q := 3) (by decide) (by decide) (.int .i64 at_));have HBN9 := Lib.hid (hGx.mod hm9 (by omega));have hB := HBB.out.2;have t0 := hB.cell 0; have tf0 := hB.frozen 0; have t1 := hB.cell 1; have tf1 := hB.frozen 1; have t2 := hB.cell 2; have tf2 := hB.frozen 2; have t3 := hB.cell 3; have tf3 := hB.frozen 3; simp at t0 t1 t2 t3;clear b10_0 c10_0 hGx hMx hBx hB;generalize g_10 = gz at *;generalize c_10 = cz at *
      go_upto_region 23 with (fail)
      generalize (w8.setCell ⟨g, 3, none⟩ (.int .i64 at_)) = w9 at *;have HB89 := Lib.hid (HB87.out.mod HMX.out hn8);have HS9 := Lib.hid (HS7.out.mod HMX.out hnb);have HF9 := Lib.hid ((HF6.out.pure HM7.out).mod2 HMX.out (hnt _ (by decide) (by decide)) (hnt _ (by decide) (by decide)));have HSL9 := Lib.hid (HSL7.out.mod HMX.out (hnt _ (by decide) (by decide)));have HM9 := Lib.hid ((HM6.out.trans' HM7.out (fun i hi hlt => hi.elim)).trans' HMX.out (fun i hi hlt => by rcases hi with h | h; exact .inl h; exact .inr (.inr h)))
      have HDK9 : Hid (DkP w9 g bm (some gz) ids (dTake d rev at_ most)) := Lib.hid (by
       rw [HDT.out];refine ⟨FA, fc, fms, some ⟨gz, 0, none⟩, cz, bts ++ [⟨nb, at_, -1, rev, some ⟨g2, 0, none⟩, c6, TL⟩], ?_, HF9.out, HFE.out, HS9.out, ?_, rfl⟩
       ·have h := HBB9.out.2
        simpa using h
       ·have h := HBB9.out.1;rw [HNB.out] at h ⊢
        exact h)
      have hsz9 := HMX.out.size;have HCL := Lib.hid (cloneC_calls w9 _ TL HSL9.out (by omega));clear t0 t1 t2 t3 tf0 tf1 tf2 tf3 HBB hown7 hboh hn8 hnb hnt hm9 HMX HB87 HS7 HSL7 HF6 HM7 HM6 HDB7 HB57 HBT7 HBN HS9 HF9 HSL9 HBB9 HS6 HOW6
      go_wp2_with fail
      refine HCL.out.mono ?_;rintro e w10 ⟨v, rfl, hown10, hm10⟩;obtain ⟨Ac, nc, cc, rfl⟩ := (Sl.of_own hown10).form;have hnc := Sl.lenS (Sl.of_own hown10);subst hnc;have hBN := HBN9.out.modp hm10;have hB8 := HB89.out.modp hm10;have HBN10 := Lib.hid hBN;have HB810 := Lib.hid hB8;have HOW10 := Lib.hid hown10;have HM10 := Lib.hid hm10;have t0 := hBN.cell 0; have tf0 := hBN.frozen 0; have t1 := hBN.cell 1; have tf1 := hBN.frozen 1; have t2 := hBN.cell 2; have tf2 := hBN.frozen 2; have t3 := hBN.cell 3; have tf3 := hBN.frozen 3; have t4 := hBN.cell 4; have tf4 := hBN.frozen 4; simp at t0 t1 t2 t3 t4;have s0 := hB8.cell 0; have sf0 := hB8.frozen 0; have s1 := hB8.cell 1; have sf1 := hB8.frozen 1; have s2 := hB8.cell 2; have sf2 := hB8.frozen 2; have s3 := hB8.cell 3; have sf3 := hB8.frozen 3; have s4 := hB8.cell 4; have sf4 := hB8.frozen 4; simp at s0 s1 s2 s3 s4
      have hg8n : g8 ≠ gn := by omega
      clear hBN hB8 hown10 hm10 HCL
      go_wp2_with fail
      have hB9 := (HB810.out.far (p := ⟨gn, 4, none⟩) hg8n (.slice Ac TL.length cc)).set5 (.int .i64 nb) (.int .i64 at_) (.int .i64 (-1)) (.string ⟨rev.toArray⟩) (.slice Ac TL.length cc);have u0 := hB9.cell 0; have u1 := hB9.cell 1; have u2 := hB9.cell 2; have u3 := hB9.cell 3; have u4 := hB9.cell 4; simp at u0 u1 u2 u3 u4;refine bodyPost_ret (v := .tuple #[.agg #[.int .i64 nb, .int .i64 at_, .int .i64 (-1), .string ⟨rev.toArray⟩, .slice Ac TL.length cc], .int .i64 0]) (by simp [results, Tryz.results15, go_sem, u0, u1, u2, u3, u4]) rfl ?_;have hmF := (((Mod.refl (fun j => j = gn ∨ j = g8) w10).setCell (p := ⟨gn, 4, none⟩) (.inl (.inl rfl)) (.slice Ac TL.length cc))).set5 (g := g8) (.inl (.inr rfl)) (.int .i64 nb) (.int .i64 at_) (.int .i64 (-1)) (.string ⟨rev.toArray⟩) (.slice Ac TL.length cc)
      have hty : ∀ (T : TypeId), T ≠ 42 → ∀ i arr fr, w10.heap[i]? = some (.cells arr T fr) → ¬ (i = gn ∨ i = g8) := fun T h1 i arr fr hi h => by
       rcases h with h | h
       ·exact blk_ty2 HBN10.out hi h1 h
       ·exact blk_ty2 HB810.out hi h1 h
      have hz : bo = some gz ∨ w7.heap.size ≤ gz := HGO.out;refine .inr ⟨HQ0.out, Ac, cc, some gz, by rw [HNB.out], (Sl.of_own HOW10.out).mod hmF (hty _ (by decide)), (HDK9.out.pure HM10.out).mod hmF (by omega) (by omega) (fun j hj h => ?_) (hty _ (by decide)) (hty _ (by decide)), fun j hj => ?_, (HM9.out.trans' HM10.out (fun i hi hlt => hi.elim)).trans' hmF (fun i hi hlt => by omega)⟩
      ·injection hj with hj
       subst hj
       rcases hz with h1 | h1
       ·have := hbol _ h1; omega
       ·omega
      ·injection hj with hj
       subst hj
       rcases hz with h1 | h1
       ·exact .inl h1
       ·right; omega
end Go.Proofs.YtgfgggeeoeppjaaGreatDoor
/- New of the program. -/
namespace Go.Proofs.YtgfgggeeoeppjaaGreatDoor
open Go.RowKit
def famA (p : Fm) : Value := .agg #[.string ⟨p.1.toArray⟩, p.2.1]
def nwE (its : List Itm) (order : List Str) : Int := if itsE itemE its ≠ 0 then itsE itemE its else ofE ((famsS its).map (·.1)) order []
def NwPost (K : World → Nat → Nat → Prop) (w : World) (its : List Itm) (order : List Str) (e : Ending) (w' : World) : Prop := Pure w w' ∧
 ((nwE its order ≠ 0 ∧ e = .returned (.tuple #[.pointer none, .int .i64 (nwE its order)])) ∨ (nwE its order = 0 ∧ ∃ g bm, e = .returned (.tuple #[.pointer (some ⟨g, 0, none⟩), .int .i64 0]) ∧ w.heap.size ≤ g ∧ w.heap.size ≤ bm ∧ K w' g bm))
theorem zero_fam (W : World) : (zeroValue 90).run Tryz.prog W = .ok (.agg #[.string ⟨#[]⟩, .slice none 0 0]) W := by kernel_rfl
def FaB (w : World) (base : Nat) (A : Option Addr) (c : Nat) (ys : List Fm) (g : Nat) (cl : Array Value) : Prop := w.ownsRow base 90 2 (.slice A ys.length c) ys.length (fmV ys) ∧ Blk w g 87 cl
theorem FaB.pure {w w' : World} {base c g : Nat} {A : Option Addr} {ys : List Fm} {cl : Array Value} (h : FaB w base A c ys g cl) (hm : Pure w w') : FaB w' base A c ys g cl := ⟨own_pure h.1 hm, h.2.modp hm⟩
theorem FaB.app {w w' : World} {base c c5 n' g : Nat} {A A5 : Option Addr} {ys : List Fm} {cl : Array Value} (p : Fm) (h : FaB w base A c ys g cl) (hm : Mod (fun j => (Value.slice A ys.length c).ownBlock = some j) w w') (hn : n' = ys.length + 1)
  (hown : w'.ownsRow base 90 2 (.slice A5 n' c5) n' (fmV ys ++ [.string ⟨p.1.toArray⟩, p.2.1])) : FaB w' base A5 c5 (ys ++ [p]) g cl := by
 subst hn;refine ⟨?_, h.2.mod hm (fun hv => by have h2 := h.2; unfold Blk at h2; exact absurd (own_ty h.1 hv h2) (by decide))⟩;rw [fmV_snoc, List.length_append];exact hown
theorem FaB.store {w : World} {base c g q : Nat} {A : Option Addr} {ys : List Fm} {cl : Array Value} (h : FaB w base A c ys g cl) (u : Value) : FaB (w.setCell ⟨g, q, none⟩ u) base A c ys g (cl.setIfInBounds q u) :=
 have hm : Mod (· = g) w (w.setCell ⟨g, q, none⟩ u) := (Mod.refl (· = g) w).setCell (.inl rfl) _
 ⟨own_mod h.1 hm (fun j hj e => by subst e; have h2 := h.2; unfold Blk at h2; exact absurd (own_ty h.1 hj h2) (by decide)), h.2.set q u⟩
theorem fndF_some {fs : List Fm} {s : Str} {p : Fm} (h : (fs.find? fun p => decide (p.1 = s)) = some p) : fndF (fmS fs) s = p.2.2 := by
 unfold fndF fmS;rw [List.find?_map];have : (fs.find? ((fun p : Str × List Str => decide (p.1 = s)) ∘ fun p : Fm => (p.1, p.2.2))) = some p := h;rw [this]
 rfl
theorem find_none {fs : List Fm} {s : Str} (h : (fs.find? fun p => decide (p.1 = s)) = none) : s ∉ (fmS fs).map (·.1) := by
 intro hs;unfold fmS at hs;rw [List.map_map] at hs;obtain ⟨p, hp, rfl⟩ := List.mem_map.1 hs;exact absurd (List.find?_eq_none.1 h p hp) (by simp)
theorem find_mem {fs : List Fm} {s : Str} {p : Fm} (h : (fs.find? fun p => decide (p.1 = s)) = some p) : p ∈ fs ∧ p.1 = s := ⟨List.mem_of_find?_eq_some h, by have := List.find?_some h; simpa using this⟩
theorem newF_fm (fs : List Fm) (order : List Str) : newF (fmS fs) order = order.map (fndF (fmS fs)) ++ (fs.filter fun p => decide (p.1 ∉ order)).map (fun p => p.2.2) := by
 unfold newF
 congr 1
 unfold fmS;rw [List.filter_map, List.map_map]
 rfl
set_option maxHeartbeats 8000000 in
theorem pnew_calls (w : World) (vi : Value) (its : List Itm) (hI : Its w vi its) (hz : ∀ x ∈ its, ItB x) (hn : its.length ≤ 12) (hE : Env w) (OA : Option Addr) (on oc : Nat) (order : List Str) (ho : Sl w 9 1 (.slice OA on oc) (strsV order)) (hol : order.length ≤ 12) (hos : ∀ s ∈ order, s.length ≤ 1000) :
  Calls Tryz.prog 10 #[vi, .slice OA on oc] w (NwPost (fun W g bm => DkP W g bm none (its.map (·.id)) (dNew its order)) w its order) := by
 have hon := Sl.lenS ho;subst hon;have HFA := Lib.hid (families_calls w vi its hI hz (by omega) hE);have HOR := Lib.hid ho;have HOS := Lib.hid hos;have HRI : Hid (itsE itemE its = 0 → Right its) := Lib.hid right_items;have HZ := Lib.hid hz;have HNE : Hid (nwE its order = if itsE itemE its ≠ 0 then itsE itemE its else ofE ((famsS its).map (·.1)) order []) := Lib.hid rfl;have HDN : Hid ((dNew its order).fams = newF (famsS its) order ∧ (dNew its order).st = (fun _ => 0) ∧ (dNew its order).bats = [] ∧ (dNew its order).last = 0) := Lib.hid ⟨rfl, rfl, rfl, rfl⟩;unfold FamPost at HFA;unfold NwPost;generalize nwE its order = ef at *;obtain ⟨dk, hdk⟩ : ∃ dk, dNew its order = dk := ⟨_, rfl⟩;rw [hdk] at HDN ⊢;obtain ⟨ie, hie⟩ : ∃ ie, itsE itemE its = ie := ⟨_, rfl⟩;rw [hie] at HFA HRI HNE;clear ho hos hI hz hE hdk hie
 go_enter Tryz.func10, Tryz.ntmps10
 go_wp2_with fail
 refine HFA.out.mono ?_;rintro e w1 ⟨vf, rfl, hnil, hfs, hm1⟩
 by_cases h0 : ie = 0
 rotate_left
 ·have h0' : (ie != 0) = true := by simpa using h0
  have HQ := Lib.hid (show ef = ie by rw [HNE.out, if_pos h0]);have H0 := Lib.hid h0;clear h0 hnil hfs
  go_wp2_with fail
  try simp only [Exit.inBlock, Exit.then]
  refine bodyPost_ret (v := .tuple #[.pointer none, .int .i64 ie]) (by simp [results, Tryz.results10, go_sem]) rfl ?_;exact ⟨hm1, .inl ⟨by rw [HQ.out]; exact H0.out, by rw [HQ.out]⟩⟩
 subst h0;have hR := HRI.out (by first | rfl | trivial);obtain ⟨fs, hF, hfe⟩ := hfs rfl;have HNE2 := Lib.hid (show ef = ofE ((fmS fs).map (·.1)) order [] by rw [HNE.out, if_neg (by simp), hfe]);have HFE := Lib.hid hfe;have HND := Lib.hid (show (fs.map (·.1)).Nodup by have := tops_nodup hR; rw [← hfe] at this; unfold fmS at this; rw [List.map_map] at this; exact this);have HMS := Lib.hid (fun s => show s ∈ fmD fs ↔ s ∈ its.map (·.id) from ⟨fun h => by obtain ⟨x, hx, rfl⟩ := fmD_mem hfe h; exact List.mem_map_of_mem hx, fun h => by obtain ⟨x, hx, rfl⟩ := List.mem_map.1 h; exact (fmD_of hfe hR hx).1⟩)
 have hfl : fs.length ≤ 12 := by
  have h := congrArg List.length hfe;unfold fmS at h;rw [List.length_map] at h;have := fams_len its
  omega
 have hdl : (fmD fs).length ≤ 12 := by rw [fmD_len hfe hR]; exact hn
 have HIN := Lib.hid (show (its.map (·.id)).Nodup from List.pairwise_map.2 hR.distinct);have HSZ := Lib.hid (fun s (hs : s ∈ fmD fs) => show s.length ≤ 1000 by obtain ⟨x, hx, rfl⟩ := fmD_mem hfe hs; have := (HZ.out x hx).1; omega)
 have HTZ := Lib.hid (fun k (hk : k < fs.length) => show fs[k].1.length ≤ 1000 by
  have h2 : (fs[k].1, fs[k].2.2) ∈ famsS its := by rw [← hfe]; unfold fmS; exact List.mem_map_of_mem (List.getElem_mem hk)
  unfold famsS at h2;obtain ⟨t, ht, he⟩ := List.mem_map.1 h2;have hl := (mem_topsI.1 ht).1;rw [← (Prod.mk.inj he).1, idAt2_eq hl];have := (HZ.out _ (List.getElem_mem hl)).1
  omega)
 obtain ⟨Af, nf, cf, rfl⟩ := hF.1.form;have hnf := hF.len.1;subst hnf;have HF1 := Lib.hid hF;have HM1 := Lib.hid hm1;have HOR1 := Lib.hid (HOR.out.pure hm1);clear hfe hF hm1 hnil hfs hR HRI HNE HZ HOR;have hmm := @run_makeMap Tryz.prog;have hp2 := pure_alloc w1 (.map #[] 0);have hp3 := pure_alloc (w1.alloc (.map #[] 0)) (.cells #[.slice none 0 0, .map (some w1.heap.size), .slice none 0 0, .int .i64 0] 87);have hp4 := pure_alloc ((w1.alloc (.map #[] 0)).alloc (.cells #[.slice none 0 0, .map (some w1.heap.size), .slice none 0 0, .int .i64 0] 87)) (.map #[] 0);have HMM := Lib.hid (((MapS.made w1).pure hp3).pure hp4);have HGB := Lib.hid ((Blk.snd w1 (.map #[] 0) 87 #[.slice none 0 0, .map (some w1.heap.size), .slice none 0 0, .int .i64 0]).modp hp4);have HMR := Lib.hid (MapS.made ((w1.alloc (.map #[] 0)).alloc (.cells #[.slice none 0 0, .map (some w1.heap.size), .slice none 0 0, .int .i64 0] 87)));have HP4 := Lib.hid ((hp2.trans hp3).trans hp4)
 have hz4 : (((w1.alloc (.map #[] 0)).alloc (.cells #[.slice none 0 0, .map (some w1.heap.size), .slice none 0 0, .int .i64 0] 87)).alloc (.map #[] 0)).heap.size = w1.heap.size + 3 := by simp
 simp only [World.size_alloc] at HMR;clear hp2 hp3 hp4
 go_upto_region 6 with (fail)
 generalize (((w1.alloc (.map #[] 0)).alloc (.cells #[.slice none 0 0, .map (some w1.heap.size), .slice none 0 0, .int .i64 0] 87)).alloc (.map #[] 0)) = w4 at *;obtain ⟨br, hbr⟩ : ∃ br, w1.heap.size + 1 + 1 = br := ⟨_, rfl⟩;rw [hbr] at HMR ⊢;generalize hg : w1.heap.size + 1 = g at *;generalize hbm : w1.heap.size = bm at *;have hw1s := HM1.out.size;have hga := Nat.le_of_eq hg;have hgb := Nat.le_of_eq hg.symm;have hba := Nat.le_of_eq hbm;have hbb := Nat.le_of_eq hbm.symm;have hra := Nat.le_of_eq hbr;have hrb := Nat.le_of_eq hbr.symm;have hz4a := Nat.le_of_eq hz4;have hz4b := Nat.le_of_eq hz4.symm;clear hg hbm hbr hz4
 go_upto_block 0 with (fail)
 go_cut [] (fun wx => (∃ n, MapS wx br n (fun s => (fs.find? fun p => decide (p.1 = s)).map famA)) ∧ (∃ n, MapS wx bm n (fun s => if s ∈ fmD fs then some (.int .i64 0) else none)) ∧ Blk wx g 87 #[.slice none 0 0, .map (some bm), .slice none 0 0, .int .i64 0] ∧ Pure w1 wx ∧ w4.heap.size ≤ wx.heap.size)
 case first =>
  go_wp2_with fail
  go_loopg [36] fs.length (fun gk i wr => ∃ (k n1 n2 : Nat), fs.length - k = gk ∧ k ≤ fs.length ∧ i = .int .i64 (k : Int) ∧ n1 ≤ k ∧ n2 ≤ (fmD (fs.take k)).length ∧ MapS wr br n1 (fun s => ((fs.take k).reverse.find? fun p => decide (p.1 = s)).map famA) ∧ MapS wr bm n2 (fun s => if s ∈ fmD (fs.take k) then some (.int .i64 0) else none) ∧ Blk wr g 87 #[.slice none 0 0, .map (some bm), .slice none 0 0, .int .i64 0] ∧ Pure w1 wr ∧ w4.heap.size ≤ wr.heap.size)
  case atStart => exact ⟨0, 0, 0, by omega, by omega, rfl, by omega, by simp, HMR.out, by simpa [fmD] using HMM.out, HGB.out, HP4.out, Nat.le_refl _⟩
  case round =>
   clear HMR HMM HGB HP4;obtain ⟨k, n1, n2, rfl, hk, rfl, hn1, hn2, hmr, hms, hb, hm, hsz⟩ := hrel
   by_cases hlt : k < fs.length
   ·obtain ⟨gf, of, YA, yn, yc, rfl, p0, p1, e5, hfs⟩ := (HF1.out.pure hm).at hlt;have HFS := Lib.hid hfs;have HFT := Lib.hid (fmD_take hlt);have htz := HTZ.out k hlt;have hpl := fmD_pre (fs := fs) (m := fs[k].2.2.length) hlt;rw [List.take_length] at hpl
    have HSK := Lib.hid (fun s (hs : s ∈ fs[k].2.2) => HSZ.out s (by
     have : s ∈ fmD (fs.take (k + 1)) := by rw [fmD_take hlt]; exact List.mem_append.2 (.inr hs)
     unfold fmD at this ⊢;rw [List.mem_flatMap] at this ⊢;obtain ⟨q, hq, hs2⟩ := this
     exact ⟨q, List.mem_of_mem_take hq, hs2⟩))
    have HTR := Lib.hid (fun s => show ((fs.take (k + 1)).reverse.find? fun p => decide (p.1 = s)) = if fs[k].1 = s then some fs[k] else (fs.take k).reverse.find? fun p => decide (p.1 = s) by
     rw [List.take_succ_eq_append_getElem hlt, List.reverse_append, List.reverse_singleton, List.singleton_append, List.find?_cons]
     by_cases e : fs[k].1 = s <;> simp [e])
    have HFA5 := Lib.hid (show famA fs[k] = .agg #[.string ⟨fs[k].1.toArray⟩, .slice YA yn yc] by unfold famA; rw [e5]);have HMRR := Lib.hid hmr;have HMSS := Lib.hid hms;have HBB := Lib.hid hb;have HM := Lib.hid hm;clear hfs e5 hmr hms hb hm;generalize fs[k] = y at *;obtain ⟨top, yv, f⟩ := y;simp only at p0 p1 HFS HFT htz hpl HSK HTR;rw [List.length_append] at hpl;have hfn := Sl.lenS HFS.out;subst hfn;have hpa := pure_alloc wr (.cells #[.string ⟨top.toArray⟩, .slice YA f.length yc] 90);obtain ⟨w6, hrun, hR6, hm6⟩ := (HMRR.out.pure hpa).store (t := 88) (e := 90) Tryz.underlying88 (by omega) top (by omega) (.agg #[.string ⟨top.toArray⟩, .slice YA f.length yc]);have hB11 := Blk.new wr 90 #[.string ⟨top.toArray⟩, .slice YA f.length yc];have hrl := HMRR.out.lt;have HB11 := Lib.hid (hB11.mod hm6 (by omega))
    have HR6 : Hid (MapS w6 br (n1 + 1) (fun s => ((fs.take (k + 1)).reverse.find? fun p => decide (p.1 = s)).map famA)) := Lib.hid (by
     have e : (fun s => ((fs.take (k + 1)).reverse.find? fun p => decide (p.1 = s)).map famA) = (fun x => if x = top then some (Value.agg #[.string ⟨top.toArray⟩, .slice YA f.length yc]) else ((fs.take k).reverse.find? fun p => decide (p.1 = x)).map famA) := by
      funext s
      rw [HTR.out s]
      by_cases e : top = s
      ·subst e; rw [if_pos rfl, if_pos rfl, Option.map_some, HFA5.out]
      ·rw [if_neg e, if_neg (fun h => e h.symm)]
     rw [e]
     exact hR6)
    have HS6 := Lib.hid ((HMSS.out.pure hpa).mod hm6 (by omega));have HB6 := Lib.hid ((HBB.out.modp hpa).mod hm6 (by omega));have HM6 := Lib.hid ((HM.out.trans hpa).trans' hm6 (fun i hi hlt => by omega))
    have HFS6 := Lib.hid ((HFS.out.pure hpa).mod hm6 (fun i arr fr hi e => by
     obtain ⟨D, ⟨es, clock, hb, _⟩, _⟩ := HMRR.out.pure hpa;rw [e, hb] at hi
     cases hi))
    have hsz6 : w4.heap.size ≤ w6.heap.size := by have := hm6.size; have := hpa.size; omega
    have x0 := hB11.cell 0; have x1 := hB11.cell 1; simp at x0 x1;clear HMRR HMSS HBB HM HTR HFA5 hR6 hm6 hpa hB11 HFS
    go_upto_region 10 with (fail)
    generalize wr.heap.size = gy at *;clear p0 p1 x0 x1 hrun;have hx := HB11.out;have x0 := hx.cell 0; have x1 := hx.cell 1; simp at x0 x1;clear hx;obtain ⟨_, _, _, e0, hfc1, hfc2, _, hfr⟩ := HFS6.out
    cases e0
    have HFR := Lib.hid hfr;clear hfr
    go_wp2_with fail
    go_loopg [47] f.length (fun gk i wr => ∃ (j n2 : Nat), f.length - j = gk ∧ j ≤ f.length ∧ i = .int .i64 (j : Int) ∧ n2 ≤ (fmD (fs.take k)).length + j ∧ MapS wr bm n2 (fun s => if s ∈ fmD (fs.take k) ++ f.take j then some (.int .i64 0) else none) ∧ Mod (· = bm) w6 wr)
    case atStart => exact ⟨0, n2, by omega, by omega, rfl, by omega, by simpa using HS6.out, Mod.refl _ _⟩
    case round =>
     clear x0 x1;obtain ⟨j, n3, rfl, hj, rfl, hn3, hms, hmb⟩ := hrel
     have hcl : ∀ i arr t fr, w6.heap[i]? = some (.cells arr t fr) → ¬ i = bm := fun i arr t fr hi e => by
      obtain ⟨D, ⟨es, clock, hb, _⟩, _⟩ := HS6.out;rw [e, hb] at hi
      cases hi
     by_cases hlj : j < f.length
     ·obtain ⟨gx, ox, rfl, hrow⟩ := HFR.out (by omega);have hq := (hrow.mod hmb (by obtain ⟨cs, fr, hb, _⟩ := hrow; exact hcl _ _ _ _ hb)).cell (strsV_get f j hlj);have hsl := HSK.out _ (List.getElem_mem hlj);have HTJ := Lib.hid (List.take_succ_eq_append_getElem hlj);have hx := HB6.out.mod hmb (by omega);obtain ⟨w7, hrun, hS7, hm7⟩ := hms.store (t := 47) (e := 3) Tryz.underlying47 (by omega) f[j] (by omega) (.int .i64 0);have HS7 := Lib.hid hS7;have HM7 := Lib.hid (hmb.trans hm7);have x0 := hx.cell 0; have x1 := hx.cell 1; have x2 := hx.cell 2; have x3 := hx.cell 3; simp at x0 x1 x2 x3;clear hx hrow hms hmb hS7 hm7 hcl;generalize f[j] = s at *
      go_wp2_with fail
      go_roundg (f.length - (j + 1))
      case measure => omega
      case rel =>
       refine ⟨j + 1, n3 + 1, rfl, by omega, by simp, by omega, ?_, HM7.out⟩
       have e : (fun q => if q ∈ fmD (fs.take k) ++ f.take (j + 1) then some (Value.int .i64 0) else none) = (fun q => if q = s then some (Value.int .i64 0) else if q ∈ fmD (fs.take k) ++ f.take j then some (.int .i64 0) else none) := by
        funext q
        rw [HTJ.out]
        by_cases e1 : q = s
        ·subst e1; simp
        ·simp [e1]
       rw [e];exact HS7.out
     ·obtain rfl : j = f.length := by omega
      rw [List.take_length, ← HFT.out] at hms;have HS8 := Lib.hid hms;have HR8 := Lib.hid (HR6.out.mod hmb (by omega));have HB8 := Lib.hid (HB6.out.mod hmb (by omega));have HM8 := Lib.hid (HM6.out.trans' hmb (fun i hi hlt => by omega));have hs8 := hmb.size
      have hfl2 : (fmD (fs.take (k + 1))).length = (fmD (fs.take k)).length + f.length := by rw [HFT.out, List.length_append]
      have hfl3 := Nat.le_of_eq hfl2.symm;clear hms hmb hcl hfl2
      go_wp2_with fail
      go_roundg (fs.length - (k + 1))
      case measure => omega
      case rel => exact ⟨k + 1, n1 + 1, n3, rfl, by omega, by simp, by omega, by omega, HR8.out, HS8.out, HB8.out, HM8.out, by omega⟩
   ·obtain rfl : k = fs.length := by omega
    rw [List.take_length] at hmr hms;have HR9 := Lib.hid hmr;have HS9 := Lib.hid hms;have HB9 := Lib.hid hb;have HM9 := Lib.hid hm;clear hmr hms hb hm
    go_wp2_with fail
    go_meet;exact ⟨⟨n1, by have h := HR9.out; have e : (fun s => (fs.reverse.find? fun p => decide (p.1 = s)).map famA) = (fun s => (fs.find? fun p => decide (p.1 = s)).map famA) := (by funext s; rw [find_rev HND.out]); rw [e] at h; exact h⟩, ⟨n2, HS9.out⟩, HB9.out, HM9.out, hsz⟩
 case rest =>
 obtain ⟨⟨nr, hmr⟩, ⟨ns, hms⟩, hb, hm, hsz⟩ := hcut;obtain ⟨w5, hw5⟩ : ∃ W, W = wc := ⟨wc, rfl⟩;subst hw5;have HR5 := Lib.hid hmr
 have HS5 : Hid (StM w5 bm pst (its.map (·.id)) (fun _ => 0)) := Lib.hid (by
  have e : (fun s => if s ∈ fmD fs then some (Value.int .i64 0) else none) = (fun s => if s ∈ its.map (·.id) then some (.int .i64 (pst ((fun _ => 0 : Str → Int) s))) else none) := by
   funext s
   by_cases h : s ∈ fmD fs
   ·rw [if_pos h, if_pos ((HMS.out s).1 h)]; rfl
   ·rw [if_neg h, if_neg (fun h2 => h ((HMS.out s).2 h2))]
  rw [e] at hms
  exact hms.exact HIN.out (fun s => by by_cases h : s ∈ its.map (·.id) <;> simp [h]))
 have HB5 := Lib.hid hb;have HM5 := Lib.hid hm;obtain ⟨base, hbase⟩ : ∃ base, base = w5.heap.size := ⟨_, rfl⟩;have hb1 := Nat.le_of_eq hbase;have hb2 := Nat.le_of_eq hbase.symm;obtain ⟨i0, hi0, hz0, hz1, hz2⟩ := info_parts info_fam;obtain ⟨_, _, _, e0, hoc1, hoc2, _, hor⟩ := HOR1.out
 cases e0
 have HOW := Lib.hid hor;clear hmr hms hb hm hbase HMS HSZ HMR HMM HGB HP4 hor hdl
 go_wp2_with fail
 go_loopg [60] order.length (fun gk i wr => ∃ (k cap : Nat) (Ao : Option Addr) (ys : List Fm), order.length - k = gk ∧ k ≤ order.length ∧ i = .int .i64 (k : Int) ∧ MapS wr br nr (fun s => if s ∈ order.take k then none else (fs.find? fun p => decide (p.1 = s)).map famA) ∧ FaB wr base Ao cap ys g #[.slice Ao ys.length cap, .map (some bm), .slice none 0 0, .int .i64 0] ∧ ys.length ≤ k ∧ ys.map (fun p => p.2.2) = (order.take k).map (fndF (fmS fs)) ∧ (∀ p ∈ ys, p ∈ fs) ∧ ef = ofE ((fmS fs).map (·.1)) (order.drop k) (order.take k) ∧ StM wr bm pst (its.map (·.id)) (fun _ => 0) ∧ Pure w1 wr ∧ base ≤ wr.heap.size)
 case atStart => exact ⟨0, 0, none, [], by omega, by omega, rfl, by simpa using HR5.out, ⟨⟨rfl, .inl ⟨rfl, rfl⟩⟩, HB5.out⟩, by simp, by simp, fun p h => absurd h (by simp), HNE2.out, HS5.out, HM5.out, hb1⟩
 case round =>
  clear HR5 HS5 HB5 HM5 HNE2;obtain ⟨k, cap, Ao, ys, rfl, hk, rfl, hmr, hfb, hyk, hyf, hys, hef, hst, hm, hsz⟩ := hrel;obtain ⟨w6, hw6⟩ : ∃ W, W = wr := ⟨wr, rfl⟩;subst hw6;have HFB := Lib.hid hfb;have HST := Lib.hid hst;have HM := Lib.hid hm;have HYF := Lib.hid hyf;have HYS := Lib.hid hys
  by_cases hlt : k < order.length
  ·obtain ⟨gx, ox, rfl, hrow⟩ := HOW.out (by omega);have hq := (hrow.mod HM.out id).cell (strsV_get order k hlt);have HSK := Lib.hid (slTake (hrow.mod HM.out id) (k := k) (by omega) (Nat.le_trans (Nat.le_of_lt hlt) hoc1) hoc2);have HOE := Lib.hid (hef.trans (ofE_step _ order hlt));have HTT := Lib.hid (List.take_succ_eq_append_getElem hlt);have hsl := HOS.out _ (List.getElem_mem hlt);have HC2 := Lib.hid (fun (W : World) (h : Pure w6 W) (s : Str) => by have := containsSq_calls W _ (order.take k) s (HSK.out.pure h); rwa [any_eq_mem] at this)
   have i1 : (k : Int) ≤ (oc : Int) := by omega
   clear hrow hef hfb hst hm hyf hys;generalize order[k] = s at *;have hlk := hmr.look_ok (t := 88) (e := 90) Tryz.underlying88 zero_fam s (by omega);have HMR6 := Lib.hid hmr;clear hmr
   by_cases hd : s ∈ order.take k
   ·have HQ := Lib.hid (show ef = 6 by rw [HOE.out, if_pos hd]);simp only [if_pos hd, Option.getD_none, Option.isSome_none] at hlk;have HCN := Lib.hid (HC2.out _ (pure_alloc w6 (.cells #[.string ⟨#[]⟩, .slice none 0 0] 90)) s);rw [decide_eq_true hd] at HCN;clear HOE hd HC2
    go_wp2_with fail
    refine HCN.out.mono ?_;rintro e w7 ⟨rfl, hm7⟩;have HM7 := Lib.hid (HM1.out.trans (HM.out.trans ((pure_alloc _ _).trans hm7)))
    go_wp2_with fail
    try simp only [Exit.inBlock, Exit.then]
    refine bodyPost_ret (v := .tuple #[.pointer none, .int .i64 6]) (by simp [results, Tryz.results10, go_sem]) rfl ?_;exact ⟨HM7.out, .inl ⟨by rw [HQ.out]; decide, by rw [HQ.out]⟩⟩
   ·cases hfn : fs.find? fun p => decide (p.1 = s) with
    | none =>
     have hnt := find_none hfn;have HQ := Lib.hid (show ef = 8 by rw [HOE.out, if_neg hd, if_pos hnt]);simp only [if_neg hd, hfn, Option.map_none, Option.getD_none, Option.isSome_none] at hlk;have HCN := Lib.hid (HC2.out _ (pure_alloc w6 (.cells #[.string ⟨#[]⟩, .slice none 0 0] 90)) s);rw [decide_eq_false hd] at HCN;clear HOE hd HC2 hnt hfn
     go_wp2_with fail
     refine HCN.out.mono ?_;rintro e w7 ⟨rfl, hm7⟩;have HM7 := Lib.hid (HM1.out.trans (HM.out.trans ((pure_alloc _ _).trans hm7)))
     go_wp2_with fail
     try simp only [Exit.inBlock, Exit.then]
     refine bodyPost_ret (v := .tuple #[.pointer none, .int .i64 8]) (by simp [results, Tryz.results10, go_sem]) rfl ?_;exact ⟨HM7.out, .inl ⟨by rw [HQ.out]; decide, by rw [HQ.out]⟩⟩
    | some p =>
     obtain ⟨hpf, hps⟩ := find_mem hfn
     have hpt : s ∈ (fmS fs).map (·.1) := by rw [← hps]; unfold fmS; rw [List.map_map]; exact List.mem_map_of_mem hpf
     have HOE2 := Lib.hid (show ef = ofE ((fmS fs).map (·.1)) (order.drop (k + 1)) (order.take (k + 1)) by rw [HOE.out, if_neg hd, if_neg (by simpa using hpt)]);have HFN := Lib.hid (fndF_some hfn);have hsp := (HF1.out.pure HM.out).2 _ hpf;simp only [if_neg hd, hfn, Option.map_some, Option.getD_some, Option.isSome_some] at hlk;have HPF := Lib.hid hpf;obtain ⟨pt, pv, pf⟩ := p;obtain ⟨B, m, dd, rfl⟩ : ∃ B m dd, pv = .slice B m dd := hsp.form;obtain rfl : pt = s := hps;unfold famA at hlk;simp only at hlk;have hpa := pure_alloc w6 (.cells #[.string ⟨pt.toArray⟩, .slice B m dd] 90);have HCN := Lib.hid (HC2.out _ hpa pt);rw [decide_eq_false hd] at HCN;have HYB := Lib.hid (Blk.new w6 90 #[.string ⟨pt.toArray⟩, .slice B m dd]);have HFB7 := Lib.hid (HFB.out.pure hpa);have HST7 := Lib.hid (HST.out.pure hpa);have HMR7 := Lib.hid (HMR6.out.pure hpa);have HM7 := Lib.hid (HM.out.trans hpa);have HLT := Lib.hid (fun j (hj : (Value.slice Ao ys.length cap).ownBlock = some j) => show j < w6.heap.size by obtain ⟨arr, h⟩ := own_heap HFB.out.1 hj; exact lt_of_heap h);have hgw := HFB.out.2.lt;have hp7s := hpa.size;have HDD := Lib.hid hd;clear HOE HC2 hpa hpt hsp hfn hpf hd HFB HST HMR6 HM
     go_upto_region 20 with (fail)
     generalize (w6.alloc (.cells #[.string ⟨pt.toArray⟩, .slice B m dd] 90)) = w7 at *;generalize w6.heap.size = gy at *;clear hlk hq
     go_wp2_with fail
     refine HCN.out.mono ?_;rintro e w8 ⟨rfl, hm8⟩;have HYB8 := Lib.hid (HYB.out.modp hm8);have HFB8 := Lib.hid (HFB7.out.pure hm8);have HST8 := Lib.hid (HST7.out.pure hm8);have HMR8 := Lib.hid (HMR7.out.pure hm8);have HM8 := Lib.hid (HM7.out.trans hm8);have hw8 := hm8.size
     have hsz7 : base ≤ w8.heap.size := by omega
     have hbrl := HMR8.out.lt;obtain ⟨FR, hFR⟩ : ∃ FR, FR = (fun s => if s ∈ order.take k then none else (fs.find? fun p => decide (p.1 = s)).map famA) := ⟨_, rfl⟩;rw [← hFR] at HMR8;have HFR := Lib.hid hFR;clear hFR HCN HYB HFB7 HST7 HMR7 HM7 hm8
     go_upto_region 24 with (fail)
     have HGs := Lib.hid (show ∀ (D : Nat → Bool) (zzi : Nat) (zq zq' : World), zzi ≠ 7 → (fun D zq => (D 7 = false → (fun Z => FaB Z base Ao cap ys g #[.slice Ao ys.length cap, .map (some bm), .slice none 0 0, .int .i64 0]) zq) ∧ (fun Z => Blk Z gy 90 #[.string ⟨pt.toArray⟩, .slice B m dd] ∧ MapS Z br nr FR ∧ StM Z bm pst (its.map (·.id)) (fun _ => 0)) zq) D zq → Mod (fun _ => False) zq zq' → (fun D zq => (D 7 = false → (fun Z => FaB Z base Ao cap ys g #[.slice Ao ys.length cap, .map (some bm), .slice none 0 0, .int .i64 0]) zq) ∧ (fun Z => Blk Z gy 90 #[.string ⟨pt.toArray⟩, .slice B m dd] ∧ MapS Z br nr FR ∧ StM Z bm pst (its.map (·.id)) (fun _ => 0)) zq) (upd D zzi true) zq' from by intro D zzi zq zq' hi hh hm; refine ⟨fun hs => ?_, ?_⟩; (rw [upd_ne _ _ (Ne.symm hi)] at hs; have h := hh.1 hs; (exact h.pure hm)); (have h := hh.2; (exact ⟨h.1.modp hm, h.2.1.pure hm, h.2.2.pure hm⟩)))
     refine wp_region_inv (by kernel_rfl) (by kernel_rfl) (InvF (R := Mod (fun _ => False)) [.is (.pointer (some ⟨g, 0, none⟩)),
       .is (.pointer (some ⟨g, 0, none⟩)),
       .is (.pointer (some ⟨g, 0, none⟩)),
       .is (.pointer (some ⟨g, 0, none⟩)),
       .is (.slice Ao ys.length cap),
       .is (.agg #[.string ⟨pt.toArray⟩, .slice B m dd]),
       ⟨fun zv zw => ∃ (g_6 : Nat), zv = .slice (some ⟨g_6, 0, none⟩) 1 1 ∧ w8.heap.size ≤ g_6 ∧ Blk zw g_6 90 #[.string ⟨pt.toArray⟩, .slice B m dd], (by rintro zv zw zx ⟨g_6, rfl, c0, q0⟩ hm; exact ⟨g_6, rfl, c0, (q0.modp hm)⟩), none, some 7⟩,
       ⟨fun zv zw => ∃ (g_7 : Nat) (c_7 : Nat), zv = .slice (some ⟨g_7, 0, none⟩) (ys.length + 1) c_7 ∧ FaB zw base (some ⟨g_7, 0, none⟩) c_7 (ys ++ [(pt, .slice B m dd, pf)]) g #[.slice Ao ys.length cap, .map (some bm), .slice none 0 0, .int .i64 0], (by rintro zv zw zx ⟨g_7, c_7, rfl, q0⟩ hm; exact ⟨g_7, c_7, rfl, (q0.pure hm)⟩), none, some 10⟩,
       .is (.pointer (some ⟨g, 0, none⟩)),
       .is (.pointer (some ⟨g, 0, none⟩)),
       ⟨fun zv zw => ∃ (g_10 : Nat) (c_10 : Nat), zv = undef ∧ FaB zw base (some ⟨g_10, 0, none⟩) c_10 (ys ++ [(pt, .slice B m dd, pf)]) g #[.slice (some ⟨g_10, 0, none⟩) (ys.length + 1) c_10, .map (some bm), .slice none 0 0, .int .i64 0], (by rintro zv zw zx ⟨g_10, c_10, rfl, q0⟩ hm; exact ⟨g_10, c_10, rfl, (q0.pure hm)⟩), none, none⟩]
       (PB w1 (fun _ => False) w8.heap.size (fun D zq => (D 7 = false → (fun Z => FaB Z base Ao cap ys g #[.slice Ao ys.length cap, .map (some bm), .slice none 0 0, .int .i64 0]) zq) ∧ (fun Z => Blk Z gy 90 #[.string ⟨pt.toArray⟩, .slice B m dd] ∧ MapS Z br nr FR ∧ StM Z bm pst (its.map (·.id)) (fun _ => 0)) zq))) (InvF.start (PB.start HM8.out (Nat.le_refl _) (⟨fun _ => HFB8.out.pure ((Mod.refl _ _).drew), ⟨HYB8.out.drew, HMR8.out.pure ((Mod.refl _ _).drew), HST8.out.pure ((Mod.refl _ _).drew)⟩⟩))) ?_ ?_
     ·refine .cons ?_ (.cons ?_ (.cons ?_ (.cons ?_ (.cons ?_ (.cons ?_ (.cons ?_ (.cons ?_ (.cons ?_ (.cons ?_ (.cons ?_ .nil))))))))))
      ·intro D V zw1 a hR hI K hK;obtain ⟨hM1, hB1, hG1⟩ := hI.1;obtain ⟨hGK, hG1⟩ := hG1;have ze8 := hR.frame.other (t := 8) (by kernel_rfl) rfl;rw [if_pos (by rfl)];go_simp;exact hK (.pointer (some ⟨g, 0, none⟩)) _ (hI.next hR (by kernel_rfl) (Mod.refl _ _) (PB.quiet hI.1 (Mod.refl _ _) (HGs.out D 0 zw1 zw1 (by omega) (hI.1).g (Mod.refl _ _))) (upd_same V 0 _))
      ·intro D V zw1 a hR hI K hK;obtain ⟨hM1, hB1, hG1⟩ := hI.1;obtain ⟨hGK, hG1⟩ := hG1;have ze8 := hR.frame.other (t := 8) (by kernel_rfl) rfl;rw [if_pos (by rfl)];go_simp;exact hK (.pointer (some ⟨g, 0, none⟩)) _ (hI.next hR (by kernel_rfl) (Mod.refl _ _) (PB.quiet hI.1 (Mod.refl _ _) (HGs.out D 1 zw1 zw1 (by omega) (hI.1).g (Mod.refl _ _))) (upd_same V 1 _))
      ·intro D V zw1 a hR hI K hK;obtain ⟨hM1, hB1, hG1⟩ := hI.1;obtain ⟨hGK, hG1⟩ := hG1;have zd1 := hR.pred 1 (by kernel_rfl);have zf1 : V 1 = .pointer (some ⟨g, 0, none⟩) := hI.2 1 zd1 rfl;have ze79 := hR.frame.done (t := 79) (j := 1) (by kernel_rfl) hR.ok zd1;rw [if_pos (by rfl)];go_simp;exact hK (.pointer (some ⟨g, 0, none⟩)) _ (hI.next hR (by kernel_rfl) (Mod.refl _ _) (PB.quiet hI.1 (Mod.refl _ _) (HGs.out D 2 zw1 zw1 (by omega) (hI.1).g (Mod.refl _ _))) (upd_same V 2 _))
      ·intro D V zw1 a hR hI K hK;obtain ⟨hM1, hB1, hG1⟩ := hI.1;obtain ⟨hGK, hG1⟩ := hG1;have zd2 := hR.pred 2 (by kernel_rfl);have zf2 : V 2 = .pointer (some ⟨g, 0, none⟩) := hI.2 2 zd2 rfl;have ze80 := hR.frame.done (t := 80) (j := 2) (by kernel_rfl) hR.ok zd2;rw [if_pos (by rfl)];go_simp;exact hK (.pointer (some ⟨g, 0, none⟩)) _ (hI.next hR (by kernel_rfl) (Mod.refl _ _) (PB.quiet hI.1 (Mod.refl _ _) (HGs.out D 3 zw1 zw1 (by omega) (hI.1).g (Mod.refl _ _))) (upd_same V 3 _))
      ·intro D V zw1 a hR hI K hK;obtain ⟨hM1, hB1, hG1⟩ := hI.1;obtain ⟨hGK, hG1⟩ := hG1;have zd3 := hR.pred 3 (by kernel_rfl);have zf3 : V 3 = .pointer (some ⟨g, 0, none⟩) := hI.2 3 zd3 rfl;have ze81 := hR.frame.done (t := 81) (j := 3) (by kernel_rfl) hR.ok zd3;have zx0 := (hGK (hR.later 7 rfl (by kernel_rfl))).2.cell 0;simp at zx0;rw [if_pos (by rfl)];go_simp;exact hK (.slice Ao ys.length cap) _ (hI.next hR (by kernel_rfl) (Mod.refl _ _) (PB.quiet hI.1 (Mod.refl _ _) (HGs.out D 4 zw1 zw1 (by omega) (hI.1).g (Mod.refl _ _))) (upd_same V 4 _))
      ·intro D V zw1 a hR hI K hK;obtain ⟨hM1, hB1, hG1⟩ := hI.1;obtain ⟨hGK, hG1⟩ := hG1;have ze16 := hR.frame.other (t := 16) (by kernel_rfl) rfl;have zx0 := hG1.1.cell 0; have zx1 := hG1.1.cell 1;simp at zx0 zx1;rw [if_pos (by rfl)];go_simp;exact hK (.agg #[.string ⟨pt.toArray⟩, .slice B m dd]) _ (hI.next hR (by kernel_rfl) (Mod.refl _ _) (PB.quiet hI.1 (Mod.refl _ _) (HGs.out D 5 zw1 zw1 (by omega) (hI.1).g (Mod.refl _ _))) (upd_same V 5 _))
      ·intro D V zw1 a hR hI K hK;obtain ⟨hM1, hB1, hG1⟩ := hI.1;obtain ⟨hGK, hG1⟩ := hG1;have zd5 := hR.pred 5 (by kernel_rfl);have zf5 : V 5 = .agg #[.string ⟨pt.toArray⟩, .slice B m dd] := hI.2 5 zd5 rfl;have ze83 := hR.frame.done (t := 83) (j := 5) (by kernel_rfl) hR.ok zd5;rw [if_pos (by rfl)];go_simp;exact hK (_) _ (hI.next hR (by kernel_rfl) ((Mod.refl _ _).alloc _) (PB.quiet hI.1 (pure_alloc _ _) (HGs.out D 6 _ _ (by omega) (hI.1).g ((Mod.refl _ _).alloc _))) (⟨_, upd_same V 6 _, (by omega), (Blk.new _ _ _)⟩))
      ·intro D V zw1 a hR hI K hK;obtain ⟨hM1, hB1, hG1⟩ := hI.1;obtain ⟨hGK, hG1⟩ := hG1;have zd4 := hR.pred 4 (by kernel_rfl);have zf4 : V 4 = .slice Ao ys.length cap := hI.2 4 zd4 rfl;have zd6 := hR.pred 6 (by kernel_rfl);have zF6 : ∃ (g_6 : Nat), V 6 = .slice (some ⟨g_6, 0, none⟩) 1 1 ∧ w8.heap.size ≤ g_6 ∧ Blk zw1 g_6 90 #[.string ⟨pt.toArray⟩, .slice B m dd] := hI.2 6 zd6 (by show (!D 7) = true; rw [hR.not]; rfl);obtain ⟨g_6, zf6, c6_0, b6_0⟩ := zF6;have ze82 := hR.frame.done (t := 82) (j := 4) (by kernel_rfl) hR.ok zd4;have ze84 := hR.frame.done (t := 84) (j := 6) (by kernel_rfl) hR.ok zd6;rw [if_pos (by rfl)];have hown := (hGK hR.not).1;refine wp_append_lies _ (.tmp 82) (.tmp 84) 83 (by rfl) base 90 i0 _ 2 40 Tryz.underlying83 hi0 hz0 hz1 hz2 (by rfl) (by omega) (.slice Ao ys.length cap) (ys.length) (fmV ys) ?_ hown ⟨g_6, 0, none⟩ 1 1 [.string ⟨pt.toArray⟩, .slice B m dd] ?_ (by rfl) (World.news_of_block (cs := #[.string ⟨pt.toArray⟩, .slice B m dd]) (t := 90) (fr := (0, 0)) b6_0) (by simp [Value.oneCell']) (by omega) (by simp [maxLen]; omega) (by omega) (by omega) zw1.heap.size rfl ?_
       ·show a.tmps.getD 82 undef = _; simp [ze82, zf4]
       ·show a.tmps.getD 84 undef = _; simp [ze84, zf6]
       intro g5 cap5 zw2 hown5 hgrow hat hlt5;have hT := mod_grown hgrow;have hTb : ∀ j, (.slice Ao ys.length cap : Value).ownBlock = some j → base ≤ j := own_block hown;refine hK _ _ (InvF.last (PB.writes hI.1 (fun j hj hl => by have := hTb j hj; omega) hT ⟨fun hs => absurd hs (by rw [upd_same]; decide), ⟨hG1.1.mod hT (fun h => by have := HLT.out _ h; omega), hG1.2.1.mod hT (fun h => by have := hTb _ h; omega), hG1.2.2.mod hT (fun h => by have := hTb _ h; omega)⟩⟩) ⟨_, _, upd_same V 7 _, (hGK hR.not).app (pt, .slice B m dd, pf) hT rfl hown5⟩ ?_);intro k hk hDk hlv;have hkl := hR.lt k hDk;have hv := hI.2 k hDk (liveB_of hlv)
       match k, hk, hDk, hlv, hkl, hv with
       | 0, _, _, _, _, hv => exact hv
       | 1, _, _, _, _, hv => exact hv
       | 2, _, _, _, _, hv => exact hv
       | 3, _, _, _, _, hv => exact hv
       | 4, _, _, _, _, hv => exact hv
       | 5, _, _, _, _, hv => exact hv
       | 6, _, _, hlv, _, _ => exact absurd hlv (by show ¬ (!upd D 7 true 7) = true; rw [upd_same]; decide)
       | 7, hk, _, _, _, _ => exact absurd rfl hk
       | 8, _, _, _, _, hv => exact hv
       | 9, _, _, _, _, hv => exact hv
       | 10, _, hDk, _, _, _ => exact absurd hDk (by rw [hR.later 10 rfl (by kernel_rfl)]; decide)
       | k + 11, _, _, _, hkl, _ => exact absurd hkl (by simp)
      ·intro D V zw1 a hR hI K hK;obtain ⟨hM1, hB1, hG1⟩ := hI.1;obtain ⟨hGK, hG1⟩ := hG1;have zd0 := hR.pred 0 (by kernel_rfl);have zf0 : V 0 = .pointer (some ⟨g, 0, none⟩) := hI.2 0 zd0 rfl;have ze78 := hR.frame.done (t := 78) (j := 0) (by kernel_rfl) hR.ok zd0;rw [if_pos (by rfl)];go_simp;exact hK (.pointer (some ⟨g, 0, none⟩)) _ (hI.next hR (by kernel_rfl) (Mod.refl _ _) (PB.quiet hI.1 (Mod.refl _ _) (HGs.out D 8 zw1 zw1 (by omega) (hI.1).g (Mod.refl _ _))) (upd_same V 8 _))
      ·intro D V zw1 a hR hI K hK;obtain ⟨hM1, hB1, hG1⟩ := hI.1;obtain ⟨hGK, hG1⟩ := hG1;have zd8 := hR.pred 8 (by kernel_rfl);have zf8 : V 8 = .pointer (some ⟨g, 0, none⟩) := hI.2 8 zd8 rfl;have ze86 := hR.frame.done (t := 86) (j := 8) (by kernel_rfl) hR.ok zd8;rw [if_pos (by rfl)];go_simp;exact hK (.pointer (some ⟨g, 0, none⟩)) _ (hI.next hR (by kernel_rfl) (Mod.refl _ _) (PB.quiet hI.1 (Mod.refl _ _) (HGs.out D 9 zw1 zw1 (by omega) (hI.1).g (Mod.refl _ _))) (upd_same V 9 _))
      ·intro D V zw1 a hR hI K hK;obtain ⟨hM1, hB1, hG1⟩ := hI.1;obtain ⟨hGK, hG1⟩ := hG1;have zd9 := hR.pred 9 (by kernel_rfl);have zf9 : V 9 = .pointer (some ⟨g, 0, none⟩) := hI.2 9 zd9 rfl;have zd7 := hR.pred 7 (by kernel_rfl);have zF7 : ∃ (g_7 : Nat) (c_7 : Nat), V 7 = .slice (some ⟨g_7, 0, none⟩) (ys.length + 1) c_7 ∧ FaB zw1 base (some ⟨g_7, 0, none⟩) c_7 (ys ++ [(pt, .slice B m dd, pf)]) g #[.slice Ao ys.length cap, .map (some bm), .slice none 0 0, .int .i64 0] := hI.2 7 zd7 (by show (!D 10) = true; rw [hR.not]; rfl);obtain ⟨g_7, c_7, zf7, b7_0⟩ := zF7;have ze87 := hR.frame.done (t := 87) (j := 9) (by kernel_rfl) hR.ok zd9;have ze85 := hR.frame.done (t := 85) (j := 7) (by kernel_rfl) hR.ok zd7;rw [if_pos (by rfl)];have zx2 := b7_0.2.cell 0;have zy2 := b7_0.2.frozen 0;simp at zx2 zy2;have hmS : Mod (· = g) zw1 (zw1.setCell ⟨g, 0, none⟩ (.slice (some ⟨g_7, 0, none⟩) (ys.length + 1) c_7)) := (Mod.refl (· = g) zw1).setCell (.inl rfl) _;go_simp;refine hK undef _ (InvF.last ⟨hM1.trans' hmS (fun i hi hlt => by omega), (by simpa using hB1), ⟨fun hs => absurd hs (by rw [upd_ne _ _ (by omega), hR.pred 7 (by kernel_rfl)]; decide), ⟨hG1.1.mod hmS (by omega), hG1.2.1.mod hmS (by omega), hG1.2.2.mod hmS (by omega)⟩⟩⟩ ⟨g_7, c_7, upd_same _ 10 _, by have h := b7_0.store (q := 0) (.slice (some ⟨g_7, 0, none⟩) (ys.length + 1) c_7); simpa using h⟩ ?_);intro k hk hDk hlv;have hkl := hR.lt k hDk;have hv := hI.2 k hDk (liveB_of hlv)
       match k, hk, hDk, hlv, hkl, hv with
       | 0, _, _, _, _, hv => exact hv
       | 1, _, _, _, _, hv => exact hv
       | 2, _, _, _, _, hv => exact hv
       | 3, _, _, _, _, hv => exact hv
       | 4, _, _, _, _, hv => exact hv
       | 5, _, _, _, _, hv => exact hv
       | 6, _, _, hlv, _, _ => exact absurd hlv (by show ¬ (!upd D 10 true 7) = true; rw [upd_ne _ _ (by omega), hR.pred 7 (by kernel_rfl)]; decide)
       | 7, _, _, hlv, _, _ => exact absurd hlv (by show ¬ (!upd D 10 true 10) = true; rw [upd_same]; decide)
       | 8, _, _, _, _, hv => exact hv
       | 9, _, _, _, _, hv => exact hv
       | 10, hk, _, _, _, _ => exact absurd rfl hk
       | k + 11, _, _, _, hkl, _ => exact absurd hkl (by simp)
     ·intro D V w9 hD hI;obtain ⟨hM1, hB1, hG1⟩ := hI.1;have hMx := hM1;clear hM1;have hBx := hB1;clear hB1;have hGx := hG1.2;clear hG1;have zf0 : V 0 = .pointer (some ⟨g, 0, none⟩) := hI.2 0 (hD 0 (by decide)) rfl;have zf1 : V 1 = .pointer (some ⟨g, 0, none⟩) := hI.2 1 (hD 1 (by decide)) rfl;have zf2 : V 2 = .pointer (some ⟨g, 0, none⟩) := hI.2 2 (hD 2 (by decide)) rfl;have zf3 : V 3 = .pointer (some ⟨g, 0, none⟩) := hI.2 3 (hD 3 (by decide)) rfl;have zf4 : V 4 = .slice Ao ys.length cap := hI.2 4 (hD 4 (by decide)) rfl;have zf5 : V 5 = .agg #[.string ⟨pt.toArray⟩, .slice B m dd] := hI.2 5 (hD 5 (by decide)) rfl;have zf8 : V 8 = .pointer (some ⟨g, 0, none⟩) := hI.2 8 (hD 8 (by decide)) rfl;have zf9 : V 9 = .pointer (some ⟨g, 0, none⟩) := hI.2 9 (hD 9 (by decide)) rfl;have zF10 : ∃ (g_10 : Nat) (c_10 : Nat), V 10 = undef ∧ FaB w9 base (some ⟨g_10, 0, none⟩) c_10 (ys ++ [(pt, .slice B m dd, pf)]) g #[.slice (some ⟨g_10, 0, none⟩) (ys.length + 1) c_10, .map (some bm), .slice none 0 0, .int .i64 0] := hI.2 10 (hD 10 (by decide)) rfl;obtain ⟨g_10, c_10, zf10, b10_0⟩ := zF10;clear hI hD HGs;simp only [frAll, Act.put, List.setIfInBounds_toArray, List.set_cons_zero, List.set_cons_succ, Nat.zero_add, Nat.reduceAdd, zf0, zf1, zf2, zf3, zf4, zf5, zf8, zf9, zf10];clear zf0 zf1 zf2 zf3 zf4 zf5 zf8 zf9 zf10;generalize V 6 = u6;generalize V 7 = u7;clear V D;have HFB9 := Lib.hid b10_0;obtain ⟨wA, hdel, hmrA, hmA⟩ := hGx.2.1.drop (t := 88) (e := 90) Tryz.underlying88 pt (by omega) 0;have HFBA : Hid (FaB wA base (some ⟨g_10, 0, none⟩) c_10 (ys ++ [(pt, .slice B m dd, pf)]) g #[.slice (some ⟨g_10, 0, none⟩) (ys.length + 1) c_10, .map (some bm), .slice none 0 0, .int .i64 0]) := Lib.hid ⟨own_mod HFB9.out.1 hmA (fun j hj e => by have := own_block HFB9.out.1 j hj; omega), HFB9.out.2.mod hmA (by omega)⟩;have HSTA := Lib.hid (hGx.2.2.mod hmA (by omega));have HMRA := Lib.hid hmrA;have HMA := Lib.hid (hMx.trans' hmA (fun i hi hlt => by omega))
      have hsA : base ≤ wA.heap.size := by have := hmA.size; have := hBx; omega
      clear b10_0 hGx hMx hBx hmrA hmA HFB9 HYB8 HFB8 HST8 HMR8 HM8
      go_wp2_with fail
      go_roundg (order.length - (k + 1))
      case measure => omega
      case rel =>
       refine ⟨k + 1, c_10, some ⟨g_10, 0, none⟩, ys ++ [(pt, .slice B m dd, pf)], rfl, by omega, by simp, ?_, by simpa using HFBA.out, by simp; omega, by rw [HTT.out, List.map_append, List.map_append, HYF.out]; simp [HFN.out], fun q hq => ?_, HOE2.out, HSTA.out, HMA.out, hsA⟩
       ·have e : (fun s => if s ∈ order.take (k + 1) then none else (fs.find? fun p => decide (p.1 = s)).map famA) = (fun x => if x = pt then none else FR x) := by
         funext q
         rw [HTT.out, HFR.out]
         by_cases e1 : q = pt
         ·subst e1; simp
         ·simp [e1]
        rw [e];exact HMRA.out
       ·rcases List.mem_append.1 hq with hq | hq
        ·exact HYS.out q hq
        ·rw [List.mem_singleton.1 hq]; exact HPF.out
  ·obtain rfl : k = order.length := by omega
   rw [List.take_length] at hmr hyf;have HQ0 := Lib.hid (show ef = 0 by rw [hef, List.drop_of_length_le (Nat.le_refl _)]; rfl);have HYF6 := Lib.hid hyf;obtain ⟨FR, hFR⟩ : ∃ FR, FR = (fun s => if s ∈ order then none else (fs.find? fun p => decide (p.1 = s)).map famA) := ⟨_, rfl⟩;rw [← hFR] at hmr;have HFR := Lib.hid hFR;have HMR6 := Lib.hid hmr;clear hmr hfb hyf hys hef hst hm hFR hlt HYF
   go_wp2_with fail
   go_loopg [93] fs.length (fun gk i wr => ∃ (k cap : Nat) (Ao : Option Addr) (ys : List Fm), fs.length - k = gk ∧ k ≤ fs.length ∧ i = .int .i64 (k : Int) ∧ MapS wr br nr FR ∧ FaB wr base Ao cap ys g #[.slice Ao ys.length cap, .map (some bm), .slice none 0 0, .int .i64 0] ∧ ys.length ≤ order.length + k ∧ ys.map (fun p => p.2.2) = order.map (fndF (fmS fs)) ++ ((fs.take k).filter fun p => decide (p.1 ∉ order)).map (fun p => p.2.2) ∧ (∀ p ∈ ys, p ∈ fs) ∧ StM wr bm pst (its.map (·.id)) (fun _ => 0) ∧ Pure w1 wr ∧ base ≤ wr.heap.size)
   case atStart => exact ⟨0, cap, Ao, ys, by omega, by omega, rfl, HMR6.out, HFB.out, by omega, by simpa using HYF6.out, HYS.out, HST.out, HM.out, hsz⟩
   case round =>
    clear HMR6 HFB HYF6 HYS HST HM;obtain ⟨k, cap, Ao, ys, rfl, hk, rfl, hmr, hfb, hyk, hyf, hys, hst, hm, hsz⟩ := hrel;obtain ⟨w6, hw6⟩ : ∃ W, W = wr := ⟨wr, rfl⟩;subst hw6;have HFB := Lib.hid hfb;have HST := Lib.hid hst;have HM := Lib.hid hm;have HYF := Lib.hid hyf;have HYS := Lib.hid hys
    by_cases hlt : k < fs.length
    ·obtain ⟨gf, of, YA, yn, yc, rfl, p0, p1, e5, hfs⟩ := (HF1.out.pure HM.out).at hlt;have htz := HTZ.out k hlt
     have HTK := Lib.hid (show ((fs.take (k + 1)).filter fun p => decide (p.1 ∉ order)) = ((fs.take k).filter fun p => decide (p.1 ∉ order)) ++ (if fs[k].1 ∉ order then [fs[k]] else []) by
      rw [List.take_succ_eq_append_getElem hlt, List.filter_append]
      congr 1
      by_cases e : fs[k].1 ∈ order <;> simp [e])
     have HPF := Lib.hid (List.getElem_mem hlt);have hpa := pure_alloc w6 (.cells #[.string ⟨fs[k].1.toArray⟩, .slice YA yn yc] 90);have HYB := Lib.hid (Blk.new w6 90 #[.string ⟨fs[k].1.toArray⟩, .slice YA yn yc]);have hlk := (hmr.pure hpa).look_ok (t := 88) (e := 90) Tryz.underlying88 zero_fam fs[k].1 (by omega);have HMR7 := Lib.hid (hmr.pure hpa);have HFB7 := Lib.hid (HFB.out.pure hpa);have HST7 := Lib.hid (HST.out.pure hpa);have HM7 := Lib.hid (HM.out.trans hpa);have HFX := Lib.hid (fun (h : (fs.find? fun p => decide (p.1 = fs[k].1)) = none) => show False from List.find?_eq_none.1 h fs[k] (List.getElem_mem hlt) (by simp));have HLT := Lib.hid (fun j (hj : (Value.slice Ao ys.length cap).ownBlock = some j) => show j < w6.heap.size by obtain ⟨arr, h⟩ := own_heap HFB.out.1 hj; exact lt_of_heap h);have hgw := HFB.out.2.lt;have hbrl := HMR7.out.lt;have hp7s := hpa.size;rw [HFR.out] at hlk;clear hmr hfb hyf hys hst hm hfs hpa HFB HST HM;generalize fs[k] = y at *;obtain ⟨top, yv, f⟩ := y;obtain rfl : yv = .slice YA yn yc := e5;simp only at p0 p1 htz hlk HYB HFX HTK HFB7 HST7 HM7 HMR7 hp7s
     by_cases hd : top ∈ order
     ·simp only [if_pos hd, Option.getD_none, Option.isSome_none] at hlk;have HTK2 := Lib.hid (show ((fs.take (k + 1)).filter fun p => decide (p.1 ∉ order)) = ((fs.take k).filter fun p => decide (p.1 ∉ order)) by rw [HTK.out, if_neg (by simpa using hd)]; simp);clear HTK HFX hd
      go_upto_region 30 with (fail)
      generalize (w6.alloc (.cells #[.string ⟨top.toArray⟩, .slice YA yn yc] 90)) = w7 at *;generalize w6.heap.size = gy at *;have hx := HYB.out;have x0 := hx.cell 0; have x1 := hx.cell 1; simp at x0 x1;clear hx p0 p1;have hpb := pure_alloc w7 (.cells #[.string ⟨#[]⟩, .slice none 0 0] 90);have HMR8 := Lib.hid (HMR7.out.pure hpb);have HFB8 := Lib.hid (HFB7.out.pure hpb);have HST8 := Lib.hid (HST7.out.pure hpb);have HM8 := Lib.hid (HM7.out.trans hpb)
      have hs8 : base ≤ (w7.alloc (.cells #[.string ⟨#[]⟩, .slice none 0 0] 90)).heap.size := by have := hpb.size; omega
      clear hpb
      go_wp2_with fail
      go_roundg (fs.length - (k + 1))
      case measure => omega
      case rel => exact ⟨k + 1, cap, Ao, ys, rfl, by omega, by simp, HMR8.out, HFB8.out, by omega, by rw [HTK2.out]; exact HYF.out, HYS.out, HST8.out, HM8.out, hs8⟩
     ·cases hfn : fs.find? fun p => decide (p.1 = top) with
      | none => exact (HFX.out hfn).elim
      | some p' =>
       simp only [if_neg hd, hfn, Option.map_some, Option.getD_some, Option.isSome_some] at hlk;have HTK2 := Lib.hid (show ((fs.take (k + 1)).filter fun p => decide (p.1 ∉ order)) = ((fs.take k).filter fun p => decide (p.1 ∉ order)) ++ [(top, .slice YA yn yc, f)] by rw [HTK.out, if_pos (by simpa using hd)]);have hsp := (HF1.out.pure HM7.out).2 _ (find_mem hfn).1;clear HTK HFX hd hfn;obtain ⟨pt, pv, pf⟩ := p';obtain ⟨B, m, dd, rfl⟩ : ∃ B m dd, pv = .slice B m dd := hsp.form;unfold famA at hlk;simp only at hlk;clear hsp
       go_upto_region 30 with (fail)
       generalize (w6.alloc (.cells #[.string ⟨top.toArray⟩, .slice YA yn yc] 90)) = w7 at *;generalize w6.heap.size = gy at *;have hx := HYB.out;have x0 := hx.cell 0; have x1 := hx.cell 1; simp at x0 x1;clear hx p0 p1;have hpb := pure_alloc w7 (.cells #[.string ⟨pt.toArray⟩, .slice B m dd] 90);have HMR8 := Lib.hid (HMR7.out.pure hpb);have HFB8 := Lib.hid (HFB7.out.pure hpb);have HST8 := Lib.hid (HST7.out.pure hpb);have HYB8 := Lib.hid (HYB.out.modp hpb);have HM8 := Lib.hid (HM7.out.trans hpb)
       have hs8 : base ≤ (w7.alloc (.cells #[.string ⟨pt.toArray⟩, .slice B m dd] 90)).heap.size := by have := hpb.size; omega
       have hs9 : gy < (w7.alloc (.cells #[.string ⟨pt.toArray⟩, .slice B m dd] 90)).heap.size := HYB8.out.lt;clear hpb HMR7 HFB7 HST7 HYB HM7
       go_upto_region 32 with (fail)
       generalize (w7.alloc (.cells #[.string ⟨pt.toArray⟩, .slice B m dd] 90)) = w8 at *;clear x0 x1 hlk;have HGs := Lib.hid (show ∀ (D : Nat → Bool) (zzi : Nat) (zq zq' : World), zzi ≠ 7 → (fun D zq => (D 7 = false → (fun Z => FaB Z base Ao cap ys g #[.slice Ao ys.length cap, .map (some bm), .slice none 0 0, .int .i64 0]) zq) ∧ (fun Z => Blk Z gy 90 #[.string ⟨top.toArray⟩, .slice YA yn yc] ∧ MapS Z br nr FR ∧ StM Z bm pst (its.map (·.id)) (fun _ => 0)) zq) D zq → Mod (fun _ => False) zq zq' → (fun D zq => (D 7 = false → (fun Z => FaB Z base Ao cap ys g #[.slice Ao ys.length cap, .map (some bm), .slice none 0 0, .int .i64 0]) zq) ∧ (fun Z => Blk Z gy 90 #[.string ⟨top.toArray⟩, .slice YA yn yc] ∧ MapS Z br nr FR ∧ StM Z bm pst (its.map (·.id)) (fun _ => 0)) zq) (upd D zzi true) zq' from by intro D zzi zq zq' hi hh hm; refine ⟨fun hs => ?_, ?_⟩; (rw [upd_ne _ _ (Ne.symm hi)] at hs; have h := hh.1 hs; (exact h.pure hm)); (have h := hh.2; (exact ⟨h.1.modp hm, h.2.1.pure hm, h.2.2.pure hm⟩)))
       refine wp_region_inv (by kernel_rfl) (by kernel_rfl) (InvF (R := Mod (fun _ => False)) [.is (.pointer (some ⟨g, 0, none⟩)),
         .is (.pointer (some ⟨g, 0, none⟩)),
         .is (.pointer (some ⟨g, 0, none⟩)),
         .is (.pointer (some ⟨g, 0, none⟩)),
         .is (.slice Ao ys.length cap),
         .is (.agg #[.string ⟨top.toArray⟩, .slice YA yn yc]),
         ⟨fun zv zw => ∃ (g_6 : Nat), zv = .slice (some ⟨g_6, 0, none⟩) 1 1 ∧ w8.heap.size ≤ g_6 ∧ Blk zw g_6 90 #[.string ⟨top.toArray⟩, .slice YA yn yc], (by rintro zv zw zx ⟨g_6, rfl, c0, q0⟩ hm; exact ⟨g_6, rfl, c0, (q0.modp hm)⟩), none, some 7⟩,
         ⟨fun zv zw => ∃ (g_7 : Nat) (c_7 : Nat), zv = .slice (some ⟨g_7, 0, none⟩) (ys.length + 1) c_7 ∧ FaB zw base (some ⟨g_7, 0, none⟩) c_7 (ys ++ [(top, .slice YA yn yc, f)]) g #[.slice Ao ys.length cap, .map (some bm), .slice none 0 0, .int .i64 0], (by rintro zv zw zx ⟨g_7, c_7, rfl, q0⟩ hm; exact ⟨g_7, c_7, rfl, (q0.pure hm)⟩), none, some 10⟩,
         .is (.pointer (some ⟨g, 0, none⟩)),
         .is (.pointer (some ⟨g, 0, none⟩)),
         ⟨fun zv zw => ∃ (g_10 : Nat) (c_10 : Nat), zv = undef ∧ FaB zw base (some ⟨g_10, 0, none⟩) c_10 (ys ++ [(top, .slice YA yn yc, f)]) g #[.slice (some ⟨g_10, 0, none⟩) (ys.length + 1) c_10, .map (some bm), .slice none 0 0, .int .i64 0], (by rintro zv zw zx ⟨g_10, c_10, rfl, q0⟩ hm; exact ⟨g_10, c_10, rfl, (q0.pure hm)⟩), none, none⟩]
         (PB w1 (fun _ => False) w8.heap.size (fun D zq => (D 7 = false → (fun Z => FaB Z base Ao cap ys g #[.slice Ao ys.length cap, .map (some bm), .slice none 0 0, .int .i64 0]) zq) ∧ (fun Z => Blk Z gy 90 #[.string ⟨top.toArray⟩, .slice YA yn yc] ∧ MapS Z br nr FR ∧ StM Z bm pst (its.map (·.id)) (fun _ => 0)) zq))) (InvF.start (PB.start HM8.out (Nat.le_refl _) (⟨fun _ => HFB8.out.pure ((Mod.refl _ _).drew), ⟨HYB8.out.drew, HMR8.out.pure ((Mod.refl _ _).drew), HST8.out.pure ((Mod.refl _ _).drew)⟩⟩))) ?_ ?_
       ·refine .cons ?_ (.cons ?_ (.cons ?_ (.cons ?_ (.cons ?_ (.cons ?_ (.cons ?_ (.cons ?_ (.cons ?_ (.cons ?_ (.cons ?_ .nil))))))))))
        ·intro D V zw1 a hR hI K hK;obtain ⟨hM1, hB1, hG1⟩ := hI.1;obtain ⟨hGK, hG1⟩ := hG1;have ze8 := hR.frame.other (t := 8) (by kernel_rfl) rfl;rw [if_pos (by rfl)];go_simp;exact hK (.pointer (some ⟨g, 0, none⟩)) _ (hI.next hR (by kernel_rfl) (Mod.refl _ _) (PB.quiet hI.1 (Mod.refl _ _) (HGs.out D 0 zw1 zw1 (by omega) (hI.1).g (Mod.refl _ _))) (upd_same V 0 _))
        ·intro D V zw1 a hR hI K hK;obtain ⟨hM1, hB1, hG1⟩ := hI.1;obtain ⟨hGK, hG1⟩ := hG1;have ze8 := hR.frame.other (t := 8) (by kernel_rfl) rfl;rw [if_pos (by rfl)];go_simp;exact hK (.pointer (some ⟨g, 0, none⟩)) _ (hI.next hR (by kernel_rfl) (Mod.refl _ _) (PB.quiet hI.1 (Mod.refl _ _) (HGs.out D 1 zw1 zw1 (by omega) (hI.1).g (Mod.refl _ _))) (upd_same V 1 _))
        ·intro D V zw1 a hR hI K hK;obtain ⟨hM1, hB1, hG1⟩ := hI.1;obtain ⟨hGK, hG1⟩ := hG1;have zd1 := hR.pred 1 (by kernel_rfl);have zf1 : V 1 = .pointer (some ⟨g, 0, none⟩) := hI.2 1 zd1 rfl;have ze106 := hR.frame.done (t := 106) (j := 1) (by kernel_rfl) hR.ok zd1;rw [if_pos (by rfl)];go_simp;exact hK (.pointer (some ⟨g, 0, none⟩)) _ (hI.next hR (by kernel_rfl) (Mod.refl _ _) (PB.quiet hI.1 (Mod.refl _ _) (HGs.out D 2 zw1 zw1 (by omega) (hI.1).g (Mod.refl _ _))) (upd_same V 2 _))
        ·intro D V zw1 a hR hI K hK;obtain ⟨hM1, hB1, hG1⟩ := hI.1;obtain ⟨hGK, hG1⟩ := hG1;have zd2 := hR.pred 2 (by kernel_rfl);have zf2 : V 2 = .pointer (some ⟨g, 0, none⟩) := hI.2 2 zd2 rfl;have ze107 := hR.frame.done (t := 107) (j := 2) (by kernel_rfl) hR.ok zd2;rw [if_pos (by rfl)];go_simp;exact hK (.pointer (some ⟨g, 0, none⟩)) _ (hI.next hR (by kernel_rfl) (Mod.refl _ _) (PB.quiet hI.1 (Mod.refl _ _) (HGs.out D 3 zw1 zw1 (by omega) (hI.1).g (Mod.refl _ _))) (upd_same V 3 _))
        ·intro D V zw1 a hR hI K hK;obtain ⟨hM1, hB1, hG1⟩ := hI.1;obtain ⟨hGK, hG1⟩ := hG1;have zd3 := hR.pred 3 (by kernel_rfl);have zf3 : V 3 = .pointer (some ⟨g, 0, none⟩) := hI.2 3 zd3 rfl;have ze108 := hR.frame.done (t := 108) (j := 3) (by kernel_rfl) hR.ok zd3;have zx0 := (hGK (hR.later 7 rfl (by kernel_rfl))).2.cell 0;simp at zx0;rw [if_pos (by rfl)];go_simp;exact hK (.slice Ao ys.length cap) _ (hI.next hR (by kernel_rfl) (Mod.refl _ _) (PB.quiet hI.1 (Mod.refl _ _) (HGs.out D 4 zw1 zw1 (by omega) (hI.1).g (Mod.refl _ _))) (upd_same V 4 _))
        ·intro D V zw1 a hR hI K hK;obtain ⟨hM1, hB1, hG1⟩ := hI.1;obtain ⟨hGK, hG1⟩ := hG1;have ze19 := hR.frame.other (t := 19) (by kernel_rfl) rfl;have zx0 := hG1.1.cell 0; have zx1 := hG1.1.cell 1;simp at zx0 zx1;rw [if_pos (by rfl)];go_simp;exact hK (.agg #[.string ⟨top.toArray⟩, .slice YA yn yc]) _ (hI.next hR (by kernel_rfl) (Mod.refl _ _) (PB.quiet hI.1 (Mod.refl _ _) (HGs.out D 5 zw1 zw1 (by omega) (hI.1).g (Mod.refl _ _))) (upd_same V 5 _))
        ·intro D V zw1 a hR hI K hK;obtain ⟨hM1, hB1, hG1⟩ := hI.1;obtain ⟨hGK, hG1⟩ := hG1;have zd5 := hR.pred 5 (by kernel_rfl);have zf5 : V 5 = .agg #[.string ⟨top.toArray⟩, .slice YA yn yc] := hI.2 5 zd5 rfl;have ze110 := hR.frame.done (t := 110) (j := 5) (by kernel_rfl) hR.ok zd5;rw [if_pos (by rfl)];go_simp;exact hK (_) _ (hI.next hR (by kernel_rfl) ((Mod.refl _ _).alloc _) (PB.quiet hI.1 (pure_alloc _ _) (HGs.out D 6 _ _ (by omega) (hI.1).g ((Mod.refl _ _).alloc _))) (⟨_, upd_same V 6 _, (by omega), (Blk.new _ _ _)⟩))
        ·intro D V zw1 a hR hI K hK;obtain ⟨hM1, hB1, hG1⟩ := hI.1;obtain ⟨hGK, hG1⟩ := hG1;have zd4 := hR.pred 4 (by kernel_rfl);have zf4 : V 4 = .slice Ao ys.length cap := hI.2 4 zd4 rfl;have zd6 := hR.pred 6 (by kernel_rfl);have zF6 : ∃ (g_6 : Nat), V 6 = .slice (some ⟨g_6, 0, none⟩) 1 1 ∧ w8.heap.size ≤ g_6 ∧ Blk zw1 g_6 90 #[.string ⟨top.toArray⟩, .slice YA yn yc] := hI.2 6 zd6 (by show (!D 7) = true; rw [hR.not]; rfl);obtain ⟨g_6, zf6, c6_0, b6_0⟩ := zF6;have ze109 := hR.frame.done (t := 109) (j := 4) (by kernel_rfl) hR.ok zd4;have ze111 := hR.frame.done (t := 111) (j := 6) (by kernel_rfl) hR.ok zd6;rw [if_pos (by rfl)];have hown := (hGK hR.not).1;refine wp_append_lies _ (.tmp 109) (.tmp 111) 83 (by rfl) base 90 i0 _ 2 40 Tryz.underlying83 hi0 hz0 hz1 hz2 (by rfl) (by omega) (.slice Ao ys.length cap) (ys.length) (fmV ys) ?_ hown ⟨g_6, 0, none⟩ 1 1 [.string ⟨top.toArray⟩, .slice YA yn yc] ?_ (by rfl) (World.news_of_block (cs := #[.string ⟨top.toArray⟩, .slice YA yn yc]) (t := 90) (fr := (0, 0)) b6_0) (by simp [Value.oneCell']) (by omega) (by simp [maxLen]; omega) (by omega) (by omega) zw1.heap.size rfl ?_
         ·show a.tmps.getD 109 undef = _; simp [ze109, zf4]
         ·show a.tmps.getD 111 undef = _; simp [ze111, zf6]
         intro g5 cap5 zw2 hown5 hgrow hat hlt5;have hT := mod_grown hgrow;have hTb : ∀ j, (.slice Ao ys.length cap : Value).ownBlock = some j → base ≤ j := own_block hown;refine hK _ _ (InvF.last (PB.writes hI.1 (fun j hj hl => by have := hTb j hj; omega) hT ⟨fun hs => absurd hs (by rw [upd_same]; decide), ⟨hG1.1.mod hT (fun h => by have := HLT.out _ h; omega), hG1.2.1.mod hT (fun h => by have := hTb _ h; omega), hG1.2.2.mod hT (fun h => by have := hTb _ h; omega)⟩⟩) ⟨_, _, upd_same V 7 _, (hGK hR.not).app (top, .slice YA yn yc, f) hT rfl hown5⟩ ?_);intro k hk hDk hlv;have hkl := hR.lt k hDk;have hv := hI.2 k hDk (liveB_of hlv)
         match k, hk, hDk, hlv, hkl, hv with
         | 0, _, _, _, _, hv => exact hv
         | 1, _, _, _, _, hv => exact hv
         | 2, _, _, _, _, hv => exact hv
         | 3, _, _, _, _, hv => exact hv
         | 4, _, _, _, _, hv => exact hv
         | 5, _, _, _, _, hv => exact hv
         | 6, _, _, hlv, _, _ => exact absurd hlv (by show ¬ (!upd D 7 true 7) = true; rw [upd_same]; decide)
         | 7, hk, _, _, _, _ => exact absurd rfl hk
         | 8, _, _, _, _, hv => exact hv
         | 9, _, _, _, _, hv => exact hv
         | 10, _, hDk, _, _, _ => exact absurd hDk (by rw [hR.later 10 rfl (by kernel_rfl)]; decide)
         | k + 11, _, _, _, hkl, _ => exact absurd hkl (by simp)
        ·intro D V zw1 a hR hI K hK;obtain ⟨hM1, hB1, hG1⟩ := hI.1;obtain ⟨hGK, hG1⟩ := hG1;have zd0 := hR.pred 0 (by kernel_rfl);have zf0 : V 0 = .pointer (some ⟨g, 0, none⟩) := hI.2 0 zd0 rfl;have ze105 := hR.frame.done (t := 105) (j := 0) (by kernel_rfl) hR.ok zd0;rw [if_pos (by rfl)];go_simp;exact hK (.pointer (some ⟨g, 0, none⟩)) _ (hI.next hR (by kernel_rfl) (Mod.refl _ _) (PB.quiet hI.1 (Mod.refl _ _) (HGs.out D 8 zw1 zw1 (by omega) (hI.1).g (Mod.refl _ _))) (upd_same V 8 _))
        ·intro D V zw1 a hR hI K hK;obtain ⟨hM1, hB1, hG1⟩ := hI.1;obtain ⟨hGK, hG1⟩ := hG1;have zd8 := hR.pred 8 (by kernel_rfl);have zf8 : V 8 = .pointer (some ⟨g, 0, none⟩) := hI.2 8 zd8 rfl;have ze113 := hR.frame.done (t := 113) (j := 8) (by kernel_rfl) hR.ok zd8;rw [if_pos (by rfl)];go_simp;exact hK (.pointer (some ⟨g, 0, none⟩)) _ (hI.next hR (by kernel_rfl) (Mod.refl _ _) (PB.quiet hI.1 (Mod.refl _ _) (HGs.out D 9 zw1 zw1 (by omega) (hI.1).g (Mod.refl _ _))) (upd_same V 9 _))
        ·intro D V zw1 a hR hI K hK;obtain ⟨hM1, hB1, hG1⟩ := hI.1;obtain ⟨hGK, hG1⟩ := hG1;have zd9 := hR.pred 9 (by kernel_rfl);have zf9 : V 9 = .pointer (some ⟨g, 0, none⟩) := hI.2 9 zd9 rfl;have zd7 := hR.pred 7 (by kernel_rfl);have zF7 : ∃ (g_7 : Nat) (c_7 : Nat), V 7 = .slice (some ⟨g_7, 0, none⟩) (ys.length + 1) c_7 ∧ FaB zw1 base (some ⟨g_7, 0, none⟩) c_7 (ys ++ [(top, .slice YA yn yc, f)]) g #[.slice Ao ys.length cap, .map (some bm), .slice none 0 0, .int .i64 0] := hI.2 7 zd7 (by show (!D 10) = true; rw [hR.not]; rfl);obtain ⟨g_7, c_7, zf7, b7_0⟩ := zF7;have ze114 := hR.frame.done (t := 114) (j := 9) (by kernel_rfl) hR.ok zd9;have ze112 := hR.frame.done (t := 112) (j := 7) (by kernel_rfl) hR.ok zd7;rw [if_pos (by rfl)];have zx2 := b7_0.2.cell 0;have zy2 := b7_0.2.frozen 0;simp at zx2 zy2;have hmS : Mod (· = g) zw1 (zw1.setCell ⟨g, 0, none⟩ (.slice (some ⟨g_7, 0, none⟩) (ys.length + 1) c_7)) := (Mod.refl (· = g) zw1).setCell (.inl rfl) _;go_simp;refine hK undef _ (InvF.last ⟨hM1.trans' hmS (fun i hi hlt => by omega), (by simpa using hB1), ⟨fun hs => absurd hs (by rw [upd_ne _ _ (by omega), hR.pred 7 (by kernel_rfl)]; decide), ⟨hG1.1.mod hmS (by omega), hG1.2.1.mod hmS (by omega), hG1.2.2.mod hmS (by omega)⟩⟩⟩ ⟨g_7, c_7, upd_same _ 10 _, by have h := b7_0.store (q := 0) (.slice (some ⟨g_7, 0, none⟩) (ys.length + 1) c_7); simpa using h⟩ ?_);intro k hk hDk hlv;have hkl := hR.lt k hDk;have hv := hI.2 k hDk (liveB_of hlv)
         match k, hk, hDk, hlv, hkl, hv with
         | 0, _, _, _, _, hv => exact hv
         | 1, _, _, _, _, hv => exact hv
         | 2, _, _, _, _, hv => exact hv
         | 3, _, _, _, _, hv => exact hv
         | 4, _, _, _, _, hv => exact hv
         | 5, _, _, _, _, hv => exact hv
         | 6, _, _, hlv, _, _ => exact absurd hlv (by show ¬ (!upd D 10 true 7) = true; rw [upd_ne _ _ (by omega), hR.pred 7 (by kernel_rfl)]; decide)
         | 7, _, _, hlv, _, _ => exact absurd hlv (by show ¬ (!upd D 10 true 10) = true; rw [upd_same]; decide)
         | 8, _, _, _, _, hv => exact hv
         | 9, _, _, _, _, hv => exact hv
         | 10, hk, _, _, _, _ => exact absurd rfl hk
         | k + 11, _, _, _, hkl, _ => exact absurd hkl (by simp)
       ·intro D V w9 hD hI;obtain ⟨hM1, hB1, hG1⟩ := hI.1;have hMx := hM1;clear hM1;have hBx := hB1;clear hB1;have hGx := hG1.2;clear hG1;have zf0 : V 0 = .pointer (some ⟨g, 0, none⟩) := hI.2 0 (hD 0 (by decide)) rfl;have zf1 : V 1 = .pointer (some ⟨g, 0, none⟩) := hI.2 1 (hD 1 (by decide)) rfl;have zf2 : V 2 = .pointer (some ⟨g, 0, none⟩) := hI.2 2 (hD 2 (by decide)) rfl;have zf3 : V 3 = .pointer (some ⟨g, 0, none⟩) := hI.2 3 (hD 3 (by decide)) rfl;have zf4 : V 4 = .slice Ao ys.length cap := hI.2 4 (hD 4 (by decide)) rfl;have zf5 : V 5 = .agg #[.string ⟨top.toArray⟩, .slice YA yn yc] := hI.2 5 (hD 5 (by decide)) rfl;have zf8 : V 8 = .pointer (some ⟨g, 0, none⟩) := hI.2 8 (hD 8 (by decide)) rfl;have zf9 : V 9 = .pointer (some ⟨g, 0, none⟩) := hI.2 9 (hD 9 (by decide)) rfl;have zF10 : ∃ (g_10 : Nat) (c_10 : Nat), V 10 = undef ∧ FaB w9 base (some ⟨g_10, 0, none⟩) c_10 (ys ++ [(top, .slice YA yn yc, f)]) g #[.slice (some ⟨g_10, 0, none⟩) (ys.length + 1) c_10, .map (some bm), .slice none 0 0, .int .i64 0] := hI.2 10 (hD 10 (by decide)) rfl;obtain ⟨g_10, c_10, zf10, b10_0⟩ := zF10;clear hI hD HGs;simp only [frAll, Act.put, List.setIfInBounds_toArray, List.set_cons_zero, List.set_cons_succ, Nat.zero_add, Nat.reduceAdd, zf0, zf1, zf2, zf3, zf4, zf5, zf8, zf9, zf10];clear zf0 zf1 zf2 zf3 zf4 zf5 zf8 zf9 zf10;generalize V 6 = u6;generalize V 7 = u7;clear V D;have HFB9 := Lib.hid b10_0;have HMR9 := Lib.hid hGx.2.1;have HST9 := Lib.hid hGx.2.2;have HM9 := Lib.hid hMx
        have hs9' : base ≤ w9.heap.size := by have := hBx; omega
        clear b10_0 hGx hMx hBx HMR8 HFB8 HST8 HYB8 HM8
        go_wp2_with fail
        go_roundg (fs.length - (k + 1))
        case measure => omega
        case rel =>
         refine ⟨k + 1, c_10, some ⟨g_10, 0, none⟩, ys ++ [(top, .slice YA yn yc, f)], rfl, by omega, by simp, HMR9.out, by simpa using HFB9.out, by simp; omega, by rw [HTK2.out, List.map_append, List.map_append, HYF.out]; simp, fun q hq => ?_, HST9.out, HM9.out, hs9'⟩
         rcases List.mem_append.1 hq with hq | hq
         ·exact HYS.out q hq
         ·rw [List.mem_singleton.1 hq]; exact HPF.out
    ·obtain rfl : k = fs.length := by omega
     rw [List.take_length] at hyf;have HYF9 := Lib.hid (hyf.trans (newF_fm fs order).symm);clear hmr hfb hyf hys hst hm
     go_wp2_with fail
     try simp only [Exit.inBlock, Exit.then]
     refine bodyPost_ret (v := .tuple #[.pointer (some ⟨g, 0, none⟩), .int .i64 0]) (by simp [results, Tryz.results10, go_sem]) rfl ?_;obtain ⟨d1, d2, d3, d4⟩ := HDN.out;refine ⟨HM1.out.trans HM.out, .inr ⟨HQ0.out, g, bm, rfl, by omega, by omega, Ao, cap, ys, none, 0, [], by rw [d4]; exact HFB.out.2, ⟨Sl.of_own HFB.out.1, fun p hp => (HF1.out.pure HM.out).2 p (HYS.out p hp)⟩, by rw [HYF9.out, HFE.out, d1], by rw [d2]; exact HST.out, ⟨World.ownsRow_nil _ _ _ _, fun x h => absurd h (by simp), by rw [d3]; rfl⟩, rfl⟩⟩
end Go.Proofs.YtgfgggeeoeppjaaGreatDoor
/- Items of the reference: returns, treeFault, ItemsFault. -/
namespace Go.Proofs.YtgfgggeeoeppjaaGreatDoor
open Go.RowKit
set_option maxHeartbeats 1000000 in
theorem indexN_calls (w : World) (v : Value) (xs : List Nat) (y : Nat) (hv : Sl w 3 1 v (natsV xs)) : Calls Tryz.prog 226 #[v, .int .i64 (y : Int)] w (IntPost w (idxQ (fun x => y == x) xs 0)) := by
 obtain ⟨A, n, c, rfl, hc1, hc2, hl, hr⟩ := hv
 have hln : xs.length = n := by rw [natsV_len] at hl; omega
 subst hln;have HR := Lib.hid hr;clear hl hr
 go_enter Tryz.func226, Tryz.ntmps226
 go_wp2_with fail
 go_loopg [8] xs.length (fun gk i wr => ∃ k : Nat, xs.length - k = gk ∧ k ≤ xs.length ∧ i = .int .i64 (k : Int) ∧ idxQ (fun x => y == x) xs 0 = idxQ (fun x => y == x) (xs.drop k) (k : Int) ∧ w = wr)
 case atStart => exact ⟨0, by omega, by omega, rfl, rfl, rfl⟩
 case round =>
  obtain ⟨k, rfl, hk, rfl, hix, rfl⟩ := hrel;have HIX := Lib.hid hix;clear hix
  by_cases hlt : k < xs.length
  ·obtain ⟨g, off, rfl, hrow⟩ := HR.out (by omega);have hq := hrow.cell (natsV_get xs k hlt);have hd : xs.drop k = xs[k] :: xs.drop (k + 1) := List.drop_eq_getElem_cons hlt
   have hi2 : idxQ (fun x => y == x) xs 0 = if (fun x => y == x) xs[k] then (k : Int) else idxQ (fun x => y == x) (xs.drop (k + 1)) ((k : Int) + 1) := by rw [HIX.out, hd]; rfl
   have HI2 := Lib.hid hi2;clear hd hi2 hrow HIX;generalize xs[k] = x at *
   have heq : ((y : Int) == (x : Int)) = (y == x) := by first | rfl | (exact Bool.eq_iff_iff.2 (by simp; try omega))
   cases hp : (y == x)
   ·have hp2 := heq.trans hp;have HP := Lib.hid hp;clear hp heq
    go_wp2_with fail
    go_roundg (xs.length - (k + 1))
    case measure => omega
    case rel => exact ⟨k + 1, rfl, hlt, by simp, by rw [HI2.out]; simp only [HP.out]; simp, rfl⟩
   ·have hp2 := heq.trans hp;have HP := Lib.hid hp;clear hp heq
    go_wp2_with fail
    go_ret;exact IntPost.of (by rw [HI2.out]; simp only [HP.out]; simp) (Mod.refl _ _)
  ·have hke : k = xs.length := by omega
   subst hke
   go_wp2_with fail
   go_ret;exact IntPost.of (by rw [HIX.out, List.drop_of_length_le (Nat.le_refl _)]; rfl) (Mod.refl _ _)
set_option maxHeartbeats 1000000 in
theorem containsN_calls (w : World) (v : Value) (xs : List Nat) (y : Nat) (hv : Sl w 3 1 v (natsV xs)) : Calls Tryz.prog 175 #[v, .int .i64 (y : Int)] w (BoolPost w (xs.any (fun x => y == x))) := by
 have HC := Lib.hid (indexN_calls w v xs y hv);have HI := Lib.hid (idxQ_any (fun x => y == x) xs 0 (by omega));obtain ⟨A, n, c, rfl⟩ := hv.form;clear hv
 go_enter Tryz.func175, Tryz.ntmps175
 go_wp2_with fail
 refine HC.out.mono ?_;rintro e w1 ⟨rfl, hm1⟩;generalize idxQ (fun x => y == x) xs 0 = r at *
 go_wp2_with fail
 go_ret;exact BoolPost.of HI.out.symm hm1
theorem any_contains (l : List Nat) (i : Nat) : (l.any fun x => i == x) = l.contains i := by
 rw [List.contains_eq_any_beq]
set_option maxHeartbeats 1000000 in
theorem returns_calls (w : World) (v : Value) (l : List Itm) (x : Itm) (i : Nat) (hx : l[i]? = some x) (hv : Its w v l) (hl : l.length ≤ 100000) : Calls Tryz.prog 133 #[v, .int .i64 (i : Int)] w (BoolPost w (lpB l i)) := by
 have HA := Lib.hid (rabove_calls w v l x i hx hv hl);have HL : Hid (((chn l (l.length + 1) i).any fun x => i == x) = lpB l i) := Lib.hid ((any_contains _ _).trans (lpB_more l i));obtain ⟨A, n, c, rfl⟩ := Sl.form hv;clear hv hx
 go_enter Tryz.func133, Tryz.ntmps133
 go_wp2_with fail
 refine HA.out.mono ?_;rintro e w1 ⟨A1, cap, bl, rfl, hown, hm⟩;have HC := Lib.hid (containsN_calls w1 _ _ i (Sl.of_own hown));rw [HL.out] at HC;clear hown HA HL;generalize (chn l (l.length + 1) i).length = k at *
 go_wp2_with fail
 refine HC.out.mono ?_;rintro e w2 ⟨rfl, m2⟩
 go_wp2_with fail
 go_ret;exact BoolPost.of rfl (hm.trans m2)
def Tr1 (w : World) (xs : List Itm) (gk : Nat) (i : Value) (wr : World) : Prop := ∃ k : Nat, xs.length - k = gk ∧ k ≤ xs.length ∧ i = .int .i64 (k : Int) ∧ (∀ j, j < k → lpB xs j = false) ∧ Pure w wr
def Tr2 (w : World) (xs : List Itm) (gk : Nat) (i : Value) (wr : World) : Prop := ∃ k : Nat, xs.length - k = gk ∧ k ≤ xs.length ∧ i = .int .i64 (k : Int) ∧ firstE (depE xs) k (xs.length - k) = firstE (depE xs) 0 xs.length ∧ Pure w wr
set_option maxHeartbeats 4000000 in
theorem treeFault_calls (w : World) (v : Value) (xs : List Itm) (hv : Its w v xs) (hl : xs.length ≤ 100000) : Calls Tryz.prog 73 #[v] w (IntPost w (treeE xs)) := by
 obtain ⟨A, n, c, rfl, hc1, hc2, hl2, hr⟩ := hv
 have hln : xs.length = n := by rw [itV_len] at hl2; omega
 subst hln;have HRET := Lib.hid (fun W (h : Pure w W) i x hx => returns_calls W (.slice A xs.length c) xs x i hx (Its.pure ⟨A, xs.length, c, rfl, hc1, hc2, hl2, hr⟩ h) hl);have HAB := Lib.hid (fun W (h : Pure w W) i x hx => rabove_calls W (.slice A xs.length c) xs x i hx (Its.pure ⟨A, xs.length, c, rfl, hc1, hc2, hl2, hr⟩ h) hl);have HPL := Lib.hid (fun W (h : Pure w W) s => place_calls W (.slice A xs.length c) xs s (Its.pure ⟨A, xs.length, c, rfl, hc1, hc2, hl2, hr⟩ h));have HR := Lib.hid hr;have m0 : Pure w w := Mod.refl _ _;clear hl2 hr
 go_enter Tryz.func73, Tryz.ntmps73
 go_wp2_with fail
 go_loopg [10] xs.length (fun gk i wr => Tr1 w xs gk i wr)
 case atStart => exact ⟨0, by omega, by omega, rfl, fun j h => absurd h (by omega), m0⟩
 case round =>
  clear m0;obtain ⟨k, rfl, hk, rfl, hno, hm⟩ := hrel
  by_cases hlt : k < xs.length
  ·have HNO := Lib.hid hno;have HC := Lib.hid (HRET.out wr hm k xs[k] (List.getElem?_eq_getElem hlt))
   have HAT : Hid (lpB xs k = true → treeE xs = 14) := Lib.hid (fun h => by
    unfold treeE
    rw [if_pos (List.any_eq_true.2 ⟨k, List.mem_range.2 hlt, h⟩)])
   clear hno
   cases hlp : lpB xs k
   ·rw [hlp] at HC
    have HN : Hid (∀ j, j < k + 1 → lpB xs j = false) := Lib.hid (fun j hj => by
     rcases Nat.lt_or_ge j k with h | h
     ·exact HNO.out j h
     ·obtain rfl : j = k := by omega
      exact hlp)
    clear HAT HNO hlp
    go_wp2_with fail
    refine HC.out.mono ?_;rintro e w1 ⟨rfl, m1⟩
    go_wp2_with fail
    go_roundg (xs.length - (k + 1))
    case measure => omega
    case rel => exact ⟨k + 1, rfl, by omega, by simp, HN.out, hm.trans m1⟩
   ·rw [hlp] at HC;have HF := Lib.hid (HAT.out hlp);clear HAT HNO hlp
    go_wp2_with fail
    refine HC.out.mono ?_;rintro e w1 ⟨rfl, m1⟩
    go_wp2_with fail
    go_ret;exact IntPost.of HF.out (hm.trans m1)
  ·obtain rfl : k = xs.length := by omega
   have HIE : Hid (treeE xs = firstE (depE xs) 0 xs.length) := Lib.hid (by
    unfold treeE;rw [if_neg];intro h;rw [List.any_eq_true] at h;obtain ⟨j, hj, h⟩ := h;rw [hno j (List.mem_range.1 hj)] at h
    cases h)
   have HNO := Lib.hid hno;clear hno hlt hk HRET
   go_wp2_with fail
   go_loopg [19] xs.length (fun gk i wr => Tr2 w xs gk i wr)
   case atStart => exact ⟨0, by omega, by omega, rfl, rfl, hm⟩
   case round =>
    clear hm;obtain ⟨k, rfl, hk, rfl, hfe, hm⟩ := hrel
    by_cases hlt : k < xs.length
    ·obtain ⟨g, off, rfl, hrow⟩ := HR.out (by omega);have HROW := Lib.hid hrow;have q5 := (item_cells (hrow.mod hm id) hlt).2.2.2.2.2.1;have HX : Hid (xs[k]? = some xs[k]) := Lib.hid (List.getElem?_eq_getElem hlt);have HQ5 := Lib.hid (fun W (h : Pure w W) => (item_cells (hrow.mod h id) hlt).2.2.2.2.2.1);have HCH := Lib.hid (chn_noloop xs HNO.out k hlt);have HDE : Hid (depE xs k = if ruleB xs xs[k] then 16 else if 4 < (chn xs xs.length k).length then 2 else 0) := Lib.hid (by unfold depE; rw [HX.out]);rw [firstE_step _ hlt] at hfe;have HFE := Lib.hid hfe
     have HRU : Hid (ruleB xs xs[k] = (decide (xs[k].par ≠ []) && match plc xs xs[k].par with
      | none => false
      | some k => match xs[k]? with
       | none => false
       | some p => decide (p.kind ≠ 1) && decide (p.kind ≠ 3))) := Lib.hid rfl
     have HPK := Lib.hid (HPL.out wr hm xs[k].par);have HABK := Lib.hid (fun W h => HAB.out W h k xs[k] HX.out)
     have i1 : (0 : Int) ≤ (k : Int) := by omega
     have i2 : (k : Int) < (xs.length : Int) := by omega
     clear hrow hfe;generalize hxk : xs[k] = x at *;clear hxk;generalize hrb : ruleB xs x = rb at *;clear hrb;rw [show decide (x.par ≠ []) = !x.par.isEmpty by cases x.par <;> simp] at HRU
     -- the part behind the rule
     have FIN : Hid (∀ n : Nat, n = (chn xs (xs.length + 1) k).length → rb = false → depE xs k = if 4 < n then 2 else 0) := Lib.hid (fun n hn h => by rw [HDE.out, h, hn, HCH.out]; rfl);have FIN2 : Hid (rb = true → depE xs k = 16) := Lib.hid (fun h => by rw [HDE.out, h]; rfl);clear HDE HCH HX;generalize depE xs k = de at *;obtain ⟨z, hzz⟩ : ∃ z, plcZ xs x.par = z := ⟨_, rfl⟩;rw [hzz] at HPK;have HZZ := Lib.hid hzz;clear hzz
     go_wp2_with fail
     refine HPK.out.mono ?_;rintro e w1 ⟨rfl, m1⟩;have m1 := hm.trans m1;have q5 := HQ5.out w1 m1;clear hm HPK HPL
     go_upto_region 11 with (fail)
     go_cut [54] (fun p wx => p = .bool rb ∧ w1 = wx)
     case first =>
      clear HABK FIN FIN2 HFE HIE HNO
      cases he : x.par.isEmpty
      ·rw [he] at HRU
       cases hp : plc xs x.par with
       | none =>
        have hrb : rb = false := by rw [HRU.out, hp]; rfl
        have hz : z = -1 := by rw [← HZZ.out]; unfold plcZ; rw [hp]
        have HRB := Lib.hid hrb;clear hrb hp HRU HZZ;subst hz
        go_wp2_with fail
        go_meet;exact ⟨by rw [HRB.out], rfl⟩
       | some j =>
        have hjl := (plc_lt _ _ _ hp).1
        have hz : z = (j : Int) := by rw [← HZZ.out]; unfold plcZ; rw [hp]
        have q2 := (item_cells (HROW.out.mod m1 id) hjl).2.2.1
        have hrb : rb = (decide (xs[j].kind ≠ 1) && decide (xs[j].kind ≠ 3)) := by
         rw [HRU.out, hp];simp only [List.getElem?_eq_getElem hjl]
         rfl
        have j1 : (0 : Int) ≤ (j : Int) := by omega
        have j2 : (j : Int) < (xs.length : Int) := by omega
        clear hp HRU HZZ;subst hz;generalize xs[j].kind = kd at *
        by_cases h1 : kd = 1
        ·have h1' : (kd != 1) = false := by simpa using h1
         have hrb2 : rb = false := by rw [hrb, h1]; rfl
         have HRB := Lib.hid hrb2;clear hrb hrb2 h1
         go_wp2_with fail
         go_meet;exact ⟨by rw [HRB.out], rfl⟩
        ·have h1' : (kd != 1) = true := by simpa using h1
         by_cases h3 : kd = 3
         ·have h3' : (kd != 3) = false := by simpa using h3
          have hrb2 : rb = false := by rw [hrb, h3]; rfl
          have HRB := Lib.hid hrb2;clear hrb hrb2 h1 h3
          go_wp2_with fail
          go_meet;exact ⟨by rw [HRB.out], rfl⟩
         ·have h3' : (kd != 3) = true := by simpa using h3
          have hrb2 : rb = true := by rw [hrb]; simp [h1, h3]
          have HRB := Lib.hid hrb2;clear hrb hrb2 h1 h3
          go_wp2_with fail
          go_meet;exact ⟨by rw [HRB.out], rfl⟩
      ·have hrb : rb = false := by rw [HRU.out, he]; rfl
       have HRB := Lib.hid hrb;clear hrb HRU
       go_wp2_with fail
       go_meet;exact ⟨by rw [HRB.out], rfl⟩
     case rest =>
      obtain ⟨rfl, rfl⟩ := hcut;clear HRU q5 HQ5 HROW
      cases rb
      ·have HAW := Lib.hid (HABK.out _ m1);clear FIN2 HABK
       go_wp2_with fail
       refine HAW.out.mono ?_;rintro e w2 ⟨A1, cap, bl, rfl, _, m2⟩;have m3 := m1.trans m2;have HFN := Lib.hid (FIN.out _ rfl (by simp));clear HAW FIN m1 m2;generalize (chn xs (xs.length + 1) k).length = n at *
       by_cases h4 : 4 < n
       ·have h4' : (4 : Int) < (n : Int) := by omega
        have hd : de = 2 := by rw [HFN.out, if_pos h4]
        have HF : Hid (treeE xs = 2) := Lib.hid (by
         rw [HIE.out, ← HFE.out, hd]
         rfl)
        clear HFE HFN hd h4
        go_wp2_with fail
        go_ret;exact IntPost.of HF.out m3
       ·have h4' : ¬ ((4 : Int) < (n : Int)) := by omega
        have hd : de = 0 := by rw [HFN.out, if_neg h4]
        have HN : Hid (firstE (depE xs) (k + 1) (xs.length - (k + 1)) = firstE (depE xs) 0 xs.length) := Lib.hid (by
         have := HFE.out
         rwa [if_neg (by simpa using hd)] at this)
        clear HFE HFN hd h4
        go_wp2_with fail
        go_roundg (xs.length - (k + 1))
        case measure => omega
        case rel => exact ⟨k + 1, rfl, by omega, by simp, HN.out, m3⟩
      ·have hd : de = 16 := FIN2.out (by simp)
       have HF : Hid (treeE xs = 16) := Lib.hid (by
        rw [HIE.out, ← HFE.out, hd]
        rfl)
       clear HFE FIN FIN2 HABK hd
       go_wp2_with fail
       go_ret;exact IntPost.of HF.out m1
    ·obtain rfl : k = xs.length := by omega
     have HF : Hid (treeE xs = 0) := Lib.hid (by rw [HIE.out, ← hfe, Nat.sub_self]; rfl);clear hfe
     go_wp2_with fail
     go_ret;exact IntPost.of HF.out hm
end Go.Proofs.YtgfgggeeoeppjaaGreatDoor
