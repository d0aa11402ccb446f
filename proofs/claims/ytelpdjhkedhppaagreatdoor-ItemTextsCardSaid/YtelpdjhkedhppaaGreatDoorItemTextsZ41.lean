/- Texts of the proof of ItemTexts, put together: IhdW, IrdP, ItmX, IrdW, IrfP, LayCut, LnsB, LnsC, KndW, IrfW, IrfX. -/
import Derived.Test.YtelpdjhkedhppaaGreatDoorItemTextsZ12
import Derived.Test.YtelpdjhkedhppaaGreatDoorItemTextsZ15
import Derived.Test.YtelpdjhkedhppaaGreatDoorItemTextsZ23
import Derived.Test.YtelpdjhkedhppaaGreatDoorItemTextsZ26
import Derived.Test.YtelpdjhkedhppaaGreatDoorItemTextsZ32
import Derived.Test.YtelpdjhkedhppaaGreatDoorItemTextsZ35
import Derived.Test.YtelpdjhkedhppaaGreatDoorItemTextsZ36
import Derived.Test.YtelpdjhkedhppaaGreatDoorItemTextsZ39
import Derived.Test.YtelpdjhkedhppaaGreatDoorItemTextsZ40
import Derived.Deep.DeepCutAuto
import Derived.Deep.CutBlock
import Derived.Ground.NamesProg
import Derived.Shelf.Strings.Cut
import Derived.Test.YtelpdjhkedhppaaGreatDoorProg
set_option linter.unusedVariables false
set_option linter.unusedSimpArgs false
set_option maxRecDepth 100000
/- The head line of an item, as the program reads it. -/
namespace Go.Proofs.YtelpdjhkedhppaaGreatDoor
open Go.RowKit
def NatlPost (w : World) (o : Option Int) (e : Ending) (w' : World) : Prop := ∃ v : Int, e = .returned (.tuple #[.int .i64 v, .bool (o.isSome && decide (0 ≤ v))]) ∧ (∀ n, o = some n → v = n) ∧ -1000000000 < v ∧ v < 1000000000 ∧ Pure w w'
theorem natural_calls (w : World) (s : Str) (D : Nat) (hD : D ≤ 9) (hs : s.length ≤ 1000000) : Calls Tryz.prog 131 #[.string ⟨s.toArray⟩, .int .i64 (D : Int)] w (NatlPost w (numQ D s)) := by
 have HN := Lib.hid (number_calls w s D hD hs);generalize numQ D s = o at *
 go_enter Tryz.func131, Tryz.ntmps131
 go_wp2_with fail
 refine HN.out.mono ?_;rintro e w1 ⟨v, rfl, h1, h2, h3, hm⟩;have H1 := Lib.hid h1;clear HN h1
 cases hb : o.isSome
 ·go_wp2_with fail
  refine bodyPost_ret (v := .tuple #[.int .i64 v, .bool false]) (by simp [results, Tryz.results131, go_sem]) rfl ?_;exact ⟨v, by rw [hb]; rfl, H1.out, h2, h3, hm⟩
 ·go_wp2_with fail
  refine bodyPost_ret (v := .tuple #[.int .i64 v, .bool (decide (0 ≤ v))]) (by simp [results, Tryz.results131, go_sem]) rfl ?_;exact ⟨v, by rw [hb]; simp, H1.out, h2, h3, hm⟩
theorem kindWordH (n : Int) (w : World) : Calls Tryz.prog 50 #[.int .i64 n] w (StrPost1 w (kwS n)) := (kindWord_calls n w).mono (fun e w' h => ⟨h.1, h.2 ▸ Mod.refl _ _⟩)
def kndB (s : Str) (j : Nat) : Int := if kndI s < (j : Int) then kndI s else 0
theorem kndB_one (s : Str) : kndB s 1 = 0 := by
 have := kndI_le s;unfold kndB
 split
 ·omega
 ·rfl
theorem kndB_five (s : Str) : kndB s 5 = kndI s := by
 have := kndI_le s;unfold kndB;rw [if_pos (by omega)]
theorem kndB_succ (s : Str) {j : Nat} (h1 : 1 ≤ j) (h4 : j ≤ 4) : kndB s (j + 1) = if (kwS (j : Int) == s) = true then (j : Int) else kndB s j := by
 have key : (kwS (j : Int) == s) = decide (kndI s = (j : Int)) := by
  rw [Bool.eq_iff_iff, beq_iff_eq, decide_eq_true_iff]
  obtain rfl | rfl | rfl | rfl : j = 1 ∨ j = 2 ∨ j = 3 ∨ j = 4 := by omega
  all_goals
   unfold kwS kndI
   constructor
   ·intro h;rw [← h]
    decide
   ·intro h
    split at h
    ·rename_i e; first | (rw [e]; rfl) | omega
    ·split at h
     ·rename_i e; first | (rw [e]; rfl) | omega
     ·split at h
      ·rename_i e; first | (rw [e]; rfl) | omega
      ·split at h
       ·rename_i e; first | (rw [e]; rfl) | omega
       ·omega
 rw [key];unfold kndB
 by_cases h : kndI s = (j : Int)
 ·rw [if_pos (by omega), if_pos (by simpa using h), h]
 ·rw [if_neg (c := decide (kndI s = (j : Int)) = true) (by simpa using h)]
  by_cases h2 : kndI s < (j : Int)
  ·rw [if_pos h2, if_pos (by omega)]
  ·rw [if_neg h2, if_neg (by omega)]
theorem arr_sameH {α : Type} {a : Array α} {i : Nat} {v : α} (h : a[i]? = some v) : a.setIfInBounds i v = a := by
 apply Array.ext_getElem?
 intro j;rw [Array.getElem?_setIfInBounds]
 split
 ·rename_i e; subst e
  split
  ·exact h.symm
  ·rename_i hlt
   rw [Array.getElem?_eq_none (by omega)] at h
   cases h
 ·rfl
theorem setCell_sameH {w : World} {g i : Nat} {t : TypeId} {cs : Array Value} {v : Value} (h : Blk w g t cs) (hv : cs[i]? = some v) : w.setCell ⟨g, i, none⟩ v = w := by
 have h2 := h.set i v;rw [arr_sameH hv] at h2;unfold World.setCell;unfold Blk at h
 congr 1
 apply Array.ext_getElem?
 intro j;rw [Array.getElem?_modify]
 split
 ·rename_i e
  have e : g = j := e;subst e;rw [h]
  show some (Obj.cells (cs.setIfInBounds i v) t (0, 0)) = _
  rw [arr_sameH hv]
 ·rfl
theorem setCell_same7 {w : World} {g : Nat} {t : TypeId} {a b c d e f k : Value} (h : Blk w g t #[a, b, c, d, e, f, k]) : World.setCell (World.setCell (World.setCell (World.setCell (World.setCell (World.setCell (World.setCell w ⟨g, 0, none⟩ a) ⟨g, 1, none⟩ b) ⟨g, 2, none⟩ c) ⟨g, 3, none⟩ d) ⟨g, 4, none⟩ e) ⟨g, 5, none⟩ f) ⟨g, 6, none⟩ k = w := by
 rw [setCell_sameH h rfl, setCell_sameH h rfl, setCell_sameH h rfl, setCell_sameH h rfl, setCell_sameH h rfl, setCell_sameH h rfl, setCell_sameH h rfl]
theorem hdF_k {a1 a2 a3 a4 a5 a6 a7 : Str} (h : kndI a3 = 0) : hdF a1 a2 a3 a4 a5 a6 a7 = none := by
 unfold hdF
 split
 ·rw [if_neg (fun hh => hh.1 h)]
 ·rfl
theorem hdF_at {a1 a2 a3 a4 a5 a6 a7 : Str} (h : numQ 9 a4 = none) : hdF a1 a2 a3 a4 a5 a6 a7 = none := by
 unfold hdF;rw [h]
theorem hdF_n {a1 a2 a3 a4 a5 a6 a7 : Str} (h : ∀ n, numQ 9 a7 = some n → ¬ 0 ≤ n) : hdF a1 a2 a3 a4 a5 a6 a7 = none := by
 unfold hdF
 split
 ·rename_i hn _
  rw [if_neg (fun hh => h _ hn hh.2.2)]
 ·rfl
theorem hdF_u {a1 a2 a3 a4 a5 a6 a7 : Str} (h : unqS a6 = none) : hdF a1 a2 a3 a4 a5 a6 a7 = none := by
 unfold hdF;rw [h]
 split
 ·rename_i hh; cases hh
 ·rfl
theorem hdF_full {a1 a2 a3 a4 a5 a6 a7 nm : Str} {a n : Int} {k : Nat} (h4 : numQ 9 a4 = some a) (h7 : numQ 9 a7 = some n) (h6 : unqS a6 = some (nm, k)) : hdF a1 a2 a3 a4 a5 a6 a7 = if kndI a3 ≠ 0 ∧ k = a6.length ∧ 0 ≤ n then some (⟨a1, a2, kndI a3, nm, a, if a5 = [45] then [] else a5, []⟩, n) else none := by
 unfold hdF;rw [h4, h7, h6]
def HdPost (w : World) (l : Str) (e : Ending) (w' : World) : Prop := ∃ (x : Itm) (n : Int), e = .returned (.tuple #[itA x, .int .i64 n, .bool (hdP l).isSome]) ∧ (∀ p, hdP l = some p → p = (x, n)) ∧ Pure w w'
set_option maxHeartbeats 8000000 in
theorem head_calls (w : World) (l : Str) (hl : l.length ≤ 300000) (hMl : MlnS w) (hE : ErrS w) : Calls Tryz.prog 65 #[.string ⟨l.toArray⟩] w (HdPost w l) := by
 have HML := Lib.hid (fun W (h : Pure w W) => hMl.mod h (fun x => x));have HER := Lib.hid (fun W (h : Pure w W) => hE.pure h);have HZB := Lib.hid (Blk.new w 40 #[.string ⟨#[]⟩, .string ⟨#[]⟩, .int .i64 0, .string ⟨#[]⟩, .int .i64 0, .string ⟨#[]⟩, .string ⟨#[]⟩]);have HP0 := Lib.hid (pure_alloc w (.cells #[.string ⟨#[]⟩, .string ⟨#[]⟩, .int .i64 0, .string ⟨#[]⟩, .int .i64 0, .string ⟨#[]⟩, .string ⟨#[]⟩] 40));have HSP := Lib.hid (fun W (h : Pure w W) => split_calls W l [32] (hMl.mod h (fun x => x)) (by omega) (by simp));rw [show Lib.split l [32] = spl 32 l from split_byte 32 l] at HSP;clear hMl hE
 go_enter Tryz.func65, Tryz.ntmps65
 go_wp2_with fail
 generalize (w.alloc (.cells #[.string ⟨#[]⟩, .string ⟨#[]⟩, .int .i64 0, .string ⟨#[]⟩, .int .i64 0, .string ⟨#[]⟩, .string ⟨#[]⟩] 40)) = w0 at *;generalize hg2 : w.heap.size = g2 at *;refine (HSP.out w0 HP0.out).mono ?_;rintro e w1 ⟨rfl, hw1⟩;have hRB := Blk.new w0 9 (strsV (spl 32 l)).toArray;have hPW := pure_alloc w0 (.cells (strsV (spl 32 l)).toArray 9);rw [← hw1] at hRB hPW;have HZ1 := Lib.hid (HZB.out.modp hPW);have HP1 : Hid (Pure w w1) := Lib.hid (HP0.out.trans hPW);have HHD : Hid (hdP l = if (decide ((spl 32 l).length = 8) && (decide ((spl 32 l).getD 0 [] = itemW) && !decide ([] ∈ spl 32 l))) = true then hdF ((spl 32 l).getD 1 []) ((spl 32 l).getD 2 []) ((spl 32 l).getD 3 []) ((spl 32 l).getD 4 []) ((spl 32 l).getD 5 []) ((spl 32 l).getD 6 []) ((spl 32 l).getD 7 []) else none) := Lib.hid rfl;have HWL : Hid (∀ x ∈ spl 32 l, x.length ≤ 300000) := Lib.hid (fun x hx => Nat.le_trans (spl_len hx) hl)
 have hwl : (spl 32 l).length ≤ 300001 := by have := spl_count 32 l; omega
 have HSL := Lib.hid (show Sl w1 9 1 (.slice (some ⟨w0.heap.size, 0, none⟩) (spl 32 l).length (spl 32 l).length) (strsV (spl 32 l)) from ⟨_, _, _, rfl, Nat.le_refl _, by omega, by simp [strsV], fun _ => ⟨_, 0, rfl, hRB.row0⟩⟩);have HRB := Lib.hid hRB;have HMS : Hid (Pure w w1) := HP1;generalize spl 32 l = ws at *;have hg1 : g2 < w0.heap.size := HZB.out.lt;generalize w0.heap.size = g1 at *
 have hge : w.heap.size ≤ g2 := by omega
 clear hw1 hPW hRB HSP HP0 HZB hg2;have NONE : Hid (hdP l = none → ∀ W, Pure w W → ∀ (x : Itm) (n : Int), HdPost w l (.returned (.tuple #[itA x, .int .i64 n, .bool false])) W) := Lib.hid (fun h W hm x n => ⟨x, n, by rw [h]; rfl, fun p hp => (by rw [h] at hp; cases hp), hm⟩);have z0 := HZ1.out.cell 0; have z1 := HZ1.out.cell 1; have z2 := HZ1.out.cell 2; have z3 := HZ1.out.cell 3; have z4 := HZ1.out.cell 4; have z5 := HZ1.out.cell 5; have z6 := HZ1.out.cell 6;have y0 := HZ1.out.frozen 0; have y1 := HZ1.out.frozen 1; have y2 := HZ1.out.frozen 2; have y3 := HZ1.out.frozen 3; have y4 := HZ1.out.frozen 4; have y5 := HZ1.out.frozen 5; have y6 := HZ1.out.frozen 6;simp at z0 z1 z2 z3 z4 z5 z6
 by_cases hn8 : ws.length = 8
 rotate_left
 ·have h8 : ((ws.length : Int) != 8) = true := by simp; omega
  have HN : Hid (hdP l = none) := Lib.hid (by rw [HHD.out]; simp [hn8])
  go_wp2_with fail
  have hGE := (((((((HZ1.out.set 0 (.string ⟨#[]⟩)).set 1 (.string ⟨#[]⟩)).set 2 (.int .i64 0)).set 3 (.string ⟨#[]⟩)).set 4 (.int .i64 0)).set 5 (.string ⟨#[]⟩)).set 6 (.string ⟨#[]⟩));have u0 := hGE.cell 0; have u1 := hGE.cell 1; have u2 := hGE.cell 2; have u3 := hGE.cell 3; have u4 := hGE.cell 4; have u5 := hGE.cell 5; have u6 := hGE.cell 6; simp at u0 u1 u2 u3 u4 u5 u6
  try simp only [Exit.inBlock, Exit.then]
  refine bodyPost_ret (v := .tuple #[.agg #[.string ⟨#[]⟩, .string ⟨#[]⟩, .int .i64 0, .string ⟨#[]⟩, .int .i64 0, .string ⟨#[]⟩, .string ⟨#[]⟩], .int .i64 0, .bool false]) (by simp [results, Tryz.results65, go_sem, u0, u1, u2, u3, u4, u5, u6]) rfl ?_;exact NONE.out HN.out _ (((((((HP1.out.setCell (p := ⟨g2, 0, none⟩) (.inr (by show w.heap.size ≤ g2; omega)) _).setCell (p := ⟨g2, 1, none⟩) (.inr (by show w.heap.size ≤ g2; omega)) _).setCell (p := ⟨g2, 2, none⟩) (.inr (by show w.heap.size ≤ g2; omega)) _).setCell (p := ⟨g2, 3, none⟩) (.inr (by show w.heap.size ≤ g2; omega)) _).setCell (p := ⟨g2, 4, none⟩) (.inr (by show w.heap.size ≤ g2; omega)) _).setCell (p := ⟨g2, 5, none⟩) (.inr (by show w.heap.size ≤ g2; omega)) _).setCell (p := ⟨g2, 6, none⟩) (.inr (by show w.heap.size ≤ g2; omega)) _) ⟨[], [], 0, [], 0, [], []⟩ 0
 obtain ⟨a0, a1, a2, a3, a4, a5, a6, a7, rfl⟩ : ∃ a0 a1 a2 a3 a4 a5 a6 a7, ws = [a0, a1, a2, a3, a4, a5, a6, a7] := by
  match ws, hn8 with
  | [a0, a1, a2, a3, a4, a5, a6, a7], _ => exact ⟨_, _, _, _, _, _, _, _, rfl⟩
 have HH2 : Hid (hdP l = if (decide (a0 = itemW) && !decide ([] ∈ [a0, a1, a2, a3, a4, a5, a6, a7])) = true then hdF a1 a2 a3 a4 a5 a6 a7 else none) := Lib.hid (by rw [HHD.out]; rfl);have hR : Blk w1 g1 9 #[.string ⟨a0.toArray⟩, .string ⟨a1.toArray⟩, .string ⟨a2.toArray⟩, .string ⟨a3.toArray⟩, .string ⟨a4.toArray⟩, .string ⟨a5.toArray⟩, .string ⟨a6.toArray⟩, .string ⟨a7.toArray⟩] := HRB.out;have HR := Lib.hid hR;have r0 := hR.cell 0;simp at r0;clear HHD HRB hwl hn8 hR;simp only [List.length_cons, List.length_nil, Nat.zero_add, Nat.reduceAdd] at HSL ⊢
 by_cases e0 : a0 = itemW
 rotate_left
 ·have HN : Hid (hdP l = none) := Lib.hid (by rw [HH2.out]; simp [e0])
  have f0 : (a0 == [105, 116, 101, 109]) = false := by simpa [itemW] using e0
  have f0' : (a0 != [105, 116, 101, 109]) = true := by simpa [itemW] using e0
  clear e0
  go_wp2_with fail
  have hGE := (((((((HZ1.out.set 0 (.string ⟨#[]⟩)).set 1 (.string ⟨#[]⟩)).set 2 (.int .i64 0)).set 3 (.string ⟨#[]⟩)).set 4 (.int .i64 0)).set 5 (.string ⟨#[]⟩)).set 6 (.string ⟨#[]⟩));have u0 := hGE.cell 0; have u1 := hGE.cell 1; have u2 := hGE.cell 2; have u3 := hGE.cell 3; have u4 := hGE.cell 4; have u5 := hGE.cell 5; have u6 := hGE.cell 6; simp at u0 u1 u2 u3 u4 u5 u6
  try simp only [Exit.inBlock, Exit.then]
  refine bodyPost_ret (v := .tuple #[.agg #[.string ⟨#[]⟩, .string ⟨#[]⟩, .int .i64 0, .string ⟨#[]⟩, .int .i64 0, .string ⟨#[]⟩, .string ⟨#[]⟩], .int .i64 0, .bool false]) (by simp [results, Tryz.results65, go_sem, u0, u1, u2, u3, u4, u5, u6]) rfl ?_;exact NONE.out HN.out _ (((((((HP1.out.setCell (p := ⟨g2, 0, none⟩) (.inr (by show w.heap.size ≤ g2; omega)) _).setCell (p := ⟨g2, 1, none⟩) (.inr (by show w.heap.size ≤ g2; omega)) _).setCell (p := ⟨g2, 2, none⟩) (.inr (by show w.heap.size ≤ g2; omega)) _).setCell (p := ⟨g2, 3, none⟩) (.inr (by show w.heap.size ≤ g2; omega)) _).setCell (p := ⟨g2, 4, none⟩) (.inr (by show w.heap.size ≤ g2; omega)) _).setCell (p := ⟨g2, 5, none⟩) (.inr (by show w.heap.size ≤ g2; omega)) _).setCell (p := ⟨g2, 6, none⟩) (.inr (by show w.heap.size ≤ g2; omega)) _) ⟨[], [], 0, [], 0, [], []⟩ 0
 subst e0;obtain ⟨bb, hbb⟩ : ∃ bb, decide ([] ∈ [itemW, a1, a2, a3, a4, a5, a6, a7]) = bb := ⟨_, rfl⟩;have HCT := Lib.hid (containsM_calls w1 _ [itemW, a1, a2, a3, a4, a5, a6, a7] [] bb hbb HSL.out);have HH3 : Hid (hdP l = if (!bb) = true then hdF a1 a2 a3 a4 a5 a6 a7 else none) := Lib.hid (by rw [HH2.out, hbb]; simp);clear HH2 hbb;unfold itemW at r0 HR
 go_wp2_with fail
 refine HCT.out.mono ?_;rintro e w2 ⟨rfl, hm2⟩;have HZ2 := Lib.hid (HZ1.out.modp hm2);have HR2 := Lib.hid (HR.out.modp hm2);have HP2 : Hid (Pure w w2) := Lib.hid (HP1.out.trans hm2);have HZ1 := HZ2;have HP1 := HP2;clear z0 z1 z2 z3 z4 z5 z6 y0 y1 y2 y3 y4 y5 y6 hm2 HR HCT HSL r0 HMS;have z0 := HZ2.out.cell 0; have z1 := HZ2.out.cell 1; have z2 := HZ2.out.cell 2; have z3 := HZ2.out.cell 3; have z4 := HZ2.out.cell 4; have z5 := HZ2.out.cell 5; have z6 := HZ2.out.cell 6;have y0 := HZ2.out.frozen 0; have y1 := HZ2.out.frozen 1; have y2 := HZ2.out.frozen 2; have y3 := HZ2.out.frozen 3; have y4 := HZ2.out.frozen 4; have y5 := HZ2.out.frozen 5; have y6 := HZ2.out.frozen 6;simp at z0 z1 z2 z3 z4 z5 z6
 cases bb
 rotate_left
 ·have HN : Hid (hdP l = none) := Lib.hid (by rw [HH3.out]; rfl)
  go_wp2_with fail
  have hGE := (((((((HZ1.out.set 0 (.string ⟨#[]⟩)).set 1 (.string ⟨#[]⟩)).set 2 (.int .i64 0)).set 3 (.string ⟨#[]⟩)).set 4 (.int .i64 0)).set 5 (.string ⟨#[]⟩)).set 6 (.string ⟨#[]⟩));have u0 := hGE.cell 0; have u1 := hGE.cell 1; have u2 := hGE.cell 2; have u3 := hGE.cell 3; have u4 := hGE.cell 4; have u5 := hGE.cell 5; have u6 := hGE.cell 6; simp at u0 u1 u2 u3 u4 u5 u6
  try simp only [Exit.inBlock, Exit.then]
  refine bodyPost_ret (v := .tuple #[.agg #[.string ⟨#[]⟩, .string ⟨#[]⟩, .int .i64 0, .string ⟨#[]⟩, .int .i64 0, .string ⟨#[]⟩, .string ⟨#[]⟩], .int .i64 0, .bool false]) (by simp [results, Tryz.results65, go_sem, u0, u1, u2, u3, u4, u5, u6]) rfl ?_;exact NONE.out HN.out _ (((((((HP1.out.setCell (p := ⟨g2, 0, none⟩) (.inr (by show w.heap.size ≤ g2; omega)) _).setCell (p := ⟨g2, 1, none⟩) (.inr (by show w.heap.size ≤ g2; omega)) _).setCell (p := ⟨g2, 2, none⟩) (.inr (by show w.heap.size ≤ g2; omega)) _).setCell (p := ⟨g2, 3, none⟩) (.inr (by show w.heap.size ≤ g2; omega)) _).setCell (p := ⟨g2, 4, none⟩) (.inr (by show w.heap.size ≤ g2; omega)) _).setCell (p := ⟨g2, 5, none⟩) (.inr (by show w.heap.size ≤ g2; omega)) _).setCell (p := ⟨g2, 6, none⟩) (.inr (by show w.heap.size ≤ g2; omega)) _) ⟨[], [], 0, [], 0, [], []⟩ 0
 have HH4 : Hid (hdP l = hdF a1 a2 a3 a4 a5 a6 a7) := Lib.hid (by rw [HH3.out]; rfl);clear z0 z1 z2 z3 z4 z5 z6 y0 y1 y2 y3 y4 y5 y6
 go_upto_region 4 with (fail)
 have HGs := Lib.hid (show ∀ (D : Nat → Bool) (zzi : Nat) (zq zq' : World), zzi ≠ 9 ∧ zzi ≠ 7 → (fun D zq => (D 9 = false → (fun Z => (D 7 = false → Blk Z g2 40 #[.string ⟨#[]⟩, .string ⟨#[]⟩, .int .i64 0, .string ⟨#[]⟩, .int .i64 0, .string ⟨#[]⟩, .string ⟨#[]⟩]) ∧ (D 7 = true → Blk Z g2 40 #[.string ⟨a1.toArray⟩, .string ⟨#[]⟩, .int .i64 0, .string ⟨#[]⟩, .int .i64 0, .string ⟨#[]⟩, .string ⟨#[]⟩])) zq) ∧ (fun Z => (D 9 = true → Blk Z g2 40 #[.string ⟨a1.toArray⟩, .string ⟨a2.toArray⟩, .int .i64 0, .string ⟨#[]⟩, .int .i64 0, .string ⟨#[]⟩, .string ⟨#[]⟩]) ∧ Blk Z g1 9 #[.string ⟨#[105, 116, 101, 109]⟩, .string ⟨a1.toArray⟩, .string ⟨a2.toArray⟩, .string ⟨a3.toArray⟩, .string ⟨a4.toArray⟩, .string ⟨a5.toArray⟩, .string ⟨a6.toArray⟩, .string ⟨a7.toArray⟩]) zq) D zq → Mod (fun _ => False) zq zq' → (fun D zq => (D 9 = false → (fun Z => (D 7 = false → Blk Z g2 40 #[.string ⟨#[]⟩, .string ⟨#[]⟩, .int .i64 0, .string ⟨#[]⟩, .int .i64 0, .string ⟨#[]⟩, .string ⟨#[]⟩]) ∧ (D 7 = true → Blk Z g2 40 #[.string ⟨a1.toArray⟩, .string ⟨#[]⟩, .int .i64 0, .string ⟨#[]⟩, .int .i64 0, .string ⟨#[]⟩, .string ⟨#[]⟩])) zq) ∧ (fun Z => (D 9 = true → Blk Z g2 40 #[.string ⟨a1.toArray⟩, .string ⟨a2.toArray⟩, .int .i64 0, .string ⟨#[]⟩, .int .i64 0, .string ⟨#[]⟩, .string ⟨#[]⟩]) ∧ Blk Z g1 9 #[.string ⟨#[105, 116, 101, 109]⟩, .string ⟨a1.toArray⟩, .string ⟨a2.toArray⟩, .string ⟨a3.toArray⟩, .string ⟨a4.toArray⟩, .string ⟨a5.toArray⟩, .string ⟨a6.toArray⟩, .string ⟨a7.toArray⟩]) zq) (upd D zzi true) zq' from by intro D zzi zq zq' hi hh hm; (obtain ⟨hi, hi2⟩ := hi); refine ⟨fun hs => ?_, ?_⟩; (rw [upd_ne _ _ (Ne.symm hi)] at hs; have h := hh.1 hs; (refine ⟨fun h7 => (h.1 (by rwa [upd_ne _ _ (Ne.symm hi2)] at h7)).modp hm, fun h7 => (h.2 (by rwa [upd_ne _ _ (Ne.symm hi2)] at h7)).modp hm⟩)); (have h := hh.2; (refine ⟨?_, h.2.modp hm⟩; intro hs9; rw [upd_ne _ _ (Ne.symm hi)] at hs9; exact (h.1 hs9).modp hm)))
 refine wp_region_inv (by kernel_rfl) (by kernel_rfl) (InvF (R := Mod (fun _ => False)) [.is (.slice (some ⟨g1, 0, none⟩) 8 8),
   .is (.pointer (some ⟨g1, 1, none⟩)),
   .is (.string ⟨a1.toArray⟩),
   .is (.slice (some ⟨g1, 0, none⟩) 8 8),
   .is (.pointer (some ⟨g1, 2, none⟩)),
   .is (.string ⟨a2.toArray⟩),
   .is (.pointer (some ⟨g2, 0, none⟩)),
   .any,
   .is (.pointer (some ⟨g2, 1, none⟩)),
   .any]
   (PB w2 (· = g2) w2.heap.size (fun D zq => (D 9 = false → (fun Z => (D 7 = false → Blk Z g2 40 #[.string ⟨#[]⟩, .string ⟨#[]⟩, .int .i64 0, .string ⟨#[]⟩, .int .i64 0, .string ⟨#[]⟩, .string ⟨#[]⟩]) ∧ (D 7 = true → Blk Z g2 40 #[.string ⟨a1.toArray⟩, .string ⟨#[]⟩, .int .i64 0, .string ⟨#[]⟩, .int .i64 0, .string ⟨#[]⟩, .string ⟨#[]⟩])) zq) ∧ (fun Z => (D 9 = true → Blk Z g2 40 #[.string ⟨a1.toArray⟩, .string ⟨a2.toArray⟩, .int .i64 0, .string ⟨#[]⟩, .int .i64 0, .string ⟨#[]⟩, .string ⟨#[]⟩]) ∧ Blk Z g1 9 #[.string ⟨#[105, 116, 101, 109]⟩, .string ⟨a1.toArray⟩, .string ⟨a2.toArray⟩, .string ⟨a3.toArray⟩, .string ⟨a4.toArray⟩, .string ⟨a5.toArray⟩, .string ⟨a6.toArray⟩, .string ⟨a7.toArray⟩]) zq))) (InvF.start (PB.start (Mod.refl _ _) (Nat.le_refl _) (⟨fun _ => ⟨(fun _ => HZ2.out), (fun h => by cases h)⟩, ⟨(fun h => by cases h), HR2.out⟩⟩))) ?_ ?_
 ·refine .cons ?_ (.cons ?_ (.cons ?_ (.cons ?_ (.cons ?_ (.cons ?_ (.cons ?_ (.cons ?_ (.cons ?_ (.cons ?_ .nil)))))))))
  ·intro D V zw1 a hR hI K hK;obtain ⟨hM1, hB1, hG1⟩ := hI.1;obtain ⟨hGK, hG1⟩ := hG1;have ze5 := hR.frame.other (t := 5) (by kernel_rfl) rfl;rw [if_pos (by rfl)];go_simp;exact hK (.slice (some ⟨g1, 0, none⟩) 8 8) _ (hI.next hR (by kernel_rfl) (Mod.refl _ _) (PB.quiet hI.1 (Mod.refl _ _) (HGs.out D 0 zw1 zw1 (by omega) (hI.1).g (Mod.refl _ _))) (upd_same V 0 _))
  ·intro D V zw1 a hR hI K hK;obtain ⟨hM1, hB1, hG1⟩ := hI.1;obtain ⟨hGK, hG1⟩ := hG1;have zd0 := hR.pred 0 (by kernel_rfl);have zf0 : V 0 = .slice (some ⟨g1, 0, none⟩) 8 8 := hI.2 0 zd0 rfl;have ze29 := hR.frame.done (t := 29) (j := 0) (by kernel_rfl) hR.ok zd0;rw [if_pos (by rfl)];go_simp;exact hK (.pointer (some ⟨g1, 1, none⟩)) _ (hI.next hR (by kernel_rfl) (Mod.refl _ _) (PB.quiet hI.1 (Mod.refl _ _) (HGs.out D 1 zw1 zw1 (by omega) (hI.1).g (Mod.refl _ _))) (upd_same V 1 _))
  ·intro D V zw1 a hR hI K hK;obtain ⟨hM1, hB1, hG1⟩ := hI.1;obtain ⟨hGK, hG1⟩ := hG1;have zd1 := hR.pred 1 (by kernel_rfl);have zf1 : V 1 = .pointer (some ⟨g1, 1, none⟩) := hI.2 1 zd1 rfl;have ze30 := hR.frame.done (t := 30) (j := 1) (by kernel_rfl) hR.ok zd1;have zx0 := hG1.2.cell 0; have zx1 := hG1.2.cell 1; have zx2 := hG1.2.cell 2; have zx3 := hG1.2.cell 3; have zx4 := hG1.2.cell 4; have zx5 := hG1.2.cell 5; have zx6 := hG1.2.cell 6; have zx7 := hG1.2.cell 7;simp at zx0 zx1 zx2 zx3 zx4 zx5 zx6 zx7;rw [if_pos (by rfl)];go_simp;exact hK (.string ⟨a1.toArray⟩) _ (hI.next hR (by kernel_rfl) (Mod.refl _ _) (PB.quiet hI.1 (Mod.refl _ _) (HGs.out D 2 zw1 zw1 (by omega) (hI.1).g (Mod.refl _ _))) (upd_same V 2 _))
  ·intro D V zw1 a hR hI K hK;obtain ⟨hM1, hB1, hG1⟩ := hI.1;obtain ⟨hGK, hG1⟩ := hG1;have ze5 := hR.frame.other (t := 5) (by kernel_rfl) rfl;rw [if_pos (by rfl)];go_simp;exact hK (.slice (some ⟨g1, 0, none⟩) 8 8) _ (hI.next hR (by kernel_rfl) (Mod.refl _ _) (PB.quiet hI.1 (Mod.refl _ _) (HGs.out D 3 zw1 zw1 (by omega) (hI.1).g (Mod.refl _ _))) (upd_same V 3 _))
  ·intro D V zw1 a hR hI K hK;obtain ⟨hM1, hB1, hG1⟩ := hI.1;obtain ⟨hGK, hG1⟩ := hG1;have zd3 := hR.pred 3 (by kernel_rfl);have zf3 : V 3 = .slice (some ⟨g1, 0, none⟩) 8 8 := hI.2 3 zd3 rfl;have ze32 := hR.frame.done (t := 32) (j := 3) (by kernel_rfl) hR.ok zd3;rw [if_pos (by rfl)];go_simp;exact hK (.pointer (some ⟨g1, 2, none⟩)) _ (hI.next hR (by kernel_rfl) (Mod.refl _ _) (PB.quiet hI.1 (Mod.refl _ _) (HGs.out D 4 zw1 zw1 (by omega) (hI.1).g (Mod.refl _ _))) (upd_same V 4 _))
  ·intro D V zw1 a hR hI K hK;obtain ⟨hM1, hB1, hG1⟩ := hI.1;obtain ⟨hGK, hG1⟩ := hG1;have zd4 := hR.pred 4 (by kernel_rfl);have zf4 : V 4 = .pointer (some ⟨g1, 2, none⟩) := hI.2 4 zd4 rfl;have ze33 := hR.frame.done (t := 33) (j := 4) (by kernel_rfl) hR.ok zd4;have zx0 := hG1.2.cell 0; have zx1 := hG1.2.cell 1; have zx2 := hG1.2.cell 2; have zx3 := hG1.2.cell 3; have zx4 := hG1.2.cell 4; have zx5 := hG1.2.cell 5; have zx6 := hG1.2.cell 6; have zx7 := hG1.2.cell 7;simp at zx0 zx1 zx2 zx3 zx4 zx5 zx6 zx7;rw [if_pos (by rfl)];go_simp;exact hK (.string ⟨a2.toArray⟩) _ (hI.next hR (by kernel_rfl) (Mod.refl _ _) (PB.quiet hI.1 (Mod.refl _ _) (HGs.out D 5 zw1 zw1 (by omega) (hI.1).g (Mod.refl _ _))) (upd_same V 5 _))
  ·intro D V zw1 a hR hI K hK;obtain ⟨hM1, hB1, hG1⟩ := hI.1;obtain ⟨hGK, hG1⟩ := hG1;have ze2 := hR.frame.other (t := 2) (by kernel_rfl) rfl;rw [if_pos (by rfl)];go_simp;exact hK (.pointer (some ⟨g2, 0, none⟩)) _ (hI.next hR (by kernel_rfl) (Mod.refl _ _) (PB.quiet hI.1 (Mod.refl _ _) (HGs.out D 6 zw1 zw1 (by omega) (hI.1).g (Mod.refl _ _))) (upd_same V 6 _))
  ·intro D V zw1 a hR hI K hK;obtain ⟨hM1, hB1, hG1⟩ := hI.1;obtain ⟨hGK, hG1⟩ := hG1;have zd6 := hR.pred 6 (by kernel_rfl);have zf6 : V 6 = .pointer (some ⟨g2, 0, none⟩) := hI.2 6 zd6 rfl;have zd2 := hR.pred 2 (by kernel_rfl);have zf2 : V 2 = .string ⟨a1.toArray⟩ := hI.2 2 zd2 rfl;have ze35 := hR.frame.done (t := 35) (j := 6) (by kernel_rfl) hR.ok zd6;have ze31 := hR.frame.done (t := 31) (j := 2) (by kernel_rfl) hR.ok zd2;rw [if_pos (by rfl)];have hb := (hGK (hR.later 9 rfl (by kernel_rfl))).1 hR.not;have zx0 := hb.cell 0; have zy0 := hb.frozen 0;simp at zx0 zy0;go_simp;refine hK undef _ (InvF.last ⟨hM1.setCell (.inl rfl) _, (by simpa using hB1), ⟨fun _ => ⟨fun h7 => absurd h7 (by rw [upd_same]; decide), fun _ => hb.set 0 _⟩, fun h9 => absurd h9 (by rw [upd_ne _ _ (by decide), hR.later 9 rfl (by kernel_rfl)]; decide), hG1.2.far (by show g1 ≠ g2; omega) _⟩⟩ trivial ?_);intro k hk hDk hlv;have hkl := hR.lt k hDk;have hv := hI.2 k hDk (liveB_of hlv)
   match k, hk, hDk, hlv, hkl, hv with
   | 0, _, _, _, _, hv => exact hv
   | 1, _, _, _, _, hv => exact hv
   | 2, _, _, _, _, hv => exact hv
   | 3, _, _, _, _, hv => exact hv
   | 4, _, _, _, _, hv => exact hv
   | 5, _, _, _, _, hv => exact hv
   | 6, _, _, _, _, hv => exact hv
   | 7, hk, _, _, _, _ => exact absurd rfl hk
   | 8, _, _, _, _, hv => exact hv
   | 9, _, _, _, _, hv => exact hv
   | k + 10, _, _, _, hkl, _ => exact absurd hkl (by simp)
  ·intro D V zw1 a hR hI K hK;obtain ⟨hM1, hB1, hG1⟩ := hI.1;obtain ⟨hGK, hG1⟩ := hG1;have ze2 := hR.frame.other (t := 2) (by kernel_rfl) rfl;rw [if_pos (by rfl)];go_simp;exact hK (.pointer (some ⟨g2, 1, none⟩)) _ (hI.next hR (by kernel_rfl) (Mod.refl _ _) (PB.quiet hI.1 (Mod.refl _ _) (HGs.out D 8 zw1 zw1 (by omega) (hI.1).g (Mod.refl _ _))) (upd_same V 8 _))
  ·intro D V zw1 a hR hI K hK;obtain ⟨hM1, hB1, hG1⟩ := hI.1;obtain ⟨hGK, hG1⟩ := hG1;have zd8 := hR.pred 8 (by kernel_rfl);have zf8 : V 8 = .pointer (some ⟨g2, 1, none⟩) := hI.2 8 zd8 rfl;have zd5 := hR.pred 5 (by kernel_rfl);have zf5 : V 5 = .string ⟨a2.toArray⟩ := hI.2 5 zd5 rfl;have zd7 := hR.pred 7 (by kernel_rfl);have ze36 := hR.frame.done (t := 36) (j := 8) (by kernel_rfl) hR.ok zd8;have ze34 := hR.frame.done (t := 34) (j := 5) (by kernel_rfl) hR.ok zd5;rw [if_pos (by rfl)];have hb := (hGK hR.not).2 zd7;have zx1 := hb.cell 1; have zy1 := hb.frozen 1;simp at zx1 zy1;go_simp;refine hK undef _ (InvF.last ⟨hM1.setCell (.inl rfl) _, (by simpa using hB1), ⟨fun hs => absurd hs (by rw [upd_same]; decide), fun _ => hb.set 1 _, hG1.2.far (by show g1 ≠ g2; omega) _⟩⟩ trivial ?_);intro k hk hDk hlv;have hkl := hR.lt k hDk;have hv := hI.2 k hDk (liveB_of hlv)
   match k, hk, hDk, hlv, hkl, hv with
   | 0, _, _, _, _, hv => exact hv
   | 1, _, _, _, _, hv => exact hv
   | 2, _, _, _, _, hv => exact hv
   | 3, _, _, _, _, hv => exact hv
   | 4, _, _, _, _, hv => exact hv
   | 5, _, _, _, _, hv => exact hv
   | 6, _, _, _, _, hv => exact hv
   | 7, _, _, _, _, hv => exact hv
   | 8, _, _, _, _, hv => exact hv
   | 9, hk, _, _, _, _ => exact absurd rfl hk
   | k + 10, _, _, _, hkl, _ => exact absurd hkl (by simp)
 ·intro D V w3 hD hI;obtain ⟨hM1, hB1, hG1⟩ := hI.1;have hMx := hM1;clear hM1;have hBx := hB1;clear hB1;have hGx := And.intro (hG1.2.1 (hD 9 (by decide))) hG1.2.2;clear hG1;have zf0 : V 0 = .slice (some ⟨g1, 0, none⟩) 8 8 := hI.2 0 (hD 0 (by decide)) rfl;have zf1 : V 1 = .pointer (some ⟨g1, 1, none⟩) := hI.2 1 (hD 1 (by decide)) rfl;have zf2 : V 2 = .string ⟨a1.toArray⟩ := hI.2 2 (hD 2 (by decide)) rfl;have zf3 : V 3 = .slice (some ⟨g1, 0, none⟩) 8 8 := hI.2 3 (hD 3 (by decide)) rfl;have zf4 : V 4 = .pointer (some ⟨g1, 2, none⟩) := hI.2 4 (hD 4 (by decide)) rfl;have zf5 : V 5 = .string ⟨a2.toArray⟩ := hI.2 5 (hD 5 (by decide)) rfl;have zf6 : V 6 = .pointer (some ⟨g2, 0, none⟩) := hI.2 6 (hD 6 (by decide)) rfl;have zf8 : V 8 = .pointer (some ⟨g2, 1, none⟩) := hI.2 8 (hD 8 (by decide)) rfl;clear hI hD HGs;simp only [frAll, Act.put, List.setIfInBounds_toArray, List.set_cons_zero, List.set_cons_succ, Nat.zero_add, Nat.reduceAdd, zf0, zf1, zf2, zf3, zf4, zf5, zf6, zf8];clear zf0 zf1 zf2 zf3 zf4 zf5 zf6 zf8;clear V D;have HZ3 := Lib.hid hGx.1;have HR3 := Lib.hid hGx.2;have HP3 : Hid (Pure w w3) := Lib.hid (HP2.out.trans' hMx (fun i h hl => by omega));clear hGx hMx hBx HZ2 HR2 HP2 HZ1 HP1
  go_wp2_with fail
  go_loopg [6] 4 (fun gk i wr => ∃ j : Nat, 5 - j = gk ∧ 1 ≤ j ∧ j ≤ 5 ∧ i = .int .i64 (j : Int) ∧ Blk wr g2 40 #[.string ⟨a1.toArray⟩, .string ⟨a2.toArray⟩, .int .i64 (kndB a3 j), .string ⟨#[]⟩, .int .i64 0, .string ⟨#[]⟩, .string ⟨#[]⟩] ∧ Blk wr g1 9 #[.string ⟨#[105, 116, 101, 109]⟩, .string ⟨a1.toArray⟩, .string ⟨a2.toArray⟩, .string ⟨a3.toArray⟩, .string ⟨a4.toArray⟩, .string ⟨a5.toArray⟩, .string ⟨a6.toArray⟩, .string ⟨a7.toArray⟩] ∧ Pure w wr)
  case atStart => exact ⟨1, by omega, by omega, by omega, rfl, by have h := kndB_one a3; rw [h]; exact HZ3.out, HR3.out, HP3.out⟩
  case round =>
   clear HZ3 HR3 HP3;obtain ⟨j, rfl, hj1, hj5, rfl, hz, hr, hm⟩ := hrel;have HZ := Lib.hid hz;have HR := Lib.hid hr;have HM := Lib.hid hm;clear hz hr hm
   by_cases hj : j ≤ 4
   ·have hjj : ((j : Nat) : Int) ≤ 4 := by omega
    have HKS := Lib.hid (kndB_succ a3 hj1 hj);obtain ⟨kb, hkb⟩ : ∃ kb, kndB a3 j = kb := ⟨_, rfl⟩;obtain ⟨kb2, hkb2⟩ : ∃ kb2, kndB a3 (j + 1) = kb2 := ⟨_, rfl⟩;have HKB2 := Lib.hid hkb2;rw [hkb] at HKS HZ;rw [hkb2] at HKS;obtain ⟨kw, hkw⟩ : ∃ kw, kwS (j : Int) = kw := ⟨_, rfl⟩;have HKW := Lib.hid (fun W => kindWordH (j : Int) W);rw [hkw] at HKS HKW;clear hkb hkb2 hkw
    go_upto_region 8 with (fail)
    obtain ⟨eb, heb⟩ : ∃ eb, (kw == a3) = eb := ⟨_, rfl⟩;have HGs := Lib.hid (show ∀ (D : Nat → Bool) (zzi : Nat) (zq zq' : World), (fun _ zq => (fun Z => Blk Z g1 9 #[.string ⟨#[105, 116, 101, 109]⟩, .string ⟨a1.toArray⟩, .string ⟨a2.toArray⟩, .string ⟨a3.toArray⟩, .string ⟨a4.toArray⟩, .string ⟨a5.toArray⟩, .string ⟨a6.toArray⟩, .string ⟨a7.toArray⟩]) zq) D zq → Mod (fun _ => False) zq zq' → (fun _ zq => (fun Z => Blk Z g1 9 #[.string ⟨#[105, 116, 101, 109]⟩, .string ⟨a1.toArray⟩, .string ⟨a2.toArray⟩, .string ⟨a3.toArray⟩, .string ⟨a4.toArray⟩, .string ⟨a5.toArray⟩, .string ⟨a6.toArray⟩, .string ⟨a7.toArray⟩]) zq) (upd D zzi true) zq' from by intro D zzi zq zq' h hm; (exact h.modp hm))
    refine wp_region_inv (by kernel_rfl) (by kernel_rfl) (InvF (R := Mod (fun _ => False)) [.is (.int .i64 (j : Int)),
      .is (.string ⟨kw.toArray⟩),
      .is (.slice (some ⟨g1, 0, none⟩) 8 8),
      .is (.pointer (some ⟨g1, 3, none⟩)),
      .is (.string ⟨a3.toArray⟩),
      .is (.bool eb)]
      (PB wr (fun _ => False) wr.heap.size (fun _ zq => (fun Z => Blk Z g1 9 #[.string ⟨#[105, 116, 101, 109]⟩, .string ⟨a1.toArray⟩, .string ⟨a2.toArray⟩, .string ⟨a3.toArray⟩, .string ⟨a4.toArray⟩, .string ⟨a5.toArray⟩, .string ⟨a6.toArray⟩, .string ⟨a7.toArray⟩]) zq))) (InvF.start (PB.start (Mod.refl _ _) (Nat.le_refl _) (HR.out))) ?_ ?_
    ·refine .cons ?_ (.cons ?_ (.cons ?_ (.cons ?_ (.cons ?_ (.cons ?_ .nil)))))
     ·intro D V zw1 a hR hI K hK;obtain ⟨hM1, hB1, hG1⟩ := hI.1;have ze6 := hR.frame.other (t := 6) (by kernel_rfl) rfl;rw [if_pos (by rfl)];go_simp;exact hK (.int .i64 (j : Int)) _ (hI.next hR (by kernel_rfl) (Mod.refl _ _) (PB.quiet hI.1 (Mod.refl _ _) (HGs.out D 0 zw1 zw1 (hI.1).g (Mod.refl _ _))) (upd_same V 0 _))
     ·intro D V zw1 a hR hI K hK;obtain ⟨hM1, hB1, hG1⟩ := hI.1;have zd0 := hR.pred 0 (by kernel_rfl);have zf0 : V 0 = .int .i64 (j : Int) := hI.2 0 zd0 rfl;have ze41 := hR.frame.done (t := 41) (j := 0) (by kernel_rfl) hR.ok zd0;rw [if_pos (by rfl)];go_simp;refine (HKW.out zw1).mono ?_;rintro e zw2 ⟨rfl, hm2⟩;exact hK (.string ⟨kw.toArray⟩) _ (hI.next hR (by kernel_rfl) hm2 (PB.quiet hI.1 hm2 (HGs.out D 1 _ _ (hI.1).g hm2)) (upd_same V 1 _))
     ·intro D V zw1 a hR hI K hK;obtain ⟨hM1, hB1, hG1⟩ := hI.1;have ze5 := hR.frame.other (t := 5) (by kernel_rfl) rfl;rw [if_pos (by rfl)];go_simp;exact hK (.slice (some ⟨g1, 0, none⟩) 8 8) _ (hI.next hR (by kernel_rfl) (Mod.refl _ _) (PB.quiet hI.1 (Mod.refl _ _) (HGs.out D 2 zw1 zw1 (hI.1).g (Mod.refl _ _))) (upd_same V 2 _))
     ·intro D V zw1 a hR hI K hK;obtain ⟨hM1, hB1, hG1⟩ := hI.1;have zd2 := hR.pred 2 (by kernel_rfl);have zf2 : V 2 = .slice (some ⟨g1, 0, none⟩) 8 8 := hI.2 2 zd2 rfl;have ze43 := hR.frame.done (t := 43) (j := 2) (by kernel_rfl) hR.ok zd2;rw [if_pos (by rfl)];go_simp;exact hK (.pointer (some ⟨g1, 3, none⟩)) _ (hI.next hR (by kernel_rfl) (Mod.refl _ _) (PB.quiet hI.1 (Mod.refl _ _) (HGs.out D 3 zw1 zw1 (hI.1).g (Mod.refl _ _))) (upd_same V 3 _))
     ·intro D V zw1 a hR hI K hK;obtain ⟨hM1, hB1, hG1⟩ := hI.1;have zd3 := hR.pred 3 (by kernel_rfl);have zf3 : V 3 = .pointer (some ⟨g1, 3, none⟩) := hI.2 3 zd3 rfl;have ze44 := hR.frame.done (t := 44) (j := 3) (by kernel_rfl) hR.ok zd3;have zx0 := hG1.cell 0; have zx1 := hG1.cell 1; have zx2 := hG1.cell 2; have zx3 := hG1.cell 3; have zx4 := hG1.cell 4; have zx5 := hG1.cell 5; have zx6 := hG1.cell 6; have zx7 := hG1.cell 7;simp at zx0 zx1 zx2 zx3 zx4 zx5 zx6 zx7;rw [if_pos (by rfl)];go_simp;exact hK (.string ⟨a3.toArray⟩) _ (hI.next hR (by kernel_rfl) (Mod.refl _ _) (PB.quiet hI.1 (Mod.refl _ _) (HGs.out D 4 zw1 zw1 (hI.1).g (Mod.refl _ _))) (upd_same V 4 _))
     ·intro D V zw1 a hR hI K hK;obtain ⟨hM1, hB1, hG1⟩ := hI.1;have zd1 := hR.pred 1 (by kernel_rfl);have zf1 : V 1 = .string ⟨kw.toArray⟩ := hI.2 1 zd1 rfl;have zd4 := hR.pred 4 (by kernel_rfl);have zf4 : V 4 = .string ⟨a3.toArray⟩ := hI.2 4 zd4 rfl;have ze42 := hR.frame.done (t := 42) (j := 1) (by kernel_rfl) hR.ok zd1;have ze45 := hR.frame.done (t := 45) (j := 4) (by kernel_rfl) hR.ok zd4;rw [if_pos (by rfl)];go_simp;exact hK (.bool eb) _ (hI.next hR (by kernel_rfl) (Mod.refl _ _) (PB.quiet hI.1 (Mod.refl _ _) (HGs.out D 5 zw1 zw1 (hI.1).g (Mod.refl _ _))) (upd_same V 5 _))
    ·intro D V w5 hD hI;obtain ⟨hM1, hB1, hG1⟩ := hI.1;have hMx := hM1;clear hM1;have hBx := hB1;clear hB1;have hGx := hG1;clear hG1;have zf0 : V 0 = .int .i64 (j : Int) := hI.2 0 (hD 0 (by decide)) rfl;have zf1 : V 1 = .string ⟨kw.toArray⟩ := hI.2 1 (hD 1 (by decide)) rfl;have zf2 : V 2 = .slice (some ⟨g1, 0, none⟩) 8 8 := hI.2 2 (hD 2 (by decide)) rfl;have zf3 : V 3 = .pointer (some ⟨g1, 3, none⟩) := hI.2 3 (hD 3 (by decide)) rfl;have zf4 : V 4 = .string ⟨a3.toArray⟩ := hI.2 4 (hD 4 (by decide)) rfl;have zf5 : V 5 = .bool eb := hI.2 5 (hD 5 (by decide)) rfl;clear hI hD HGs;simp only [frAll, Act.put, List.setIfInBounds_toArray, List.set_cons_zero, List.set_cons_succ, Nat.zero_add, Nat.reduceAdd, zf0, zf1, zf2, zf3, zf4, zf5];clear zf0 zf1 zf2 zf3 zf4 zf5;clear V D;have HZ5 := Lib.hid (HZ.out.modp hMx);have HR5 := Lib.hid hGx;have HP5 : Hid (Pure w w5) := Lib.hid (HM.out.trans hMx);have HEB := Lib.hid heb;have hz := HZ5.out;have v2 := hz.cell 2;have v3 := hz.frozen 2;simp at v2;clear hGx hMx hBx HZ HR HM HKW heb hz
     cases eb
     ·have hk2 : kb2 = kb := by rw [HKS.out, HEB.out]; rfl
      go_wp2_with fail
      go_roundg (5 - (j + 1))
      case measure => omega
      case rel => exact ⟨j + 1, rfl, by omega, by omega, rfl, by rw [HKB2.out, hk2]; exact HZ5.out, HR5.out, HP5.out⟩
     ·have hk2 : kb2 = (j : Int) := by rw [HKS.out, HEB.out]; rfl
      go_wp2_with fail
      go_roundg (5 - (j + 1))
      case measure => omega
      case rel => exact ⟨j + 1, rfl, by omega, by omega, rfl, by rw [HKB2.out, hk2]; exact HZ5.out.set 2 _, HR5.out.far (by show g1 ≠ g2; omega) _, HP5.out.setCell (.inr (by show w.heap.size ≤ g2; omega)) _⟩
   ·obtain rfl : j = 5 := by omega
    have hr := HR.out;have r0 := hr.cell 0; have r1 := hr.cell 1; have r2 := hr.cell 2; have r3 := hr.cell 3; have r4 := hr.cell 4; have r5 := hr.cell 5; have r6 := hr.cell 6; have r7 := hr.cell 7; simp at r0 r1 r2 r3 r4 r5 r6 r7;have HNA := Lib.hid (number_calls wr a4 9 (by omega) (by have := HWL.out a4 (by simp); omega));rw [kndB_five] at HZ;clear hr hj
    go_wp2_with fail
    refine HNA.out.mono ?_;rintro e w4 ⟨at_, rfl, hat, hat1, hat2, hm4⟩
    have HAT := Lib.hid hat
    have HZ4 := Lib.hid (HZ.out.modp hm4);have HR4 := Lib.hid (HR.out.modp hm4);have HP4 : Hid (Pure w w4) := Lib.hid (HM.out.trans hm4);have HNU := Lib.hid (Unquote_calls w4 a6 (HWL.out a6 (by simp)) (HER.out _ HP4.out));have hr := HR4.out;clear r0 r1 r2 r3 r4 r5 r6 r7 hat hm4 HNA HZ HR HM;have r0 := hr.cell 0; have r1 := hr.cell 1; have r2 := hr.cell 2; have r3 := hr.cell 3; have r4 := hr.cell 4; have r5 := hr.cell 5; have r6 := hr.cell 6; have r7 := hr.cell 7; simp at r0 r1 r2 r3 r4 r5 r6 r7;clear hr
    go_wp2_with fail
    refine HNU.out.mono ?_;rintro e w5 ⟨hun, hm5⟩
    obtain ⟨nm, nn, er, rfl, hue⟩ : ∃ (nm : Str) (nn er : Int), e = .returned (.tuple #[.string ⟨nm.toArray⟩, .int .i64 nn, .int .i64 er]) ∧ ((unqS a6 = none ∧ er = 9) ∨ ∃ k : Nat, unqS a6 = some (nm, k) ∧ nn = (k : Int) ∧ er = 0) := by
     rcases hun with ⟨h1, h2⟩ | ⟨out, k, h1, h2⟩
     ·exact ⟨[], 0, 9, h2, .inl ⟨h1, rfl⟩⟩
     ·exact ⟨out, k, 0, h2, .inr ⟨k, h1, rfl, rfl⟩⟩
    have HUE := Lib.hid hue;have HZ5 := Lib.hid (HZ4.out.modp hm5);have HR5 := Lib.hid (HR4.out.modp hm5);have HP5 : Hid (Pure w w5) := Lib.hid (HP4.out.trans hm5);have HNN := Lib.hid (natural_calls w5 a7 9 (by omega) (by have := HWL.out a7 (by simp); omega));have hr := HR5.out;clear r0 r1 r2 r3 r4 r5 r6 r7 hun hue hm5 HNU HZ4 HR4 HP4;have r0 := hr.cell 0; have r1 := hr.cell 1; have r2 := hr.cell 2; have r3 := hr.cell 3; have r4 := hr.cell 4; have r5 := hr.cell 5; have r6 := hr.cell 6; have r7 := hr.cell 7; simp at r0 r1 r2 r3 r4 r5 r6 r7;clear hr
    go_wp2_with fail
    refine HNN.out.mono ?_;rintro e w6 ⟨nv, rfl, hnv, hnv1, hnv2, hm6⟩;have HNV := Lib.hid hnv;obtain ⟨ob, hob⟩ : ∃ ob, (numQ 9 a4).isSome = ob := ⟨_, rfl⟩;obtain ⟨nb, hnb⟩ : ∃ nb, ((numQ 9 a7).isSome && decide (0 ≤ nv)) = nb := ⟨_, rfl⟩;obtain ⟨kb, hkb⟩ : ∃ kb, kndI a3 = kb := ⟨_, rfl⟩;rw [hob, hnb];rw [hkb] at HZ5;have HOB := Lib.hid hob;have HNB := Lib.hid hnb;have HKB := Lib.hid hkb;have hz := HZ5.out.modp hm6;have HZ6 := Lib.hid hz;have HR6 := Lib.hid (HR5.out.modp hm6);have HP6 : Hid (Pure w w6) := Lib.hid (HP5.out.trans hm6);have hr := HR6.out;clear r0 r1 r2 r3 r4 r5 r6 r7 hnv hm6 HNN HZ5 HR5 HP5 hob hnb hkb;have r0 := hr.cell 0; have r1 := hr.cell 1; have r2 := hr.cell 2; have r3 := hr.cell 3; have r4 := hr.cell 4; have r5 := hr.cell 5; have r6 := hr.cell 6; have r7 := hr.cell 7; simp at r0 r1 r2 r3 r4 r5 r6 r7;have z0 := hz.cell 0; have zf0 := hz.frozen 0; have z1 := hz.cell 1; have zf1 := hz.frozen 1; have z2 := hz.cell 2; have zf2 := hz.frozen 2; have z3 := hz.cell 3; have zf3 := hz.frozen 3; have z4 := hz.cell 4; have zf4 := hz.frozen 4; have z5 := hz.cell 5; have zf5 := hz.frozen 5; have z6 := hz.cell 6; have zf6 := hz.frozen 6; simp at z0 z1 z2 z3 z4 z5 z6;clear hr hz;obtain ⟨pv, hpv⟩ : ∃ pv : Str, (if a5 = [45] then [] else a5) = pv := ⟨_, rfl⟩;have HPV := Lib.hid hpv;obtain ⟨pb, hpb⟩ : ∃ pb, (a5 == [45]) = pb := ⟨_, rfl⟩
    go_upto_if 78 with (fail)
    go_cut [] from 75 to 82 (fun wx => Blk wx g2 40 #[.string ⟨a1.toArray⟩, .string ⟨a2.toArray⟩, .int .i64 kb, .string ⟨nm.toArray⟩, .int .i64 at_, .string ⟨pv.toArray⟩, .string ⟨#[]⟩] ∧ Blk wx g1 9 #[.string ⟨#[105, 116, 101, 109]⟩, .string ⟨a1.toArray⟩, .string ⟨a2.toArray⟩, .string ⟨a3.toArray⟩, .string ⟨a4.toArray⟩, .string ⟨a5.toArray⟩, .string ⟨a6.toArray⟩, .string ⟨a7.toArray⟩] ∧ Pure w wx)
    case first =>
     have hzz := (HZ6.out.set 4 (.int .i64 at_)).set 3 (.string ⟨nm.toArray⟩);have hrr := (HR6.out.far (p := ⟨g2, 4, none⟩) (by show g1 ≠ g2; omega) (.int .i64 at_)).far (p := ⟨g2, 3, none⟩) (by show g1 ≠ g2; omega) (.string ⟨nm.toArray⟩);have hpp := (HP6.out.setCell (p := ⟨g2, 4, none⟩) (.inr (by show w.heap.size ≤ g2; omega)) (.int .i64 at_)).setCell (p := ⟨g2, 3, none⟩) (.inr (by show w.heap.size ≤ g2; omega)) (.string ⟨nm.toArray⟩);have HZZ := Lib.hid hzz;have HRR := Lib.hid hrr;have HPP := Lib.hid hpp;clear hzz hrr hpp
     cases pb
     ·have hp : ¬ a5 = [45] := by simpa using hpb
      have hpv0 : pv = a5 := by rw [← hpv, if_neg hp]
      subst hpv0;clear hp hpv hpb
      go_wp2_with fail
      go_meet;exact ⟨HZZ.out.set 5 _, HRR.out.far (by show g1 ≠ g2; omega) _, HPP.out.setCell (.inr (by show w.heap.size ≤ g2; omega)) _⟩
     ·have hp : a5 = [45] := by simpa using hpb
      have hpv0 : pv = [] := by rw [← hpv, if_pos hp]
      subst hpv0;clear hp hpv hpb
      go_wp2_with fail
      go_meet;exact ⟨HZZ.out, HRR.out, HPP.out⟩
    case rest =>
     obtain ⟨hz7, hr7, hp7⟩ := hcut;have HZ7 := Lib.hid hz7;have HR7 := Lib.hid hr7;have HP7 : Hid (Pure w wc) := Lib.hid hp7;clear hz7 hr7 hp7 HZ6 HR6 HP6 z0 z1 z2 z3 z4 z5 z6 r0 r1 r2 r3 r4 r5 r6 r7
     go_upto_region 16 with (fail)
     by_cases hk0 : 0 < kb
     rotate_left
     ·have hk1 : ¬ (0 : Int) < kb := hk0;have HN : Hid (hdP l = none) := Lib.hid (by rw [HH4.out]; exact hdF_k (by rw [HKB.out]; have := kndI_le a3; rw [HKB.out] at this; omega));have HGs := Lib.hid (show ∀ (D : Nat → Bool) (zzi : Nat) (zq zq' : World), (fun _ zq => (fun Z => Blk Z g2 40 #[.string ⟨a1.toArray⟩, .string ⟨a2.toArray⟩, .int .i64 kb, .string ⟨nm.toArray⟩, .int .i64 at_, .string ⟨pv.toArray⟩, .string ⟨#[]⟩] ∧ Blk Z g1 9 #[.string ⟨#[105, 116, 101, 109]⟩, .string ⟨a1.toArray⟩, .string ⟨a2.toArray⟩, .string ⟨a3.toArray⟩, .string ⟨a4.toArray⟩, .string ⟨a5.toArray⟩, .string ⟨a6.toArray⟩, .string ⟨a7.toArray⟩]) zq) D zq → Mod (fun _ => False) zq zq' → (fun _ zq => (fun Z => Blk Z g2 40 #[.string ⟨a1.toArray⟩, .string ⟨a2.toArray⟩, .int .i64 kb, .string ⟨nm.toArray⟩, .int .i64 at_, .string ⟨pv.toArray⟩, .string ⟨#[]⟩] ∧ Blk Z g1 9 #[.string ⟨#[105, 116, 101, 109]⟩, .string ⟨a1.toArray⟩, .string ⟨a2.toArray⟩, .string ⟨a3.toArray⟩, .string ⟨a4.toArray⟩, .string ⟨a5.toArray⟩, .string ⟨a6.toArray⟩, .string ⟨a7.toArray⟩]) zq) (upd D zzi true) zq' from by intro D zzi zq zq' h hm; (exact ⟨h.1.modp hm, h.2.modp hm⟩))
      refine wp_region_inv (by kernel_rfl) (by kernel_rfl) (InvF (R := Mod (fun _ => False)) [.is (.agg #[.string ⟨a1.toArray⟩, .string ⟨a2.toArray⟩, .int .i64 kb, .string ⟨nm.toArray⟩, .int .i64 at_, .string ⟨pv.toArray⟩, .string ⟨#[]⟩]),
        .is (.int .i64 nv),
        .is (.pointer (some ⟨g2, 2, none⟩)),
        .is (.int .i64 kb),
        .is (.bool false),
        .is (.bool false),
        .is (undef),
        .is (.bool false),
        .is (.bool false),
        .is (undef),
        .is (.bool false),
        .is (.bool false),
        .is (undef),
        .is (undef),
        .is (.bool false),
        .is (.bool false),
        .is (undef),
        .is (undef),
        .is (undef),
        .is (undef),
        .is (undef),
        .is (undef),
        .is (.bool false),
        .any,
        .is (.int .i64 nv),
        .is (.bool false)]
        (PB wc (fun _ => False) wc.heap.size (fun _ zq => (fun Z => Blk Z g2 40 #[.string ⟨a1.toArray⟩, .string ⟨a2.toArray⟩, .int .i64 kb, .string ⟨nm.toArray⟩, .int .i64 at_, .string ⟨pv.toArray⟩, .string ⟨#[]⟩] ∧ Blk Z g1 9 #[.string ⟨#[105, 116, 101, 109]⟩, .string ⟨a1.toArray⟩, .string ⟨a2.toArray⟩, .string ⟨a3.toArray⟩, .string ⟨a4.toArray⟩, .string ⟨a5.toArray⟩, .string ⟨a6.toArray⟩, .string ⟨a7.toArray⟩]) zq))) (InvF.start (PB.start (Mod.refl _ _) (Nat.le_refl _) (⟨HZ7.out, HR7.out⟩))) ?_ ?_
      ·refine .cons ?_ (.cons ?_ (.cons ?_ (.cons ?_ (.cons ?_ (.cons ?_ (.cons ?_ (.cons ?_ (.cons ?_ (.cons ?_ (.cons ?_ (.cons ?_ (.cons ?_ (.cons ?_ (.cons ?_ (.cons ?_ (.cons ?_ (.cons ?_ (.cons ?_ (.cons ?_ (.cons ?_ (.cons ?_ (.cons ?_ (.cons ?_ (.cons ?_ (.cons ?_ .nil)))))))))))))))))))))))))
       ·intro D V zw1 a hR hI K hK;obtain ⟨hM1, hB1, hG1⟩ := hI.1;have ze2 := hR.frame.other (t := 2) (by kernel_rfl) rfl;have zx0 := hG1.1.cell 0; have zx1 := hG1.1.cell 1; have zx2 := hG1.1.cell 2; have zx3 := hG1.1.cell 3; have zx4 := hG1.1.cell 4; have zx5 := hG1.1.cell 5; have zx6 := hG1.1.cell 6;simp at zx0 zx1 zx2 zx3 zx4 zx5 zx6;rw [if_pos (by rfl)];go_simp;exact hK (.agg #[.string ⟨a1.toArray⟩, .string ⟨a2.toArray⟩, .int .i64 kb, .string ⟨nm.toArray⟩, .int .i64 at_, .string ⟨pv.toArray⟩, .string ⟨#[]⟩]) _ (hI.next hR (by kernel_rfl) (Mod.refl _ _) (PB.quiet hI.1 (Mod.refl _ _) (HGs.out D 0 zw1 zw1 (hI.1).g (Mod.refl _ _))) (upd_same V 0 _))
       ·intro D V zw1 a hR hI K hK;obtain ⟨hM1, hB1, hG1⟩ := hI.1;have ze3 := hR.frame.undone (t := 3) (j := 24) (by kernel_rfl) (hR.later 24 rfl (by kernel_rfl)) rfl;rw [if_pos (by rfl)];go_simp;exact hK (.int .i64 nv) _ (hI.next hR (by kernel_rfl) (Mod.refl _ _) (PB.quiet hI.1 (Mod.refl _ _) (HGs.out D 1 zw1 zw1 (hI.1).g (Mod.refl _ _))) (upd_same V 1 _))
       ·intro D V zw1 a hR hI K hK;obtain ⟨hM1, hB1, hG1⟩ := hI.1;have ze2 := hR.frame.other (t := 2) (by kernel_rfl) rfl;rw [if_pos (by rfl)];go_simp;exact hK (.pointer (some ⟨g2, 2, none⟩)) _ (hI.next hR (by kernel_rfl) (Mod.refl _ _) (PB.quiet hI.1 (Mod.refl _ _) (HGs.out D 2 zw1 zw1 (hI.1).g (Mod.refl _ _))) (upd_same V 2 _))
       ·intro D V zw1 a hR hI K hK;obtain ⟨hM1, hB1, hG1⟩ := hI.1;have zd2 := hR.pred 2 (by kernel_rfl);have zf2 : V 2 = .pointer (some ⟨g2, 2, none⟩) := hI.2 2 zd2 rfl;have ze85 := hR.frame.done (t := 85) (j := 2) (by kernel_rfl) hR.ok zd2;have zx0 := hG1.1.cell 0; have zx1 := hG1.1.cell 1; have zx2 := hG1.1.cell 2; have zx3 := hG1.1.cell 3; have zx4 := hG1.1.cell 4; have zx5 := hG1.1.cell 5; have zx6 := hG1.1.cell 6;simp at zx0 zx1 zx2 zx3 zx4 zx5 zx6;rw [if_pos (by rfl)];go_simp;exact hK (.int .i64 kb) _ (hI.next hR (by kernel_rfl) (Mod.refl _ _) (PB.quiet hI.1 (Mod.refl _ _) (HGs.out D 3 zw1 zw1 (hI.1).g (Mod.refl _ _))) (upd_same V 3 _))
       ·intro D V zw1 a hR hI K hK;obtain ⟨hM1, hB1, hG1⟩ := hI.1;have zd3 := hR.pred 3 (by kernel_rfl);have zf3 : V 3 = .int .i64 kb := hI.2 3 zd3 rfl;have ze86 := hR.frame.done (t := 86) (j := 3) (by kernel_rfl) hR.ok zd3;rw [if_pos (by rfl)];go_simp;exact hK (.bool false) _ (hI.next hR (by kernel_rfl) (Mod.refl _ _) (PB.quiet hI.1 (Mod.refl _ _) (HGs.out D 4 zw1 zw1 (hI.1).g (Mod.refl _ _))) (upd_same V 4 _))
       ·intro D V zw1 a hR hI K hK;obtain ⟨hM1, hB1, hG1⟩ := hI.1;have zd4 := hR.pred 4 (by kernel_rfl);have zf4 : V 4 = .bool false := hI.2 4 zd4 rfl;have ze87 := hR.frame.done (t := 87) (j := 4) (by kernel_rfl) hR.ok zd4;rw [if_pos (by rfl)];go_simp;exact hK (.bool false) _ (hI.next hR (by kernel_rfl) (Mod.refl _ _) (PB.quiet hI.1 (Mod.refl _ _) (HGs.out D 5 zw1 zw1 (hI.1).g (Mod.refl _ _))) (upd_same V 5 _))
       ·intro D V zw1 a hR hI K hK;obtain ⟨hM1, hB1, hG1⟩ := hI.1;have zd5 := hR.pred 5 (by kernel_rfl);have zf5 : V 5 = .bool false := hI.2 5 zd5 rfl;have ze88 := hR.frame.done (t := 88) (j := 5) (by kernel_rfl) hR.ok zd5;rw [if_neg (by simp [Region.wanted, yielded, ze88, zf5])];exact hK undef _ (hI.next hR (by kernel_rfl) (Mod.refl _ _) (PB.quiet hI.1 (Mod.refl _ _) (HGs.out D 6 zw1 zw1 (hI.1).g (Mod.refl _ _))) (upd_same V 6 _))
       ·intro D V zw1 a hR hI K hK;obtain ⟨hM1, hB1, hG1⟩ := hI.1;have zd5 := hR.pred 5 (by kernel_rfl);have zf5 : V 5 = .bool false := hI.2 5 zd5 rfl;have zd6 := hR.pred 6 (by kernel_rfl);have zf6 : V 6 = undef := hI.2 6 zd6 rfl;have ze88 := hR.frame.done (t := 88) (j := 5) (by kernel_rfl) hR.ok zd5;have ze89 := hR.frame.done (t := 89) (j := 6) (by kernel_rfl) hR.ok zd6;rw [if_pos (by rfl)];go_simp;exact hK (.bool false) _ (hI.next hR (by kernel_rfl) (Mod.refl _ _) (PB.quiet hI.1 (Mod.refl _ _) (HGs.out D 7 zw1 zw1 (hI.1).g (Mod.refl _ _))) (upd_same V 7 _))
       ·intro D V zw1 a hR hI K hK;obtain ⟨hM1, hB1, hG1⟩ := hI.1;have zd7 := hR.pred 7 (by kernel_rfl);have zf7 : V 7 = .bool false := hI.2 7 zd7 rfl;have ze90 := hR.frame.done (t := 90) (j := 7) (by kernel_rfl) hR.ok zd7;rw [if_pos (by rfl)];go_simp;exact hK (.bool false) _ (hI.next hR (by kernel_rfl) (Mod.refl _ _) (PB.quiet hI.1 (Mod.refl _ _) (HGs.out D 8 zw1 zw1 (hI.1).g (Mod.refl _ _))) (upd_same V 8 _))
       ·intro D V zw1 a hR hI K hK;obtain ⟨hM1, hB1, hG1⟩ := hI.1;have zd8 := hR.pred 8 (by kernel_rfl);have zf8 : V 8 = .bool false := hI.2 8 zd8 rfl;have ze91 := hR.frame.done (t := 91) (j := 8) (by kernel_rfl) hR.ok zd8;rw [if_neg (by simp [Region.wanted, yielded, ze91, zf8])];exact hK undef _ (hI.next hR (by kernel_rfl) (Mod.refl _ _) (PB.quiet hI.1 (Mod.refl _ _) (HGs.out D 9 zw1 zw1 (hI.1).g (Mod.refl _ _))) (upd_same V 9 _))
       ·intro D V zw1 a hR hI K hK;obtain ⟨hM1, hB1, hG1⟩ := hI.1;have zd8 := hR.pred 8 (by kernel_rfl);have zf8 : V 8 = .bool false := hI.2 8 zd8 rfl;have zd9 := hR.pred 9 (by kernel_rfl);have zf9 : V 9 = undef := hI.2 9 zd9 rfl;have ze91 := hR.frame.done (t := 91) (j := 8) (by kernel_rfl) hR.ok zd8;have ze92 := hR.frame.done (t := 92) (j := 9) (by kernel_rfl) hR.ok zd9;rw [if_pos (by rfl)];go_simp;exact hK (.bool false) _ (hI.next hR (by kernel_rfl) (Mod.refl _ _) (PB.quiet hI.1 (Mod.refl _ _) (HGs.out D 10 zw1 zw1 (hI.1).g (Mod.refl _ _))) (upd_same V 10 _))
       ·intro D V zw1 a hR hI K hK;obtain ⟨hM1, hB1, hG1⟩ := hI.1;have zd10 := hR.pred 10 (by kernel_rfl);have zf10 : V 10 = .bool false := hI.2 10 zd10 rfl;have ze93 := hR.frame.done (t := 93) (j := 10) (by kernel_rfl) hR.ok zd10;rw [if_pos (by rfl)];go_simp;exact hK (.bool false) _ (hI.next hR (by kernel_rfl) (Mod.refl _ _) (PB.quiet hI.1 (Mod.refl _ _) (HGs.out D 11 zw1 zw1 (hI.1).g (Mod.refl _ _))) (upd_same V 11 _))
       ·intro D V zw1 a hR hI K hK;obtain ⟨hM1, hB1, hG1⟩ := hI.1;have zd11 := hR.pred 11 (by kernel_rfl);have zf11 : V 11 = .bool false := hI.2 11 zd11 rfl;have ze94 := hR.frame.done (t := 94) (j := 11) (by kernel_rfl) hR.ok zd11;rw [if_neg (by simp [Region.wanted, yielded, ze94, zf11])];exact hK undef _ (hI.next hR (by kernel_rfl) (Mod.refl _ _) (PB.quiet hI.1 (Mod.refl _ _) (HGs.out D 12 zw1 zw1 (hI.1).g (Mod.refl _ _))) (upd_same V 12 _))
       ·intro D V zw1 a hR hI K hK;obtain ⟨hM1, hB1, hG1⟩ := hI.1;have zd11 := hR.pred 11 (by kernel_rfl);have zf11 : V 11 = .bool false := hI.2 11 zd11 rfl;have ze94 := hR.frame.done (t := 94) (j := 11) (by kernel_rfl) hR.ok zd11;rw [if_neg (by simp [Region.wanted, yielded, ze94, zf11])];exact hK undef _ (hI.next hR (by kernel_rfl) (Mod.refl _ _) (PB.quiet hI.1 (Mod.refl _ _) (HGs.out D 13 zw1 zw1 (hI.1).g (Mod.refl _ _))) (upd_same V 13 _))
       ·intro D V zw1 a hR hI K hK;obtain ⟨hM1, hB1, hG1⟩ := hI.1;have zd11 := hR.pred 11 (by kernel_rfl);have zf11 : V 11 = .bool false := hI.2 11 zd11 rfl;have zd13 := hR.pred 13 (by kernel_rfl);have zf13 : V 13 = undef := hI.2 13 zd13 rfl;have ze94 := hR.frame.done (t := 94) (j := 11) (by kernel_rfl) hR.ok zd11;have ze96 := hR.frame.done (t := 96) (j := 13) (by kernel_rfl) hR.ok zd13;rw [if_pos (by rfl)];go_simp;exact hK (.bool false) _ (hI.next hR (by kernel_rfl) (Mod.refl _ _) (PB.quiet hI.1 (Mod.refl _ _) (HGs.out D 14 zw1 zw1 (hI.1).g (Mod.refl _ _))) (upd_same V 14 _))
       ·intro D V zw1 a hR hI K hK;obtain ⟨hM1, hB1, hG1⟩ := hI.1;have zd14 := hR.pred 14 (by kernel_rfl);have zf14 : V 14 = .bool false := hI.2 14 zd14 rfl;have ze97 := hR.frame.done (t := 97) (j := 14) (by kernel_rfl) hR.ok zd14;rw [if_pos (by rfl)];go_simp;exact hK (.bool false) _ (hI.next hR (by kernel_rfl) (Mod.refl _ _) (PB.quiet hI.1 (Mod.refl _ _) (HGs.out D 15 zw1 zw1 (hI.1).g (Mod.refl _ _))) (upd_same V 15 _))
       ·intro D V zw1 a hR hI K hK;obtain ⟨hM1, hB1, hG1⟩ := hI.1;have zd15 := hR.pred 15 (by kernel_rfl);have zf15 : V 15 = .bool false := hI.2 15 zd15 rfl;have ze98 := hR.frame.done (t := 98) (j := 15) (by kernel_rfl) hR.ok zd15;rw [if_neg (by simp [Region.wanted, yielded, ze98, zf15])];exact hK undef _ (hI.next hR (by kernel_rfl) (Mod.refl _ _) (PB.quiet hI.1 (Mod.refl _ _) (HGs.out D 16 zw1 zw1 (hI.1).g (Mod.refl _ _))) (upd_same V 16 _))
       ·intro D V zw1 a hR hI K hK;obtain ⟨hM1, hB1, hG1⟩ := hI.1;have zd15 := hR.pred 15 (by kernel_rfl);have zf15 : V 15 = .bool false := hI.2 15 zd15 rfl;have ze98 := hR.frame.done (t := 98) (j := 15) (by kernel_rfl) hR.ok zd15;rw [if_neg (by simp [Region.wanted, yielded, ze98, zf15])];exact hK undef _ (hI.next hR (by kernel_rfl) (Mod.refl _ _) (PB.quiet hI.1 (Mod.refl _ _) (HGs.out D 17 zw1 zw1 (hI.1).g (Mod.refl _ _))) (upd_same V 17 _))
       ·intro D V zw1 a hR hI K hK;obtain ⟨hM1, hB1, hG1⟩ := hI.1;have zd15 := hR.pred 15 (by kernel_rfl);have zf15 : V 15 = .bool false := hI.2 15 zd15 rfl;have ze98 := hR.frame.done (t := 98) (j := 15) (by kernel_rfl) hR.ok zd15;rw [if_neg (by simp [Region.wanted, yielded, ze98, zf15])];exact hK undef _ (hI.next hR (by kernel_rfl) (Mod.refl _ _) (PB.quiet hI.1 (Mod.refl _ _) (HGs.out D 18 zw1 zw1 (hI.1).g (Mod.refl _ _))) (upd_same V 18 _))
       ·intro D V zw1 a hR hI K hK;obtain ⟨hM1, hB1, hG1⟩ := hI.1;have zd15 := hR.pred 15 (by kernel_rfl);have zf15 : V 15 = .bool false := hI.2 15 zd15 rfl;have ze98 := hR.frame.done (t := 98) (j := 15) (by kernel_rfl) hR.ok zd15;rw [if_neg (by simp [Region.wanted, yielded, ze98, zf15])];exact hK undef _ (hI.next hR (by kernel_rfl) (Mod.refl _ _) (PB.quiet hI.1 (Mod.refl _ _) (HGs.out D 19 zw1 zw1 (hI.1).g (Mod.refl _ _))) (upd_same V 19 _))
       ·intro D V zw1 a hR hI K hK;obtain ⟨hM1, hB1, hG1⟩ := hI.1;have zd15 := hR.pred 15 (by kernel_rfl);have zf15 : V 15 = .bool false := hI.2 15 zd15 rfl;have ze98 := hR.frame.done (t := 98) (j := 15) (by kernel_rfl) hR.ok zd15;rw [if_neg (by simp [Region.wanted, yielded, ze98, zf15])];exact hK undef _ (hI.next hR (by kernel_rfl) (Mod.refl _ _) (PB.quiet hI.1 (Mod.refl _ _) (HGs.out D 20 zw1 zw1 (hI.1).g (Mod.refl _ _))) (upd_same V 20 _))
       ·intro D V zw1 a hR hI K hK;obtain ⟨hM1, hB1, hG1⟩ := hI.1;have zd15 := hR.pred 15 (by kernel_rfl);have zf15 : V 15 = .bool false := hI.2 15 zd15 rfl;have ze98 := hR.frame.done (t := 98) (j := 15) (by kernel_rfl) hR.ok zd15;rw [if_neg (by simp [Region.wanted, yielded, ze98, zf15])];exact hK undef _ (hI.next hR (by kernel_rfl) (Mod.refl _ _) (PB.quiet hI.1 (Mod.refl _ _) (HGs.out D 21 zw1 zw1 (hI.1).g (Mod.refl _ _))) (upd_same V 21 _))
       ·intro D V zw1 a hR hI K hK;obtain ⟨hM1, hB1, hG1⟩ := hI.1;have zd15 := hR.pred 15 (by kernel_rfl);have zf15 : V 15 = .bool false := hI.2 15 zd15 rfl;have zd21 := hR.pred 21 (by kernel_rfl);have zf21 : V 21 = undef := hI.2 21 zd21 rfl;have ze98 := hR.frame.done (t := 98) (j := 15) (by kernel_rfl) hR.ok zd15;have ze104 := hR.frame.done (t := 104) (j := 21) (by kernel_rfl) hR.ok zd21;rw [if_pos (by rfl)];go_simp;exact hK (.bool false) _ (hI.next hR (by kernel_rfl) (Mod.refl _ _) (PB.quiet hI.1 (Mod.refl _ _) (HGs.out D 22 zw1 zw1 (hI.1).g (Mod.refl _ _))) (upd_same V 22 _))
       ·intro D V zw1 a hR hI K hK;obtain ⟨hM1, hB1, hG1⟩ := hI.1;have zd0 := hR.pred 0 (by kernel_rfl);have zf0 : V 0 = .agg #[.string ⟨a1.toArray⟩, .string ⟨a2.toArray⟩, .int .i64 kb, .string ⟨nm.toArray⟩, .int .i64 at_, .string ⟨pv.toArray⟩, .string ⟨#[]⟩] := hI.2 0 zd0 rfl;have ze2 := hR.frame.other (t := 2) (by kernel_rfl) rfl;have ze83 := hR.frame.done (t := 83) (j := 0) (by kernel_rfl) hR.ok zd0;rw [if_pos (by rfl)];have zx0 := hG1.1.cell 0; have zy0 := hG1.1.frozen 0;have zx1 := hG1.1.cell 1; have zy1 := hG1.1.frozen 1;have zx2 := hG1.1.cell 2; have zy2 := hG1.1.frozen 2;have zx3 := hG1.1.cell 3; have zy3 := hG1.1.frozen 3;have zx4 := hG1.1.cell 4; have zy4 := hG1.1.frozen 4;have zx5 := hG1.1.cell 5; have zy5 := hG1.1.frozen 5;have zx6 := hG1.1.cell 6; have zy6 := hG1.1.frozen 6;simp at zx0 zx1 zx2 zx3 zx4 zx5 zx6;go_simp;rw [setCell_same7 hG1.1];exact hK undef _ (hI.next hR (by kernel_rfl) (Mod.refl _ _) (PB.quiet hI.1 (Mod.refl _ _) (HGs.out D 23 zw1 zw1 (hI.1).g (Mod.refl _ _))) trivial)
       ·intro D V zw1 a hR hI K hK;obtain ⟨hM1, hB1, hG1⟩ := hI.1;have zd1 := hR.pred 1 (by kernel_rfl);have zf1 : V 1 = .int .i64 nv := hI.2 1 zd1 rfl;have ze84 := hR.frame.done (t := 84) (j := 1) (by kernel_rfl) hR.ok zd1;rw [if_pos (by rfl)];go_simp;exact hK (.int .i64 nv) _ (hI.next hR (by kernel_rfl) (Mod.refl _ _) (PB.quiet hI.1 (Mod.refl _ _) (HGs.out D 24 zw1 zw1 (hI.1).g (Mod.refl _ _))) (upd_same V 24 _))
       ·intro D V zw1 a hR hI K hK;obtain ⟨hM1, hB1, hG1⟩ := hI.1;have zd22 := hR.pred 22 (by kernel_rfl);have zf22 : V 22 = .bool false := hI.2 22 zd22 rfl;have ze105 := hR.frame.done (t := 105) (j := 22) (by kernel_rfl) hR.ok zd22;rw [if_pos (by rfl)];go_simp;exact hK (.bool false) _ (hI.next hR (by kernel_rfl) (Mod.refl _ _) (PB.quiet hI.1 (Mod.refl _ _) (HGs.out D 25 zw1 zw1 (hI.1).g (Mod.refl _ _))) (upd_same V 25 _))
      ·intro D V w9 hD hI;obtain ⟨hM1, hB1, hG1⟩ := hI.1;have hMx := hM1;clear hM1;have hBx := hB1;clear hB1;have hGx := hG1;clear hG1;have zf0 : V 0 = .agg #[.string ⟨a1.toArray⟩, .string ⟨a2.toArray⟩, .int .i64 kb, .string ⟨nm.toArray⟩, .int .i64 at_, .string ⟨pv.toArray⟩, .string ⟨#[]⟩] := hI.2 0 (hD 0 (by decide)) rfl;have zf1 : V 1 = .int .i64 nv := hI.2 1 (hD 1 (by decide)) rfl;have zf2 : V 2 = .pointer (some ⟨g2, 2, none⟩) := hI.2 2 (hD 2 (by decide)) rfl;have zf3 : V 3 = .int .i64 kb := hI.2 3 (hD 3 (by decide)) rfl;have zf4 : V 4 = .bool false := hI.2 4 (hD 4 (by decide)) rfl;have zf5 : V 5 = .bool false := hI.2 5 (hD 5 (by decide)) rfl;have zf6 : V 6 = undef := hI.2 6 (hD 6 (by decide)) rfl;have zf7 : V 7 = .bool false := hI.2 7 (hD 7 (by decide)) rfl;have zf8 : V 8 = .bool false := hI.2 8 (hD 8 (by decide)) rfl;have zf9 : V 9 = undef := hI.2 9 (hD 9 (by decide)) rfl;have zf10 : V 10 = .bool false := hI.2 10 (hD 10 (by decide)) rfl;have zf11 : V 11 = .bool false := hI.2 11 (hD 11 (by decide)) rfl;have zf12 : V 12 = undef := hI.2 12 (hD 12 (by decide)) rfl;have zf13 : V 13 = undef := hI.2 13 (hD 13 (by decide)) rfl;have zf14 : V 14 = .bool false := hI.2 14 (hD 14 (by decide)) rfl;have zf15 : V 15 = .bool false := hI.2 15 (hD 15 (by decide)) rfl;have zf16 : V 16 = undef := hI.2 16 (hD 16 (by decide)) rfl;have zf17 : V 17 = undef := hI.2 17 (hD 17 (by decide)) rfl;have zf18 : V 18 = undef := hI.2 18 (hD 18 (by decide)) rfl;have zf19 : V 19 = undef := hI.2 19 (hD 19 (by decide)) rfl;have zf20 : V 20 = undef := hI.2 20 (hD 20 (by decide)) rfl;have zf21 : V 21 = undef := hI.2 21 (hD 21 (by decide)) rfl;have zf22 : V 22 = .bool false := hI.2 22 (hD 22 (by decide)) rfl;have zf24 : V 24 = .int .i64 nv := hI.2 24 (hD 24 (by decide)) rfl;have zf25 : V 25 = .bool false := hI.2 25 (hD 25 (by decide)) rfl;clear hI hD HGs;simp only [frAll, Act.put, List.setIfInBounds_toArray, List.set_cons_zero, List.set_cons_succ, Nat.zero_add, Nat.reduceAdd, zf0, zf1, zf2, zf3, zf4, zf5, zf6, zf7, zf8, zf9, zf10, zf11, zf12, zf13, zf14, zf15, zf16, zf17, zf18, zf19, zf20, zf21, zf22, zf24, zf25];clear zf0 zf1 zf2 zf3 zf4 zf5 zf6 zf7 zf8 zf9 zf10 zf11 zf12 zf13 zf14 zf15 zf16 zf17 zf18 zf19 zf20 zf21 zf22 zf24 zf25;clear V D;have HZ9 := Lib.hid hGx.1;have HP9 : Hid (Pure w w9) := Lib.hid (HP7.out.trans hMx);clear hGx hMx hBx HZ7 HR7 HP7
       go_wp2_with fail
       have hz := HZ9.out;have u0 := hz.cell 0; have u1 := hz.cell 1; have u2 := hz.cell 2; have u3 := hz.cell 3; have u4 := hz.cell 4; have u5 := hz.cell 5; have u6 := hz.cell 6; simp at u0 u1 u2 u3 u4 u5 u6
       try simp only [Exit.inBlock, Exit.then]
       refine bodyPost_ret (v := .tuple #[.agg #[.string ⟨a1.toArray⟩, .string ⟨a2.toArray⟩, .int .i64 kb, .string ⟨nm.toArray⟩, .int .i64 at_, .string ⟨pv.toArray⟩, .string ⟨#[]⟩], .int .i64 nv, .bool false]) (by simp [results, Tryz.results65, go_sem, u0, u1, u2, u3, u4, u5, u6]) rfl ?_;exact NONE.out HN.out _ HP9.out ⟨a1, a2, kb, nm, at_, pv, []⟩ nv
     cases ob
     ·have HN : Hid (hdP l = none) := Lib.hid (by rw [HH4.out]; exact hdF_at (by simpa using HOB.out));have HGs := Lib.hid (show ∀ (D : Nat → Bool) (zzi : Nat) (zq zq' : World), (fun _ zq => (fun Z => Blk Z g2 40 #[.string ⟨a1.toArray⟩, .string ⟨a2.toArray⟩, .int .i64 kb, .string ⟨nm.toArray⟩, .int .i64 at_, .string ⟨pv.toArray⟩, .string ⟨#[]⟩] ∧ Blk Z g1 9 #[.string ⟨#[105, 116, 101, 109]⟩, .string ⟨a1.toArray⟩, .string ⟨a2.toArray⟩, .string ⟨a3.toArray⟩, .string ⟨a4.toArray⟩, .string ⟨a5.toArray⟩, .string ⟨a6.toArray⟩, .string ⟨a7.toArray⟩]) zq) D zq → Mod (fun _ => False) zq zq' → (fun _ zq => (fun Z => Blk Z g2 40 #[.string ⟨a1.toArray⟩, .string ⟨a2.toArray⟩, .int .i64 kb, .string ⟨nm.toArray⟩, .int .i64 at_, .string ⟨pv.toArray⟩, .string ⟨#[]⟩] ∧ Blk Z g1 9 #[.string ⟨#[105, 116, 101, 109]⟩, .string ⟨a1.toArray⟩, .string ⟨a2.toArray⟩, .string ⟨a3.toArray⟩, .string ⟨a4.toArray⟩, .string ⟨a5.toArray⟩, .string ⟨a6.toArray⟩, .string ⟨a7.toArray⟩]) zq) (upd D zzi true) zq' from by intro D zzi zq zq' h hm; (exact ⟨h.1.modp hm, h.2.modp hm⟩))
      refine wp_region_inv (by kernel_rfl) (by kernel_rfl) (InvF (R := Mod (fun _ => False)) [.is (.agg #[.string ⟨a1.toArray⟩, .string ⟨a2.toArray⟩, .int .i64 kb, .string ⟨nm.toArray⟩, .int .i64 at_, .string ⟨pv.toArray⟩, .string ⟨#[]⟩]),
        .is (.int .i64 nv),
        .is (.pointer (some ⟨g2, 2, none⟩)),
        .is (.int .i64 kb),
        .is (.bool true),
        .is (.bool true),
        .is (.bool false),
        .is (.bool false),
        .is (.bool false),
        .is (undef),
        .is (.bool false),
        .is (.bool false),
        .is (undef),
        .is (undef),
        .is (.bool false),
        .is (.bool false),
        .is (undef),
        .is (undef),
        .is (undef),
        .is (undef),
        .is (undef),
        .is (undef),
        .is (.bool false),
        .any,
        .is (.int .i64 nv),
        .is (.bool false)]
        (PB wc (fun _ => False) wc.heap.size (fun _ zq => (fun Z => Blk Z g2 40 #[.string ⟨a1.toArray⟩, .string ⟨a2.toArray⟩, .int .i64 kb, .string ⟨nm.toArray⟩, .int .i64 at_, .string ⟨pv.toArray⟩, .string ⟨#[]⟩] ∧ Blk Z g1 9 #[.string ⟨#[105, 116, 101, 109]⟩, .string ⟨a1.toArray⟩, .string ⟨a2.toArray⟩, .string ⟨a3.toArray⟩, .string ⟨a4.toArray⟩, .string ⟨a5.toArray⟩, .string ⟨a6.toArray⟩, .string ⟨a7.toArray⟩]) zq))) (InvF.start (PB.start (Mod.refl _ _) (Nat.le_refl _) (⟨HZ7.out, HR7.out⟩))) ?_ ?_
      ·refine .cons ?_ (.cons ?_ (.cons ?_ (.cons ?_ (.cons ?_ (.cons ?_ (.cons ?_ (.cons ?_ (.cons ?_ (.cons ?_ (.cons ?_ (.cons ?_ (.cons ?_ (.cons ?_ (.cons ?_ (.cons ?_ (.cons ?_ (.cons ?_ (.cons ?_ (.cons ?_ (.cons ?_ (.cons ?_ (.cons ?_ (.cons ?_ (.cons ?_ (.cons ?_ .nil)))))))))))))))))))))))))
       ·intro D V zw1 a hR hI K hK;obtain ⟨hM1, hB1, hG1⟩ := hI.1;have ze2 := hR.frame.other (t := 2) (by kernel_rfl) rfl;have zx0 := hG1.1.cell 0; have zx1 := hG1.1.cell 1; have zx2 := hG1.1.cell 2; have zx3 := hG1.1.cell 3; have zx4 := hG1.1.cell 4; have zx5 := hG1.1.cell 5; have zx6 := hG1.1.cell 6;simp at zx0 zx1 zx2 zx3 zx4 zx5 zx6;rw [if_pos (by rfl)];go_simp;exact hK (.agg #[.string ⟨a1.toArray⟩, .string ⟨a2.toArray⟩, .int .i64 kb, .string ⟨nm.toArray⟩, .int .i64 at_, .string ⟨pv.toArray⟩, .string ⟨#[]⟩]) _ (hI.next hR (by kernel_rfl) (Mod.refl _ _) (PB.quiet hI.1 (Mod.refl _ _) (HGs.out D 0 zw1 zw1 (hI.1).g (Mod.refl _ _))) (upd_same V 0 _))
       ·intro D V zw1 a hR hI K hK;obtain ⟨hM1, hB1, hG1⟩ := hI.1;have ze3 := hR.frame.undone (t := 3) (j := 24) (by kernel_rfl) (hR.later 24 rfl (by kernel_rfl)) rfl;rw [if_pos (by rfl)];go_simp;exact hK (.int .i64 nv) _ (hI.next hR (by kernel_rfl) (Mod.refl _ _) (PB.quiet hI.1 (Mod.refl _ _) (HGs.out D 1 zw1 zw1 (hI.1).g (Mod.refl _ _))) (upd_same V 1 _))
       ·intro D V zw1 a hR hI K hK;obtain ⟨hM1, hB1, hG1⟩ := hI.1;have ze2 := hR.frame.other (t := 2) (by kernel_rfl) rfl;rw [if_pos (by rfl)];go_simp;exact hK (.pointer (some ⟨g2, 2, none⟩)) _ (hI.next hR (by kernel_rfl) (Mod.refl _ _) (PB.quiet hI.1 (Mod.refl _ _) (HGs.out D 2 zw1 zw1 (hI.1).g (Mod.refl _ _))) (upd_same V 2 _))
       ·intro D V zw1 a hR hI K hK;obtain ⟨hM1, hB1, hG1⟩ := hI.1;have zd2 := hR.pred 2 (by kernel_rfl);have zf2 : V 2 = .pointer (some ⟨g2, 2, none⟩) := hI.2 2 zd2 rfl;have ze85 := hR.frame.done (t := 85) (j := 2) (by kernel_rfl) hR.ok zd2;have zx0 := hG1.1.cell 0; have zx1 := hG1.1.cell 1; have zx2 := hG1.1.cell 2; have zx3 := hG1.1.cell 3; have zx4 := hG1.1.cell 4; have zx5 := hG1.1.cell 5; have zx6 := hG1.1.cell 6;simp at zx0 zx1 zx2 zx3 zx4 zx5 zx6;rw [if_pos (by rfl)];go_simp;exact hK (.int .i64 kb) _ (hI.next hR (by kernel_rfl) (Mod.refl _ _) (PB.quiet hI.1 (Mod.refl _ _) (HGs.out D 3 zw1 zw1 (hI.1).g (Mod.refl _ _))) (upd_same V 3 _))
       ·intro D V zw1 a hR hI K hK;obtain ⟨hM1, hB1, hG1⟩ := hI.1;have zd3 := hR.pred 3 (by kernel_rfl);have zf3 : V 3 = .int .i64 kb := hI.2 3 zd3 rfl;have ze86 := hR.frame.done (t := 86) (j := 3) (by kernel_rfl) hR.ok zd3;rw [if_pos (by rfl)];go_simp;exact hK (.bool true) _ (hI.next hR (by kernel_rfl) (Mod.refl _ _) (PB.quiet hI.1 (Mod.refl _ _) (HGs.out D 4 zw1 zw1 (hI.1).g (Mod.refl _ _))) (upd_same V 4 _))
       ·intro D V zw1 a hR hI K hK;obtain ⟨hM1, hB1, hG1⟩ := hI.1;have zd4 := hR.pred 4 (by kernel_rfl);have zf4 : V 4 = .bool true := hI.2 4 zd4 rfl;have ze87 := hR.frame.done (t := 87) (j := 4) (by kernel_rfl) hR.ok zd4;rw [if_pos (by rfl)];go_simp;exact hK (.bool true) _ (hI.next hR (by kernel_rfl) (Mod.refl _ _) (PB.quiet hI.1 (Mod.refl _ _) (HGs.out D 5 zw1 zw1 (hI.1).g (Mod.refl _ _))) (upd_same V 5 _))
       ·intro D V zw1 a hR hI K hK;obtain ⟨hM1, hB1, hG1⟩ := hI.1;have zd5 := hR.pred 5 (by kernel_rfl);have zf5 : V 5 = .bool true := hI.2 5 zd5 rfl;have ze8 := hR.frame.other (t := 8) (by kernel_rfl) rfl;have ze88 := hR.frame.done (t := 88) (j := 5) (by kernel_rfl) hR.ok zd5;rw [if_pos (by simp [Region.wanted, yielded, ze88, zf5])];go_simp;exact hK (.bool false) _ (hI.next hR (by kernel_rfl) (Mod.refl _ _) (PB.quiet hI.1 (Mod.refl _ _) (HGs.out D 6 zw1 zw1 (hI.1).g (Mod.refl _ _))) (upd_same V 6 _))
       ·intro D V zw1 a hR hI K hK;obtain ⟨hM1, hB1, hG1⟩ := hI.1;have zd5 := hR.pred 5 (by kernel_rfl);have zf5 : V 5 = .bool true := hI.2 5 zd5 rfl;have zd6 := hR.pred 6 (by kernel_rfl);have zf6 : V 6 = .bool false := hI.2 6 zd6 rfl;have ze88 := hR.frame.done (t := 88) (j := 5) (by kernel_rfl) hR.ok zd5;have ze89 := hR.frame.done (t := 89) (j := 6) (by kernel_rfl) hR.ok zd6;rw [if_pos (by rfl)];go_simp;exact hK (.bool false) _ (hI.next hR (by kernel_rfl) (Mod.refl _ _) (PB.quiet hI.1 (Mod.refl _ _) (HGs.out D 7 zw1 zw1 (hI.1).g (Mod.refl _ _))) (upd_same V 7 _))
       ·intro D V zw1 a hR hI K hK;obtain ⟨hM1, hB1, hG1⟩ := hI.1;have zd7 := hR.pred 7 (by kernel_rfl);have zf7 : V 7 = .bool false := hI.2 7 zd7 rfl;have ze90 := hR.frame.done (t := 90) (j := 7) (by kernel_rfl) hR.ok zd7;rw [if_pos (by rfl)];go_simp;exact hK (.bool false) _ (hI.next hR (by kernel_rfl) (Mod.refl _ _) (PB.quiet hI.1 (Mod.refl _ _) (HGs.out D 8 zw1 zw1 (hI.1).g (Mod.refl _ _))) (upd_same V 8 _))
       ·intro D V zw1 a hR hI K hK;obtain ⟨hM1, hB1, hG1⟩ := hI.1;have zd8 := hR.pred 8 (by kernel_rfl);have zf8 : V 8 = .bool false := hI.2 8 zd8 rfl;have ze91 := hR.frame.done (t := 91) (j := 8) (by kernel_rfl) hR.ok zd8;rw [if_neg (by simp [Region.wanted, yielded, ze91, zf8])];exact hK undef _ (hI.next hR (by kernel_rfl) (Mod.refl _ _) (PB.quiet hI.1 (Mod.refl _ _) (HGs.out D 9 zw1 zw1 (hI.1).g (Mod.refl _ _))) (upd_same V 9 _))
       ·intro D V zw1 a hR hI K hK;obtain ⟨hM1, hB1, hG1⟩ := hI.1;have zd8 := hR.pred 8 (by kernel_rfl);have zf8 : V 8 = .bool false := hI.2 8 zd8 rfl;have zd9 := hR.pred 9 (by kernel_rfl);have zf9 : V 9 = undef := hI.2 9 zd9 rfl;have ze91 := hR.frame.done (t := 91) (j := 8) (by kernel_rfl) hR.ok zd8;have ze92 := hR.frame.done (t := 92) (j := 9) (by kernel_rfl) hR.ok zd9;rw [if_pos (by rfl)];go_simp;exact hK (.bool false) _ (hI.next hR (by kernel_rfl) (Mod.refl _ _) (PB.quiet hI.1 (Mod.refl _ _) (HGs.out D 10 zw1 zw1 (hI.1).g (Mod.refl _ _))) (upd_same V 10 _))
       ·intro D V zw1 a hR hI K hK;obtain ⟨hM1, hB1, hG1⟩ := hI.1;have zd10 := hR.pred 10 (by kernel_rfl);have zf10 : V 10 = .bool false := hI.2 10 zd10 rfl;have ze93 := hR.frame.done (t := 93) (j := 10) (by kernel_rfl) hR.ok zd10;rw [if_pos (by rfl)];go_simp;exact hK (.bool false) _ (hI.next hR (by kernel_rfl) (Mod.refl _ _) (PB.quiet hI.1 (Mod.refl _ _) (HGs.out D 11 zw1 zw1 (hI.1).g (Mod.refl _ _))) (upd_same V 11 _))
       ·intro D V zw1 a hR hI K hK;obtain ⟨hM1, hB1, hG1⟩ := hI.1;have zd11 := hR.pred 11 (by kernel_rfl);have zf11 : V 11 = .bool false := hI.2 11 zd11 rfl;have ze94 := hR.frame.done (t := 94) (j := 11) (by kernel_rfl) hR.ok zd11;rw [if_neg (by simp [Region.wanted, yielded, ze94, zf11])];exact hK undef _ (hI.next hR (by kernel_rfl) (Mod.refl _ _) (PB.quiet hI.1 (Mod.refl _ _) (HGs.out D 12 zw1 zw1 (hI.1).g (Mod.refl _ _))) (upd_same V 12 _))
       ·intro D V zw1 a hR hI K hK;obtain ⟨hM1, hB1, hG1⟩ := hI.1;have zd11 := hR.pred 11 (by kernel_rfl);have zf11 : V 11 = .bool false := hI.2 11 zd11 rfl;have ze94 := hR.frame.done (t := 94) (j := 11) (by kernel_rfl) hR.ok zd11;rw [if_neg (by simp [Region.wanted, yielded, ze94, zf11])];exact hK undef _ (hI.next hR (by kernel_rfl) (Mod.refl _ _) (PB.quiet hI.1 (Mod.refl _ _) (HGs.out D 13 zw1 zw1 (hI.1).g (Mod.refl _ _))) (upd_same V 13 _))
       ·intro D V zw1 a hR hI K hK;obtain ⟨hM1, hB1, hG1⟩ := hI.1;have zd11 := hR.pred 11 (by kernel_rfl);have zf11 : V 11 = .bool false := hI.2 11 zd11 rfl;have zd13 := hR.pred 13 (by kernel_rfl);have zf13 : V 13 = undef := hI.2 13 zd13 rfl;have ze94 := hR.frame.done (t := 94) (j := 11) (by kernel_rfl) hR.ok zd11;have ze96 := hR.frame.done (t := 96) (j := 13) (by kernel_rfl) hR.ok zd13;rw [if_pos (by rfl)];go_simp;exact hK (.bool false) _ (hI.next hR (by kernel_rfl) (Mod.refl _ _) (PB.quiet hI.1 (Mod.refl _ _) (HGs.out D 14 zw1 zw1 (hI.1).g (Mod.refl _ _))) (upd_same V 14 _))
       ·intro D V zw1 a hR hI K hK;obtain ⟨hM1, hB1, hG1⟩ := hI.1;have zd14 := hR.pred 14 (by kernel_rfl);have zf14 : V 14 = .bool false := hI.2 14 zd14 rfl;have ze97 := hR.frame.done (t := 97) (j := 14) (by kernel_rfl) hR.ok zd14;rw [if_pos (by rfl)];go_simp;exact hK (.bool false) _ (hI.next hR (by kernel_rfl) (Mod.refl _ _) (PB.quiet hI.1 (Mod.refl _ _) (HGs.out D 15 zw1 zw1 (hI.1).g (Mod.refl _ _))) (upd_same V 15 _))
       ·intro D V zw1 a hR hI K hK;obtain ⟨hM1, hB1, hG1⟩ := hI.1;have zd15 := hR.pred 15 (by kernel_rfl);have zf15 : V 15 = .bool false := hI.2 15 zd15 rfl;have ze98 := hR.frame.done (t := 98) (j := 15) (by kernel_rfl) hR.ok zd15;rw [if_neg (by simp [Region.wanted, yielded, ze98, zf15])];exact hK undef _ (hI.next hR (by kernel_rfl) (Mod.refl _ _) (PB.quiet hI.1 (Mod.refl _ _) (HGs.out D 16 zw1 zw1 (hI.1).g (Mod.refl _ _))) (upd_same V 16 _))
       ·intro D V zw1 a hR hI K hK;obtain ⟨hM1, hB1, hG1⟩ := hI.1;have zd15 := hR.pred 15 (by kernel_rfl);have zf15 : V 15 = .bool false := hI.2 15 zd15 rfl;have ze98 := hR.frame.done (t := 98) (j := 15) (by kernel_rfl) hR.ok zd15;rw [if_neg (by simp [Region.wanted, yielded, ze98, zf15])];exact hK undef _ (hI.next hR (by kernel_rfl) (Mod.refl _ _) (PB.quiet hI.1 (Mod.refl _ _) (HGs.out D 17 zw1 zw1 (hI.1).g (Mod.refl _ _))) (upd_same V 17 _))
       ·intro D V zw1 a hR hI K hK;obtain ⟨hM1, hB1, hG1⟩ := hI.1;have zd15 := hR.pred 15 (by kernel_rfl);have zf15 : V 15 = .bool false := hI.2 15 zd15 rfl;have ze98 := hR.frame.done (t := 98) (j := 15) (by kernel_rfl) hR.ok zd15;rw [if_neg (by simp [Region.wanted, yielded, ze98, zf15])];exact hK undef _ (hI.next hR (by kernel_rfl) (Mod.refl _ _) (PB.quiet hI.1 (Mod.refl _ _) (HGs.out D 18 zw1 zw1 (hI.1).g (Mod.refl _ _))) (upd_same V 18 _))
       ·intro D V zw1 a hR hI K hK;obtain ⟨hM1, hB1, hG1⟩ := hI.1;have zd15 := hR.pred 15 (by kernel_rfl);have zf15 : V 15 = .bool false := hI.2 15 zd15 rfl;have ze98 := hR.frame.done (t := 98) (j := 15) (by kernel_rfl) hR.ok zd15;rw [if_neg (by simp [Region.wanted, yielded, ze98, zf15])];exact hK undef _ (hI.next hR (by kernel_rfl) (Mod.refl _ _) (PB.quiet hI.1 (Mod.refl _ _) (HGs.out D 19 zw1 zw1 (hI.1).g (Mod.refl _ _))) (upd_same V 19 _))
       ·intro D V zw1 a hR hI K hK;obtain ⟨hM1, hB1, hG1⟩ := hI.1;have zd15 := hR.pred 15 (by kernel_rfl);have zf15 : V 15 = .bool false := hI.2 15 zd15 rfl;have ze98 := hR.frame.done (t := 98) (j := 15) (by kernel_rfl) hR.ok zd15;rw [if_neg (by simp [Region.wanted, yielded, ze98, zf15])];exact hK undef _ (hI.next hR (by kernel_rfl) (Mod.refl _ _) (PB.quiet hI.1 (Mod.refl _ _) (HGs.out D 20 zw1 zw1 (hI.1).g (Mod.refl _ _))) (upd_same V 20 _))
       ·intro D V zw1 a hR hI K hK;obtain ⟨hM1, hB1, hG1⟩ := hI.1;have zd15 := hR.pred 15 (by kernel_rfl);have zf15 : V 15 = .bool false := hI.2 15 zd15 rfl;have ze98 := hR.frame.done (t := 98) (j := 15) (by kernel_rfl) hR.ok zd15;rw [if_neg (by simp [Region.wanted, yielded, ze98, zf15])];exact hK undef _ (hI.next hR (by kernel_rfl) (Mod.refl _ _) (PB.quiet hI.1 (Mod.refl _ _) (HGs.out D 21 zw1 zw1 (hI.1).g (Mod.refl _ _))) (upd_same V 21 _))
       ·intro D V zw1 a hR hI K hK;obtain ⟨hM1, hB1, hG1⟩ := hI.1;have zd15 := hR.pred 15 (by kernel_rfl);have zf15 : V 15 = .bool false := hI.2 15 zd15 rfl;have zd21 := hR.pred 21 (by kernel_rfl);have zf21 : V 21 = undef := hI.2 21 zd21 rfl;have ze98 := hR.frame.done (t := 98) (j := 15) (by kernel_rfl) hR.ok zd15;have ze104 := hR.frame.done (t := 104) (j := 21) (by kernel_rfl) hR.ok zd21;rw [if_pos (by rfl)];go_simp;exact hK (.bool false) _ (hI.next hR (by kernel_rfl) (Mod.refl _ _) (PB.quiet hI.1 (Mod.refl _ _) (HGs.out D 22 zw1 zw1 (hI.1).g (Mod.refl _ _))) (upd_same V 22 _))
       ·intro D V zw1 a hR hI K hK;obtain ⟨hM1, hB1, hG1⟩ := hI.1;have zd0 := hR.pred 0 (by kernel_rfl);have zf0 : V 0 = .agg #[.string ⟨a1.toArray⟩, .string ⟨a2.toArray⟩, .int .i64 kb, .string ⟨nm.toArray⟩, .int .i64 at_, .string ⟨pv.toArray⟩, .string ⟨#[]⟩] := hI.2 0 zd0 rfl;have ze2 := hR.frame.other (t := 2) (by kernel_rfl) rfl;have ze83 := hR.frame.done (t := 83) (j := 0) (by kernel_rfl) hR.ok zd0;rw [if_pos (by rfl)];have zx0 := hG1.1.cell 0; have zy0 := hG1.1.frozen 0;have zx1 := hG1.1.cell 1; have zy1 := hG1.1.frozen 1;have zx2 := hG1.1.cell 2; have zy2 := hG1.1.frozen 2;have zx3 := hG1.1.cell 3; have zy3 := hG1.1.frozen 3;have zx4 := hG1.1.cell 4; have zy4 := hG1.1.frozen 4;have zx5 := hG1.1.cell 5; have zy5 := hG1.1.frozen 5;have zx6 := hG1.1.cell 6; have zy6 := hG1.1.frozen 6;simp at zx0 zx1 zx2 zx3 zx4 zx5 zx6;go_simp;rw [setCell_same7 hG1.1];exact hK undef _ (hI.next hR (by kernel_rfl) (Mod.refl _ _) (PB.quiet hI.1 (Mod.refl _ _) (HGs.out D 23 zw1 zw1 (hI.1).g (Mod.refl _ _))) trivial)
       ·intro D V zw1 a hR hI K hK;obtain ⟨hM1, hB1, hG1⟩ := hI.1;have zd1 := hR.pred 1 (by kernel_rfl);have zf1 : V 1 = .int .i64 nv := hI.2 1 zd1 rfl;have ze84 := hR.frame.done (t := 84) (j := 1) (by kernel_rfl) hR.ok zd1;rw [if_pos (by rfl)];go_simp;exact hK (.int .i64 nv) _ (hI.next hR (by kernel_rfl) (Mod.refl _ _) (PB.quiet hI.1 (Mod.refl _ _) (HGs.out D 24 zw1 zw1 (hI.1).g (Mod.refl _ _))) (upd_same V 24 _))
       ·intro D V zw1 a hR hI K hK;obtain ⟨hM1, hB1, hG1⟩ := hI.1;have zd22 := hR.pred 22 (by kernel_rfl);have zf22 : V 22 = .bool false := hI.2 22 zd22 rfl;have ze105 := hR.frame.done (t := 105) (j := 22) (by kernel_rfl) hR.ok zd22;rw [if_pos (by rfl)];go_simp;exact hK (.bool false) _ (hI.next hR (by kernel_rfl) (Mod.refl _ _) (PB.quiet hI.1 (Mod.refl _ _) (HGs.out D 25 zw1 zw1 (hI.1).g (Mod.refl _ _))) (upd_same V 25 _))
      ·intro D V w9 hD hI;obtain ⟨hM1, hB1, hG1⟩ := hI.1;have hMx := hM1;clear hM1;have hBx := hB1;clear hB1;have hGx := hG1;clear hG1;have zf0 : V 0 = .agg #[.string ⟨a1.toArray⟩, .string ⟨a2.toArray⟩, .int .i64 kb, .string ⟨nm.toArray⟩, .int .i64 at_, .string ⟨pv.toArray⟩, .string ⟨#[]⟩] := hI.2 0 (hD 0 (by decide)) rfl;have zf1 : V 1 = .int .i64 nv := hI.2 1 (hD 1 (by decide)) rfl;have zf2 : V 2 = .pointer (some ⟨g2, 2, none⟩) := hI.2 2 (hD 2 (by decide)) rfl;have zf3 : V 3 = .int .i64 kb := hI.2 3 (hD 3 (by decide)) rfl;have zf4 : V 4 = .bool true := hI.2 4 (hD 4 (by decide)) rfl;have zf5 : V 5 = .bool true := hI.2 5 (hD 5 (by decide)) rfl;have zf6 : V 6 = .bool false := hI.2 6 (hD 6 (by decide)) rfl;have zf7 : V 7 = .bool false := hI.2 7 (hD 7 (by decide)) rfl;have zf8 : V 8 = .bool false := hI.2 8 (hD 8 (by decide)) rfl;have zf9 : V 9 = undef := hI.2 9 (hD 9 (by decide)) rfl;have zf10 : V 10 = .bool false := hI.2 10 (hD 10 (by decide)) rfl;have zf11 : V 11 = .bool false := hI.2 11 (hD 11 (by decide)) rfl;have zf12 : V 12 = undef := hI.2 12 (hD 12 (by decide)) rfl;have zf13 : V 13 = undef := hI.2 13 (hD 13 (by decide)) rfl;have zf14 : V 14 = .bool false := hI.2 14 (hD 14 (by decide)) rfl;have zf15 : V 15 = .bool false := hI.2 15 (hD 15 (by decide)) rfl;have zf16 : V 16 = undef := hI.2 16 (hD 16 (by decide)) rfl;have zf17 : V 17 = undef := hI.2 17 (hD 17 (by decide)) rfl;have zf18 : V 18 = undef := hI.2 18 (hD 18 (by decide)) rfl;have zf19 : V 19 = undef := hI.2 19 (hD 19 (by decide)) rfl;have zf20 : V 20 = undef := hI.2 20 (hD 20 (by decide)) rfl;have zf21 : V 21 = undef := hI.2 21 (hD 21 (by decide)) rfl;have zf22 : V 22 = .bool false := hI.2 22 (hD 22 (by decide)) rfl;have zf24 : V 24 = .int .i64 nv := hI.2 24 (hD 24 (by decide)) rfl;have zf25 : V 25 = .bool false := hI.2 25 (hD 25 (by decide)) rfl;clear hI hD HGs;simp only [frAll, Act.put, List.setIfInBounds_toArray, List.set_cons_zero, List.set_cons_succ, Nat.zero_add, Nat.reduceAdd, zf0, zf1, zf2, zf3, zf4, zf5, zf6, zf7, zf8, zf9, zf10, zf11, zf12, zf13, zf14, zf15, zf16, zf17, zf18, zf19, zf20, zf21, zf22, zf24, zf25];clear zf0 zf1 zf2 zf3 zf4 zf5 zf6 zf7 zf8 zf9 zf10 zf11 zf12 zf13 zf14 zf15 zf16 zf17 zf18 zf19 zf20 zf21 zf22 zf24 zf25;clear V D;have HZ9 := Lib.hid hGx.1;have HP9 : Hid (Pure w w9) := Lib.hid (HP7.out.trans hMx);clear hGx hMx hBx HZ7 HR7 HP7
       go_wp2_with fail
       have hz := HZ9.out;have u0 := hz.cell 0; have u1 := hz.cell 1; have u2 := hz.cell 2; have u3 := hz.cell 3; have u4 := hz.cell 4; have u5 := hz.cell 5; have u6 := hz.cell 6; simp at u0 u1 u2 u3 u4 u5 u6
       try simp only [Exit.inBlock, Exit.then]
       refine bodyPost_ret (v := .tuple #[.agg #[.string ⟨a1.toArray⟩, .string ⟨a2.toArray⟩, .int .i64 kb, .string ⟨nm.toArray⟩, .int .i64 at_, .string ⟨pv.toArray⟩, .string ⟨#[]⟩], .int .i64 nv, .bool false]) (by simp [results, Tryz.results65, go_sem, u0, u1, u2, u3, u4, u5, u6]) rfl ?_;exact NONE.out HN.out _ HP9.out ⟨a1, a2, kb, nm, at_, pv, []⟩ nv
     cases nb
     ·have HN : Hid (hdP l = none) := Lib.hid (by
       rw [HH4.out];refine hdF_n fun n hn h0 => ?_;have h := HNB.out;have e := HNV.out n hn;subst e;rw [hn] at h
       simp [h0] at h)
      have HGs := Lib.hid (show ∀ (D : Nat → Bool) (zzi : Nat) (zq zq' : World), (fun _ zq => (fun Z => Blk Z g2 40 #[.string ⟨a1.toArray⟩, .string ⟨a2.toArray⟩, .int .i64 kb, .string ⟨nm.toArray⟩, .int .i64 at_, .string ⟨pv.toArray⟩, .string ⟨#[]⟩] ∧ Blk Z g1 9 #[.string ⟨#[105, 116, 101, 109]⟩, .string ⟨a1.toArray⟩, .string ⟨a2.toArray⟩, .string ⟨a3.toArray⟩, .string ⟨a4.toArray⟩, .string ⟨a5.toArray⟩, .string ⟨a6.toArray⟩, .string ⟨a7.toArray⟩]) zq) D zq → Mod (fun _ => False) zq zq' → (fun _ zq => (fun Z => Blk Z g2 40 #[.string ⟨a1.toArray⟩, .string ⟨a2.toArray⟩, .int .i64 kb, .string ⟨nm.toArray⟩, .int .i64 at_, .string ⟨pv.toArray⟩, .string ⟨#[]⟩] ∧ Blk Z g1 9 #[.string ⟨#[105, 116, 101, 109]⟩, .string ⟨a1.toArray⟩, .string ⟨a2.toArray⟩, .string ⟨a3.toArray⟩, .string ⟨a4.toArray⟩, .string ⟨a5.toArray⟩, .string ⟨a6.toArray⟩, .string ⟨a7.toArray⟩]) zq) (upd D zzi true) zq' from by intro D zzi zq zq' h hm; (exact ⟨h.1.modp hm, h.2.modp hm⟩))
      refine wp_region_inv (by kernel_rfl) (by kernel_rfl) (InvF (R := Mod (fun _ => False)) [.is (.agg #[.string ⟨a1.toArray⟩, .string ⟨a2.toArray⟩, .int .i64 kb, .string ⟨nm.toArray⟩, .int .i64 at_, .string ⟨pv.toArray⟩, .string ⟨#[]⟩]),
        .is (.int .i64 nv),
        .is (.pointer (some ⟨g2, 2, none⟩)),
        .is (.int .i64 kb),
        .is (.bool true),
        .is (.bool true),
        .is (.bool true),
        .is (.bool true),
        .is (.bool true),
        .is (.bool false),
        .is (.bool false),
        .is (.bool false),
        .is (undef),
        .is (undef),
        .is (.bool false),
        .is (.bool false),
        .is (undef),
        .is (undef),
        .is (undef),
        .is (undef),
        .is (undef),
        .is (undef),
        .is (.bool false),
        .any,
        .is (.int .i64 nv),
        .is (.bool false)]
        (PB wc (fun _ => False) wc.heap.size (fun _ zq => (fun Z => Blk Z g2 40 #[.string ⟨a1.toArray⟩, .string ⟨a2.toArray⟩, .int .i64 kb, .string ⟨nm.toArray⟩, .int .i64 at_, .string ⟨pv.toArray⟩, .string ⟨#[]⟩] ∧ Blk Z g1 9 #[.string ⟨#[105, 116, 101, 109]⟩, .string ⟨a1.toArray⟩, .string ⟨a2.toArray⟩, .string ⟨a3.toArray⟩, .string ⟨a4.toArray⟩, .string ⟨a5.toArray⟩, .string ⟨a6.toArray⟩, .string ⟨a7.toArray⟩]) zq))) (InvF.start (PB.start (Mod.refl _ _) (Nat.le_refl _) (⟨HZ7.out, HR7.out⟩))) ?_ ?_
      ·refine .cons ?_ (.cons ?_ (.cons ?_ (.cons ?_ (.cons ?_ (.cons ?_ (.cons ?_ (.cons ?_ (.cons ?_ (.cons ?_ (.cons ?_ (.cons ?_ (.cons ?_ (.cons ?_ (.cons ?_ (.cons ?_ (.cons ?_ (.cons ?_ (.cons ?_ (.cons ?_ (.cons ?_ (.cons ?_ (.cons ?_ (.cons ?_ (.cons ?_ (.cons ?_ .nil)))))))))))))))))))))))))
       ·intro D V zw1 a hR hI K hK;obtain ⟨hM1, hB1, hG1⟩ := hI.1;have ze2 := hR.frame.other (t := 2) (by kernel_rfl) rfl;have zx0 := hG1.1.cell 0; have zx1 := hG1.1.cell 1; have zx2 := hG1.1.cell 2; have zx3 := hG1.1.cell 3; have zx4 := hG1.1.cell 4; have zx5 := hG1.1.cell 5; have zx6 := hG1.1.cell 6;simp at zx0 zx1 zx2 zx3 zx4 zx5 zx6;rw [if_pos (by rfl)];go_simp;exact hK (.agg #[.string ⟨a1.toArray⟩, .string ⟨a2.toArray⟩, .int .i64 kb, .string ⟨nm.toArray⟩, .int .i64 at_, .string ⟨pv.toArray⟩, .string ⟨#[]⟩]) _ (hI.next hR (by kernel_rfl) (Mod.refl _ _) (PB.quiet hI.1 (Mod.refl _ _) (HGs.out D 0 zw1 zw1 (hI.1).g (Mod.refl _ _))) (upd_same V 0 _))
       ·intro D V zw1 a hR hI K hK;obtain ⟨hM1, hB1, hG1⟩ := hI.1;have ze3 := hR.frame.undone (t := 3) (j := 24) (by kernel_rfl) (hR.later 24 rfl (by kernel_rfl)) rfl;rw [if_pos (by rfl)];go_simp;exact hK (.int .i64 nv) _ (hI.next hR (by kernel_rfl) (Mod.refl _ _) (PB.quiet hI.1 (Mod.refl _ _) (HGs.out D 1 zw1 zw1 (hI.1).g (Mod.refl _ _))) (upd_same V 1 _))
       ·intro D V zw1 a hR hI K hK;obtain ⟨hM1, hB1, hG1⟩ := hI.1;have ze2 := hR.frame.other (t := 2) (by kernel_rfl) rfl;rw [if_pos (by rfl)];go_simp;exact hK (.pointer (some ⟨g2, 2, none⟩)) _ (hI.next hR (by kernel_rfl) (Mod.refl _ _) (PB.quiet hI.1 (Mod.refl _ _) (HGs.out D 2 zw1 zw1 (hI.1).g (Mod.refl _ _))) (upd_same V 2 _))
       ·intro D V zw1 a hR hI K hK;obtain ⟨hM1, hB1, hG1⟩ := hI.1;have zd2 := hR.pred 2 (by kernel_rfl);have zf2 : V 2 = .pointer (some ⟨g2, 2, none⟩) := hI.2 2 zd2 rfl;have ze85 := hR.frame.done (t := 85) (j := 2) (by kernel_rfl) hR.ok zd2;have zx0 := hG1.1.cell 0; have zx1 := hG1.1.cell 1; have zx2 := hG1.1.cell 2; have zx3 := hG1.1.cell 3; have zx4 := hG1.1.cell 4; have zx5 := hG1.1.cell 5; have zx6 := hG1.1.cell 6;simp at zx0 zx1 zx2 zx3 zx4 zx5 zx6;rw [if_pos (by rfl)];go_simp;exact hK (.int .i64 kb) _ (hI.next hR (by kernel_rfl) (Mod.refl _ _) (PB.quiet hI.1 (Mod.refl _ _) (HGs.out D 3 zw1 zw1 (hI.1).g (Mod.refl _ _))) (upd_same V 3 _))
       ·intro D V zw1 a hR hI K hK;obtain ⟨hM1, hB1, hG1⟩ := hI.1;have zd3 := hR.pred 3 (by kernel_rfl);have zf3 : V 3 = .int .i64 kb := hI.2 3 zd3 rfl;have ze86 := hR.frame.done (t := 86) (j := 3) (by kernel_rfl) hR.ok zd3;rw [if_pos (by rfl)];go_simp;exact hK (.bool true) _ (hI.next hR (by kernel_rfl) (Mod.refl _ _) (PB.quiet hI.1 (Mod.refl _ _) (HGs.out D 4 zw1 zw1 (hI.1).g (Mod.refl _ _))) (upd_same V 4 _))
       ·intro D V zw1 a hR hI K hK;obtain ⟨hM1, hB1, hG1⟩ := hI.1;have zd4 := hR.pred 4 (by kernel_rfl);have zf4 : V 4 = .bool true := hI.2 4 zd4 rfl;have ze87 := hR.frame.done (t := 87) (j := 4) (by kernel_rfl) hR.ok zd4;rw [if_pos (by rfl)];go_simp;exact hK (.bool true) _ (hI.next hR (by kernel_rfl) (Mod.refl _ _) (PB.quiet hI.1 (Mod.refl _ _) (HGs.out D 5 zw1 zw1 (hI.1).g (Mod.refl _ _))) (upd_same V 5 _))
       ·intro D V zw1 a hR hI K hK;obtain ⟨hM1, hB1, hG1⟩ := hI.1;have zd5 := hR.pred 5 (by kernel_rfl);have zf5 : V 5 = .bool true := hI.2 5 zd5 rfl;have ze8 := hR.frame.other (t := 8) (by kernel_rfl) rfl;have ze88 := hR.frame.done (t := 88) (j := 5) (by kernel_rfl) hR.ok zd5;rw [if_pos (by simp [Region.wanted, yielded, ze88, zf5])];go_simp;exact hK (.bool true) _ (hI.next hR (by kernel_rfl) (Mod.refl _ _) (PB.quiet hI.1 (Mod.refl _ _) (HGs.out D 6 zw1 zw1 (hI.1).g (Mod.refl _ _))) (upd_same V 6 _))
       ·intro D V zw1 a hR hI K hK;obtain ⟨hM1, hB1, hG1⟩ := hI.1;have zd5 := hR.pred 5 (by kernel_rfl);have zf5 : V 5 = .bool true := hI.2 5 zd5 rfl;have zd6 := hR.pred 6 (by kernel_rfl);have zf6 : V 6 = .bool true := hI.2 6 zd6 rfl;have ze88 := hR.frame.done (t := 88) (j := 5) (by kernel_rfl) hR.ok zd5;have ze89 := hR.frame.done (t := 89) (j := 6) (by kernel_rfl) hR.ok zd6;rw [if_pos (by rfl)];go_simp;exact hK (.bool true) _ (hI.next hR (by kernel_rfl) (Mod.refl _ _) (PB.quiet hI.1 (Mod.refl _ _) (HGs.out D 7 zw1 zw1 (hI.1).g (Mod.refl _ _))) (upd_same V 7 _))
       ·intro D V zw1 a hR hI K hK;obtain ⟨hM1, hB1, hG1⟩ := hI.1;have zd7 := hR.pred 7 (by kernel_rfl);have zf7 : V 7 = .bool true := hI.2 7 zd7 rfl;have ze90 := hR.frame.done (t := 90) (j := 7) (by kernel_rfl) hR.ok zd7;rw [if_pos (by rfl)];go_simp;exact hK (.bool true) _ (hI.next hR (by kernel_rfl) (Mod.refl _ _) (PB.quiet hI.1 (Mod.refl _ _) (HGs.out D 8 zw1 zw1 (hI.1).g (Mod.refl _ _))) (upd_same V 8 _))
       ·intro D V zw1 a hR hI K hK;obtain ⟨hM1, hB1, hG1⟩ := hI.1;have zd8 := hR.pred 8 (by kernel_rfl);have zf8 : V 8 = .bool true := hI.2 8 zd8 rfl;have ze12 := hR.frame.other (t := 12) (by kernel_rfl) rfl;have ze91 := hR.frame.done (t := 91) (j := 8) (by kernel_rfl) hR.ok zd8;rw [if_pos (by simp [Region.wanted, yielded, ze91, zf8])];go_simp;exact hK (.bool false) _ (hI.next hR (by kernel_rfl) (Mod.refl _ _) (PB.quiet hI.1 (Mod.refl _ _) (HGs.out D 9 zw1 zw1 (hI.1).g (Mod.refl _ _))) (upd_same V 9 _))
       ·intro D V zw1 a hR hI K hK;obtain ⟨hM1, hB1, hG1⟩ := hI.1;have zd8 := hR.pred 8 (by kernel_rfl);have zf8 : V 8 = .bool true := hI.2 8 zd8 rfl;have zd9 := hR.pred 9 (by kernel_rfl);have zf9 : V 9 = .bool false := hI.2 9 zd9 rfl;have ze91 := hR.frame.done (t := 91) (j := 8) (by kernel_rfl) hR.ok zd8;have ze92 := hR.frame.done (t := 92) (j := 9) (by kernel_rfl) hR.ok zd9;rw [if_pos (by rfl)];go_simp;exact hK (.bool false) _ (hI.next hR (by kernel_rfl) (Mod.refl _ _) (PB.quiet hI.1 (Mod.refl _ _) (HGs.out D 10 zw1 zw1 (hI.1).g (Mod.refl _ _))) (upd_same V 10 _))
       ·intro D V zw1 a hR hI K hK;obtain ⟨hM1, hB1, hG1⟩ := hI.1;have zd10 := hR.pred 10 (by kernel_rfl);have zf10 : V 10 = .bool false := hI.2 10 zd10 rfl;have ze93 := hR.frame.done (t := 93) (j := 10) (by kernel_rfl) hR.ok zd10;rw [if_pos (by rfl)];go_simp;exact hK (.bool false) _ (hI.next hR (by kernel_rfl) (Mod.refl _ _) (PB.quiet hI.1 (Mod.refl _ _) (HGs.out D 11 zw1 zw1 (hI.1).g (Mod.refl _ _))) (upd_same V 11 _))
       ·intro D V zw1 a hR hI K hK;obtain ⟨hM1, hB1, hG1⟩ := hI.1;have zd11 := hR.pred 11 (by kernel_rfl);have zf11 : V 11 = .bool false := hI.2 11 zd11 rfl;have ze94 := hR.frame.done (t := 94) (j := 11) (by kernel_rfl) hR.ok zd11;rw [if_neg (by simp [Region.wanted, yielded, ze94, zf11])];exact hK undef _ (hI.next hR (by kernel_rfl) (Mod.refl _ _) (PB.quiet hI.1 (Mod.refl _ _) (HGs.out D 12 zw1 zw1 (hI.1).g (Mod.refl _ _))) (upd_same V 12 _))
       ·intro D V zw1 a hR hI K hK;obtain ⟨hM1, hB1, hG1⟩ := hI.1;have zd11 := hR.pred 11 (by kernel_rfl);have zf11 : V 11 = .bool false := hI.2 11 zd11 rfl;have ze94 := hR.frame.done (t := 94) (j := 11) (by kernel_rfl) hR.ok zd11;rw [if_neg (by simp [Region.wanted, yielded, ze94, zf11])];exact hK undef _ (hI.next hR (by kernel_rfl) (Mod.refl _ _) (PB.quiet hI.1 (Mod.refl _ _) (HGs.out D 13 zw1 zw1 (hI.1).g (Mod.refl _ _))) (upd_same V 13 _))
       ·intro D V zw1 a hR hI K hK;obtain ⟨hM1, hB1, hG1⟩ := hI.1;have zd11 := hR.pred 11 (by kernel_rfl);have zf11 : V 11 = .bool false := hI.2 11 zd11 rfl;have zd13 := hR.pred 13 (by kernel_rfl);have zf13 : V 13 = undef := hI.2 13 zd13 rfl;have ze94 := hR.frame.done (t := 94) (j := 11) (by kernel_rfl) hR.ok zd11;have ze96 := hR.frame.done (t := 96) (j := 13) (by kernel_rfl) hR.ok zd13;rw [if_pos (by rfl)];go_simp;exact hK (.bool false) _ (hI.next hR (by kernel_rfl) (Mod.refl _ _) (PB.quiet hI.1 (Mod.refl _ _) (HGs.out D 14 zw1 zw1 (hI.1).g (Mod.refl _ _))) (upd_same V 14 _))
       ·intro D V zw1 a hR hI K hK;obtain ⟨hM1, hB1, hG1⟩ := hI.1;have zd14 := hR.pred 14 (by kernel_rfl);have zf14 : V 14 = .bool false := hI.2 14 zd14 rfl;have ze97 := hR.frame.done (t := 97) (j := 14) (by kernel_rfl) hR.ok zd14;rw [if_pos (by rfl)];go_simp;exact hK (.bool false) _ (hI.next hR (by kernel_rfl) (Mod.refl _ _) (PB.quiet hI.1 (Mod.refl _ _) (HGs.out D 15 zw1 zw1 (hI.1).g (Mod.refl _ _))) (upd_same V 15 _))
       ·intro D V zw1 a hR hI K hK;obtain ⟨hM1, hB1, hG1⟩ := hI.1;have zd15 := hR.pred 15 (by kernel_rfl);have zf15 : V 15 = .bool false := hI.2 15 zd15 rfl;have ze98 := hR.frame.done (t := 98) (j := 15) (by kernel_rfl) hR.ok zd15;rw [if_neg (by simp [Region.wanted, yielded, ze98, zf15])];exact hK undef _ (hI.next hR (by kernel_rfl) (Mod.refl _ _) (PB.quiet hI.1 (Mod.refl _ _) (HGs.out D 16 zw1 zw1 (hI.1).g (Mod.refl _ _))) (upd_same V 16 _))
       ·intro D V zw1 a hR hI K hK;obtain ⟨hM1, hB1, hG1⟩ := hI.1;have zd15 := hR.pred 15 (by kernel_rfl);have zf15 : V 15 = .bool false := hI.2 15 zd15 rfl;have ze98 := hR.frame.done (t := 98) (j := 15) (by kernel_rfl) hR.ok zd15;rw [if_neg (by simp [Region.wanted, yielded, ze98, zf15])];exact hK undef _ (hI.next hR (by kernel_rfl) (Mod.refl _ _) (PB.quiet hI.1 (Mod.refl _ _) (HGs.out D 17 zw1 zw1 (hI.1).g (Mod.refl _ _))) (upd_same V 17 _))
       ·intro D V zw1 a hR hI K hK;obtain ⟨hM1, hB1, hG1⟩ := hI.1;have zd15 := hR.pred 15 (by kernel_rfl);have zf15 : V 15 = .bool false := hI.2 15 zd15 rfl;have ze98 := hR.frame.done (t := 98) (j := 15) (by kernel_rfl) hR.ok zd15;rw [if_neg (by simp [Region.wanted, yielded, ze98, zf15])];exact hK undef _ (hI.next hR (by kernel_rfl) (Mod.refl _ _) (PB.quiet hI.1 (Mod.refl _ _) (HGs.out D 18 zw1 zw1 (hI.1).g (Mod.refl _ _))) (upd_same V 18 _))
       ·intro D V zw1 a hR hI K hK;obtain ⟨hM1, hB1, hG1⟩ := hI.1;have zd15 := hR.pred 15 (by kernel_rfl);have zf15 : V 15 = .bool false := hI.2 15 zd15 rfl;have ze98 := hR.frame.done (t := 98) (j := 15) (by kernel_rfl) hR.ok zd15;rw [if_neg (by simp [Region.wanted, yielded, ze98, zf15])];exact hK undef _ (hI.next hR (by kernel_rfl) (Mod.refl _ _) (PB.quiet hI.1 (Mod.refl _ _) (HGs.out D 19 zw1 zw1 (hI.1).g (Mod.refl _ _))) (upd_same V 19 _))
       ·intro D V zw1 a hR hI K hK;obtain ⟨hM1, hB1, hG1⟩ := hI.1;have zd15 := hR.pred 15 (by kernel_rfl);have zf15 : V 15 = .bool false := hI.2 15 zd15 rfl;have ze98 := hR.frame.done (t := 98) (j := 15) (by kernel_rfl) hR.ok zd15;rw [if_neg (by simp [Region.wanted, yielded, ze98, zf15])];exact hK undef _ (hI.next hR (by kernel_rfl) (Mod.refl _ _) (PB.quiet hI.1 (Mod.refl _ _) (HGs.out D 20 zw1 zw1 (hI.1).g (Mod.refl _ _))) (upd_same V 20 _))
       ·intro D V zw1 a hR hI K hK;obtain ⟨hM1, hB1, hG1⟩ := hI.1;have zd15 := hR.pred 15 (by kernel_rfl);have zf15 : V 15 = .bool false := hI.2 15 zd15 rfl;have ze98 := hR.frame.done (t := 98) (j := 15) (by kernel_rfl) hR.ok zd15;rw [if_neg (by simp [Region.wanted, yielded, ze98, zf15])];exact hK undef _ (hI.next hR (by kernel_rfl) (Mod.refl _ _) (PB.quiet hI.1 (Mod.refl _ _) (HGs.out D 21 zw1 zw1 (hI.1).g (Mod.refl _ _))) (upd_same V 21 _))
       ·intro D V zw1 a hR hI K hK;obtain ⟨hM1, hB1, hG1⟩ := hI.1;have zd15 := hR.pred 15 (by kernel_rfl);have zf15 : V 15 = .bool false := hI.2 15 zd15 rfl;have zd21 := hR.pred 21 (by kernel_rfl);have zf21 : V 21 = undef := hI.2 21 zd21 rfl;have ze98 := hR.frame.done (t := 98) (j := 15) (by kernel_rfl) hR.ok zd15;have ze104 := hR.frame.done (t := 104) (j := 21) (by kernel_rfl) hR.ok zd21;rw [if_pos (by rfl)];go_simp;exact hK (.bool false) _ (hI.next hR (by kernel_rfl) (Mod.refl _ _) (PB.quiet hI.1 (Mod.refl _ _) (HGs.out D 22 zw1 zw1 (hI.1).g (Mod.refl _ _))) (upd_same V 22 _))
       ·intro D V zw1 a hR hI K hK;obtain ⟨hM1, hB1, hG1⟩ := hI.1;have zd0 := hR.pred 0 (by kernel_rfl);have zf0 : V 0 = .agg #[.string ⟨a1.toArray⟩, .string ⟨a2.toArray⟩, .int .i64 kb, .string ⟨nm.toArray⟩, .int .i64 at_, .string ⟨pv.toArray⟩, .string ⟨#[]⟩] := hI.2 0 zd0 rfl;have ze2 := hR.frame.other (t := 2) (by kernel_rfl) rfl;have ze83 := hR.frame.done (t := 83) (j := 0) (by kernel_rfl) hR.ok zd0;rw [if_pos (by rfl)];have zx0 := hG1.1.cell 0; have zy0 := hG1.1.frozen 0;have zx1 := hG1.1.cell 1; have zy1 := hG1.1.frozen 1;have zx2 := hG1.1.cell 2; have zy2 := hG1.1.frozen 2;have zx3 := hG1.1.cell 3; have zy3 := hG1.1.frozen 3;have zx4 := hG1.1.cell 4; have zy4 := hG1.1.frozen 4;have zx5 := hG1.1.cell 5; have zy5 := hG1.1.frozen 5;have zx6 := hG1.1.cell 6; have zy6 := hG1.1.frozen 6;simp at zx0 zx1 zx2 zx3 zx4 zx5 zx6;go_simp;rw [setCell_same7 hG1.1];exact hK undef _ (hI.next hR (by kernel_rfl) (Mod.refl _ _) (PB.quiet hI.1 (Mod.refl _ _) (HGs.out D 23 zw1 zw1 (hI.1).g (Mod.refl _ _))) trivial)
       ·intro D V zw1 a hR hI K hK;obtain ⟨hM1, hB1, hG1⟩ := hI.1;have zd1 := hR.pred 1 (by kernel_rfl);have zf1 : V 1 = .int .i64 nv := hI.2 1 zd1 rfl;have ze84 := hR.frame.done (t := 84) (j := 1) (by kernel_rfl) hR.ok zd1;rw [if_pos (by rfl)];go_simp;exact hK (.int .i64 nv) _ (hI.next hR (by kernel_rfl) (Mod.refl _ _) (PB.quiet hI.1 (Mod.refl _ _) (HGs.out D 24 zw1 zw1 (hI.1).g (Mod.refl _ _))) (upd_same V 24 _))
       ·intro D V zw1 a hR hI K hK;obtain ⟨hM1, hB1, hG1⟩ := hI.1;have zd22 := hR.pred 22 (by kernel_rfl);have zf22 : V 22 = .bool false := hI.2 22 zd22 rfl;have ze105 := hR.frame.done (t := 105) (j := 22) (by kernel_rfl) hR.ok zd22;rw [if_pos (by rfl)];go_simp;exact hK (.bool false) _ (hI.next hR (by kernel_rfl) (Mod.refl _ _) (PB.quiet hI.1 (Mod.refl _ _) (HGs.out D 25 zw1 zw1 (hI.1).g (Mod.refl _ _))) (upd_same V 25 _))
      ·intro D V w9 hD hI;obtain ⟨hM1, hB1, hG1⟩ := hI.1;have hMx := hM1;clear hM1;have hBx := hB1;clear hB1;have hGx := hG1;clear hG1;have zf0 : V 0 = .agg #[.string ⟨a1.toArray⟩, .string ⟨a2.toArray⟩, .int .i64 kb, .string ⟨nm.toArray⟩, .int .i64 at_, .string ⟨pv.toArray⟩, .string ⟨#[]⟩] := hI.2 0 (hD 0 (by decide)) rfl;have zf1 : V 1 = .int .i64 nv := hI.2 1 (hD 1 (by decide)) rfl;have zf2 : V 2 = .pointer (some ⟨g2, 2, none⟩) := hI.2 2 (hD 2 (by decide)) rfl;have zf3 : V 3 = .int .i64 kb := hI.2 3 (hD 3 (by decide)) rfl;have zf4 : V 4 = .bool true := hI.2 4 (hD 4 (by decide)) rfl;have zf5 : V 5 = .bool true := hI.2 5 (hD 5 (by decide)) rfl;have zf6 : V 6 = .bool true := hI.2 6 (hD 6 (by decide)) rfl;have zf7 : V 7 = .bool true := hI.2 7 (hD 7 (by decide)) rfl;have zf8 : V 8 = .bool true := hI.2 8 (hD 8 (by decide)) rfl;have zf9 : V 9 = .bool false := hI.2 9 (hD 9 (by decide)) rfl;have zf10 : V 10 = .bool false := hI.2 10 (hD 10 (by decide)) rfl;have zf11 : V 11 = .bool false := hI.2 11 (hD 11 (by decide)) rfl;have zf12 : V 12 = undef := hI.2 12 (hD 12 (by decide)) rfl;have zf13 : V 13 = undef := hI.2 13 (hD 13 (by decide)) rfl;have zf14 : V 14 = .bool false := hI.2 14 (hD 14 (by decide)) rfl;have zf15 : V 15 = .bool false := hI.2 15 (hD 15 (by decide)) rfl;have zf16 : V 16 = undef := hI.2 16 (hD 16 (by decide)) rfl;have zf17 : V 17 = undef := hI.2 17 (hD 17 (by decide)) rfl;have zf18 : V 18 = undef := hI.2 18 (hD 18 (by decide)) rfl;have zf19 : V 19 = undef := hI.2 19 (hD 19 (by decide)) rfl;have zf20 : V 20 = undef := hI.2 20 (hD 20 (by decide)) rfl;have zf21 : V 21 = undef := hI.2 21 (hD 21 (by decide)) rfl;have zf22 : V 22 = .bool false := hI.2 22 (hD 22 (by decide)) rfl;have zf24 : V 24 = .int .i64 nv := hI.2 24 (hD 24 (by decide)) rfl;have zf25 : V 25 = .bool false := hI.2 25 (hD 25 (by decide)) rfl;clear hI hD HGs;simp only [frAll, Act.put, List.setIfInBounds_toArray, List.set_cons_zero, List.set_cons_succ, Nat.zero_add, Nat.reduceAdd, zf0, zf1, zf2, zf3, zf4, zf5, zf6, zf7, zf8, zf9, zf10, zf11, zf12, zf13, zf14, zf15, zf16, zf17, zf18, zf19, zf20, zf21, zf22, zf24, zf25];clear zf0 zf1 zf2 zf3 zf4 zf5 zf6 zf7 zf8 zf9 zf10 zf11 zf12 zf13 zf14 zf15 zf16 zf17 zf18 zf19 zf20 zf21 zf22 zf24 zf25;clear V D;have HZ9 := Lib.hid hGx.1;have HP9 : Hid (Pure w w9) := Lib.hid (HP7.out.trans hMx);clear hGx hMx hBx HZ7 HR7 HP7
       go_wp2_with fail
       have hz := HZ9.out;have u0 := hz.cell 0; have u1 := hz.cell 1; have u2 := hz.cell 2; have u3 := hz.cell 3; have u4 := hz.cell 4; have u5 := hz.cell 5; have u6 := hz.cell 6; simp at u0 u1 u2 u3 u4 u5 u6
       try simp only [Exit.inBlock, Exit.then]
       refine bodyPost_ret (v := .tuple #[.agg #[.string ⟨a1.toArray⟩, .string ⟨a2.toArray⟩, .int .i64 kb, .string ⟨nm.toArray⟩, .int .i64 at_, .string ⟨pv.toArray⟩, .string ⟨#[]⟩], .int .i64 nv, .bool false]) (by simp [results, Tryz.results65, go_sem, u0, u1, u2, u3, u4, u5, u6]) rfl ?_;exact NONE.out HN.out _ HP9.out ⟨a1, a2, kb, nm, at_, pv, []⟩ nv
     have hue := HUE.out
     rcases hue with ⟨hu, he9⟩ | ⟨k, hu, hnk, he0⟩
     ·subst he9;have HN : Hid (hdP l = none) := Lib.hid (by rw [HH4.out]; exact hdF_u hu);have HGs := Lib.hid (show ∀ (D : Nat → Bool) (zzi : Nat) (zq zq' : World), (fun _ zq => (fun Z => Blk Z g2 40 #[.string ⟨a1.toArray⟩, .string ⟨a2.toArray⟩, .int .i64 kb, .string ⟨nm.toArray⟩, .int .i64 at_, .string ⟨pv.toArray⟩, .string ⟨#[]⟩] ∧ Blk Z g1 9 #[.string ⟨#[105, 116, 101, 109]⟩, .string ⟨a1.toArray⟩, .string ⟨a2.toArray⟩, .string ⟨a3.toArray⟩, .string ⟨a4.toArray⟩, .string ⟨a5.toArray⟩, .string ⟨a6.toArray⟩, .string ⟨a7.toArray⟩]) zq) D zq → Mod (fun _ => False) zq zq' → (fun _ zq => (fun Z => Blk Z g2 40 #[.string ⟨a1.toArray⟩, .string ⟨a2.toArray⟩, .int .i64 kb, .string ⟨nm.toArray⟩, .int .i64 at_, .string ⟨pv.toArray⟩, .string ⟨#[]⟩] ∧ Blk Z g1 9 #[.string ⟨#[105, 116, 101, 109]⟩, .string ⟨a1.toArray⟩, .string ⟨a2.toArray⟩, .string ⟨a3.toArray⟩, .string ⟨a4.toArray⟩, .string ⟨a5.toArray⟩, .string ⟨a6.toArray⟩, .string ⟨a7.toArray⟩]) zq) (upd D zzi true) zq' from by intro D zzi zq zq' h hm; (exact ⟨h.1.modp hm, h.2.modp hm⟩))
      refine wp_region_inv (by kernel_rfl) (by kernel_rfl) (InvF (R := Mod (fun _ => False)) [.is (.agg #[.string ⟨a1.toArray⟩, .string ⟨a2.toArray⟩, .int .i64 kb, .string ⟨nm.toArray⟩, .int .i64 at_, .string ⟨pv.toArray⟩, .string ⟨#[]⟩]),
        .is (.int .i64 nv),
        .is (.pointer (some ⟨g2, 2, none⟩)),
        .is (.int .i64 kb),
        .is (.bool true),
        .is (.bool true),
        .is (.bool true),
        .is (.bool true),
        .is (.bool true),
        .is (.bool true),
        .is (.bool true),
        .is (.bool true),
        .is (.int .i64 9),
        .is (.bool false),
        .is (.bool false),
        .is (.bool false),
        .is (undef),
        .is (undef),
        .is (undef),
        .is (undef),
        .is (undef),
        .is (undef),
        .is (.bool false),
        .any,
        .is (.int .i64 nv),
        .is (.bool false)]
        (PB wc (fun _ => False) wc.heap.size (fun _ zq => (fun Z => Blk Z g2 40 #[.string ⟨a1.toArray⟩, .string ⟨a2.toArray⟩, .int .i64 kb, .string ⟨nm.toArray⟩, .int .i64 at_, .string ⟨pv.toArray⟩, .string ⟨#[]⟩] ∧ Blk Z g1 9 #[.string ⟨#[105, 116, 101, 109]⟩, .string ⟨a1.toArray⟩, .string ⟨a2.toArray⟩, .string ⟨a3.toArray⟩, .string ⟨a4.toArray⟩, .string ⟨a5.toArray⟩, .string ⟨a6.toArray⟩, .string ⟨a7.toArray⟩]) zq))) (InvF.start (PB.start (Mod.refl _ _) (Nat.le_refl _) (⟨HZ7.out, HR7.out⟩))) ?_ ?_
      ·refine .cons ?_ (.cons ?_ (.cons ?_ (.cons ?_ (.cons ?_ (.cons ?_ (.cons ?_ (.cons ?_ (.cons ?_ (.cons ?_ (.cons ?_ (.cons ?_ (.cons ?_ (.cons ?_ (.cons ?_ (.cons ?_ (.cons ?_ (.cons ?_ (.cons ?_ (.cons ?_ (.cons ?_ (.cons ?_ (.cons ?_ (.cons ?_ (.cons ?_ (.cons ?_ .nil)))))))))))))))))))))))))
       ·intro D V zw1 a hR hI K hK;obtain ⟨hM1, hB1, hG1⟩ := hI.1;have ze2 := hR.frame.other (t := 2) (by kernel_rfl) rfl;have zx0 := hG1.1.cell 0; have zx1 := hG1.1.cell 1; have zx2 := hG1.1.cell 2; have zx3 := hG1.1.cell 3; have zx4 := hG1.1.cell 4; have zx5 := hG1.1.cell 5; have zx6 := hG1.1.cell 6;simp at zx0 zx1 zx2 zx3 zx4 zx5 zx6;rw [if_pos (by rfl)];go_simp;exact hK (.agg #[.string ⟨a1.toArray⟩, .string ⟨a2.toArray⟩, .int .i64 kb, .string ⟨nm.toArray⟩, .int .i64 at_, .string ⟨pv.toArray⟩, .string ⟨#[]⟩]) _ (hI.next hR (by kernel_rfl) (Mod.refl _ _) (PB.quiet hI.1 (Mod.refl _ _) (HGs.out D 0 zw1 zw1 (hI.1).g (Mod.refl _ _))) (upd_same V 0 _))
       ·intro D V zw1 a hR hI K hK;obtain ⟨hM1, hB1, hG1⟩ := hI.1;have ze3 := hR.frame.undone (t := 3) (j := 24) (by kernel_rfl) (hR.later 24 rfl (by kernel_rfl)) rfl;rw [if_pos (by rfl)];go_simp;exact hK (.int .i64 nv) _ (hI.next hR (by kernel_rfl) (Mod.refl _ _) (PB.quiet hI.1 (Mod.refl _ _) (HGs.out D 1 zw1 zw1 (hI.1).g (Mod.refl _ _))) (upd_same V 1 _))
       ·intro D V zw1 a hR hI K hK;obtain ⟨hM1, hB1, hG1⟩ := hI.1;have ze2 := hR.frame.other (t := 2) (by kernel_rfl) rfl;rw [if_pos (by rfl)];go_simp;exact hK (.pointer (some ⟨g2, 2, none⟩)) _ (hI.next hR (by kernel_rfl) (Mod.refl _ _) (PB.quiet hI.1 (Mod.refl _ _) (HGs.out D 2 zw1 zw1 (hI.1).g (Mod.refl _ _))) (upd_same V 2 _))
       ·intro D V zw1 a hR hI K hK;obtain ⟨hM1, hB1, hG1⟩ := hI.1;have zd2 := hR.pred 2 (by kernel_rfl);have zf2 : V 2 = .pointer (some ⟨g2, 2, none⟩) := hI.2 2 zd2 rfl;have ze85 := hR.frame.done (t := 85) (j := 2) (by kernel_rfl) hR.ok zd2;have zx0 := hG1.1.cell 0; have zx1 := hG1.1.cell 1; have zx2 := hG1.1.cell 2; have zx3 := hG1.1.cell 3; have zx4 := hG1.1.cell 4; have zx5 := hG1.1.cell 5; have zx6 := hG1.1.cell 6;simp at zx0 zx1 zx2 zx3 zx4 zx5 zx6;rw [if_pos (by rfl)];go_simp;exact hK (.int .i64 kb) _ (hI.next hR (by kernel_rfl) (Mod.refl _ _) (PB.quiet hI.1 (Mod.refl _ _) (HGs.out D 3 zw1 zw1 (hI.1).g (Mod.refl _ _))) (upd_same V 3 _))
       ·intro D V zw1 a hR hI K hK;obtain ⟨hM1, hB1, hG1⟩ := hI.1;have zd3 := hR.pred 3 (by kernel_rfl);have zf3 : V 3 = .int .i64 kb := hI.2 3 zd3 rfl;have ze86 := hR.frame.done (t := 86) (j := 3) (by kernel_rfl) hR.ok zd3;rw [if_pos (by rfl)];go_simp;exact hK (.bool true) _ (hI.next hR (by kernel_rfl) (Mod.refl _ _) (PB.quiet hI.1 (Mod.refl _ _) (HGs.out D 4 zw1 zw1 (hI.1).g (Mod.refl _ _))) (upd_same V 4 _))
       ·intro D V zw1 a hR hI K hK;obtain ⟨hM1, hB1, hG1⟩ := hI.1;have zd4 := hR.pred 4 (by kernel_rfl);have zf4 : V 4 = .bool true := hI.2 4 zd4 rfl;have ze87 := hR.frame.done (t := 87) (j := 4) (by kernel_rfl) hR.ok zd4;rw [if_pos (by rfl)];go_simp;exact hK (.bool true) _ (hI.next hR (by kernel_rfl) (Mod.refl _ _) (PB.quiet hI.1 (Mod.refl _ _) (HGs.out D 5 zw1 zw1 (hI.1).g (Mod.refl _ _))) (upd_same V 5 _))
       ·intro D V zw1 a hR hI K hK;obtain ⟨hM1, hB1, hG1⟩ := hI.1;have zd5 := hR.pred 5 (by kernel_rfl);have zf5 : V 5 = .bool true := hI.2 5 zd5 rfl;have ze8 := hR.frame.other (t := 8) (by kernel_rfl) rfl;have ze88 := hR.frame.done (t := 88) (j := 5) (by kernel_rfl) hR.ok zd5;rw [if_pos (by simp [Region.wanted, yielded, ze88, zf5])];go_simp;exact hK (.bool true) _ (hI.next hR (by kernel_rfl) (Mod.refl _ _) (PB.quiet hI.1 (Mod.refl _ _) (HGs.out D 6 zw1 zw1 (hI.1).g (Mod.refl _ _))) (upd_same V 6 _))
       ·intro D V zw1 a hR hI K hK;obtain ⟨hM1, hB1, hG1⟩ := hI.1;have zd5 := hR.pred 5 (by kernel_rfl);have zf5 : V 5 = .bool true := hI.2 5 zd5 rfl;have zd6 := hR.pred 6 (by kernel_rfl);have zf6 : V 6 = .bool true := hI.2 6 zd6 rfl;have ze88 := hR.frame.done (t := 88) (j := 5) (by kernel_rfl) hR.ok zd5;have ze89 := hR.frame.done (t := 89) (j := 6) (by kernel_rfl) hR.ok zd6;rw [if_pos (by rfl)];go_simp;exact hK (.bool true) _ (hI.next hR (by kernel_rfl) (Mod.refl _ _) (PB.quiet hI.1 (Mod.refl _ _) (HGs.out D 7 zw1 zw1 (hI.1).g (Mod.refl _ _))) (upd_same V 7 _))
       ·intro D V zw1 a hR hI K hK;obtain ⟨hM1, hB1, hG1⟩ := hI.1;have zd7 := hR.pred 7 (by kernel_rfl);have zf7 : V 7 = .bool true := hI.2 7 zd7 rfl;have ze90 := hR.frame.done (t := 90) (j := 7) (by kernel_rfl) hR.ok zd7;rw [if_pos (by rfl)];go_simp;exact hK (.bool true) _ (hI.next hR (by kernel_rfl) (Mod.refl _ _) (PB.quiet hI.1 (Mod.refl _ _) (HGs.out D 8 zw1 zw1 (hI.1).g (Mod.refl _ _))) (upd_same V 8 _))
       ·intro D V zw1 a hR hI K hK;obtain ⟨hM1, hB1, hG1⟩ := hI.1;have zd8 := hR.pred 8 (by kernel_rfl);have zf8 : V 8 = .bool true := hI.2 8 zd8 rfl;have ze12 := hR.frame.other (t := 12) (by kernel_rfl) rfl;have ze91 := hR.frame.done (t := 91) (j := 8) (by kernel_rfl) hR.ok zd8;rw [if_pos (by simp [Region.wanted, yielded, ze91, zf8])];go_simp;exact hK (.bool true) _ (hI.next hR (by kernel_rfl) (Mod.refl _ _) (PB.quiet hI.1 (Mod.refl _ _) (HGs.out D 9 zw1 zw1 (hI.1).g (Mod.refl _ _))) (upd_same V 9 _))
       ·intro D V zw1 a hR hI K hK;obtain ⟨hM1, hB1, hG1⟩ := hI.1;have zd8 := hR.pred 8 (by kernel_rfl);have zf8 : V 8 = .bool true := hI.2 8 zd8 rfl;have zd9 := hR.pred 9 (by kernel_rfl);have zf9 : V 9 = .bool true := hI.2 9 zd9 rfl;have ze91 := hR.frame.done (t := 91) (j := 8) (by kernel_rfl) hR.ok zd8;have ze92 := hR.frame.done (t := 92) (j := 9) (by kernel_rfl) hR.ok zd9;rw [if_pos (by rfl)];go_simp;exact hK (.bool true) _ (hI.next hR (by kernel_rfl) (Mod.refl _ _) (PB.quiet hI.1 (Mod.refl _ _) (HGs.out D 10 zw1 zw1 (hI.1).g (Mod.refl _ _))) (upd_same V 10 _))
       ·intro D V zw1 a hR hI K hK;obtain ⟨hM1, hB1, hG1⟩ := hI.1;have zd10 := hR.pred 10 (by kernel_rfl);have zf10 : V 10 = .bool true := hI.2 10 zd10 rfl;have ze93 := hR.frame.done (t := 93) (j := 10) (by kernel_rfl) hR.ok zd10;rw [if_pos (by rfl)];go_simp;exact hK (.bool true) _ (hI.next hR (by kernel_rfl) (Mod.refl _ _) (PB.quiet hI.1 (Mod.refl _ _) (HGs.out D 11 zw1 zw1 (hI.1).g (Mod.refl _ _))) (upd_same V 11 _))
       ·intro D V zw1 a hR hI K hK;obtain ⟨hM1, hB1, hG1⟩ := hI.1;have zd11 := hR.pred 11 (by kernel_rfl);have zf11 : V 11 = .bool true := hI.2 11 zd11 rfl;have ze11 := hR.frame.other (t := 11) (by kernel_rfl) rfl;have ze94 := hR.frame.done (t := 94) (j := 11) (by kernel_rfl) hR.ok zd11;rw [if_pos (by simp [Region.wanted, yielded, ze94, zf11])];go_simp;exact hK (.int .i64 9) _ (hI.next hR (by kernel_rfl) (Mod.refl _ _) (PB.quiet hI.1 (Mod.refl _ _) (HGs.out D 12 zw1 zw1 (hI.1).g (Mod.refl _ _))) (upd_same V 12 _))
       ·intro D V zw1 a hR hI K hK;obtain ⟨hM1, hB1, hG1⟩ := hI.1;have zd12 := hR.pred 12 (by kernel_rfl);have zf12 : V 12 = .int .i64 9 := hI.2 12 zd12 rfl;have zd11 := hR.pred 11 (by kernel_rfl);have zf11 : V 11 = .bool true := hI.2 11 zd11 rfl;have ze95 := hR.frame.done (t := 95) (j := 12) (by kernel_rfl) hR.ok zd12;have ze94 := hR.frame.done (t := 94) (j := 11) (by kernel_rfl) hR.ok zd11;rw [if_pos (by simp [Region.wanted, yielded, ze94, zf11])];go_simp;exact hK (.bool false) _ (hI.next hR (by kernel_rfl) (Mod.refl _ _) (PB.quiet hI.1 (Mod.refl _ _) (HGs.out D 13 zw1 zw1 (hI.1).g (Mod.refl _ _))) (upd_same V 13 _))
       ·intro D V zw1 a hR hI K hK;obtain ⟨hM1, hB1, hG1⟩ := hI.1;have zd11 := hR.pred 11 (by kernel_rfl);have zf11 : V 11 = .bool true := hI.2 11 zd11 rfl;have zd13 := hR.pred 13 (by kernel_rfl);have zf13 : V 13 = .bool false := hI.2 13 zd13 rfl;have ze94 := hR.frame.done (t := 94) (j := 11) (by kernel_rfl) hR.ok zd11;have ze96 := hR.frame.done (t := 96) (j := 13) (by kernel_rfl) hR.ok zd13;rw [if_pos (by rfl)];go_simp;exact hK (.bool false) _ (hI.next hR (by kernel_rfl) (Mod.refl _ _) (PB.quiet hI.1 (Mod.refl _ _) (HGs.out D 14 zw1 zw1 (hI.1).g (Mod.refl _ _))) (upd_same V 14 _))
       ·intro D V zw1 a hR hI K hK;obtain ⟨hM1, hB1, hG1⟩ := hI.1;have zd14 := hR.pred 14 (by kernel_rfl);have zf14 : V 14 = .bool false := hI.2 14 zd14 rfl;have ze97 := hR.frame.done (t := 97) (j := 14) (by kernel_rfl) hR.ok zd14;rw [if_pos (by rfl)];go_simp;exact hK (.bool false) _ (hI.next hR (by kernel_rfl) (Mod.refl _ _) (PB.quiet hI.1 (Mod.refl _ _) (HGs.out D 15 zw1 zw1 (hI.1).g (Mod.refl _ _))) (upd_same V 15 _))
       ·intro D V zw1 a hR hI K hK;obtain ⟨hM1, hB1, hG1⟩ := hI.1;have zd15 := hR.pred 15 (by kernel_rfl);have zf15 : V 15 = .bool false := hI.2 15 zd15 rfl;have ze98 := hR.frame.done (t := 98) (j := 15) (by kernel_rfl) hR.ok zd15;rw [if_neg (by simp [Region.wanted, yielded, ze98, zf15])];exact hK undef _ (hI.next hR (by kernel_rfl) (Mod.refl _ _) (PB.quiet hI.1 (Mod.refl _ _) (HGs.out D 16 zw1 zw1 (hI.1).g (Mod.refl _ _))) (upd_same V 16 _))
       ·intro D V zw1 a hR hI K hK;obtain ⟨hM1, hB1, hG1⟩ := hI.1;have zd15 := hR.pred 15 (by kernel_rfl);have zf15 : V 15 = .bool false := hI.2 15 zd15 rfl;have ze98 := hR.frame.done (t := 98) (j := 15) (by kernel_rfl) hR.ok zd15;rw [if_neg (by simp [Region.wanted, yielded, ze98, zf15])];exact hK undef _ (hI.next hR (by kernel_rfl) (Mod.refl _ _) (PB.quiet hI.1 (Mod.refl _ _) (HGs.out D 17 zw1 zw1 (hI.1).g (Mod.refl _ _))) (upd_same V 17 _))
       ·intro D V zw1 a hR hI K hK;obtain ⟨hM1, hB1, hG1⟩ := hI.1;have zd15 := hR.pred 15 (by kernel_rfl);have zf15 : V 15 = .bool false := hI.2 15 zd15 rfl;have ze98 := hR.frame.done (t := 98) (j := 15) (by kernel_rfl) hR.ok zd15;rw [if_neg (by simp [Region.wanted, yielded, ze98, zf15])];exact hK undef _ (hI.next hR (by kernel_rfl) (Mod.refl _ _) (PB.quiet hI.1 (Mod.refl _ _) (HGs.out D 18 zw1 zw1 (hI.1).g (Mod.refl _ _))) (upd_same V 18 _))
       ·intro D V zw1 a hR hI K hK;obtain ⟨hM1, hB1, hG1⟩ := hI.1;have zd15 := hR.pred 15 (by kernel_rfl);have zf15 : V 15 = .bool false := hI.2 15 zd15 rfl;have ze98 := hR.frame.done (t := 98) (j := 15) (by kernel_rfl) hR.ok zd15;rw [if_neg (by simp [Region.wanted, yielded, ze98, zf15])];exact hK undef _ (hI.next hR (by kernel_rfl) (Mod.refl _ _) (PB.quiet hI.1 (Mod.refl _ _) (HGs.out D 19 zw1 zw1 (hI.1).g (Mod.refl _ _))) (upd_same V 19 _))
       ·intro D V zw1 a hR hI K hK;obtain ⟨hM1, hB1, hG1⟩ := hI.1;have zd15 := hR.pred 15 (by kernel_rfl);have zf15 : V 15 = .bool false := hI.2 15 zd15 rfl;have ze98 := hR.frame.done (t := 98) (j := 15) (by kernel_rfl) hR.ok zd15;rw [if_neg (by simp [Region.wanted, yielded, ze98, zf15])];exact hK undef _ (hI.next hR (by kernel_rfl) (Mod.refl _ _) (PB.quiet hI.1 (Mod.refl _ _) (HGs.out D 20 zw1 zw1 (hI.1).g (Mod.refl _ _))) (upd_same V 20 _))
       ·intro D V zw1 a hR hI K hK;obtain ⟨hM1, hB1, hG1⟩ := hI.1;have zd15 := hR.pred 15 (by kernel_rfl);have zf15 : V 15 = .bool false := hI.2 15 zd15 rfl;have ze98 := hR.frame.done (t := 98) (j := 15) (by kernel_rfl) hR.ok zd15;rw [if_neg (by simp [Region.wanted, yielded, ze98, zf15])];exact hK undef _ (hI.next hR (by kernel_rfl) (Mod.refl _ _) (PB.quiet hI.1 (Mod.refl _ _) (HGs.out D 21 zw1 zw1 (hI.1).g (Mod.refl _ _))) (upd_same V 21 _))
       ·intro D V zw1 a hR hI K hK;obtain ⟨hM1, hB1, hG1⟩ := hI.1;have zd15 := hR.pred 15 (by kernel_rfl);have zf15 : V 15 = .bool false := hI.2 15 zd15 rfl;have zd21 := hR.pred 21 (by kernel_rfl);have zf21 : V 21 = undef := hI.2 21 zd21 rfl;have ze98 := hR.frame.done (t := 98) (j := 15) (by kernel_rfl) hR.ok zd15;have ze104 := hR.frame.done (t := 104) (j := 21) (by kernel_rfl) hR.ok zd21;rw [if_pos (by rfl)];go_simp;exact hK (.bool false) _ (hI.next hR (by kernel_rfl) (Mod.refl _ _) (PB.quiet hI.1 (Mod.refl _ _) (HGs.out D 22 zw1 zw1 (hI.1).g (Mod.refl _ _))) (upd_same V 22 _))
       ·intro D V zw1 a hR hI K hK;obtain ⟨hM1, hB1, hG1⟩ := hI.1;have zd0 := hR.pred 0 (by kernel_rfl);have zf0 : V 0 = .agg #[.string ⟨a1.toArray⟩, .string ⟨a2.toArray⟩, .int .i64 kb, .string ⟨nm.toArray⟩, .int .i64 at_, .string ⟨pv.toArray⟩, .string ⟨#[]⟩] := hI.2 0 zd0 rfl;have ze2 := hR.frame.other (t := 2) (by kernel_rfl) rfl;have ze83 := hR.frame.done (t := 83) (j := 0) (by kernel_rfl) hR.ok zd0;rw [if_pos (by rfl)];have zx0 := hG1.1.cell 0; have zy0 := hG1.1.frozen 0;have zx1 := hG1.1.cell 1; have zy1 := hG1.1.frozen 1;have zx2 := hG1.1.cell 2; have zy2 := hG1.1.frozen 2;have zx3 := hG1.1.cell 3; have zy3 := hG1.1.frozen 3;have zx4 := hG1.1.cell 4; have zy4 := hG1.1.frozen 4;have zx5 := hG1.1.cell 5; have zy5 := hG1.1.frozen 5;have zx6 := hG1.1.cell 6; have zy6 := hG1.1.frozen 6;simp at zx0 zx1 zx2 zx3 zx4 zx5 zx6;go_simp;rw [setCell_same7 hG1.1];exact hK undef _ (hI.next hR (by kernel_rfl) (Mod.refl _ _) (PB.quiet hI.1 (Mod.refl _ _) (HGs.out D 23 zw1 zw1 (hI.1).g (Mod.refl _ _))) trivial)
       ·intro D V zw1 a hR hI K hK;obtain ⟨hM1, hB1, hG1⟩ := hI.1;have zd1 := hR.pred 1 (by kernel_rfl);have zf1 : V 1 = .int .i64 nv := hI.2 1 zd1 rfl;have ze84 := hR.frame.done (t := 84) (j := 1) (by kernel_rfl) hR.ok zd1;rw [if_pos (by rfl)];go_simp;exact hK (.int .i64 nv) _ (hI.next hR (by kernel_rfl) (Mod.refl _ _) (PB.quiet hI.1 (Mod.refl _ _) (HGs.out D 24 zw1 zw1 (hI.1).g (Mod.refl _ _))) (upd_same V 24 _))
       ·intro D V zw1 a hR hI K hK;obtain ⟨hM1, hB1, hG1⟩ := hI.1;have zd22 := hR.pred 22 (by kernel_rfl);have zf22 : V 22 = .bool false := hI.2 22 zd22 rfl;have ze105 := hR.frame.done (t := 105) (j := 22) (by kernel_rfl) hR.ok zd22;rw [if_pos (by rfl)];go_simp;exact hK (.bool false) _ (hI.next hR (by kernel_rfl) (Mod.refl _ _) (PB.quiet hI.1 (Mod.refl _ _) (HGs.out D 25 zw1 zw1 (hI.1).g (Mod.refl _ _))) (upd_same V 25 _))
      ·intro D V w9 hD hI;obtain ⟨hM1, hB1, hG1⟩ := hI.1;have hMx := hM1;clear hM1;have hBx := hB1;clear hB1;have hGx := hG1;clear hG1;have zf0 : V 0 = .agg #[.string ⟨a1.toArray⟩, .string ⟨a2.toArray⟩, .int .i64 kb, .string ⟨nm.toArray⟩, .int .i64 at_, .string ⟨pv.toArray⟩, .string ⟨#[]⟩] := hI.2 0 (hD 0 (by decide)) rfl;have zf1 : V 1 = .int .i64 nv := hI.2 1 (hD 1 (by decide)) rfl;have zf2 : V 2 = .pointer (some ⟨g2, 2, none⟩) := hI.2 2 (hD 2 (by decide)) rfl;have zf3 : V 3 = .int .i64 kb := hI.2 3 (hD 3 (by decide)) rfl;have zf4 : V 4 = .bool true := hI.2 4 (hD 4 (by decide)) rfl;have zf5 : V 5 = .bool true := hI.2 5 (hD 5 (by decide)) rfl;have zf6 : V 6 = .bool true := hI.2 6 (hD 6 (by decide)) rfl;have zf7 : V 7 = .bool true := hI.2 7 (hD 7 (by decide)) rfl;have zf8 : V 8 = .bool true := hI.2 8 (hD 8 (by decide)) rfl;have zf9 : V 9 = .bool true := hI.2 9 (hD 9 (by decide)) rfl;have zf10 : V 10 = .bool true := hI.2 10 (hD 10 (by decide)) rfl;have zf11 : V 11 = .bool true := hI.2 11 (hD 11 (by decide)) rfl;have zf12 : V 12 = .int .i64 9 := hI.2 12 (hD 12 (by decide)) rfl;have zf13 : V 13 = .bool false := hI.2 13 (hD 13 (by decide)) rfl;have zf14 : V 14 = .bool false := hI.2 14 (hD 14 (by decide)) rfl;have zf15 : V 15 = .bool false := hI.2 15 (hD 15 (by decide)) rfl;have zf16 : V 16 = undef := hI.2 16 (hD 16 (by decide)) rfl;have zf17 : V 17 = undef := hI.2 17 (hD 17 (by decide)) rfl;have zf18 : V 18 = undef := hI.2 18 (hD 18 (by decide)) rfl;have zf19 : V 19 = undef := hI.2 19 (hD 19 (by decide)) rfl;have zf20 : V 20 = undef := hI.2 20 (hD 20 (by decide)) rfl;have zf21 : V 21 = undef := hI.2 21 (hD 21 (by decide)) rfl;have zf22 : V 22 = .bool false := hI.2 22 (hD 22 (by decide)) rfl;have zf24 : V 24 = .int .i64 nv := hI.2 24 (hD 24 (by decide)) rfl;have zf25 : V 25 = .bool false := hI.2 25 (hD 25 (by decide)) rfl;clear hI hD HGs;simp only [frAll, Act.put, List.setIfInBounds_toArray, List.set_cons_zero, List.set_cons_succ, Nat.zero_add, Nat.reduceAdd, zf0, zf1, zf2, zf3, zf4, zf5, zf6, zf7, zf8, zf9, zf10, zf11, zf12, zf13, zf14, zf15, zf16, zf17, zf18, zf19, zf20, zf21, zf22, zf24, zf25];clear zf0 zf1 zf2 zf3 zf4 zf5 zf6 zf7 zf8 zf9 zf10 zf11 zf12 zf13 zf14 zf15 zf16 zf17 zf18 zf19 zf20 zf21 zf22 zf24 zf25;clear V D;have HZ9 := Lib.hid hGx.1;have HP9 : Hid (Pure w w9) := Lib.hid (HP7.out.trans hMx);clear hGx hMx hBx HZ7 HR7 HP7
       go_wp2_with fail
       have hz := HZ9.out;have u0 := hz.cell 0; have u1 := hz.cell 1; have u2 := hz.cell 2; have u3 := hz.cell 3; have u4 := hz.cell 4; have u5 := hz.cell 5; have u6 := hz.cell 6; simp at u0 u1 u2 u3 u4 u5 u6
       try simp only [Exit.inBlock, Exit.then]
       refine bodyPost_ret (v := .tuple #[.agg #[.string ⟨a1.toArray⟩, .string ⟨a2.toArray⟩, .int .i64 kb, .string ⟨nm.toArray⟩, .int .i64 at_, .string ⟨pv.toArray⟩, .string ⟨#[]⟩], .int .i64 nv, .bool false]) (by simp [results, Tryz.results65, go_sem, u0, u1, u2, u3, u4, u5, u6]) rfl ?_;exact NONE.out HN.out _ HP9.out ⟨a1, a2, kb, nm, at_, pv, []⟩ nv
     ·subst he0 hnk;obtain ⟨bq, hbq⟩ : ∃ bq, ((k : Int) == (a6.length : Int)) = bq := ⟨_, rfl⟩
      have FIN : Hid (∀ W, Pure w W → HdPost w l (.returned (.tuple #[.agg #[.string ⟨a1.toArray⟩, .string ⟨a2.toArray⟩, .int .i64 kb, .string ⟨nm.toArray⟩, .int .i64 at_, .string ⟨pv.toArray⟩, .string ⟨#[]⟩], .int .i64 nv, .bool bq])) W) := Lib.hid (fun W hm => by
       obtain ⟨a, ha⟩ := Option.isSome_iff_exists.1 HOB.out;have hnb := HNB.out;simp only [Bool.and_eq_true, decide_eq_true_eq] at hnb;obtain ⟨n, hn⟩ := Option.isSome_iff_exists.1 hnb.1;have e1 := HAT.out a ha;have e2 := HNV.out n hn;subst e1 e2;have hh := HH4.out.trans (hdF_full ha hn hu);rw [HKB.out, HPV.out] at hh
       have hkne : kb ≠ 0 := by omega
       refine ⟨⟨a1, a2, kb, nm, at_, pv, []⟩, nv, ?_, ?_, hm⟩
       ·rw [hh]
        cases bq
        ·rw [if_neg (fun h => by have h2 := h.2.1; rw [h2] at hbq; simp at hbq)]
         rfl
        ·rw [if_pos ⟨hkne, Int.ofNat.inj (by simpa using hbq), hnb.2⟩]
         rfl
       ·intro p hp;rw [hh] at hp
        split at hp
        ·injection hp with hp; exact hp.symm
        ·cases hp)
      have HGs := Lib.hid (show ∀ (D : Nat → Bool) (zzi : Nat) (zq zq' : World), (fun _ zq => (fun Z => Blk Z g2 40 #[.string ⟨a1.toArray⟩, .string ⟨a2.toArray⟩, .int .i64 kb, .string ⟨nm.toArray⟩, .int .i64 at_, .string ⟨pv.toArray⟩, .string ⟨#[]⟩] ∧ Blk Z g1 9 #[.string ⟨#[105, 116, 101, 109]⟩, .string ⟨a1.toArray⟩, .string ⟨a2.toArray⟩, .string ⟨a3.toArray⟩, .string ⟨a4.toArray⟩, .string ⟨a5.toArray⟩, .string ⟨a6.toArray⟩, .string ⟨a7.toArray⟩]) zq) D zq → Mod (fun _ => False) zq zq' → (fun _ zq => (fun Z => Blk Z g2 40 #[.string ⟨a1.toArray⟩, .string ⟨a2.toArray⟩, .int .i64 kb, .string ⟨nm.toArray⟩, .int .i64 at_, .string ⟨pv.toArray⟩, .string ⟨#[]⟩] ∧ Blk Z g1 9 #[.string ⟨#[105, 116, 101, 109]⟩, .string ⟨a1.toArray⟩, .string ⟨a2.toArray⟩, .string ⟨a3.toArray⟩, .string ⟨a4.toArray⟩, .string ⟨a5.toArray⟩, .string ⟨a6.toArray⟩, .string ⟨a7.toArray⟩]) zq) (upd D zzi true) zq' from by intro D zzi zq zq' h hm; (exact ⟨h.1.modp hm, h.2.modp hm⟩))
      refine wp_region_inv (by kernel_rfl) (by kernel_rfl) (InvF (R := Mod (fun _ => False)) [.is (.agg #[.string ⟨a1.toArray⟩, .string ⟨a2.toArray⟩, .int .i64 kb, .string ⟨nm.toArray⟩, .int .i64 at_, .string ⟨pv.toArray⟩, .string ⟨#[]⟩]),
        .is (.int .i64 nv),
        .is (.pointer (some ⟨g2, 2, none⟩)),
        .is (.int .i64 kb),
        .is (.bool true),
        .is (.bool true),
        .is (.bool true),
        .is (.bool true),
        .is (.bool true),
        .is (.bool true),
        .is (.bool true),
        .is (.bool true),
        .is (.int .i64 0),
        .is (.bool true),
        .is (.bool true),
        .is (.bool true),
        .is (.int .i64 (k : Int)),
        .is (.slice (some ⟨g1, 0, none⟩) 8 8),
        .is (.pointer (some ⟨g1, 6, none⟩)),
        .is (.string ⟨a6.toArray⟩),
        .is (.int .i64 (a6.length : Int)),
        .is (.bool bq),
        .is (.bool bq),
        .any,
        .is (.int .i64 nv),
        .is (.bool bq)]
        (PB wc (fun _ => False) wc.heap.size (fun _ zq => (fun Z => Blk Z g2 40 #[.string ⟨a1.toArray⟩, .string ⟨a2.toArray⟩, .int .i64 kb, .string ⟨nm.toArray⟩, .int .i64 at_, .string ⟨pv.toArray⟩, .string ⟨#[]⟩] ∧ Blk Z g1 9 #[.string ⟨#[105, 116, 101, 109]⟩, .string ⟨a1.toArray⟩, .string ⟨a2.toArray⟩, .string ⟨a3.toArray⟩, .string ⟨a4.toArray⟩, .string ⟨a5.toArray⟩, .string ⟨a6.toArray⟩, .string ⟨a7.toArray⟩]) zq))) (InvF.start (PB.start (Mod.refl _ _) (Nat.le_refl _) (⟨HZ7.out, HR7.out⟩))) ?_ ?_
      ·refine .cons ?_ (.cons ?_ (.cons ?_ (.cons ?_ (.cons ?_ (.cons ?_ (.cons ?_ (.cons ?_ (.cons ?_ (.cons ?_ (.cons ?_ (.cons ?_ (.cons ?_ (.cons ?_ (.cons ?_ (.cons ?_ (.cons ?_ (.cons ?_ (.cons ?_ (.cons ?_ (.cons ?_ (.cons ?_ (.cons ?_ (.cons ?_ (.cons ?_ (.cons ?_ .nil)))))))))))))))))))))))))
       ·intro D V zw1 a hR hI K hK;obtain ⟨hM1, hB1, hG1⟩ := hI.1;have ze2 := hR.frame.other (t := 2) (by kernel_rfl) rfl;have zx0 := hG1.1.cell 0; have zx1 := hG1.1.cell 1; have zx2 := hG1.1.cell 2; have zx3 := hG1.1.cell 3; have zx4 := hG1.1.cell 4; have zx5 := hG1.1.cell 5; have zx6 := hG1.1.cell 6;simp at zx0 zx1 zx2 zx3 zx4 zx5 zx6;rw [if_pos (by rfl)];go_simp;exact hK (.agg #[.string ⟨a1.toArray⟩, .string ⟨a2.toArray⟩, .int .i64 kb, .string ⟨nm.toArray⟩, .int .i64 at_, .string ⟨pv.toArray⟩, .string ⟨#[]⟩]) _ (hI.next hR (by kernel_rfl) (Mod.refl _ _) (PB.quiet hI.1 (Mod.refl _ _) (HGs.out D 0 zw1 zw1 (hI.1).g (Mod.refl _ _))) (upd_same V 0 _))
       ·intro D V zw1 a hR hI K hK;obtain ⟨hM1, hB1, hG1⟩ := hI.1;have ze3 := hR.frame.undone (t := 3) (j := 24) (by kernel_rfl) (hR.later 24 rfl (by kernel_rfl)) rfl;rw [if_pos (by rfl)];go_simp;exact hK (.int .i64 nv) _ (hI.next hR (by kernel_rfl) (Mod.refl _ _) (PB.quiet hI.1 (Mod.refl _ _) (HGs.out D 1 zw1 zw1 (hI.1).g (Mod.refl _ _))) (upd_same V 1 _))
       ·intro D V zw1 a hR hI K hK;obtain ⟨hM1, hB1, hG1⟩ := hI.1;have ze2 := hR.frame.other (t := 2) (by kernel_rfl) rfl;rw [if_pos (by rfl)];go_simp;exact hK (.pointer (some ⟨g2, 2, none⟩)) _ (hI.next hR (by kernel_rfl) (Mod.refl _ _) (PB.quiet hI.1 (Mod.refl _ _) (HGs.out D 2 zw1 zw1 (hI.1).g (Mod.refl _ _))) (upd_same V 2 _))
       ·intro D V zw1 a hR hI K hK;obtain ⟨hM1, hB1, hG1⟩ := hI.1;have zd2 := hR.pred 2 (by kernel_rfl);have zf2 : V 2 = .pointer (some ⟨g2, 2, none⟩) := hI.2 2 zd2 rfl;have ze85 := hR.frame.done (t := 85) (j := 2) (by kernel_rfl) hR.ok zd2;have zx0 := hG1.1.cell 0; have zx1 := hG1.1.cell 1; have zx2 := hG1.1.cell 2; have zx3 := hG1.1.cell 3; have zx4 := hG1.1.cell 4; have zx5 := hG1.1.cell 5; have zx6 := hG1.1.cell 6;simp at zx0 zx1 zx2 zx3 zx4 zx5 zx6;rw [if_pos (by rfl)];go_simp;exact hK (.int .i64 kb) _ (hI.next hR (by kernel_rfl) (Mod.refl _ _) (PB.quiet hI.1 (Mod.refl _ _) (HGs.out D 3 zw1 zw1 (hI.1).g (Mod.refl _ _))) (upd_same V 3 _))
       ·intro D V zw1 a hR hI K hK;obtain ⟨hM1, hB1, hG1⟩ := hI.1;have zd3 := hR.pred 3 (by kernel_rfl);have zf3 : V 3 = .int .i64 kb := hI.2 3 zd3 rfl;have ze86 := hR.frame.done (t := 86) (j := 3) (by kernel_rfl) hR.ok zd3;rw [if_pos (by rfl)];go_simp;exact hK (.bool true) _ (hI.next hR (by kernel_rfl) (Mod.refl _ _) (PB.quiet hI.1 (Mod.refl _ _) (HGs.out D 4 zw1 zw1 (hI.1).g (Mod.refl _ _))) (upd_same V 4 _))
       ·intro D V zw1 a hR hI K hK;obtain ⟨hM1, hB1, hG1⟩ := hI.1;have zd4 := hR.pred 4 (by kernel_rfl);have zf4 : V 4 = .bool true := hI.2 4 zd4 rfl;have ze87 := hR.frame.done (t := 87) (j := 4) (by kernel_rfl) hR.ok zd4;rw [if_pos (by rfl)];go_simp;exact hK (.bool true) _ (hI.next hR (by kernel_rfl) (Mod.refl _ _) (PB.quiet hI.1 (Mod.refl _ _) (HGs.out D 5 zw1 zw1 (hI.1).g (Mod.refl _ _))) (upd_same V 5 _))
       ·intro D V zw1 a hR hI K hK;obtain ⟨hM1, hB1, hG1⟩ := hI.1;have zd5 := hR.pred 5 (by kernel_rfl);have zf5 : V 5 = .bool true := hI.2 5 zd5 rfl;have ze8 := hR.frame.other (t := 8) (by kernel_rfl) rfl;have ze88 := hR.frame.done (t := 88) (j := 5) (by kernel_rfl) hR.ok zd5;rw [if_pos (by simp [Region.wanted, yielded, ze88, zf5])];go_simp;exact hK (.bool true) _ (hI.next hR (by kernel_rfl) (Mod.refl _ _) (PB.quiet hI.1 (Mod.refl _ _) (HGs.out D 6 zw1 zw1 (hI.1).g (Mod.refl _ _))) (upd_same V 6 _))
       ·intro D V zw1 a hR hI K hK;obtain ⟨hM1, hB1, hG1⟩ := hI.1;have zd5 := hR.pred 5 (by kernel_rfl);have zf5 : V 5 = .bool true := hI.2 5 zd5 rfl;have zd6 := hR.pred 6 (by kernel_rfl);have zf6 : V 6 = .bool true := hI.2 6 zd6 rfl;have ze88 := hR.frame.done (t := 88) (j := 5) (by kernel_rfl) hR.ok zd5;have ze89 := hR.frame.done (t := 89) (j := 6) (by kernel_rfl) hR.ok zd6;rw [if_pos (by rfl)];go_simp;exact hK (.bool true) _ (hI.next hR (by kernel_rfl) (Mod.refl _ _) (PB.quiet hI.1 (Mod.refl _ _) (HGs.out D 7 zw1 zw1 (hI.1).g (Mod.refl _ _))) (upd_same V 7 _))
       ·intro D V zw1 a hR hI K hK;obtain ⟨hM1, hB1, hG1⟩ := hI.1;have zd7 := hR.pred 7 (by kernel_rfl);have zf7 : V 7 = .bool true := hI.2 7 zd7 rfl;have ze90 := hR.frame.done (t := 90) (j := 7) (by kernel_rfl) hR.ok zd7;rw [if_pos (by rfl)];go_simp;exact hK (.bool true) _ (hI.next hR (by kernel_rfl) (Mod.refl _ _) (PB.quiet hI.1 (Mod.refl _ _) (HGs.out D 8 zw1 zw1 (hI.1).g (Mod.refl _ _))) (upd_same V 8 _))
       ·intro D V zw1 a hR hI K hK;obtain ⟨hM1, hB1, hG1⟩ := hI.1;have zd8 := hR.pred 8 (by kernel_rfl);have zf8 : V 8 = .bool true := hI.2 8 zd8 rfl;have ze12 := hR.frame.other (t := 12) (by kernel_rfl) rfl;have ze91 := hR.frame.done (t := 91) (j := 8) (by kernel_rfl) hR.ok zd8;rw [if_pos (by simp [Region.wanted, yielded, ze91, zf8])];go_simp;exact hK (.bool true) _ (hI.next hR (by kernel_rfl) (Mod.refl _ _) (PB.quiet hI.1 (Mod.refl _ _) (HGs.out D 9 zw1 zw1 (hI.1).g (Mod.refl _ _))) (upd_same V 9 _))
       ·intro D V zw1 a hR hI K hK;obtain ⟨hM1, hB1, hG1⟩ := hI.1;have zd8 := hR.pred 8 (by kernel_rfl);have zf8 : V 8 = .bool true := hI.2 8 zd8 rfl;have zd9 := hR.pred 9 (by kernel_rfl);have zf9 : V 9 = .bool true := hI.2 9 zd9 rfl;have ze91 := hR.frame.done (t := 91) (j := 8) (by kernel_rfl) hR.ok zd8;have ze92 := hR.frame.done (t := 92) (j := 9) (by kernel_rfl) hR.ok zd9;rw [if_pos (by rfl)];go_simp;exact hK (.bool true) _ (hI.next hR (by kernel_rfl) (Mod.refl _ _) (PB.quiet hI.1 (Mod.refl _ _) (HGs.out D 10 zw1 zw1 (hI.1).g (Mod.refl _ _))) (upd_same V 10 _))
       ·intro D V zw1 a hR hI K hK;obtain ⟨hM1, hB1, hG1⟩ := hI.1;have zd10 := hR.pred 10 (by kernel_rfl);have zf10 : V 10 = .bool true := hI.2 10 zd10 rfl;have ze93 := hR.frame.done (t := 93) (j := 10) (by kernel_rfl) hR.ok zd10;rw [if_pos (by rfl)];go_simp;exact hK (.bool true) _ (hI.next hR (by kernel_rfl) (Mod.refl _ _) (PB.quiet hI.1 (Mod.refl _ _) (HGs.out D 11 zw1 zw1 (hI.1).g (Mod.refl _ _))) (upd_same V 11 _))
       ·intro D V zw1 a hR hI K hK;obtain ⟨hM1, hB1, hG1⟩ := hI.1;have zd11 := hR.pred 11 (by kernel_rfl);have zf11 : V 11 = .bool true := hI.2 11 zd11 rfl;have ze11 := hR.frame.other (t := 11) (by kernel_rfl) rfl;have ze94 := hR.frame.done (t := 94) (j := 11) (by kernel_rfl) hR.ok zd11;rw [if_pos (by simp [Region.wanted, yielded, ze94, zf11])];go_simp;exact hK (.int .i64 0) _ (hI.next hR (by kernel_rfl) (Mod.refl _ _) (PB.quiet hI.1 (Mod.refl _ _) (HGs.out D 12 zw1 zw1 (hI.1).g (Mod.refl _ _))) (upd_same V 12 _))
       ·intro D V zw1 a hR hI K hK;obtain ⟨hM1, hB1, hG1⟩ := hI.1;have zd12 := hR.pred 12 (by kernel_rfl);have zf12 : V 12 = .int .i64 0 := hI.2 12 zd12 rfl;have zd11 := hR.pred 11 (by kernel_rfl);have zf11 : V 11 = .bool true := hI.2 11 zd11 rfl;have ze95 := hR.frame.done (t := 95) (j := 12) (by kernel_rfl) hR.ok zd12;have ze94 := hR.frame.done (t := 94) (j := 11) (by kernel_rfl) hR.ok zd11;rw [if_pos (by simp [Region.wanted, yielded, ze94, zf11])];go_simp;exact hK (.bool true) _ (hI.next hR (by kernel_rfl) (Mod.refl _ _) (PB.quiet hI.1 (Mod.refl _ _) (HGs.out D 13 zw1 zw1 (hI.1).g (Mod.refl _ _))) (upd_same V 13 _))
       ·intro D V zw1 a hR hI K hK;obtain ⟨hM1, hB1, hG1⟩ := hI.1;have zd11 := hR.pred 11 (by kernel_rfl);have zf11 : V 11 = .bool true := hI.2 11 zd11 rfl;have zd13 := hR.pred 13 (by kernel_rfl);have zf13 : V 13 = .bool true := hI.2 13 zd13 rfl;have ze94 := hR.frame.done (t := 94) (j := 11) (by kernel_rfl) hR.ok zd11;have ze96 := hR.frame.done (t := 96) (j := 13) (by kernel_rfl) hR.ok zd13;rw [if_pos (by rfl)];go_simp;exact hK (.bool true) _ (hI.next hR (by kernel_rfl) (Mod.refl _ _) (PB.quiet hI.1 (Mod.refl _ _) (HGs.out D 14 zw1 zw1 (hI.1).g (Mod.refl _ _))) (upd_same V 14 _))
       ·intro D V zw1 a hR hI K hK;obtain ⟨hM1, hB1, hG1⟩ := hI.1;have zd14 := hR.pred 14 (by kernel_rfl);have zf14 : V 14 = .bool true := hI.2 14 zd14 rfl;have ze97 := hR.frame.done (t := 97) (j := 14) (by kernel_rfl) hR.ok zd14;rw [if_pos (by rfl)];go_simp;exact hK (.bool true) _ (hI.next hR (by kernel_rfl) (Mod.refl _ _) (PB.quiet hI.1 (Mod.refl _ _) (HGs.out D 15 zw1 zw1 (hI.1).g (Mod.refl _ _))) (upd_same V 15 _))
       ·intro D V zw1 a hR hI K hK;obtain ⟨hM1, hB1, hG1⟩ := hI.1;have zd15 := hR.pred 15 (by kernel_rfl);have zf15 : V 15 = .bool true := hI.2 15 zd15 rfl;have ze10 := hR.frame.other (t := 10) (by kernel_rfl) rfl;have ze98 := hR.frame.done (t := 98) (j := 15) (by kernel_rfl) hR.ok zd15;rw [if_pos (by simp [Region.wanted, yielded, ze98, zf15])];go_simp;exact hK (.int .i64 (k : Int)) _ (hI.next hR (by kernel_rfl) (Mod.refl _ _) (PB.quiet hI.1 (Mod.refl _ _) (HGs.out D 16 zw1 zw1 (hI.1).g (Mod.refl _ _))) (upd_same V 16 _))
       ·intro D V zw1 a hR hI K hK;obtain ⟨hM1, hB1, hG1⟩ := hI.1;have zd15 := hR.pred 15 (by kernel_rfl);have zf15 : V 15 = .bool true := hI.2 15 zd15 rfl;have ze5 := hR.frame.other (t := 5) (by kernel_rfl) rfl;have ze98 := hR.frame.done (t := 98) (j := 15) (by kernel_rfl) hR.ok zd15;rw [if_pos (by simp [Region.wanted, yielded, ze98, zf15])];go_simp;exact hK (.slice (some ⟨g1, 0, none⟩) 8 8) _ (hI.next hR (by kernel_rfl) (Mod.refl _ _) (PB.quiet hI.1 (Mod.refl _ _) (HGs.out D 17 zw1 zw1 (hI.1).g (Mod.refl _ _))) (upd_same V 17 _))
       ·intro D V zw1 a hR hI K hK;obtain ⟨hM1, hB1, hG1⟩ := hI.1;have zd17 := hR.pred 17 (by kernel_rfl);have zf17 : V 17 = .slice (some ⟨g1, 0, none⟩) 8 8 := hI.2 17 zd17 rfl;have zd15 := hR.pred 15 (by kernel_rfl);have zf15 : V 15 = .bool true := hI.2 15 zd15 rfl;have ze100 := hR.frame.done (t := 100) (j := 17) (by kernel_rfl) hR.ok zd17;have ze98 := hR.frame.done (t := 98) (j := 15) (by kernel_rfl) hR.ok zd15;rw [if_pos (by simp [Region.wanted, yielded, ze98, zf15])];go_simp;exact hK (.pointer (some ⟨g1, 6, none⟩)) _ (hI.next hR (by kernel_rfl) (Mod.refl _ _) (PB.quiet hI.1 (Mod.refl _ _) (HGs.out D 18 zw1 zw1 (hI.1).g (Mod.refl _ _))) (upd_same V 18 _))
       ·intro D V zw1 a hR hI K hK;obtain ⟨hM1, hB1, hG1⟩ := hI.1;have zd18 := hR.pred 18 (by kernel_rfl);have zf18 : V 18 = .pointer (some ⟨g1, 6, none⟩) := hI.2 18 zd18 rfl;have zd15 := hR.pred 15 (by kernel_rfl);have zf15 : V 15 = .bool true := hI.2 15 zd15 rfl;have ze101 := hR.frame.done (t := 101) (j := 18) (by kernel_rfl) hR.ok zd18;have zx0 := hG1.2.cell 0; have zx1 := hG1.2.cell 1; have zx2 := hG1.2.cell 2; have zx3 := hG1.2.cell 3; have zx4 := hG1.2.cell 4; have zx5 := hG1.2.cell 5; have zx6 := hG1.2.cell 6; have zx7 := hG1.2.cell 7;simp at zx0 zx1 zx2 zx3 zx4 zx5 zx6 zx7;have ze98 := hR.frame.done (t := 98) (j := 15) (by kernel_rfl) hR.ok zd15;rw [if_pos (by simp [Region.wanted, yielded, ze98, zf15])];go_simp;exact hK (.string ⟨a6.toArray⟩) _ (hI.next hR (by kernel_rfl) (Mod.refl _ _) (PB.quiet hI.1 (Mod.refl _ _) (HGs.out D 19 zw1 zw1 (hI.1).g (Mod.refl _ _))) (upd_same V 19 _))
       ·intro D V zw1 a hR hI K hK;obtain ⟨hM1, hB1, hG1⟩ := hI.1;have zd19 := hR.pred 19 (by kernel_rfl);have zf19 : V 19 = .string ⟨a6.toArray⟩ := hI.2 19 zd19 rfl;have zd15 := hR.pred 15 (by kernel_rfl);have zf15 : V 15 = .bool true := hI.2 15 zd15 rfl;have ze102 := hR.frame.done (t := 102) (j := 19) (by kernel_rfl) hR.ok zd19;have ze98 := hR.frame.done (t := 98) (j := 15) (by kernel_rfl) hR.ok zd15;rw [if_pos (by simp [Region.wanted, yielded, ze98, zf15])];go_simp;exact hK (.int .i64 (a6.length : Int)) _ (hI.next hR (by kernel_rfl) (Mod.refl _ _) (PB.quiet hI.1 (Mod.refl _ _) (HGs.out D 20 zw1 zw1 (hI.1).g (Mod.refl _ _))) (upd_same V 20 _))
       ·intro D V zw1 a hR hI K hK;obtain ⟨hM1, hB1, hG1⟩ := hI.1;have zd16 := hR.pred 16 (by kernel_rfl);have zf16 : V 16 = .int .i64 (k : Int) := hI.2 16 zd16 rfl;have zd20 := hR.pred 20 (by kernel_rfl);have zf20 : V 20 = .int .i64 (a6.length : Int) := hI.2 20 zd20 rfl;have zd15 := hR.pred 15 (by kernel_rfl);have zf15 : V 15 = .bool true := hI.2 15 zd15 rfl;have ze99 := hR.frame.done (t := 99) (j := 16) (by kernel_rfl) hR.ok zd16;have ze103 := hR.frame.done (t := 103) (j := 20) (by kernel_rfl) hR.ok zd20;have ze98 := hR.frame.done (t := 98) (j := 15) (by kernel_rfl) hR.ok zd15;rw [if_pos (by simp [Region.wanted, yielded, ze98, zf15])];go_simp;exact hK (.bool bq) _ (hI.next hR (by kernel_rfl) (Mod.refl _ _) (PB.quiet hI.1 (Mod.refl _ _) (HGs.out D 21 zw1 zw1 (hI.1).g (Mod.refl _ _))) (upd_same V 21 _))
       ·intro D V zw1 a hR hI K hK;obtain ⟨hM1, hB1, hG1⟩ := hI.1;have zd15 := hR.pred 15 (by kernel_rfl);have zf15 : V 15 = .bool true := hI.2 15 zd15 rfl;have zd21 := hR.pred 21 (by kernel_rfl);have zf21 : V 21 = .bool bq := hI.2 21 zd21 rfl;have ze98 := hR.frame.done (t := 98) (j := 15) (by kernel_rfl) hR.ok zd15;have ze104 := hR.frame.done (t := 104) (j := 21) (by kernel_rfl) hR.ok zd21;rw [if_pos (by rfl)];go_simp;exact hK (.bool bq) _ (hI.next hR (by kernel_rfl) (Mod.refl _ _) (PB.quiet hI.1 (Mod.refl _ _) (HGs.out D 22 zw1 zw1 (hI.1).g (Mod.refl _ _))) (upd_same V 22 _))
       ·intro D V zw1 a hR hI K hK;obtain ⟨hM1, hB1, hG1⟩ := hI.1;have zd0 := hR.pred 0 (by kernel_rfl);have zf0 : V 0 = .agg #[.string ⟨a1.toArray⟩, .string ⟨a2.toArray⟩, .int .i64 kb, .string ⟨nm.toArray⟩, .int .i64 at_, .string ⟨pv.toArray⟩, .string ⟨#[]⟩] := hI.2 0 zd0 rfl;have ze2 := hR.frame.other (t := 2) (by kernel_rfl) rfl;have ze83 := hR.frame.done (t := 83) (j := 0) (by kernel_rfl) hR.ok zd0;rw [if_pos (by rfl)];have zx0 := hG1.1.cell 0; have zy0 := hG1.1.frozen 0;have zx1 := hG1.1.cell 1; have zy1 := hG1.1.frozen 1;have zx2 := hG1.1.cell 2; have zy2 := hG1.1.frozen 2;have zx3 := hG1.1.cell 3; have zy3 := hG1.1.frozen 3;have zx4 := hG1.1.cell 4; have zy4 := hG1.1.frozen 4;have zx5 := hG1.1.cell 5; have zy5 := hG1.1.frozen 5;have zx6 := hG1.1.cell 6; have zy6 := hG1.1.frozen 6;simp at zx0 zx1 zx2 zx3 zx4 zx5 zx6;go_simp;rw [setCell_same7 hG1.1];exact hK undef _ (hI.next hR (by kernel_rfl) (Mod.refl _ _) (PB.quiet hI.1 (Mod.refl _ _) (HGs.out D 23 zw1 zw1 (hI.1).g (Mod.refl _ _))) trivial)
       ·intro D V zw1 a hR hI K hK;obtain ⟨hM1, hB1, hG1⟩ := hI.1;have zd1 := hR.pred 1 (by kernel_rfl);have zf1 : V 1 = .int .i64 nv := hI.2 1 zd1 rfl;have ze84 := hR.frame.done (t := 84) (j := 1) (by kernel_rfl) hR.ok zd1;rw [if_pos (by rfl)];go_simp;exact hK (.int .i64 nv) _ (hI.next hR (by kernel_rfl) (Mod.refl _ _) (PB.quiet hI.1 (Mod.refl _ _) (HGs.out D 24 zw1 zw1 (hI.1).g (Mod.refl _ _))) (upd_same V 24 _))
       ·intro D V zw1 a hR hI K hK;obtain ⟨hM1, hB1, hG1⟩ := hI.1;have zd22 := hR.pred 22 (by kernel_rfl);have zf22 : V 22 = .bool bq := hI.2 22 zd22 rfl;have ze105 := hR.frame.done (t := 105) (j := 22) (by kernel_rfl) hR.ok zd22;rw [if_pos (by rfl)];go_simp;exact hK (.bool bq) _ (hI.next hR (by kernel_rfl) (Mod.refl _ _) (PB.quiet hI.1 (Mod.refl _ _) (HGs.out D 25 zw1 zw1 (hI.1).g (Mod.refl _ _))) (upd_same V 25 _))
      ·intro D V w9 hD hI;obtain ⟨hM1, hB1, hG1⟩ := hI.1;have hMx := hM1;clear hM1;have hBx := hB1;clear hB1;have hGx := hG1;clear hG1;have zf0 : V 0 = .agg #[.string ⟨a1.toArray⟩, .string ⟨a2.toArray⟩, .int .i64 kb, .string ⟨nm.toArray⟩, .int .i64 at_, .string ⟨pv.toArray⟩, .string ⟨#[]⟩] := hI.2 0 (hD 0 (by decide)) rfl;have zf1 : V 1 = .int .i64 nv := hI.2 1 (hD 1 (by decide)) rfl;have zf2 : V 2 = .pointer (some ⟨g2, 2, none⟩) := hI.2 2 (hD 2 (by decide)) rfl;have zf3 : V 3 = .int .i64 kb := hI.2 3 (hD 3 (by decide)) rfl;have zf4 : V 4 = .bool true := hI.2 4 (hD 4 (by decide)) rfl;have zf5 : V 5 = .bool true := hI.2 5 (hD 5 (by decide)) rfl;have zf6 : V 6 = .bool true := hI.2 6 (hD 6 (by decide)) rfl;have zf7 : V 7 = .bool true := hI.2 7 (hD 7 (by decide)) rfl;have zf8 : V 8 = .bool true := hI.2 8 (hD 8 (by decide)) rfl;have zf9 : V 9 = .bool true := hI.2 9 (hD 9 (by decide)) rfl;have zf10 : V 10 = .bool true := hI.2 10 (hD 10 (by decide)) rfl;have zf11 : V 11 = .bool true := hI.2 11 (hD 11 (by decide)) rfl;have zf12 : V 12 = .int .i64 0 := hI.2 12 (hD 12 (by decide)) rfl;have zf13 : V 13 = .bool true := hI.2 13 (hD 13 (by decide)) rfl;have zf14 : V 14 = .bool true := hI.2 14 (hD 14 (by decide)) rfl;have zf15 : V 15 = .bool true := hI.2 15 (hD 15 (by decide)) rfl;have zf16 : V 16 = .int .i64 (k : Int) := hI.2 16 (hD 16 (by decide)) rfl;have zf17 : V 17 = .slice (some ⟨g1, 0, none⟩) 8 8 := hI.2 17 (hD 17 (by decide)) rfl;have zf18 : V 18 = .pointer (some ⟨g1, 6, none⟩) := hI.2 18 (hD 18 (by decide)) rfl;have zf19 : V 19 = .string ⟨a6.toArray⟩ := hI.2 19 (hD 19 (by decide)) rfl;have zf20 : V 20 = .int .i64 (a6.length : Int) := hI.2 20 (hD 20 (by decide)) rfl;have zf21 : V 21 = .bool bq := hI.2 21 (hD 21 (by decide)) rfl;have zf22 : V 22 = .bool bq := hI.2 22 (hD 22 (by decide)) rfl;have zf24 : V 24 = .int .i64 nv := hI.2 24 (hD 24 (by decide)) rfl;have zf25 : V 25 = .bool bq := hI.2 25 (hD 25 (by decide)) rfl;clear hI hD HGs;simp only [frAll, Act.put, List.setIfInBounds_toArray, List.set_cons_zero, List.set_cons_succ, Nat.zero_add, Nat.reduceAdd, zf0, zf1, zf2, zf3, zf4, zf5, zf6, zf7, zf8, zf9, zf10, zf11, zf12, zf13, zf14, zf15, zf16, zf17, zf18, zf19, zf20, zf21, zf22, zf24, zf25];clear zf0 zf1 zf2 zf3 zf4 zf5 zf6 zf7 zf8 zf9 zf10 zf11 zf12 zf13 zf14 zf15 zf16 zf17 zf18 zf19 zf20 zf21 zf22 zf24 zf25;clear V D;have HZ9 := Lib.hid hGx.1;have HP9 : Hid (Pure w w9) := Lib.hid (HP7.out.trans hMx);clear hGx hMx hBx HZ7 HR7 HP7
       go_wp2_with fail
       have hz := HZ9.out;have u0 := hz.cell 0; have u1 := hz.cell 1; have u2 := hz.cell 2; have u3 := hz.cell 3; have u4 := hz.cell 4; have u5 := hz.cell 5; have u6 := hz.cell 6; simp at u0 u1 u2 u3 u4 u5 u6
       try simp only [Exit.inBlock, Exit.then]
       refine bodyPost_ret (v := .tuple #[.agg #[.string ⟨a1.toArray⟩, .string ⟨a2.toArray⟩, .int .i64 kb, .string ⟨nm.toArray⟩, .int .i64 at_, .string ⟨pv.toArray⟩, .string ⟨#[]⟩], .int .i64 nv, .bool bq]) (by simp [results, Tryz.results65, go_sem, u0, u1, u2, u3, u4, u5, u6]) rfl ?_;exact FIN.out _ HP9.out
end Go.Proofs.YtelpdjhkedhppaaGreatDoor
/- Items read from a text: what holds of the state, plain. -/
namespace Go.Proofs.YtelpdjhkedhppaaGreatDoor
open Go.RowKit
theorem unqF_len : ∀ (f : Nat) (s acc : Str) (a : Nat) (out : Str) (n : Nat), unqF f s acc a = some (out, n) → out.length ≤ acc.length + s.length
 | 0, _, _, _, _, _, h => by cases h
 | f + 1, [], _, _, _, _, h => by cases h
 | f + 1, c :: r, acc, a, out, n, h => by
  unfold unqF at h
  split at h
  ·injection h with h
   injection h with h1 h2
   rw [← h1]
   omega
  ·cases hd : decP (c :: r) with
   | none => rw [hd] at h; cases h
   | some p =>
    obtain ⟨d, m⟩ := p;rw [hd] at h;simp only at h;have h1 := unqF_len f _ _ _ _ _ h;obtain ⟨hm, hp⟩ := decP_some hd
    have h2 : 1 ≤ m := by
     rw [hm];unfold quoB
     split
     ·simp
     ·split
      ·simp
      ·split <;> simp
    rw [List.length_append, List.length_drop] at h1;simp only [List.length_cons, List.length_nil] at h1 ⊢
    omega
theorem unqS_len {s out : Str} {n : Nat} (h : unqS s = some (out, n)) : out.length ≤ s.length := by
 unfold unqS at h
 split at h
 ·have := unqF_len _ _ _ _ _ _ h;simp only [List.length_cons, List.length_nil] at this ⊢
  omega
 ·cases h
theorem getD_len {l : Str} {k : Nat} : ((spl 32 l).getD k []).length ≤ l.length := by
 rw [List.getD_eq_getElem?_getD]
 cases h : (spl 32 l)[k]? with
 | none => simp
 | some x => exact spl_len (List.mem_of_getElem? h)
theorem hdP_some {l : Str} {p : Itm × Int} (h : hdP l = some p) : p.1.id.length ≤ l.length ∧ p.1.cust.length ≤ l.length ∧ p.1.name.length ≤ l.length ∧ p.1.par.length ≤ l.length ∧ p.1.text = [] ∧ 0 ≤ p.2 ∧ p.2 < 1000000000 := by
 unfold hdP at h
 split at h
 ·unfold hdF at h
  split at h
  ·rename_i a n q h4 h7 h6
   split at h
   ·rename_i hc
    injection h with h
    rw [← h];obtain ⟨nm, k⟩ := q;have h1 := unqS_len h6;have h2 := (numQ_some h7 (by omega)).2;refine ⟨getD_len, getD_len, Nat.le_trans h1 getD_len, ?_, rfl, hc.2.2, h2⟩
    show (if _ then [] else _ : Str).length ≤ _
    split
    ·simp
    ·exact getD_len
   ·cases h
  ·cases h
 ·cases h
structure RdOk (M C : Nat) (S : RdT) : Prop where
 want0 : 0 ≤ S.want
 want1 : S.want < 1000000000
 ne : 0 < S.want → S.items ≠ []
 len : S.items.length ≤ S.cnt
 size : ∀ x ∈ S.items, x.id.length ≤ M ∧ x.cust.length ≤ M ∧ x.name.length ≤ M ∧ x.par.length ≤ M ∧ x.text.length ≤ C
theorem RdOk.start (M : Nat) : RdOk M 0 ⟨[], 0, 0⟩ := ⟨by simp, by simp, fun h => absurd h (by simp), by simp, fun x hx => absurd hx (by simp)⟩
theorem trimP_len (l : Str) : (Lib.trimPrefix l [124]).length ≤ l.length := by
 unfold Lib.trimPrefix
 split
 ·simp
 ·simp
theorem RdOk.step {M C : Nat} {S S' : RdT} {l : Str} (h : RdOk M C S) (hl : l.length ≤ M) (hf : rdF S l = some S') : RdOk M (C + l.length + 1) S' := by
 unfold rdF at hf
 split at hf
 ·split at hf
  ·rename_i hw
   injection hf with hf
   subst hf;have hne := h.ne hw;have h0 := h.want0;have h1 := h.want1
   have hlt : S.items.length - 1 < S.items.length := by have := List.length_pos_iff.2 hne; omega
   refine ⟨by show 0 ≤ S.want - 1; omega, by show S.want - 1 < _; omega, fun _ => ?_, ?_, ?_⟩
   ·intro he;have := addT_len S.items (Lib.trimPrefix l [124]);have he2 : addT S.items (Lib.trimPrefix l [124]) = [] := he;rw [he2] at this;have h5 := List.length_pos_iff.2 hne;simp only [List.length_nil] at this
    omega
   ·show (addT _ _).length ≤ S.cnt + 1
    rw [addT_len];have := h.len
    omega
   ·intro x hx;have hx : x ∈ addT S.items (Lib.trimPrefix l [124]) := hx;rw [addT_at hlt] at hx;have ht := trimP_len l
    rcases List.mem_or_eq_of_mem_set hx with hx | rfl
    ·obtain ⟨b1, b2, b3, b4, b5⟩ := h.size x hx;exact ⟨b1, b2, b3, b4, by omega⟩
    ·obtain ⟨b1, b2, b3, b4, b5⟩ := h.size _ (List.getElem_mem hlt);refine ⟨b1, b2, b3, b4, ?_⟩
     show (_ ++ (_ ++ [10])).length ≤ _
     simp only [List.length_append, List.length_cons, List.length_nil]
     omega
  ·cases hf
 ·split at hf
  ·cases hf
  ·cases hp : hdP l with
   | none => rw [hp] at hf; cases hf
   | some p =>
    rw [hp] at hf
    injection hf with hf
    subst hf;obtain ⟨c1, c2, c3, c4, c5, c6, c7⟩ := hdP_some hp;refine ⟨c6, c7, fun _ => by simp, ?_, ?_⟩
    ·show (S.items ++ [p.1]).length ≤ S.cnt + 1
     have := h.len;simp
     omega
    ·intro x hx;have hx : x ∈ S.items ++ [p.1] := hx
     rcases List.mem_append.1 hx with hx | hx
     ·obtain ⟨b1, b2, b3, b4, b5⟩ := h.size x hx;exact ⟨b1, b2, b3, b4, by omega⟩
     ·rw [List.mem_singleton.1 hx];exact ⟨by omega, by omega, by omega, by omega, by rw [c5]; simp⟩
theorem RdOk.l {M C : Nat} {S : RdT} (h : RdOk M C S) (hM : M ≤ 300000) (hC : C ≤ 300000) : ∀ x ∈ S.items, ItL x := fun x hx => by
 obtain ⟨b1, b2, b3, b4, b5⟩ := h.size x hx;exact ⟨by omega, by omega, by omega, by omega, by omega⟩
end Go.Proofs.YtelpdjhkedhppaaGreatDoor
/- More items than there may be. -/
namespace Go.Proofs.YtelpdjhkedhppaaGreatDoor
open Go.RowKit
theorem itsE_big {xs : List Itm} (h : 2000 < xs.length) : itsE itemE xs = 2 := by unfold itsE; rw [if_pos h]
theorem checkX_calls (w : World) (v : Value) (xs : List Itm) (hv : Its w v xs) (hz : ∀ x ∈ xs, ItL x) (hl : xs.length ≤ 1000000) (hE : Env w) : Calls Tryz.prog 48 #[v] w (IntPost w (itsE itemE xs)) := by
 by_cases hb : xs.length ≤ 2000
 ·exact checkL_calls w v xs hv hz hb hE
 have h2 : 2000 < xs.length := by omega
 rw [itsE_big h2];obtain ⟨A, n, c, rfl, hc1, hc2, hl2, hr⟩ := hv
 have hln : xs.length = n := by rw [itV_len] at hl2; omega
 subst hln
 have n1 : (2000 : Int) < (xs.length : Int) := by omega
 clear hl2 hr hz hE hb
 go_enter Tryz.func48, Tryz.ntmps48
 go_wp2_with fail
 go_ret;exact ⟨rfl, Mod.refl _ _⟩
theorem itemsFaultX_calls (w : World) (v : Value) (xs : List Itm) (hv : Its w v xs) (hz : ∀ x ∈ xs, ItL x) (hl : xs.length ≤ 1000000) (hE : Env w) : Calls Tryz.prog 11 #[v] w (IntPost w (itsE itemE xs)) := by
 by_cases hb : xs.length ≤ 2000
 ·exact itemsFaultL_calls w v xs hv hz hb hE
 have h2 : 2000 < xs.length := by omega
 rw [itsE_big h2];obtain ⟨A, n, c, rfl, hc1, hc2, hl2, hr⟩ := hv
 have hln : xs.length = n := by rw [itV_len] at hl2; omega
 subst hln
 have n1 : (2000 : Int) < (xs.length : Int) := by omega
 clear hl2 hr hz hE hb
 go_enter Tryz.func11, Tryz.ntmps11
 go_wp2_with fail
 go_ret;exact ⟨rfl, Mod.refl _ _⟩
end Go.Proofs.YtelpdjhkedhppaaGreatDoor
/- Read of package intake. -/
namespace Go.Proofs.YtelpdjhkedhppaaGreatDoor
open Go.RowKit
def sumK (ls : List Str) (k : Nat) : Nat := ((ls.take k).map fun w => w.length + 1).sum
theorem sumK_succ {ls : List Str} {k : Nat} (h : k < ls.length) : sumK ls (k + 1) = sumK ls k + ls[k].length + 1 := by
 unfold sumK;rw [List.take_succ_eq_append_getElem h, List.map_append, List.sum_append, List.map_cons, List.map_nil, List.sum_cons, List.sum_nil]
 omega
theorem sumK_le (s : Str) (k : Nat) : sumK (linesQ s) k ≤ s.length + 1 := by
 have h1 : sumK (linesQ s) k ≤ ((linesQ s).map fun w => w.length + 1).sum := by
  unfold sumK
  conv => rhs; rw [← List.take_append_drop k (linesQ s)]
  rw [List.map_append, List.sum_append]
  omega
 have h2 : ((linesQ s).map fun w => w.length + 1).sum ≤ s.length + 1 := by
  unfold linesQ
  split
  ·simp
  ·rw [spl_sum 10 _ _ (Nat.le_refl _)];have := trimSuffix_len s [10]
   omega
 omega
def RdPost (w : World) (r : List Itm × Int × Int) (e : Ending) (w' : World) : Prop := ∃ v, e = .returned (.tuple #[v, .int .i64 r.2.1, .int .i64 r.2.2]) ∧ Its w' v r.1 ∧ Pure w w'
theorem its_nil (w : World) : Its w (.slice none 0 0) [] := ⟨none, 0, 0, rfl, by omega, by omega, rfl, fun h => absurd h (by simp)⟩
theorem cutP_calls (w : World) (s : Str) : Calls Tryz.prog 64 #[.string ⟨s.toArray⟩, .string ⟨#[124]⟩] w (fun e w' => e = .returned (.tuple #[.string ⟨(Lib.trimPrefix s [124]).toArray⟩, .bool (Lib.hasPrefix s [124])]) ∧ w' = w) :=
 Any.strings_CutPrefix Tryz.lays103 ⟨s.toArray⟩ ⟨#[124]⟩ w
theorem OwnI.setText {w : World} {base g n cap k : Nat} {xs : List Itm} (h : OwnI w base g n cap xs) (hk : k < xs.length) (r : Str) : OwnI (w.setCell ⟨g, k * 7 + 6, none⟩ (.string ⟨(xs[k].text ++ (r ++ [10])).toArray⟩)) base g n cap (xs.set k (withT xs[k] r)) := by
 have h1 := (World.ownsRow.stored h (k * 7 + 6) (.string ⟨(xs[k].text ++ (r ++ [10])).toArray⟩)).1;rw [itV_set xs k (withT xs[k] r) 6 _ hk (by omega) (by simp [List.getD, hk, itC, withT])] at h1;exact h1
theorem KeepS.noS {base : Nat} {a b : World} {g : Nat} {arr : Array Value} {fr : Nat × Nat} (h : KeepS base a b) (hg : b.heap[g]? = some (.cells arr 40 fr)) : ¬ StrBk a g := by
 rintro ⟨arr2, fr2, h2⟩;have hlt := (Array.getElem?_eq_some_iff.1 h2).1;rw [h.block g hlt (fun hh => hh.2 ⟨arr2, fr2, h2⟩), h2] at hg
 injection hg with hg
 injection hg with _ hg
 exact absurd hg (by decide)
def RdRel (w w1 : World) (M : Nat) (wh : Bool) (ls : List Str) (r : Nat ⊕ RdT) (gk : Nat) (xs n i : Value) (wr : World) : Prop :=
 ∃ (k : Nat) (S : RdT) (A : Option Addr) (cap : Nat), ls.length - k = gk ∧ k ≤ ls.length ∧ i = .int .i64 (k : Int) ∧ xs = .slice A S.items.length cap ∧ n = .int .i64 S.want ∧ rdG rdF wh (ls.drop k) k S = r ∧ S.cnt = k ∧ RdOk M (sumK ls k) S ∧
  wr.ownsRow w.heap.size 40 7 (.slice A S.items.length cap) S.items.length (itV S.items) ∧ KeepS w.heap.size w1 wr ∧ w1.heap.size ≤ wr.heap.size
set_option maxHeartbeats 8000000 in
theorem read_calls (w : World) (s : Str) (hs : s.length ≤ 200000) (hMl : MlnS w) (hE : ErrS w) (hV : Env w) : Calls Tryz.prog 16 #[.string ⟨s.toArray⟩] w (RdPost w (rdR s)) := by
 obtain ⟨i0, hi0, hz0, hz1, hz2⟩ := info_parts info_item7;have HML := Lib.hid (fun W (h : Pure w W) => hMl.mod h (fun x => x));have HER := Lib.hid (fun W (h : Pure w W) => hE.pure h);have HEV := Lib.hid (fun W (h : Pure w W) => hV.pure h);have HL := Lib.hid (baseLines_calls w s hMl (by omega));unfold LinesPost at HL;rw [linesQ_P, show wholeP s = wholeQ s from rfl] at HL;have HLN : Hid (∀ l ∈ linesQ s, l.length ≤ 200000) := Lib.hid (fun l hl => by have := linesQ_len hl; omega);have HSK : Hid (∀ k, sumK (linesQ s) k ≤ 200001) := Lib.hid (fun k => by have := sumK_le s k; omega);have hlc := linesQ_count s
 have HRD : Hid (rdR s = match rdG rdF (wholeQ s) (linesQ s) 0 ⟨[], 0, 0⟩ with
  | .inl i => ([], (i : Int), 9)
  | .inr S => if 0 < S.want then ([], ((linesQ s).length : Int), 9) else if itsE itemE S.items ≠ 0 then ([], 0, itsE itemE S.items) else (S.items, 0, 0)) := Lib.hid rfl
 have hz : (⟨s.toArray⟩ : ByteArray).size = s.length := by simp [ByteArray.size]
 have hbig : ¬ (200000 : Int) < (s.length : Int) := by omega
 clear hMl hE hV;generalize rdR s = rr at *;generalize linesQ s = ls at *;generalize wholeQ s = wh at *;obtain ⟨r, hr⟩ : ∃ r, rdG rdF wh ls 0 ⟨[], 0, 0⟩ = r := ⟨_, rfl⟩;rw [hr] at HRD;have HR0 := Lib.hid hr;clear hr
 go_enter Tryz.func16, Tryz.ntmps16
 go_wp2_with fail
 refine HL.out.mono ?_;rintro e w1 ⟨AL, cL, rfl, hsl, hm1⟩;have HSL := Lib.hid hsl;have HP1 : Hid (Pure w w1) := Lib.hid hm1;have hw1 := hm1.size;clear hsl hm1 HL
 go_wp2_with fail
 go_loopg [7, 8, 27] ls.length (fun gk xs n i wr => RdRel w w1 200000 wh ls r gk xs n i wr)
 case atStart => exact ⟨0, ⟨[], 0, 0⟩, none, 0, by omega, by omega, rfl, rfl, rfl, HR0.out, rfl, by simpa [sumK] using RdOk.start 200000, ⟨rfl, .inl ⟨rfl, rfl⟩⟩, KeepS.of_pure (Mod.refl _ _), Nat.le_refl _⟩
 case round =>
  clear HR0;obtain ⟨k, S, A, cap, rfl, hk, rfl, rfl, rfl, hrd, hcnt, hok, hown, hm, hsz⟩ := hrel
  by_cases hlt : k < ls.length
  ·obtain ⟨gL, oL, rfl, hrow⟩ := (hm.sl HSL.out).rowS (by omega);have hq := hrow.cell (strsV_get ls k hlt);have hst := rdG_at rdF wh hlt S;rw [hrd] at hst;have HST := Lib.hid hst;have hll := HLN.out _ (List.getElem_mem hlt);have HSU := Lib.hid (sumK_succ hlt);have HSK1 := Lib.hid (HSK.out (k + 1));have HF0 : Hid (rdF S ls[k] = if Lib.hasPrefix ls[k] [124] = true then (if 0 < S.want then some ⟨addT S.items (Lib.trimPrefix ls[k] [124]), S.want - 1, S.cnt + 1⟩ else none) else if 0 < S.want then none else (hdP ls[k]).map fun p => ⟨S.items ++ [p.1], p.2, S.cnt + 1⟩) := Lib.hid rfl;have HSTEP := Lib.hid (fun S' (h : rdF S ls[k] = some S') => hok.step hll h);have HCP := Lib.hid (cutP_calls wr ls[k]);have HHD := Lib.hid (fun W (h : Pure w W) => head_calls W ls[k] (by omega) (HML.out W h) (HER.out W h));have htl := trimP_len ls[k];have HOK := Lib.hid hok;have HOWN := Lib.hid hown;have HM := Lib.hid hm;have HPR : Hid (Pure w wr) := Lib.hid (hm.pure HP1.out (Nat.le_refl _))
   have hkk : ((k : Nat) : Int) < (ls.length : Int) := by omega
   generalize rdF S ls[k] = o at *;generalize Lib.hasPrefix ls[k] [124] = hp at *;generalize Lib.trimPrefix ls[k] [124] = tp at *;generalize ls[k] = l at *;have hcl := HSL.out.capS0;clear hst hrd hok hown hm hrow
   go_wp2_with fail
   refine HCP.out.mono ?_;rintro e w2 ⟨rfl, rfl⟩
   have ERR : Hid (r = .inl k → ∀ W, Pure w W → RdPost w rr (.returned (.tuple #[.slice none 0 0, .int .i64 (k : Int), .int .i64 9])) W) := Lib.hid (fun h W hm => by
    have e := HRD.out;rw [h] at e;rw [e]
    exact ⟨_, rfl, its_nil _, hm⟩)
   obtain ⟨bad, hbad⟩ : ∃ bad, ((hp != decide (0 < S.want)) || (!wh && decide (k + 1 = ls.length))) = bad := ⟨_, rfl⟩
   have HBAD : Hid (bad = true → r = .inl k) := Lib.hid (fun h => by
    have h1 := HST.out;rw [h] at hbad;rw [h1]
    cases ho : o with
    | none => rfl
    | some S2 =>
     simp only;rw [if_pos];rw [ho] at HF0;have h2 := HF0.out
     cases hp with
     | true =>
      rw [if_pos rfl] at h2
      split at h2
      ·rename_i hw
       simp [hw] at hbad;exact ⟨hbad.2, hbad.1⟩
      ·cases h2
     | false =>
      rw [if_neg (by simp)] at h2
      split at h2
      ·cases h2
      ·rename_i hw
       simp [hw] at hbad
       exact ⟨hbad.2, hbad.1⟩)
   have HGOOD : Hid (bad = false → hp = decide (0 < S.want) ∧ ¬ (k + 1 = ls.length ∧ wh = false)) := Lib.hid (fun h => by
    rw [h] at hbad;simp only [Bool.or_eq_false_iff, bne_eq_false_iff_eq, Bool.and_eq_false_iff, Bool.not_eq_false', decide_eq_false_iff_not] at hbad;refine ⟨hbad.1, fun hh => ?_⟩
    rcases hbad.2 with h3 | h3
    ·rw [hh.2] at h3; cases h3
    ·exact h3 hh.1)
   go_upto_region 10 with (fail)
   go_cut [51] from 37 to 50 (fun y wx => y = .bool bad ∧ w2 = wx)
   case first =>
    clear HST HSU HSK1 HF0 HSTEP HHD HOK HOWN HM HRD ERR HBAD HGOOD
    by_cases hw : 0 < S.want
    ·rw [show decide (0 < S.want) = true by simpa using hw] at hbad
     cases hp
     ·have hb : bad = true := by rw [← hbad]; rfl
      subst hb;clear hbad
      go_wp2_with fail
      go_meet;exact ⟨rfl, rfl⟩
     ·cases wh
      ·have e1 : ((k : Int) == (ls.length : Int) - 1) = bad := by
        rw [← hbad];simp only [bne_self_eq_false, Bool.false_or, Bool.not_false, Bool.true_and, Bool.beq_eq_decide_eq]
        congr 1
        simp
        omega
       clear hbad
       go_wp2_with fail
       go_meet;exact ⟨by first | rfl | simp [e1], rfl⟩
      ·have hb : bad = false := by rw [← hbad]; rfl
       subst hb;clear hbad
       go_wp2_with fail
       go_meet;exact ⟨rfl, rfl⟩
    ·rw [show decide (0 < S.want) = false by simpa using hw] at hbad
     cases hp
     ·cases wh
      ·have e1 : ((k : Int) == (ls.length : Int) - 1) = bad := by
        rw [← hbad];simp only [bne_self_eq_false, Bool.false_or, Bool.not_false, Bool.true_and, Bool.beq_eq_decide_eq]
        congr 1
        simp
        omega
       clear hbad
       go_wp2_with fail
       go_meet;exact ⟨by first | rfl | simp [e1], rfl⟩
      ·have hb : bad = false := by rw [← hbad]; rfl
       subst hb;clear hbad
       go_wp2_with fail
       go_meet;exact ⟨rfl, rfl⟩
     ·have hb : bad = true := by rw [← hbad]; rfl
      subst hb;clear hbad
      go_wp2_with fail
      go_meet;exact ⟨rfl, rfl⟩
   case rest =>
    obtain ⟨rfl, rfl⟩ := hcut
    cases bad
    ·obtain ⟨hpe, hnl⟩ := HGOOD.out rfl
     cases hp with
     | true =>
      have hw : 0 < S.want := by simpa using hpe.symm
      clear hpe
      have ho : o = some ⟨addT S.items tp, S.want - 1, S.cnt + 1⟩ := by rw [HF0.out, if_pos rfl, if_pos hw]
      have HOK2 := Lib.hid (HSTEP.out _ ho)
      have HR2 : Hid (rdG rdF wh (ls.drop (k + 1)) (k + 1) ⟨addT S.items tp, S.want - 1, S.cnt + 1⟩ = r) := Lib.hid (by
       have h1 := HST.out;rw [ho] at h1;simp only at h1;rw [if_neg hnl] at h1
       exact h1.symm)
      obtain ⟨m, hm1⟩ : ∃ m, S.items.length = m + 1 := ⟨S.items.length - 1, by have := List.length_pos_iff.2 (HOK.out.ne hw); omega⟩;obtain ⟨g, cap', hform, hg1, hg2, hcap, hcap2⟩ := own_form7 HOWN.out (by omega)
      injection hform with hA _ hC
      subst hA hC;have hownI : OwnI w2 w.heap.size g S.items.length cap S.items := HOWN.out
      have hmk : m < S.items.length := by omega
      obtain ⟨c0, c1, c2, c3, c4, c5, c6⟩ := hownI.cells hmk;have cf := hownI.frozen (m * 7 + 6);have HO2 := Lib.hid (hownI.setText hmk tp)
      have HAT : Hid (addT S.items tp = S.items.set m (withT S.items[m] tp)) := Lib.hid (by
       have h := addT_at (xs := S.items) (by omega) tp;rw [h]
       congr 1 <;> simp [hm1])
      have hxt := (HOK.out.size _ (List.getElem_mem hmk)).2.2.2.2;have hsk := HSK.out k;obtain ⟨arrg, hag⟩ := own_heap HOWN.out (g := g) rfl;have HNS := Lib.hid (HM.out.noS hag);have HAL := Lib.hid (addT_len S.items tp);obtain ⟨xt, hxt2⟩ : ∃ xt, S.items[m].text = xt := ⟨_, rfl⟩;rw [hxt2] at HO2 c6 hxt;obtain ⟨t1, ht1⟩ : ∃ t1 : Str, tp ++ [10] = t1 := ⟨_, rfl⟩;obtain ⟨t2, ht2⟩ : ∃ t2 : Str, xt ++ t1 = t2 := ⟨_, rfl⟩;rw [ht1, ht2] at HO2
      have he1 : (⟨tp.toArray⟩ : ByteArray) ++ ⟨#[10]⟩ = ⟨t1.toArray⟩ := by rw [← ht1]; exact bytes_app tp [10]
      have he2 : (⟨xt.toArray⟩ : ByteArray) ++ ⟨t1.toArray⟩ = ⟨t2.toArray⟩ := by rw [← ht2]; exact bytes_app xt t1
      have hl1 : t1.length = tp.length + 1 := by rw [← ht1]; simp
      have hs1 : ¬ 9223372036854775807 < tp.length + 1 := by omega
      have hs2 : ¬ 9223372036854775807 < xt.length + t1.length := by omega
      have hwz := HOK.out.want1;have HKM : Hid (Pure w (w2.setCell ⟨g, m * 7 + 6, none⟩ (.string ⟨t2.toArray⟩))) := Lib.hid (HPR.out.setCell (.inr hg1) _);have HKS : Hid (KeepS w.heap.size w1 (w2.setCell ⟨g, m * 7 + 6, none⟩ (.string ⟨t2.toArray⟩))) := Lib.hid (HM.out.setCell (.inl ⟨hg1, HNS.out⟩) _);rw [hm1] at HO2 ⊢;clear ht1 ht2 hxt2 c0 c1 c2 c3 c4 c5 hownI hag HST HF0 HSTEP HHD HRD ERR HBAD HGOOD HCP
      go_wp2_with fail
      go_roundg (ls.length - (k + 1))
      case measure => omega
      case rel =>
       refine ⟨k + 1, ⟨addT S.items tp, S.want - 1, S.cnt + 1⟩, some ⟨g, 0, none⟩, cap, rfl, by omega, by simp, ?_, rfl, HR2.out, by show S.cnt + 1 = k + 1; omega, by rw [HSU.out]; exact HOK2.out, ?_, HKS.out, by have := HKS.out.size; omega⟩
       ·show Value.slice _ _ _ = Value.slice _ (addT S.items tp).length _
        rw [HAL.out, hm1]
       ·show World.ownsRow _ _ _ _ (.slice _ (addT S.items tp).length _) (addT S.items tp).length (itV (addT S.items tp))
        rw [HAL.out, HAT.out, hm1];exact HO2.out
     | false =>
      have hw : ¬ 0 < S.want := by simpa using hpe.symm
      clear hpe
      have ho : o = (hdP l).map fun p => ⟨S.items ++ [p.1], p.2, S.cnt + 1⟩ := by rw [HF0.out, if_neg (by simp), if_neg hw]
      go_wp2_with fail
      refine (HHD.out _ HPR.out).mono ?_;rintro e w3 ⟨x, n, rfl, hxn, hm3⟩;have HXN := Lib.hid hxn;have HP3 : Hid (Pure w w3) := Lib.hid (HPR.out.trans hm3);have HO3 := Lib.hid (own_pure HOWN.out hm3);have HK3 : Hid (KeepS w.heap.size w1 w3) := Lib.hid (HM.out.trans (KeepS.of_pure hm3));have hBX := Blk.new w3 40 #[.string ⟨x.id.toArray⟩, .string ⟨x.cust.toArray⟩, .int .i64 x.kind, .string ⟨x.name.toArray⟩, .int .i64 x.tm, .string ⟨x.par.toArray⟩, .string ⟨x.text.toArray⟩];have hPX := pure_alloc w3 (.cells #[.string ⟨x.id.toArray⟩, .string ⟨x.cust.toArray⟩, .int .i64 x.kind, .string ⟨x.name.toArray⟩, .int .i64 x.tm, .string ⟨x.par.toArray⟩, .string ⟨x.text.toArray⟩] 40);clear hxn hm3 HHD HCP;unfold itA
      cases hd : hdP l with
      | none =>
       have hr1 : r = .inl k := HST.out.trans (by rw [ho, hd]; rfl);have HE := Lib.hid (ERR.out hr1 _ (HP3.out.trans hPX));clear HST HSU HSK1 HF0 HSTEP HOK HOWN HM HRD ERR HBAD HGOOD ho hr1
       go_wp2_with fail
       try simp only [Exit.inBlock, Exit.then]
       refine bodyPost_ret (v := .tuple #[.slice none 0 0, .int .i64 (k : Int), .int .i64 9]) (by simp [results, Tryz.results16, go_sem]) rfl ?_;exact HE.out
      | some p =>
       have hpx := HXN.out p hd;subst hpx;have HOK2 := Lib.hid (HSTEP.out _ (by rw [ho, hd]; rfl))
       have HR2 : Hid (rdG rdF wh (ls.drop (k + 1)) (k + 1) ⟨S.items ++ [x], n, S.cnt + 1⟩ = r) := Lib.hid (by
        have h1 := HST.out;rw [ho, hd] at h1;simp only [Option.map_some] at h1;rw [if_neg hnl] at h1
        exact h1.symm)
       have HXV : Hid (itV (S.items ++ [x]) = itV S.items ++ [.string ⟨x.id.toArray⟩, .string ⟨x.cust.toArray⟩, .int .i64 x.kind, .string ⟨x.name.toArray⟩, .int .i64 x.tm, .string ⟨x.par.toArray⟩, .string ⟨x.text.toArray⟩]) := Lib.hid (itV_snoc S.items x);have HO4 := HO3.out.alloc (.cells #[.string ⟨x.id.toArray⟩, .string ⟨x.cust.toArray⟩, .int .i64 x.kind, .string ⟨x.name.toArray⟩, .int .i64 x.tm, .string ⟨x.par.toArray⟩, .string ⟨x.text.toArray⟩] 40);have HP4 := HP3.out.trans hPX;have HK4 : Hid (KeepS w.heap.size w1 (w3.alloc (.cells #[.string ⟨x.id.toArray⟩, .string ⟨x.cust.toArray⟩, .int .i64 x.kind, .string ⟨x.name.toArray⟩, .int .i64 x.tm, .string ⟨x.par.toArray⟩, .string ⟨x.text.toArray⟩] 40))) := Lib.hid (HK3.out.trans (KeepS.of_pure hPX));have hlen := HOK.out.len
       have hlsn : ls.length ≤ 200001 := by omega
       clear HST HF0 HSTEP HOK HOWN HM HRD ERR HBAD HGOOD ho
       go_upto_region 18 with (fail)
       generalize (w3.alloc (.cells #[.string ⟨x.id.toArray⟩, .string ⟨x.cust.toArray⟩, .int .i64 x.kind, .string ⟨x.name.toArray⟩, .int .i64 x.tm, .string ⟨x.par.toArray⟩, .string ⟨x.text.toArray⟩] 40)) = w4 at *;generalize w3.heap.size = gx at *;have c0 := hBX.cell 0; have c1 := hBX.cell 1; have c2 := hBX.cell 2; have c3 := hBX.cell 3; have c4 := hBX.cell 4; have c5 := hBX.cell 5; have c6 := hBX.cell 6; simp at c0 c1 c2 c3 c4 c5 c6;clear hBX hPX HO3 HP3 HK3;have HOL := Lib.hid HO4
       go_wp2_with (at_builtin; refine wpList_append_lies _ rfl _ _ _ rfl w.heap.size 40 i0 _ 7 96 Tryz.underlying26 hi0 hz0 hz1 hz2 rfl (by omega) (.slice A S.items.length cap) S.items.length (itV S.items) rfl (HO4.alloc _) ⟨w4.heap.size, 0, none⟩ 1 1 [.string ⟨x.id.toArray⟩, .string ⟨x.cust.toArray⟩, .int .i64 x.kind, .string ⟨x.name.toArray⟩, .int .i64 x.tm, .string ⟨x.par.toArray⟩, .string ⟨x.text.toArray⟩] rfl rfl (World.news_of_block (cs := #[.string ⟨x.id.toArray⟩, .string ⟨x.cust.toArray⟩, .int .i64 x.kind, .string ⟨x.name.toArray⟩, .int .i64 x.tm, .string ⟨x.par.toArray⟩, .string ⟨x.text.toArray⟩]) (t := 40) (fr := (0, 0)) (heap_alloc_new w4 _)) (by simp [Value.oneCell']) (by omega) (by simp [maxLen]; omega) (by omega) (by have := HP4.size; simp; omega) (w4.heap.size + 1) (by simp) ?_; intro g5 cap5 w5 hown5 hgrow hat hlt5)
       have hgm5 : Mod (fun q => (Value.slice A S.items.length cap).ownBlock = some q) _ w5 := ⟨hgrow.os, hgrow.tape, hgrow.output, hgrow.size, fun q hq hs => hgrow.block q hq (fun e => hs e.symm)⟩;have hoA := HOL.out.alloc (.cells #[.string ⟨x.id.toArray⟩, .string ⟨x.cust.toArray⟩, .int .i64 x.kind, .string ⟨x.name.toArray⟩, .int .i64 x.tm, .string ⟨x.par.toArray⟩, .string ⟨x.text.toArray⟩] 40);have pW := pure_alloc w4 (.cells #[.string ⟨x.id.toArray⟩, .string ⟨x.cust.toArray⟩, .int .i64 x.kind, .string ⟨x.name.toArray⟩, .int .i64 x.tm, .string ⟨x.par.toArray⟩, .string ⟨x.text.toArray⟩] 40)
       have HKF : Hid (KeepS w.heap.size w1 w5) := Lib.hid ((HK4.out.trans (KeepS.of_pure pW)).trans (Mod.mono hgm5 (fun q hq => ⟨(hoA.lt q hq).1, fun hst => by
        obtain ⟨arr2, fr2, h2⟩ := hst;obtain ⟨arr, ha⟩ := own_heap hoA hq;rw [ha] at h2
        injection h2 with h2
        injection h2 with _ h2
        exact absurd h2 (by decide)⟩)))
       go_roundg (ls.length - (k + 1))
       case measure => omega
       case rel =>
        refine ⟨k + 1, ⟨S.items ++ [x], n, S.cnt + 1⟩, some ⟨g5, 0, none⟩, cap5, rfl, by omega, by simp, ?_, rfl, HR2.out, by show S.cnt + 1 = k + 1; omega, by rw [HSU.out]; exact HOK2.out, ?_, HKF.out, HKF.out.size⟩
        ·show Value.slice _ _ _ = Value.slice _ (S.items ++ [x]).length _
         simp
        ·show World.ownsRow _ _ _ _ (.slice _ (S.items ++ [x]).length _) (S.items ++ [x]).length (itV (S.items ++ [x]))
         rw [HXV.out]
         simpa using hown5
    ·have HE := Lib.hid (ERR.out (HBAD.out rfl) _ HPR.out);clear HST HSU HSK1 HF0 HSTEP HHD HOK HOWN HM HRD ERR HBAD HGOOD
     go_wp2_with fail
     try simp only [Exit.inBlock, Exit.then]
     refine bodyPost_ret (v := .tuple #[.slice none 0 0, .int .i64 (k : Int), .int .i64 9]) (by simp [results, Tryz.results16, go_sem]) rfl ?_;exact HE.out
  ·obtain rfl : k = ls.length := by omega
   have hr1 : r = .inr S := by
    rw [List.drop_length] at hrd;exact hrd.symm
   have hrr := HRD.out;rw [hr1] at hrr;simp only at hrr;have HRR := Lib.hid hrr;have hpr := hm.pure HP1.out (Nat.le_refl _);have HPR : Hid (Pure w wr) := Lib.hid hpr;have HIT := Lib.hid (Sl.of_own hown);have HCK := Lib.hid (checkX_calls wr _ S.items (Sl.of_own hown) (hok.l (by omega) (by have := HSK.out ls.length; omega)) (by have := hok.len; omega) (HEV.out _ hpr));clear hr1 hrr hrd hm hown hok hpr HRD
   by_cases hw : 0 < S.want
   ·have HR2 : Hid (rr = ([], (ls.length : Int), 9)) := Lib.hid (by rw [HRR.out, if_pos hw]);clear HRR HCK
    go_wp2_with fail
    try simp only [Exit.inBlock, Exit.then]
    refine bodyPost_ret (v := .tuple #[.slice none 0 0, .int .i64 (ls.length : Int), .int .i64 9]) (by simp [results, Tryz.results16, go_sem]) rfl ?_;rw [HR2.out];exact ⟨_, rfl, its_nil _, HPR.out⟩
   ·rw [if_neg hw] at HRR;obtain ⟨q, hq⟩ : ∃ q, itsE itemE S.items = q := ⟨_, rfl⟩;rw [hq] at HRR HCK;clear hq
    go_wp2_with fail
    refine HCK.out.mono ?_;rintro e w4 ⟨rfl, hm4⟩;have HP4 : Hid (Pure w w4) := Lib.hid (HPR.out.trans hm4);have HI4 := Lib.hid (Its.pure HIT.out hm4);clear hm4 HCK HIT
    by_cases h0 : q = 0
    ·subst h0;have HR2 : Hid (rr = (S.items, 0, 0)) := Lib.hid (by rw [HRR.out]; rfl);clear HRR
     go_wp2_with fail
     try simp only [Exit.inBlock, Exit.then]
     refine bodyPost_ret (v := .tuple #[.slice A S.items.length cap, .int .i64 0, .int .i64 0]) (by simp [results, Tryz.results16, go_sem]) rfl ?_;rw [HR2.out];exact ⟨_, rfl, HI4.out, HP4.out⟩
    ·have h1 : (q != 0) = true := by simpa using h0
     have HR2 : Hid (rr = ([], 0, q)) := Lib.hid (by rw [HRR.out, if_pos h0]);clear HRR h0
     go_wp2_with fail
     try simp only [Exit.inBlock, Exit.then]
     refine bodyPost_ret (v := .tuple #[.slice none 0 0, .int .i64 0, .int .i64 q]) (by simp [results, Tryz.results16, go_sem]) rfl ?_;rw [HR2.out];exact ⟨_, rfl, its_nil _, HP4.out⟩
end Go.Proofs.YtelpdjhkedhppaaGreatDoor
/- Reading items (plain): what holds at the end. -/
namespace Go.Proofs.YtelpdjhkedhppaaGreatDoor
open Go.RowKit
theorem rdG_ok (M : Nat) (wh : Bool) : ∀ (ls : List Str) (i : Nat) (S S' : RdT) (C : Nat), (∀ l ∈ ls, l.length ≤ M) → RdOk M C S → rdG rdF wh ls i S = .inr S' → RdOk M (C + (ls.map fun w => w.length + 1).sum) S'
 | [], i, S, S', C, _, h, hr => by
  have e : S = S' := by
   unfold rdG at hr
   injection hr
  subst e
  simpa using h
 | l :: ls, i, S, S', C, hl, h, hr => by
  unfold rdG at hr
  cases hf : rdF S l with
  | none => rw [hf] at hr; cases hr
  | some S2 =>
   rw [hf] at hr;simp only at hr
   split at hr
   ·cases hr
   ·have h2 := rdG_ok M wh ls (i + 1) S2 S' (C + l.length + 1) (fun x hx => hl x (by simp [hx])) (h.step (hl l (by simp)) hf) hr;rw [List.map_cons, List.sum_cons, show C + (l.length + 1 + (ls.map fun w => w.length + 1).sum) = C + l.length + 1 + (ls.map fun w => w.length + 1).sum by omega];exact h2
theorem rd_ok {s : Str} {S : RdT} (hs : s.length ≤ 200000) (h : rdG rdF (wholeQ s) (linesQ s) 0 ⟨[], 0, 0⟩ = .inr S) : RdOk 200000 200001 S := by
 have h1 := rdG_ok 200000 (wholeQ s) (linesQ s) 0 _ S 0 (fun l hl => by have := linesQ_len hl; omega) (RdOk.start 200000) h;have h2 := sumK_le s (linesQ s).length;unfold sumK at h2;rw [List.take_length] at h2;exact ⟨h1.want0, h1.want1, h1.ne, h1.len, fun x hx => by obtain ⟨a, b, c, d, e⟩ := h1.size x hx; exact ⟨a, b, c, d, by omega⟩⟩
theorem RdOk.up {M C D : Nat} {S : RdT} (h : RdOk M C S) (hc : C ≤ D) : RdOk M D S := ⟨h.want0, h.want1, h.ne, h.len, fun x hx => by obtain ⟨a, b, c, d, e⟩ := h.size x hx; exact ⟨a, b, c, d, by omega⟩⟩
end Go.Proofs.YtelpdjhkedhppaaGreatDoor
/-
 DERIVED: THE SHELF's CONTRACTS AT THIS DUMP, IN PLAIN WORDS (tools/lay-plain.mjs out of 'YtelpdjhkedhppaaGreatDoorLayCut.lean', which tools/lay-shelf.mjs wrote): THE SAME DECLARATIONS UNDER THE SAME NAMES: 'import', 'namespace', 'open', 'def', 'theorem' AND NOTHING ELSE: no command of the shelf's: FOR A HAND-IN. Each laying: the table of numbers ('.._ren') and one theorem, a field a fact of the dump's own or the kernel's comparison; each contract: ONE APPLICATION.
-/
namespace Go.Proofs
open Go.Shelf
def Tryz.lays145_ren : Go.Shelf.Ren := ⟨fun | 145 => 132 | 220 => 182 | 219 => 179 | 217 => 180 | 225 => 234 | 224 => 235 | 267 => 236 | 266 => 237 | 314 => 267 | n => n, fun | 9 => 9 | 4 => 4 | 59 => 154 | 3 => 3 | 5 => 5 | 46 => 119 | 146 => 177 | 51 => 176 | n => n, fun | 1 => 0 | n => n⟩
theorem Tryz.lays145 : Go.Proofs.Lays.n145 Tryz.prog Tryz.lays145_ren := {
 mixed := by kernel_rfl
 f145 := Tryz.func132.trans (congrArg some (by kernel_rfl))
 f217 := Tryz.func180.trans (congrArg some (by kernel_rfl))
 f219 := Tryz.func179.trans (congrArg some (by kernel_rfl))
 f220 := Tryz.func182.trans (congrArg some (by kernel_rfl))
 f224 := Tryz.func235.trans (congrArg some (by kernel_rfl))
 f225 := Tryz.func234.trans (congrArg some (by kernel_rfl))
 f266 := Tryz.func237.trans (congrArg some (by kernel_rfl))
 f267 := Tryz.func236.trans (congrArg some (by kernel_rfl))
 f314 := Tryz.func267.trans (congrArg some (by kernel_rfl))
 t3 := Tryz.underlying3
 a3 := Tryz.isAgg3
 z3 := Tryz.sizeOf3
 v3 := Tryz.zeroValue3
 t4 := Tryz.underlying4
 a4 := Tryz.isAgg4
 z4 := Tryz.sizeOf4
 v4 := Tryz.zeroValue4
 t5 := Tryz.underlying5
 a5 := Tryz.isAgg5
 z5 := Tryz.sizeOf5
 v5 := Tryz.zeroValue5
 t9 := Tryz.underlying9
 a9 := Tryz.isAgg9
 z9 := Tryz.sizeOf9
 v9 := Tryz.zeroValue9
 t46 := Tryz.underlying119
 a46 := Tryz.isAgg119
 z46 := Tryz.sizeOf119
 v46 := Tryz.zeroValue119
 t51 := Tryz.underlying176
 a51 := Tryz.isAgg176
 z51 := Tryz.sizeOf176
 v51 := Tryz.zeroValue176
 t59 := Tryz.underlying154
 a59 := Tryz.isAgg154
 z59 := Tryz.sizeOf154
 v59 := Tryz.zeroValue154
 t146 := Tryz.underlying177
 a146 := Tryz.isAgg177
 z146 := Tryz.sizeOf177
 v146 := Tryz.zeroValue177
 g1 := by kernel_rfl }
end Go.Proofs
/- lines of the reference, for any closure that takes a line. -/
namespace Go.Proofs.YtelpdjhkedhppaaGreatDoor
open Go.RowKit
def Cut10P (w : World) (s : Str) (e : Ending) (w' : World) : Prop := e = .returned (.tuple (match fstL 10 s with
 | none => #[.string ⟨s.toArray⟩, .string ⟨#[]⟩, .bool false]
 | some p => #[.string ⟨p.1.toArray⟩, .string ⟨p.2.toArray⟩, .bool true])) ∧ Pure w w'
theorem cutN_calls (w : World) (s : Str) (hM : MlnS w) (hs : s.length ≤ 1000000) : Calls Tryz.prog 132 #[.string ⟨s.toArray⟩, .string ⟨#[10]⟩] w (Cut10P w s) := by
 obtain ⟨m, hm⟩ := hM;refine (Any.strings_Cut Tryz.lays145 ⟨s.toArray⟩ ⟨#[10]⟩ m w (by simp [ByteArray.size]; omega) hm).mono ?_;rintro e w' ⟨rfl, n, rfl⟩;refine ⟨?_, (Mod.refl _ _).drewN n⟩;have h := cut_byte 10 s
 show Ending.returned (.tuple #[.string ⟨(Lib.cut s [10]).1.toArray⟩, .string ⟨(Lib.cut s [10]).2.1.toArray⟩, .bool (Lib.cut s [10]).2.2]) = _
 rw [h]
 cases fstL 10 s <;> rfl
def LnPost2 {σ : Type} (base : Nat) (w : World) (R : Nat → σ → World → Prop) (r : Nat ⊕ σ) (e : Ending) (W' : World) : Prop :=
 KeepS base w W' ∧ (∀ i, r = .inl i → e = .returned (.tuple #[.int .i64 (i : Int), .bool false])) ∧ ∀ S, r = .inr S → e = .returned (.tuple #[.int .i64 0, .bool true]) ∧ ∃ k, R k S W'
def LnRel2 {σ : Type} (base : Nat) (w : World) (R : Nat → σ → World → Prop) (f : σ → Str → Option σ) (n : Nat) (r : Nat ⊕ σ) (gk : Nat) (i v : Value) (wr : World) : Prop :=
 ∃ (k : Nat) (S : σ) (t : Str), t.length = gk ∧ t.length + k ≤ n ∧ i = .string ⟨t.toArray⟩ ∧ v = .int .i64 (k : Int) ∧ rdG f (wholeQ t) (linesQ t) k S = r ∧ R k S wr ∧ KeepS base w wr
end Go.Proofs.YtelpdjhkedhppaaGreatDoor
/- lines of the reference, for a closure that captures three. -/
namespace Go.Proofs.YtelpdjhkedhppaaGreatDoor
open Go.RowKit
set_option maxHeartbeats 8000000 in
theorem rlines3_calls {σ : Type} (w : World) (s : Str) (base F : Nat) (c1 c2 c3 : Value) (f : σ → Str → Option σ) (R : Nat → σ → World → Prop) (S0 : σ) (hM : ∀ W, KeepS base w W → MlnS W) (hs : s.length ≤ 300000) (hR0 : R 0 S0 w) (hRp : ∀ k S W W', R k S W → Pure W W' → R k S W')
  (hcf : ∀ (v : Value) (W : World), Sem.run Tryz.prog (callFunc F #[v, c1, c2, c3]) W = .ok (.enter F #[v, c1, c2, c3]) W)
  (hF : ∀ (k : Nat) (S : σ) (W : World) (l : Str), k + l.length < s.length → KeepS base w W → R k S W → Calls Tryz.prog F #[.string ⟨l.toArray⟩, c1, c2, c3] W (TkPost base (R (k + 1)) (f S l) W)) :
  Calls Tryz.prog 66 #[.string ⟨s.toArray⟩, .func (.func F) #[] #[c1, c2, c3]] w (LnPost2 base w R (rdG f (wholeQ s) (linesQ s) 0 S0)) := by
 have HCT := Lib.hid (fun W (h : KeepS base w W) (l : Str) (hl : l.length ≤ s.length) => cutN_calls W l (hM W h) (by omega));have HF := Lib.hid hF;have HRp := Lib.hid hRp;have HR0 := Lib.hid hR0;clear hM hF hRp hR0;obtain ⟨r, hr⟩ : ∃ r, rdG f (wholeQ s) (linesQ s) 0 S0 = r := ⟨_, rfl⟩;rw [hr];have HRR := Lib.hid hr;clear hr;obtain ⟨n, hn⟩ : ∃ n, n = s.length := ⟨_, rfl⟩
 go_enter Tryz.func66, Tryz.ntmps66
 go_wp2_with fail
 go_loopg [0, 6] n (fun gk i v wr => LnRel2 base w R f n r gk i v wr)
 case atStart => exact ⟨0, S0, s, by omega, by omega, rfl, rfl, HRR.out, HR0.out, KeepS.of_pure (Mod.refl _ _)⟩
 case round =>
  clear HR0 HRR;obtain ⟨k, S, t, rfl, hk, rfl, rfl, hrd, hR, hm⟩ := hrel;have HM := Lib.hid hm;have HR := Lib.hid hR;have HRD := Lib.hid hrd;clear hm hR hrd
  by_cases h0 : t = []
  ·subst h0;have HF1 : Hid (r = .inr S) := Lib.hid HRD.out.symm;clear HF HCT
   go_wp2_with fail
   try simp only [Exit.inBlock, Exit.then]
   refine bodyPost_ret (v := .tuple #[.int .i64 0, .bool true]) (by simp [results, Tryz.results66, go_sem]) rfl ?_;exact ⟨HM.out, fun i hi => (by rw [HF1.out] at hi; cases hi), fun S2 h => (by rw [HF1.out] at h; cases h; exact ⟨rfl, k, HR.out⟩)⟩
  ·have f0 : (t == []) = false := by simpa using h0
   have f0' : (t != []) = true := by simpa using h0
   have HST := Lib.hid (rdG_step f h0 k S);rw [HRD.out] at HST;have HC := Lib.hid (HCT.out wr HM.out t (by omega));clear h0 HRD
   go_wp2_with fail
   refine HC.out.mono ?_;rintro e w2 ⟨rfl, hm⟩;have HM2 : Hid (KeepS base w w2) := Lib.hid (HM.out.trans (KeepS.of_pure hm));have HR2 := Lib.hid (HRp.out k S wr w2 HR.out hm);clear hm HM HR HC
   cases hf : fstL 10 t with
   | none =>
    rw [hf] at HST;have HF1 : Hid (r = .inl k) := HST;clear hf HST HF
    go_wp2_with fail
    try simp only [Exit.inBlock, Exit.then]
    refine bodyPost_ret (v := .tuple #[.int .i64 (k : Int), .bool false]) (by simp [results, Tryz.results66, go_sem]) rfl ?_;exact ⟨HM2.out, fun i hi => (by rw [HF1.out] at hi; cases hi; rfl), fun S h => (by rw [HF1.out] at h; cases h)⟩
   | some p =>
    obtain ⟨x, y⟩ := p
    have hl : t.length = x.length + (y.length + 1) := by rw [(fstL_some hf).1]; simp
    rw [hf] at HST;have HST2 : Hid (r = match f S x with | none => .inl k | some S2 => rdG f (wholeQ y) (linesQ y) (k + 1) S2) := HST;have HFX := Lib.hid (HF.out k S w2 x (by omega) HM2.out HR2.out);clear hf HST HF;generalize f S x = o at *
    go_wp2_with fail
    refine HFX.out.mono ?_;rintro e w3 ⟨rfl, hm, hRS⟩;have HM3 := Lib.hid (HM2.out.trans hm);have HRS := Lib.hid hRS;clear hm hRS HFX HM2 HR2
    cases o with
    | none =>
     have HF1 : Hid (r = .inl k) := HST2;clear HST2 HRS
     go_wp2_with fail
     try simp only [Exit.inBlock, Exit.then]
     refine bodyPost_ret (v := .tuple #[.int .i64 (k : Int), .bool false]) (by simp [results, Tryz.results66, go_sem]) rfl ?_;exact ⟨HM3.out, fun i hi => (by rw [HF1.out] at hi; cases hi; rfl), fun S h => (by rw [HF1.out] at h; cases h)⟩
    | some S2 =>
     have HF1 : Hid (r = rdG f (wholeQ y) (linesQ y) (k + 1) S2) := HST2;have HRS2 := Lib.hid (HRS.out S2 rfl);clear HST2 HRS
     go_wp2_with fail
     go_roundg y.length
     case measure => omega
     case rel => exact ⟨k + 1, S2, y, rfl, by omega, rfl, by simp, HF1.out.symm, HRS2.out, HM3.out⟩
end Go.Proofs.YtelpdjhkedhppaaGreatDoor
/- KindOf of the reference. -/
namespace Go.Proofs.YtelpdjhkedhppaaGreatDoor
open Go.RowKit
def ks5 : List Str := [[45], [109, 97, 105, 108], [102, 105, 108, 101], [98, 111, 120], [110, 111, 116, 101]]
theorem kndI_idx (s : Str) : max 0 (idxQ (fun x => s == x) ks5 0) = kndI s := by
 unfold kndI ks5
 by_cases h0 : s = [45]
 ·subst h0; decide
 by_cases h1 : s = [109, 97, 105, 108]
 ·subst h1; decide
 by_cases h2 : s = [102, 105, 108, 101]
 ·subst h2; decide
 by_cases h3 : s = [98, 111, 120]
 ·subst h3; decide
 by_cases h4 : s = [110, 111, 116, 101]
 ·subst h4; decide
 rw [if_neg h1, if_neg h2, if_neg h3, if_neg h4];simp [idxQ, h0, h1, h2, h3, h4]
 decide
theorem kindOf_calls (w : World) (s : Str) (hA : Asc w) : Calls Tryz.prog 70 #[.string ⟨s.toArray⟩] w (IntPost w (kndI s)) := by
 have hall : ∀ b ∈ ([45, 32, 109, 97, 105, 108, 32, 102, 105, 108, 101, 32, 98, 111, 120, 32, 110, 111, 116, 101] : List UInt8), b.toNat < 128 := by decide
 have hf := Any.strings_Fields Tryz.lays157 info_strS asc_g ⟨#[45, 32, 109, 97, 105, 108, 32, 102, 105, 108, 101, 32, 98, 111, 120, 32, 110, 111, 116, 101]⟩ w (by decide) (fun j b hj => hall b (List.mem_of_getElem? hj)) hA
 have e1 : Lib.fields (⟨#[45, 32, 109, 97, 105, 108, 32, 102, 105, 108, 101, 32, 98, 111, 120, 32, 110, 111, 116, 101]⟩ : ByteArray).data.toList = ks5 := by decide +kernel
 rw [e1] at hf;have HF := Lib.hid hf;have HIX := Lib.hid (kndI_idx s);have HSL := Lib.hid (blkSl3 (Blk.new w 9 (strsV ks5).toArray));have HIQ := Lib.hid (indexQs_calls (w.alloc (.cells (strsV ks5).toArray 9)) _ ks5 s HSL.out);clear hf hA hall e1;generalize kndI s = kd at *;generalize idxQ (fun x => s == x) ks5 0 = ix at *
 go_enter Tryz.func70, Tryz.ntmps70
 go_wp2_with fail
 refine HF.out.mono ?_;rintro e w1 ⟨rfl, rfl⟩
 go_wp2_with fail
 refine HIQ.out.mono ?_;rintro e w2 ⟨rfl, hm⟩;have hm2 := (pure_alloc w (.cells (strsV ks5).toArray 9)).trans hm
 go_wp2_with fail
 go_ret;refine IntPost.of ?_ hm2;rw [← HIX.out]
 try omega
end Go.Proofs.YtelpdjhkedhppaaGreatDoor
/- A line, as the reference reads items. -/
namespace Go.Proofs.YtelpdjhkedhppaaGreatDoor
open Go.RowKit
def IrI (base gO gM gN k : Nat) (S : RdT) (W : World) : Prop := ∃ (A : Option Addr) (c : Nat),
 Blk W gO 26 #[.slice A S.items.length c] ∧ Blk W gM 3 #[.int .i64 S.want] ∧ Blk W gN 3 #[.int .i64 (S.cnt : Int)] ∧ W.ownsRow base 40 7 (.slice A S.items.length c) S.items.length (itV S.items) ∧ RdOk 200000 (k * 200001) S ∧ S.cnt = k ∧ base ≤ gO ∧ base ≤ gM ∧ base ≤ gN ∧ gO ≠ gM ∧ gO ≠ gN ∧ gM ≠ gN
theorem IrI.pure {base gO gM gN k : Nat} {S : RdT} {W W' : World} (h : IrI base gO gM gN k S W) (hm : Pure W W') : IrI base gO gM gN k S W' := by
 obtain ⟨A, c, h1, h2, h3, h4, r⟩ := h;exact ⟨A, c, h1.modp hm, h2.modp hm, h3.modp hm, own_pure h4 hm, r⟩
theorem KeepS.ofOne {base gl : Nat} {W W' : World} (h : Mod (· = gl) W W') (hb : base ≤ gl) {t : TypeId} {c : Array Value} (hB : Blk W gl t c) (hne : t ≠ 9) : KeepS base W W' :=
 h.mono (fun k hk => by subst hk; exact ⟨hb, fun ⟨arr, fr, hs⟩ => by unfold Blk at hB; rw [hB] at hs; cases hs; exact hne rfl⟩)
theorem KeepS.ofGrown {base : Nat} {W W' : World} {t : TypeId} {size n : Nat} {v : Value} {xs : List Value} (h : W.ownsRow base t size v n xs) (hg : W.grownBy W' v.ownBlock) (hne : t ≠ 9) : KeepS base W W' :=
 (mod_grown hg).mono (fun k hk => ⟨own_block h k hk, fun ⟨arr, fr, hs⟩ => hne (own_ty h hk hs).symm⟩)
set_option maxHeartbeats 8000000 in
theorem irdClo_calls (w : World) (base gO gM gN k : Nat) (S : RdT) (l : Str) (hk : k ≤ 200000) (hI : IrI base gO gM gN k S w) (hl : l.length ≤ 200000) (hMl : ∀ W, KeepS base w W → MlnS W) (hP : ∀ W, KeepS base w W → Pow W) (hA : ∀ W, KeepS base w W → Asc W) :
  Calls Tryz.prog 67 #[.string ⟨l.toArray⟩, .pointer (some ⟨gN, 0, none⟩), .pointer (some ⟨gM, 0, none⟩), .pointer (some ⟨gO, 0, none⟩)] w (TkPost base (IrI base gO gM gN (k + 1)) (rdF S l) w) := by
 obtain ⟨i0, hi0, hz0, hz1, hz2⟩ := info_parts info_item7;have HML := Lib.hid hMl;have HPW := Lib.hid hP;have HAS := Lib.hid hA;obtain ⟨A, c, h5, h6, h7, hown, hok, rfl, hb5, hb6, hb7, h56, h57, h67⟩ := hI;have HF0 : Hid (rdF S l = if Lib.hasPrefix l [124] = true then (if 0 < S.want then some ⟨addT S.items (Lib.trimPrefix l [124]), S.want - 1, S.cnt + 1⟩ else none) else if 0 < S.want then none else (hdP l).map fun p => ⟨S.items ++ [p.1], p.2, S.cnt + 1⟩) := Lib.hid rfl;have HSTEP := Lib.hid (fun S' (h : rdF S l = some S') => (hok.step hl h).up (D := (S.cnt + 1) * 200001) (by omega));have m1 : Mod (· = gN) w (w.setCell ⟨gN, 0, none⟩ (.int .i64 ((S.cnt : Int) + 1))) := (Mod.refl (· = gN) w).setCell (.inl rfl) _;have HB5 := Lib.hid (h5.far (p := ⟨gN, 0, none⟩) h57 (.int .i64 ((S.cnt : Int) + 1)));have HB6 := Lib.hid (h6.far (p := ⟨gN, 0, none⟩) h67 (.int .i64 ((S.cnt : Int) + 1)));have HB7 := Lib.hid (h7.set 0 (.int .i64 ((S.cnt : Int) + 1)));have HOW := Lib.hid (own_mod hown m1 (fun g hg he => by subst he; exact absurd (own_ty hown hg h7) (by decide)));have HK1 : Hid (KeepS base w (w.setCell ⟨gN, 0, none⟩ (.int .i64 ((S.cnt : Int) + 1)))) := Lib.hid (KeepS.ofOne m1 hb7 h7 (by decide));have HOK := Lib.hid hok;have htl := trimP_len l;have hcn : S.cnt ≤ 200000 := hk;clear hMl hP hA h5 h6 hown m1 hok;have x0 := h7.cell 0; have xf0 := h7.frozen 0; simp at x0;clear h7;generalize rdF S l = o at *
 go_enter Tryz.func67, Tryz.ntmps67
 go_upto_region 2 with (fail)
 generalize (w.setCell ⟨gN, 0, none⟩ (.int .i64 ((S.cnt : Int) + 1))) = w1 at *;have HCP := Lib.hid (cutP_calls w1 l);have NONE : Hid (o = none → ∀ W, KeepS base w W → TkPost base (IrI base gO gM gN (S.cnt + 1)) o w (.returned (.bool false)) W) := Lib.hid (fun h W hm => by subst h; exact ⟨rfl, hm, fun S' h => (by cases h)⟩)
 go_wp2_with fail
 refine HCP.out.mono ?_;rintro e w2 ⟨rfl, rfl⟩;generalize Lib.hasPrefix l [124] = hp at *;generalize Lib.trimPrefix l [124] = tp at *;clear HCP;have h6 := HB6.out;have x0 := h6.cell 0; have xf0 := h6.frozen 0; simp at x0;clear h6;have hw0 := HOK.out.want0;have hwz := HOK.out.want1
 cases hp with
 | true =>
  by_cases hw : 0 < S.want
  ·have ho : o = some ⟨addT S.items tp, S.want - 1, S.cnt + 1⟩ := by rw [HF0.out, if_pos rfl, if_pos hw]
   have hwe : (S.want == 0) = false := by simp; omega
   have HOK2 := Lib.hid (HSTEP.out _ ho);obtain ⟨m, hm1⟩ : ∃ m, S.items.length = m + 1 := ⟨S.items.length - 1, by have := List.length_pos_iff.2 (HOK.out.ne hw); omega⟩;have m2 : Mod (· = gM) w2 (w2.setCell ⟨gM, 0, none⟩ (.int .i64 (S.want - 1))) := (Mod.refl (· = gM) w2).setCell (.inl rfl) _;have HC5 := Lib.hid (HB5.out.far (p := ⟨gM, 0, none⟩) h56 (.int .i64 (S.want - 1)));have HC7 := Lib.hid (HB7.out.far (p := ⟨gM, 0, none⟩) (Ne.symm h67) (.int .i64 (S.want - 1)));have HC6 := Lib.hid (HB6.out.set 0 (.int .i64 (S.want - 1)));have HOX := Lib.hid (own_mod HOW.out m2 (fun g hg he => by subst he; exact absurd (own_ty HOW.out hg HB6.out) (by decide)));have HK2 : Hid (KeepS base w (w2.setCell ⟨gM, 0, none⟩ (.int .i64 (S.want - 1)))) := Lib.hid (HK1.out.trans (KeepS.ofOne m2 hb6 HB6.out (by decide)));clear m2 HF0 HB5 HB6 HB7 HOW HK1 NONE HML HPW HAS
   go_upto_region 7 with (fail)
   generalize (w2.setCell ⟨gM, 0, none⟩ (.int .i64 (S.want - 1))) = w3 at *;obtain ⟨g, cap', hform, hg1, hg2, hcap, hcap2⟩ := own_form7 HOX.out (by omega)
   injection hform with hA _ hC
   subst hA hC;have hownI : OwnI w3 base g S.items.length c S.items := HOX.out
   have hmk : m < S.items.length := by omega
   obtain ⟨c0, c1, c2, c3, c4, c5, c6⟩ := hownI.cells hmk;have cf := hownI.frozen (m * 7 + 6);have HO2 := Lib.hid (hownI.setText hmk tp)
   have HAT : Hid (addT S.items tp = S.items.set m (withT S.items[m] tp)) := Lib.hid (by
    have h := addT_at (xs := S.items) (by omega) tp;rw [h]
    congr 1 <;> simp [hm1])
   have hxt := (HOK.out.size _ (List.getElem_mem hmk)).2.2.2.2;obtain ⟨arrg, hag⟩ := own_heap HOX.out (g := g) rfl;have HAL := Lib.hid (addT_len S.items tp);obtain ⟨xt, hxt2⟩ : ∃ xt, S.items[m].text = xt := ⟨_, rfl⟩;rw [hxt2] at HO2 c6 hxt;obtain ⟨t1, ht1⟩ : ∃ t1 : Str, tp ++ [10] = t1 := ⟨_, rfl⟩;obtain ⟨t2, ht2⟩ : ∃ t2 : Str, xt ++ t1 = t2 := ⟨_, rfl⟩;rw [ht1, ht2] at HO2
   have he1 : (⟨tp.toArray⟩ : ByteArray) ++ ⟨#[10]⟩ = ⟨t1.toArray⟩ := by rw [← ht1]; exact bytes_app tp [10]
   have he2 : (⟨xt.toArray⟩ : ByteArray) ++ ⟨t1.toArray⟩ = ⟨t2.toArray⟩ := by rw [← ht2]; exact bytes_app xt t1
   have hl1 : t1.length = tp.length + 1 := by rw [← ht1]; simp
   have hs1 : ¬ 9223372036854775807 < tp.length + 1 := by omega
   have hs2 : ¬ 9223372036854775807 < xt.length + t1.length := by omega
   have hg5g : gO ≠ g := fun e => by
    subst e;have h := HC5.out;unfold Blk at h;rw [hag] at h
    injection h with h
    injection h with _ h
    exact absurd h (by decide)
   have hg6g : gM ≠ g := fun e => by
    subst e;have h := HC6.out;unfold Blk at h;rw [hag] at h
    injection h with h
    injection h with _ h
    exact absurd h (by decide)
   have hg7g : gN ≠ g := fun e => by
    subst e;have h := HC7.out;unfold Blk at h;rw [hag] at h
    injection h with h
    injection h with _ h
    exact absurd h (by decide)
   have m3 : Mod (· = g) w3 (w3.setCell ⟨g, m * 7 + 6, none⟩ (.string ⟨t2.toArray⟩)) := (Mod.refl (· = g) w3).setCell (.inl rfl) _
   have HK3 : Hid (KeepS base w (w3.setCell ⟨g, m * 7 + 6, none⟩ (.string ⟨t2.toArray⟩))) := Lib.hid (HK2.out.trans (m3.mono (fun q hq => by
    subst hq;refine ⟨hg1, fun hst => ?_⟩;obtain ⟨arr2, fr2, h2⟩ := hst;rw [hag] at h2
    injection h2 with h2
    injection h2 with _ h2
    exact absurd h2 (by decide))))
   have HD5 := Lib.hid (HC5.out.far (p := ⟨g, m * 7 + 6, none⟩) hg5g (.string ⟨t2.toArray⟩));have HD6 := Lib.hid (HC6.out.far (p := ⟨g, m * 7 + 6, none⟩) hg6g (.string ⟨t2.toArray⟩));have HD7 := Lib.hid (HC7.out.far (p := ⟨g, m * 7 + 6, none⟩) hg7g (.string ⟨t2.toArray⟩));have h5 := HC5.out;rw [hm1] at h5;rw [hm1] at HO2 HD5;have y0 := h5.cell 0; simp at y0;clear ht1 ht2 hxt2 c0 c1 c2 c3 c4 c5 hownI hag m3 h5 x0 HC5 HC6 HC7 HOX HK2
   go_wp2_with fail
   try simp only [Exit.inBlock, Exit.then]
   refine bodyPost_ret (v := .bool true) (by simp [results, Tryz.results67, go_sem]) rfl ?_;refine ⟨rfl, HK3.out, fun S' hS => ?_⟩
   injection hS with hS
   subst hS;refine ⟨some ⟨g, 0, none⟩, c, ?_, HD6.out, ?_, ?_, HOK2.out, rfl, hb5, hb6, hb7, h56, h57, h67⟩
   ·show Blk _ _ _ #[.slice _ (addT S.items tp).length _]
    rw [HAL.out, hm1];exact HD5.out
   ·show Blk _ _ _ #[.int .i64 ((S.cnt + 1 : Nat) : Int)]
    have := HD7.out
    simpa using this
   ·show World.ownsRow _ _ _ _ (.slice _ (addT S.items tp).length _) (addT S.items tp).length (itV (addT S.items tp))
    rw [HAL.out, HAT.out, hm1];exact HO2.out
  ·have ho : o = none := by rw [HF0.out, if_pos rfl, if_neg hw]
   have hwe : S.want = 0 := by omega
   rw [hwe] at x0
   have hwe2 : (S.want == 0) = true := by simpa using hwe
   have HN := Lib.hid (NONE.out ho _ HK1.out);clear HF0 HB5 HB6 HB7 HOW HSTEP HOK NONE HML HPW HAS ho
   go_wp2_with fail
   try simp only [Exit.inBlock, Exit.then]
   refine bodyPost_ret (v := .bool false) (by simp [results, Tryz.results67, go_sem]) rfl ?_;exact HN.out
 | false =>
  by_cases hw : 0 < S.want
  ·have ho : o = none := by rw [HF0.out, if_neg (by simp), if_pos hw]
   have HN := Lib.hid (NONE.out ho _ HK1.out);clear HF0 HB5 HB6 HB7 HOW HSTEP HOK NONE HML HPW HAS ho
   go_wp2_with fail
   try simp only [Exit.inBlock, Exit.then]
   refine bodyPost_ret (v := .bool false) (by simp [results, Tryz.results67, go_sem]) rfl ?_;exact HN.out
  ·have ho : o = (hdP l).map fun p => ⟨S.items ++ [p.1], p.2, S.cnt + 1⟩ := by rw [HF0.out, if_neg (by simp), if_neg hw]
   have HO := Lib.hid ho
   have hwe : S.want = 0 := by omega
   rw [hwe] at x0;have HSP := Lib.hid (split_calls w2 l [32] (HML.out _ HK1.out) (by omega) (by simp));rw [show Lib.split l [32] = spl 32 l from split_byte 32 l] at HSP;clear HF0 ho
   go_wp2_with fail
   refine HSP.out.mono ?_;rintro e w3 ⟨rfl, hw3⟩;have hRB := Blk.new w2 9 (strsV (spl 32 l)).toArray;have hPW := pure_alloc w2 (.cells (strsV (spl 32 l)).toArray 9);rw [← hw3] at hRB hPW;have HHD : Hid (hdP l = if (decide ((spl 32 l).length = 8) && (decide ((spl 32 l).getD 0 [] = itemW) && !decide ([] ∈ spl 32 l))) = true then hdF ((spl 32 l).getD 1 []) ((spl 32 l).getD 2 []) ((spl 32 l).getD 3 []) ((spl 32 l).getD 4 []) ((spl 32 l).getD 5 []) ((spl 32 l).getD 6 []) ((spl 32 l).getD 7 []) else none) := Lib.hid rfl;have HWL : Hid (∀ x ∈ spl 32 l, x.length ≤ 200000) := Lib.hid (fun x hx => Nat.le_trans (spl_len hx) hl)
   have hwl : (spl 32 l).length ≤ 200001 := by have := spl_count 32 l; omega
   have HSL := Lib.hid (show Sl w3 9 1 (.slice (some ⟨w2.heap.size, 0, none⟩) (spl 32 l).length (spl 32 l).length) (strsV (spl 32 l)) from ⟨_, _, _, rfl, Nat.le_refl _, by omega, by simp [strsV], fun _ => ⟨_, 0, rfl, hRB.row0⟩⟩);have HRB := Lib.hid hRB;have HP3 : Hid (Pure w2 w3) := Lib.hid hPW;generalize spl 32 l = ws at *;generalize w2.heap.size = g1 at *;clear hw3 hPW hRB HSP x0
   by_cases hn8 : ws.length = 8
   rotate_left
   ·have h8 : ((ws.length : Int) != 8) = true := by simp; omega
    have HN := Lib.hid (NONE.out (by rw [HO.out, show hdP l = none by rw [HHD.out]; simp [hn8]]; rfl) _ (HK1.out.trans (KeepS.of_pure HP3.out)));clear HB5 HB6 HB7 HOW HSTEP HOK NONE HML HPW HAS HO HHD HWL HSL HRB
    go_wp2_with fail
    try simp only [Exit.inBlock, Exit.then]
    refine bodyPost_ret (v := .bool false) (by simp [results, Tryz.results67, go_sem]) rfl ?_;exact HN.out
   obtain ⟨a0, a1, a2, a3, a4, a5, a6, a7, rfl⟩ : ∃ a0 a1 a2 a3 a4 a5 a6 a7, ws = [a0, a1, a2, a3, a4, a5, a6, a7] := by
    match ws, hn8 with
    | [a0, a1, a2, a3, a4, a5, a6, a7], _ => exact ⟨_, _, _, _, _, _, _, _, rfl⟩
   have HH2 : Hid (hdP l = if (decide (a0 = itemW) && !decide ([] ∈ [a0, a1, a2, a3, a4, a5, a6, a7])) = true then hdF a1 a2 a3 a4 a5 a6 a7 else none) := Lib.hid (by rw [HHD.out]; rfl);have hR : Blk w3 g1 9 #[.string ⟨a0.toArray⟩, .string ⟨a1.toArray⟩, .string ⟨a2.toArray⟩, .string ⟨a3.toArray⟩, .string ⟨a4.toArray⟩, .string ⟨a5.toArray⟩, .string ⟨a6.toArray⟩, .string ⟨a7.toArray⟩] := HRB.out;have HR := Lib.hid hR;have r0 := hR.cell 0;have r3 := hR.cell 3;simp at r0 r3;clear HHD HRB hwl hn8 hR;simp only [List.length_cons, List.length_nil, Nat.zero_add, Nat.reduceAdd] at HSL ⊢
   by_cases e0 : a0 = itemW
   rotate_left
   ·have f0 : (a0 == [105, 116, 101, 109]) = false := by simpa [itemW] using e0
    have f0' : (a0 != [105, 116, 101, 109]) = true := by simpa [itemW] using e0
    have HN := Lib.hid (NONE.out (by rw [HO.out, show hdP l = none by rw [HH2.out]; simp [e0]]; rfl) _ (HK1.out.trans (KeepS.of_pure HP3.out)));clear e0 HB5 HB6 HB7 HOW HSTEP HOK NONE HML HPW HAS HO HH2 HWL HSL HR
    go_wp2_with fail
    try simp only [Exit.inBlock, Exit.then]
    refine bodyPost_ret (v := .bool false) (by simp [results, Tryz.results67, go_sem]) rfl ?_;exact HN.out
   subst e0;obtain ⟨bb, hbb⟩ : ∃ bb, decide ([] ∈ [itemW, a1, a2, a3, a4, a5, a6, a7]) = bb := ⟨_, rfl⟩;have HCT := Lib.hid (containsM_calls w3 _ [itemW, a1, a2, a3, a4, a5, a6, a7] [] bb hbb HSL.out);have HH3 : Hid (hdP l = if (!bb) = true then hdF a1 a2 a3 a4 a5 a6 a7 else none) := Lib.hid (by rw [HH2.out, hbb]; simp);clear HH2 hbb HSL;unfold itemW at r0 HR
   go_wp2_with fail
   refine HCT.out.mono ?_;rintro e w4 ⟨rfl, hm4⟩;have HP4 : Hid (Pure w2 w4) := Lib.hid (HP3.out.trans hm4);have HR4 := Lib.hid (HR.out.modp hm4);clear r0 r3 hm4 HR HP3 HCT
   cases bb
   rotate_left
   ·have HN := Lib.hid (NONE.out (by rw [HO.out, show hdP l = none by rw [HH3.out]; rfl]; rfl) _ (HK1.out.trans (KeepS.of_pure HP4.out)));clear HB5 HB6 HB7 HOW HSTEP HOK NONE HML HPW HAS HO HH3 HWL HR4
    go_wp2_with fail
    try simp only [Exit.inBlock, Exit.then]
    refine bodyPost_ret (v := .bool false) (by simp [results, Tryz.results67, go_sem]) rfl ?_;exact HN.out
   have HH4 : Hid (hdP l = hdF a1 a2 a3 a4 a5 a6 a7) := Lib.hid (by rw [HH3.out]; rfl);have HKD := Lib.hid (fun W (h : Pure w2 W) => kindOf_calls W a3 (HAS.out _ (HK1.out.trans (KeepS.of_pure h))));have hkl := kndI_le a3;obtain ⟨kb, hkb⟩ : ∃ kb, kndI a3 = kb := ⟨_, rfl⟩;rw [hkb] at HKD hkl;have HKB := Lib.hid hkb;have hr := HR4.out;have r0 := hr.cell 0; have r1 := hr.cell 1; have r2 := hr.cell 2; have r3 := hr.cell 3; have r4 := hr.cell 4; have r5 := hr.cell 5; have r6 := hr.cell 6; have r7 := hr.cell 7; simp at r0 r1 r2 r3 r4 r5 r6 r7;clear hkb hr HH3
   go_wp2_with fail
   refine (HKD.out _ HP4.out).mono ?_;rintro e w5 ⟨rfl, hm5⟩;have HP5 : Hid (Pure w2 w5) := Lib.hid (HP4.out.trans hm5);have HR5 := Lib.hid (HR4.out.modp hm5);clear r0 r1 r2 r3 r4 r5 r6 r7 hm5 HR4 HP4
   by_cases hk0 : kb = 0
   ·have HN := Lib.hid (NONE.out (by rw [HO.out, show hdP l = none by rw [HH4.out]; exact hdF_k (by rw [HKB.out]; exact hk0)]; rfl) _ (HK1.out.trans (KeepS.of_pure HP5.out)));subst hk0;clear HB5 HB6 HB7 HOW HSTEP HOK NONE HML HPW HAS HO HH4 HWL HR5 HKB HKD
    go_wp2_with fail
    try simp only [Exit.inBlock, Exit.then]
    refine bodyPost_ret (v := .bool false) (by simp [results, Tryz.results67, go_sem]) rfl ?_;exact HN.out
   have hk1 : (kb == 0) = false := by simpa using hk0
   have HNA := Lib.hid (numberR_calls w5 a4 (by have := HWL.out a4 (by simp); omega) (HPW.out _ (HK1.out.trans (KeepS.of_pure HP5.out))));have hr := HR5.out;have r0 := hr.cell 0; have r1 := hr.cell 1; have r2 := hr.cell 2; have r3 := hr.cell 3; have r4 := hr.cell 4; have r5 := hr.cell 5; have r6 := hr.cell 6; have r7 := hr.cell 7; simp at r0 r1 r2 r3 r4 r5 r6 r7;clear hr
   go_wp2_with fail
   refine HNA.out.mono ?_;rintro e w6 ⟨at_, rfl, hat, hat1, hat2, hm6⟩
   have HAT := Lib.hid hat
   have HP6 : Hid (Pure w2 w6) := Lib.hid (HP5.out.trans hm6);have HR6 := Lib.hid (HR5.out.modp hm6);have HNN := Lib.hid (numberR_calls w6 a7 (by have := HWL.out a7 (by simp); omega) (HPW.out _ (HK1.out.trans (KeepS.of_pure HP6.out))));have hr := HR6.out;clear r0 r1 r2 r3 r4 r5 r6 r7 hat hm6 HNA HR5 HP5;have r0 := hr.cell 0; have r1 := hr.cell 1; have r2 := hr.cell 2; have r3 := hr.cell 3; have r4 := hr.cell 4; have r5 := hr.cell 5; have r6 := hr.cell 6; have r7 := hr.cell 7; simp at r0 r1 r2 r3 r4 r5 r6 r7;clear hr
   go_wp2_with fail
   refine HNN.out.mono ?_;rintro e w7 ⟨nv, rfl, hnv, hnv1, hnv2, hm7⟩;have HNV := Lib.hid hnv;have HP7 : Hid (Pure w2 w7) := Lib.hid (HP6.out.trans hm7);have HR7 := Lib.hid (HR6.out.modp hm7);have HUN := Lib.hid (Unquoted_calls w7 a6 (by have := HWL.out a6 (by simp); omega));have hr := HR7.out;clear r0 r1 r2 r3 r4 r5 r6 r7 hnv hm7 HNN HR6 HP6;have r0 := hr.cell 0; have r1 := hr.cell 1; have r2 := hr.cell 2; have r3 := hr.cell 3; have r4 := hr.cell 4; have r5 := hr.cell 5; have r6 := hr.cell 6; have r7 := hr.cell 7; simp at r0 r1 r2 r3 r4 r5 r6 r7;clear hr
   go_wp2_with fail
   refine HUN.out.mono ?_;rintro e w8 ⟨hun, hm8⟩
   obtain ⟨nm, nn, cb, rfl, hue⟩ : ∃ (nm : Str) (nn : Int) (cb : Bool), e = .returned (.tuple #[.string ⟨nm.toArray⟩, .int .i64 nn, .bool cb]) ∧ ((unqS a6 = none ∧ cb = false) ∨ ∃ k : Nat, unqS a6 = some (nm, k) ∧ nn = (k : Int) ∧ cb = true) := by
    rcases hun with ⟨h1, h2⟩ | ⟨out, k, h1, h2⟩
    ·exact ⟨[], 0, false, h2, .inl ⟨h1, rfl⟩⟩
    ·exact ⟨out, k, true, h2, .inr ⟨k, h1, rfl, rfl⟩⟩
   have HUE := Lib.hid hue;have HP8 : Hid (Pure w2 w8) := Lib.hid (HP7.out.trans hm8);have HR8 := Lib.hid (HR7.out.modp hm8);obtain ⟨ob, hob⟩ : ∃ ob, (numQ 9 a4).isSome = ob := ⟨_, rfl⟩;obtain ⟨nb, hnb⟩ : ∃ nb, (numQ 9 a7).isSome = nb := ⟨_, rfl⟩;rw [hob, hnb];have HOB := Lib.hid hob;have HNB := Lib.hid hnb;have HKE : Hid (∀ W, Pure w8 W → Calls Tryz.prog 70 #[.string ⟨a3.toArray⟩] W (IntPost W kb)) := Lib.hid (fun W h => HKD.out W (HP8.out.trans h));clear r0 r1 r2 r3 r4 r5 r6 r7 hun hue hm8 HUN HR7 HP7 hob hnb HML HPW HAS HKD hk1;have hg1w := HR8.out.lt
   go_upto_region 15 with (fail)
   have HGs := Lib.hid (show ∀ (D : Nat → Bool) (zzi : Nat) (zq zq' : World), (fun _ zq => (fun Z => Blk Z g1 9 #[.string ⟨#[105, 116, 101, 109]⟩, .string ⟨a1.toArray⟩, .string ⟨a2.toArray⟩, .string ⟨a3.toArray⟩, .string ⟨a4.toArray⟩, .string ⟨a5.toArray⟩, .string ⟨a6.toArray⟩, .string ⟨a7.toArray⟩]) zq) D zq → Mod (fun _ => False) zq zq' → (fun _ zq => (fun Z => Blk Z g1 9 #[.string ⟨#[105, 116, 101, 109]⟩, .string ⟨a1.toArray⟩, .string ⟨a2.toArray⟩, .string ⟨a3.toArray⟩, .string ⟨a4.toArray⟩, .string ⟨a5.toArray⟩, .string ⟨a6.toArray⟩, .string ⟨a7.toArray⟩]) zq) (upd D zzi true) zq' from by intro D zzi zq zq' h hm; (exact h.modp hm))
   refine wp_region_inv (by kernel_rfl) (by kernel_rfl) (InvF (R := Mod (fun _ => False)) [.is (.slice (some ⟨g1, 0, none⟩) 8 8),
     .is (.pointer (some ⟨g1, 1, none⟩)),
     .is (.string ⟨a1.toArray⟩),
     .is (.slice (some ⟨g1, 0, none⟩) 8 8),
     .is (.pointer (some ⟨g1, 2, none⟩)),
     .is (.string ⟨a2.toArray⟩),
     .is (.slice (some ⟨g1, 0, none⟩) 8 8),
     .is (.pointer (some ⟨g1, 3, none⟩)),
     .is (.string ⟨a3.toArray⟩),
     .is (.int .i64 kb),
     .is (.int .i64 at_),
     .is (.slice (some ⟨g1, 0, none⟩) 8 8),
     .is (.pointer (some ⟨g1, 5, none⟩)),
     .is (.string ⟨a5.toArray⟩),
     .is (.string ⟨nm.toArray⟩),
     .is (.agg #[.string ⟨a1.toArray⟩, .string ⟨a2.toArray⟩, .int .i64 kb, .string ⟨nm.toArray⟩, .int .i64 at_, .string ⟨a5.toArray⟩, .string ⟨#[]⟩]),
     ⟨fun zv zw => ∃ (g_16 : Nat), zv = .pointer (some ⟨g_16, 0, none⟩) ∧ w8.heap.size ≤ g_16 ∧ Blk zw g_16 40 #[.string ⟨#[]⟩, .string ⟨#[]⟩, .int .i64 0, .string ⟨#[]⟩, .int .i64 0, .string ⟨#[]⟩, .string ⟨#[]⟩], (by rintro zv zw zx ⟨g_16, rfl, c0, q0⟩ hm; exact ⟨g_16, rfl, c0, (q0.modp hm)⟩), none, some 17⟩,
     ⟨fun zv zw => ∃ (g_17 : Nat), zv = .pointer (some ⟨g_17, 0, none⟩) ∧ w8.heap.size ≤ g_17 ∧ Blk zw g_17 40 #[.string ⟨a1.toArray⟩, .string ⟨a2.toArray⟩, .int .i64 kb, .string ⟨nm.toArray⟩, .int .i64 at_, .string ⟨a5.toArray⟩, .string ⟨#[]⟩], (by rintro zv zw zx ⟨g_17, rfl, c0, q0⟩ hm; exact ⟨g_17, rfl, c0, (q0.modp hm)⟩), some 16, none⟩]
     (PB w8 (fun _ => False) w8.heap.size (fun _ zq => (fun Z => Blk Z g1 9 #[.string ⟨#[105, 116, 101, 109]⟩, .string ⟨a1.toArray⟩, .string ⟨a2.toArray⟩, .string ⟨a3.toArray⟩, .string ⟨a4.toArray⟩, .string ⟨a5.toArray⟩, .string ⟨a6.toArray⟩, .string ⟨a7.toArray⟩]) zq))) (InvF.start (PB.start (Mod.refl _ _) (Nat.le_refl _) (HR8.out))) ?_ ?_
   ·refine .cons ?_ (.cons ?_ (.cons ?_ (.cons ?_ (.cons ?_ (.cons ?_ (.cons ?_ (.cons ?_ (.cons ?_ (.cons ?_ (.cons ?_ (.cons ?_ (.cons ?_ (.cons ?_ (.cons ?_ (.cons ?_ (.cons ?_ (.cons ?_ .nil)))))))))))))))))
    ·intro D V zw1 a hR hI K hK;obtain ⟨hM1, hB1, hG1⟩ := hI.1;have ze8 := hR.frame.other (t := 8) (by kernel_rfl) rfl;rw [if_pos (by rfl)];go_simp;exact hK (.slice (some ⟨g1, 0, none⟩) 8 8) _ (hI.next hR (by kernel_rfl) (Mod.refl _ _) (PB.quiet hI.1 (Mod.refl _ _) (HGs.out D 0 zw1 zw1 (hI.1).g (Mod.refl _ _))) (upd_same V 0 _))
    ·intro D V zw1 a hR hI K hK;obtain ⟨hM1, hB1, hG1⟩ := hI.1;have zd0 := hR.pred 0 (by kernel_rfl);have zf0 : V 0 = .slice (some ⟨g1, 0, none⟩) 8 8 := hI.2 0 zd0 rfl;have ze93 := hR.frame.done (t := 93) (j := 0) (by kernel_rfl) hR.ok zd0;rw [if_pos (by rfl)];go_simp;exact hK (.pointer (some ⟨g1, 1, none⟩)) _ (hI.next hR (by kernel_rfl) (Mod.refl _ _) (PB.quiet hI.1 (Mod.refl _ _) (HGs.out D 1 zw1 zw1 (hI.1).g (Mod.refl _ _))) (upd_same V 1 _))
    ·intro D V zw1 a hR hI K hK;obtain ⟨hM1, hB1, hG1⟩ := hI.1;have zd1 := hR.pred 1 (by kernel_rfl);have zf1 : V 1 = .pointer (some ⟨g1, 1, none⟩) := hI.2 1 zd1 rfl;have ze94 := hR.frame.done (t := 94) (j := 1) (by kernel_rfl) hR.ok zd1;have zx0 := hG1.cell 0; have zx1 := hG1.cell 1; have zx2 := hG1.cell 2; have zx3 := hG1.cell 3; have zx4 := hG1.cell 4; have zx5 := hG1.cell 5; have zx6 := hG1.cell 6; have zx7 := hG1.cell 7;simp at zx0 zx1 zx2 zx3 zx4 zx5 zx6 zx7;rw [if_pos (by rfl)];go_simp;exact hK (.string ⟨a1.toArray⟩) _ (hI.next hR (by kernel_rfl) (Mod.refl _ _) (PB.quiet hI.1 (Mod.refl _ _) (HGs.out D 2 zw1 zw1 (hI.1).g (Mod.refl _ _))) (upd_same V 2 _))
    ·intro D V zw1 a hR hI K hK;obtain ⟨hM1, hB1, hG1⟩ := hI.1;have ze8 := hR.frame.other (t := 8) (by kernel_rfl) rfl;rw [if_pos (by rfl)];go_simp;exact hK (.slice (some ⟨g1, 0, none⟩) 8 8) _ (hI.next hR (by kernel_rfl) (Mod.refl _ _) (PB.quiet hI.1 (Mod.refl _ _) (HGs.out D 3 zw1 zw1 (hI.1).g (Mod.refl _ _))) (upd_same V 3 _))
    ·intro D V zw1 a hR hI K hK;obtain ⟨hM1, hB1, hG1⟩ := hI.1;have zd3 := hR.pred 3 (by kernel_rfl);have zf3 : V 3 = .slice (some ⟨g1, 0, none⟩) 8 8 := hI.2 3 zd3 rfl;have ze96 := hR.frame.done (t := 96) (j := 3) (by kernel_rfl) hR.ok zd3;rw [if_pos (by rfl)];go_simp;exact hK (.pointer (some ⟨g1, 2, none⟩)) _ (hI.next hR (by kernel_rfl) (Mod.refl _ _) (PB.quiet hI.1 (Mod.refl _ _) (HGs.out D 4 zw1 zw1 (hI.1).g (Mod.refl _ _))) (upd_same V 4 _))
    ·intro D V zw1 a hR hI K hK;obtain ⟨hM1, hB1, hG1⟩ := hI.1;have zd4 := hR.pred 4 (by kernel_rfl);have zf4 : V 4 = .pointer (some ⟨g1, 2, none⟩) := hI.2 4 zd4 rfl;have ze97 := hR.frame.done (t := 97) (j := 4) (by kernel_rfl) hR.ok zd4;have zx0 := hG1.cell 0; have zx1 := hG1.cell 1; have zx2 := hG1.cell 2; have zx3 := hG1.cell 3; have zx4 := hG1.cell 4; have zx5 := hG1.cell 5; have zx6 := hG1.cell 6; have zx7 := hG1.cell 7;simp at zx0 zx1 zx2 zx3 zx4 zx5 zx6 zx7;rw [if_pos (by rfl)];go_simp;exact hK (.string ⟨a2.toArray⟩) _ (hI.next hR (by kernel_rfl) (Mod.refl _ _) (PB.quiet hI.1 (Mod.refl _ _) (HGs.out D 5 zw1 zw1 (hI.1).g (Mod.refl _ _))) (upd_same V 5 _))
    ·intro D V zw1 a hR hI K hK;obtain ⟨hM1, hB1, hG1⟩ := hI.1;have ze8 := hR.frame.other (t := 8) (by kernel_rfl) rfl;rw [if_pos (by rfl)];go_simp;exact hK (.slice (some ⟨g1, 0, none⟩) 8 8) _ (hI.next hR (by kernel_rfl) (Mod.refl _ _) (PB.quiet hI.1 (Mod.refl _ _) (HGs.out D 6 zw1 zw1 (hI.1).g (Mod.refl _ _))) (upd_same V 6 _))
    ·intro D V zw1 a hR hI K hK;obtain ⟨hM1, hB1, hG1⟩ := hI.1;have zd6 := hR.pred 6 (by kernel_rfl);have zf6 : V 6 = .slice (some ⟨g1, 0, none⟩) 8 8 := hI.2 6 zd6 rfl;have ze99 := hR.frame.done (t := 99) (j := 6) (by kernel_rfl) hR.ok zd6;rw [if_pos (by rfl)];go_simp;exact hK (.pointer (some ⟨g1, 3, none⟩)) _ (hI.next hR (by kernel_rfl) (Mod.refl _ _) (PB.quiet hI.1 (Mod.refl _ _) (HGs.out D 7 zw1 zw1 (hI.1).g (Mod.refl _ _))) (upd_same V 7 _))
    ·intro D V zw1 a hR hI K hK;obtain ⟨hM1, hB1, hG1⟩ := hI.1;have zd7 := hR.pred 7 (by kernel_rfl);have zf7 : V 7 = .pointer (some ⟨g1, 3, none⟩) := hI.2 7 zd7 rfl;have ze100 := hR.frame.done (t := 100) (j := 7) (by kernel_rfl) hR.ok zd7;have zx0 := hG1.cell 0; have zx1 := hG1.cell 1; have zx2 := hG1.cell 2; have zx3 := hG1.cell 3; have zx4 := hG1.cell 4; have zx5 := hG1.cell 5; have zx6 := hG1.cell 6; have zx7 := hG1.cell 7;simp at zx0 zx1 zx2 zx3 zx4 zx5 zx6 zx7;rw [if_pos (by rfl)];go_simp;exact hK (.string ⟨a3.toArray⟩) _ (hI.next hR (by kernel_rfl) (Mod.refl _ _) (PB.quiet hI.1 (Mod.refl _ _) (HGs.out D 8 zw1 zw1 (hI.1).g (Mod.refl _ _))) (upd_same V 8 _))
    ·intro D V zw1 a hR hI K hK;obtain ⟨hM1, hB1, hG1⟩ := hI.1;have zd8 := hR.pred 8 (by kernel_rfl);have zf8 : V 8 = .string ⟨a3.toArray⟩ := hI.2 8 zd8 rfl;have ze101 := hR.frame.done (t := 101) (j := 8) (by kernel_rfl) hR.ok zd8;rw [if_pos (by rfl)];go_simp;refine (HKE.out zw1 hM1).mono ?_;rintro e zw2 ⟨rfl, hm2⟩;exact hK (.int .i64 kb) _ (hI.next hR (by kernel_rfl) hm2 (PB.quiet hI.1 hm2 (HGs.out D 9 _ _ (hI.1).g hm2)) (upd_same V 9 _))
    ·intro D V zw1 a hR hI K hK;obtain ⟨hM1, hB1, hG1⟩ := hI.1;have ze9 := hR.frame.other (t := 9) (by kernel_rfl) rfl;rw [if_pos (by rfl)];go_simp;exact hK (.int .i64 at_) _ (hI.next hR (by kernel_rfl) (Mod.refl _ _) (PB.quiet hI.1 (Mod.refl _ _) (HGs.out D 10 zw1 zw1 (hI.1).g (Mod.refl _ _))) (upd_same V 10 _))
    ·intro D V zw1 a hR hI K hK;obtain ⟨hM1, hB1, hG1⟩ := hI.1;have ze8 := hR.frame.other (t := 8) (by kernel_rfl) rfl;rw [if_pos (by rfl)];go_simp;exact hK (.slice (some ⟨g1, 0, none⟩) 8 8) _ (hI.next hR (by kernel_rfl) (Mod.refl _ _) (PB.quiet hI.1 (Mod.refl _ _) (HGs.out D 11 zw1 zw1 (hI.1).g (Mod.refl _ _))) (upd_same V 11 _))
    ·intro D V zw1 a hR hI K hK;obtain ⟨hM1, hB1, hG1⟩ := hI.1;have zd11 := hR.pred 11 (by kernel_rfl);have zf11 : V 11 = .slice (some ⟨g1, 0, none⟩) 8 8 := hI.2 11 zd11 rfl;have ze104 := hR.frame.done (t := 104) (j := 11) (by kernel_rfl) hR.ok zd11;rw [if_pos (by rfl)];go_simp;exact hK (.pointer (some ⟨g1, 5, none⟩)) _ (hI.next hR (by kernel_rfl) (Mod.refl _ _) (PB.quiet hI.1 (Mod.refl _ _) (HGs.out D 12 zw1 zw1 (hI.1).g (Mod.refl _ _))) (upd_same V 12 _))
    ·intro D V zw1 a hR hI K hK;obtain ⟨hM1, hB1, hG1⟩ := hI.1;have zd12 := hR.pred 12 (by kernel_rfl);have zf12 : V 12 = .pointer (some ⟨g1, 5, none⟩) := hI.2 12 zd12 rfl;have ze105 := hR.frame.done (t := 105) (j := 12) (by kernel_rfl) hR.ok zd12;have zx0 := hG1.cell 0; have zx1 := hG1.cell 1; have zx2 := hG1.cell 2; have zx3 := hG1.cell 3; have zx4 := hG1.cell 4; have zx5 := hG1.cell 5; have zx6 := hG1.cell 6; have zx7 := hG1.cell 7;simp at zx0 zx1 zx2 zx3 zx4 zx5 zx6 zx7;rw [if_pos (by rfl)];go_simp;exact hK (.string ⟨a5.toArray⟩) _ (hI.next hR (by kernel_rfl) (Mod.refl _ _) (PB.quiet hI.1 (Mod.refl _ _) (HGs.out D 13 zw1 zw1 (hI.1).g (Mod.refl _ _))) (upd_same V 13 _))
    ·intro D V zw1 a hR hI K hK;obtain ⟨hM1, hB1, hG1⟩ := hI.1;have ze13 := hR.frame.other (t := 13) (by kernel_rfl) rfl;rw [if_pos (by rfl)];go_simp;exact hK (.string ⟨nm.toArray⟩) _ (hI.next hR (by kernel_rfl) (Mod.refl _ _) (PB.quiet hI.1 (Mod.refl _ _) (HGs.out D 14 zw1 zw1 (hI.1).g (Mod.refl _ _))) (upd_same V 14 _))
    ·intro D V zw1 a hR hI K hK;obtain ⟨hM1, hB1, hG1⟩ := hI.1;have zd2 := hR.pred 2 (by kernel_rfl);have zf2 : V 2 = .string ⟨a1.toArray⟩ := hI.2 2 zd2 rfl;have zd5 := hR.pred 5 (by kernel_rfl);have zf5 : V 5 = .string ⟨a2.toArray⟩ := hI.2 5 zd5 rfl;have zd9 := hR.pred 9 (by kernel_rfl);have zf9 : V 9 = .int .i64 kb := hI.2 9 zd9 rfl;have zd10 := hR.pred 10 (by kernel_rfl);have zf10 : V 10 = .int .i64 at_ := hI.2 10 zd10 rfl;have zd13 := hR.pred 13 (by kernel_rfl);have zf13 : V 13 = .string ⟨a5.toArray⟩ := hI.2 13 zd13 rfl;have zd14 := hR.pred 14 (by kernel_rfl);have zf14 : V 14 = .string ⟨nm.toArray⟩ := hI.2 14 zd14 rfl;have ze95 := hR.frame.done (t := 95) (j := 2) (by kernel_rfl) hR.ok zd2;have ze98 := hR.frame.done (t := 98) (j := 5) (by kernel_rfl) hR.ok zd5;have ze102 := hR.frame.done (t := 102) (j := 9) (by kernel_rfl) hR.ok zd9;have ze103 := hR.frame.done (t := 103) (j := 10) (by kernel_rfl) hR.ok zd10;have ze106 := hR.frame.done (t := 106) (j := 13) (by kernel_rfl) hR.ok zd13;have ze107 := hR.frame.done (t := 107) (j := 14) (by kernel_rfl) hR.ok zd14;rw [if_pos (by rfl)];go_simp;exact hK (_) _ (hI.next hR (by kernel_rfl) (Mod.refl _ _) (PB.quiet hI.1 (Mod.refl _ _) (HGs.out D 15 zw1 zw1 (hI.1).g (Mod.refl _ _))) (upd_same V 15 _))
    ·intro D V zw1 a hR hI K hK;obtain ⟨hM1, hB1, hG1⟩ := hI.1;rw [if_pos (by rfl)];go_simp;exact hK (_) _ (hI.next hR (by kernel_rfl) ((Mod.refl _ _).alloc _) (PB.quiet hI.1 (pure_alloc _ _) (HGs.out D 16 _ _ (hI.1).g ((Mod.refl _ _).alloc _))) (⟨_, upd_same V 16 _, (by omega), (Blk.new _ _ _)⟩))
    ·intro D V zw1 a hR hI K hK;obtain ⟨hM1, hB1, hG1⟩ := hI.1;have zd16 := hR.pred 16 (by kernel_rfl);have zF16 : ∃ (g_16 : Nat), V 16 = .pointer (some ⟨g_16, 0, none⟩) ∧ w8.heap.size ≤ g_16 ∧ Blk zw1 g_16 40 #[.string ⟨#[]⟩, .string ⟨#[]⟩, .int .i64 0, .string ⟨#[]⟩, .int .i64 0, .string ⟨#[]⟩, .string ⟨#[]⟩] := hI.2 16 zd16 (by show (!D 17) = true; rw [hR.not]; rfl);obtain ⟨g_16, zf16, c16_0, b16_0⟩ := zF16;have zd15 := hR.pred 15 (by kernel_rfl);have zf15 : V 15 = .agg #[.string ⟨a1.toArray⟩, .string ⟨a2.toArray⟩, .int .i64 kb, .string ⟨nm.toArray⟩, .int .i64 at_, .string ⟨a5.toArray⟩, .string ⟨#[]⟩] := hI.2 15 zd15 rfl;have ze16 := hR.frame.done (t := 16) (j := 16) (by kernel_rfl) hR.ok zd16;have ze108 := hR.frame.done (t := 108) (j := 15) (by kernel_rfl) hR.ok zd15;rw [if_pos (by rfl)];have zx0 := b16_0.cell 0; have zy0 := b16_0.frozen 0;have zx1 := b16_0.cell 1; have zy1 := b16_0.frozen 1;have zx2 := b16_0.cell 2; have zy2 := b16_0.frozen 2;have zx3 := b16_0.cell 3; have zy3 := b16_0.frozen 3;have zx4 := b16_0.cell 4; have zy4 := b16_0.frozen 4;have zx5 := b16_0.cell 5; have zy5 := b16_0.frozen 5;have zx6 := b16_0.cell 6; have zy6 := b16_0.frozen 6;simp at zx0 zy0 zx1 zy1 zx2 zy2 zx3 zy3 zx4 zy4 zx5 zy5 zx6 zy6;go_simp;refine hK undef _ (InvF.last ?_ ?_ ?_)
     ·exact ⟨(((((((hM1.setCell (.inr (by show _ ≤ g_16; omega)) _).setCell (.inr (by show _ ≤ g_16; omega)) _).setCell (.inr (by show _ ≤ g_16; omega)) _).setCell (.inr (by show _ ≤ g_16; omega)) _).setCell (.inr (by show _ ≤ g_16; omega)) _).setCell (.inr (by show _ ≤ g_16; omega)) _).setCell (.inr (by show _ ≤ g_16; omega)) _), (by simpa using hB1), (((((((hG1.far (by show g1 ≠ g_16; omega) _).far (by show g1 ≠ g_16; omega) _).far (by show g1 ≠ g_16; omega) _).far (by show g1 ≠ g_16; omega) _).far (by show g1 ≠ g_16; omega) _).far (by show g1 ≠ g_16; omega) _).far (by show g1 ≠ g_16; omega) _)⟩
     ·exact ⟨g_16, (upd_ne V (i := 17) (k := 16) undef (by omega)).trans zf16, (by first | assumption | omega), (by have hset := (((((((b16_0.set 0 (.string ⟨a1.toArray⟩)).set 1 (.string ⟨a2.toArray⟩)).set 2 (.int .i64 kb)).set 3 (.string ⟨nm.toArray⟩)).set 4 (.int .i64 at_)).set 5 (.string ⟨a5.toArray⟩)).set 6 (.string ⟨#[]⟩)); simpa using hset)⟩
     ·intro k hk hDk hlv;have hkl := hR.lt k hDk;have hv := hI.2 k hDk (liveB_of hlv)
      match k, hk, hDk, hlv, hkl, hv with
      | 0, _, _, _, _, hv => exact hv
      | 1, _, _, _, _, hv => exact hv
      | 2, _, _, _, _, hv => exact hv
      | 3, _, _, _, _, hv => exact hv
      | 4, _, _, _, _, hv => exact hv
      | 5, _, _, _, _, hv => exact hv
      | 6, _, _, _, _, hv => exact hv
      | 7, _, _, _, _, hv => exact hv
      | 8, _, _, _, _, hv => exact hv
      | 9, _, _, _, _, hv => exact hv
      | 10, _, _, _, _, hv => exact hv
      | 11, _, _, _, _, hv => exact hv
      | 12, _, _, _, _, hv => exact hv
      | 13, _, _, _, _, hv => exact hv
      | 14, _, _, _, _, hv => exact hv
      | 15, _, _, _, _, hv => exact hv
      | 16, _, _, hlv, _, _ => exact absurd hlv (by show ¬ (!upd D 17 true 17) = true; rw [upd_same]; decide)
      | 17, hk, _, _, _, _ => exact absurd rfl hk
      | k + 18, _, _, _, hkl, _ => exact absurd hkl (by simp)
   ·intro D V w9 hD hI;obtain ⟨hM1, hB1, hG1⟩ := hI.1;have hMx := hM1;clear hM1;have hBx := hB1;clear hB1;have hGx := hG1;clear hG1;have zf0 : V 0 = .slice (some ⟨g1, 0, none⟩) 8 8 := hI.2 0 (hD 0 (by decide)) rfl;have zf1 : V 1 = .pointer (some ⟨g1, 1, none⟩) := hI.2 1 (hD 1 (by decide)) rfl;have zf2 : V 2 = .string ⟨a1.toArray⟩ := hI.2 2 (hD 2 (by decide)) rfl;have zf3 : V 3 = .slice (some ⟨g1, 0, none⟩) 8 8 := hI.2 3 (hD 3 (by decide)) rfl;have zf4 : V 4 = .pointer (some ⟨g1, 2, none⟩) := hI.2 4 (hD 4 (by decide)) rfl;have zf5 : V 5 = .string ⟨a2.toArray⟩ := hI.2 5 (hD 5 (by decide)) rfl;have zf6 : V 6 = .slice (some ⟨g1, 0, none⟩) 8 8 := hI.2 6 (hD 6 (by decide)) rfl;have zf7 : V 7 = .pointer (some ⟨g1, 3, none⟩) := hI.2 7 (hD 7 (by decide)) rfl;have zf8 : V 8 = .string ⟨a3.toArray⟩ := hI.2 8 (hD 8 (by decide)) rfl;have zf9 : V 9 = .int .i64 kb := hI.2 9 (hD 9 (by decide)) rfl;have zf10 : V 10 = .int .i64 at_ := hI.2 10 (hD 10 (by decide)) rfl;have zf11 : V 11 = .slice (some ⟨g1, 0, none⟩) 8 8 := hI.2 11 (hD 11 (by decide)) rfl;have zf12 : V 12 = .pointer (some ⟨g1, 5, none⟩) := hI.2 12 (hD 12 (by decide)) rfl;have zf13 : V 13 = .string ⟨a5.toArray⟩ := hI.2 13 (hD 13 (by decide)) rfl;have zf14 : V 14 = .string ⟨nm.toArray⟩ := hI.2 14 (hD 14 (by decide)) rfl;have zf15 : V 15 = .agg #[.string ⟨a1.toArray⟩, .string ⟨a2.toArray⟩, .int .i64 kb, .string ⟨nm.toArray⟩, .int .i64 at_, .string ⟨a5.toArray⟩, .string ⟨#[]⟩] := hI.2 15 (hD 15 (by decide)) rfl;have zF17 : ∃ (g_17 : Nat), V 16 = .pointer (some ⟨g_17, 0, none⟩) ∧ w8.heap.size ≤ g_17 ∧ Blk w9 g_17 40 #[.string ⟨a1.toArray⟩, .string ⟨a2.toArray⟩, .int .i64 kb, .string ⟨nm.toArray⟩, .int .i64 at_, .string ⟨a5.toArray⟩, .string ⟨#[]⟩] := hI.2 17 (hD 17 (by decide)) rfl;obtain ⟨g_17, zf17, c17_0, b17_0⟩ := zF17;clear hI hD HGs;simp only [frAll, Act.put, List.setIfInBounds_toArray, List.set_cons_zero, List.set_cons_succ, Nat.zero_add, Nat.reduceAdd, zf0, zf1, zf2, zf3, zf4, zf5, zf6, zf7, zf8, zf9, zf10, zf11, zf12, zf13, zf14, zf15, zf17];clear zf0 zf1 zf2 zf3 zf4 zf5 zf6 zf7 zf8 zf9 zf10 zf11 zf12 zf13 zf14 zf15 zf17;clear V D;have HX9 := Lib.hid b17_0;have HR9 := Lib.hid hGx;have HP9 : Hid (Pure w2 w9) := Lib.hid (HP8.out.trans hMx);have hgx8 := c17_0
    have hgx2 : w2.heap.size ≤ g_17 := by have := HP8.out.size; omega
    have hgx1 : g1 ≠ g_17 := by omega
    generalize g_17 = gx at *;have hx := HX9.out;clear hGx hMx hBx HR8 HP8 b17_0 c17_0 HKE;have x0 := hx.cell 0; have xf0 := hx.frozen 0; have x1 := hx.cell 1; have xf1 := hx.frozen 1; have x2 := hx.cell 2; have xf2 := hx.frozen 2; have x3 := hx.cell 3; have xf3 := hx.frozen 3; have x4 := hx.cell 4; have xf4 := hx.frozen 4; have x5 := hx.cell 5; have xf5 := hx.frozen 5; have x6 := hx.cell 6; have xf6 := hx.frozen 6; simp at x0 x1 x2 x3 x4 x5 x6;clear hx;obtain ⟨pv, hpv⟩ : ∃ pv : Str, (if a5 = [45] then [] else a5) = pv := ⟨_, rfl⟩;have HPV := Lib.hid hpv;obtain ⟨pb, hpb⟩ : ∃ pb, (a5 == [45]) = pb := ⟨_, rfl⟩
    go_upto_if 111 with (fail)
    go_cut [] from 109 to 112 (fun wx => Blk wx gx 40 #[.string ⟨a1.toArray⟩, .string ⟨a2.toArray⟩, .int .i64 kb, .string ⟨nm.toArray⟩, .int .i64 at_, .string ⟨pv.toArray⟩, .string ⟨#[]⟩] ∧ Blk wx g1 9 #[.string ⟨#[105, 116, 101, 109]⟩, .string ⟨a1.toArray⟩, .string ⟨a2.toArray⟩, .string ⟨a3.toArray⟩, .string ⟨a4.toArray⟩, .string ⟨a5.toArray⟩, .string ⟨a6.toArray⟩, .string ⟨a7.toArray⟩] ∧ Pure w2 wx)
    case first =>
     cases pb
     ·have hp : ¬ a5 = [45] := by simpa using hpb
      have hpv0 : pv = a5 := by rw [← hpv, if_neg hp]
      subst hpv0;clear hp hpv
      go_wp2_with fail
      go_meet;exact ⟨HX9.out, HR9.out, HP9.out⟩
     ·have hp : a5 = [45] := by simpa using hpb
      have hpv0 : pv = [] := by rw [← hpv, if_pos hp]
      subst hpv0;clear hp hpv
      go_wp2_with fail
      go_meet;exact ⟨HX9.out.set 5 _, HR9.out.far (by show g1 ≠ gx; exact hgx1) _, HP9.out.setCell (.inr (by show w2.heap.size ≤ gx; omega)) _⟩
    case rest =>
     obtain ⟨hz7, hr7, hp7⟩ := hcut;have HRC := Lib.hid hr7;have HPC : Hid (Pure w2 wc) := Lib.hid hp7;have HBO := Lib.hid (HB5.out.modp hp7);have HBM := Lib.hid (HB6.out.modp hp7);have HBN := Lib.hid (HB7.out.modp hp7);have hownC := own_pure HOW.out hp7;have HKC : Hid (KeepS base w wc) := Lib.hid (HK1.out.trans (KeepS.of_pure hp7))
     have hbW : base ≤ wc.heap.size := by have := HBO.out.lt; omega
     have hlen := HOK.out.len;have hyO := HBO.out;clear x0 x1 x2 x3 x4 x5 x6 hr7 hp7 HX9 HR9 HP9 HB5 HB6 HB7 HOW HK1 HWL;have x0 := hz7.cell 0; have xf0 := hz7.frozen 0; have x1 := hz7.cell 1; have xf1 := hz7.frozen 1; have x2 := hz7.cell 2; have xf2 := hz7.frozen 2; have x3 := hz7.cell 3; have xf3 := hz7.frozen 3; have x4 := hz7.cell 4; have xf4 := hz7.frozen 4; have x5 := hz7.cell 5; have xf5 := hz7.frozen 5; have x6 := hz7.cell 6; have xf6 := hz7.frozen 6; simp at x0 x1 x2 x3 x4 x5 x6;have y0 := hyO.cell 0; have yf0 := hyO.frozen 0; simp at y0;clear hz7 hyO;obtain ⟨len, hle⟩ : ∃ len, S.items.length = len := ⟨_, rfl⟩;have HLE := Lib.hid hle;rw [hle] at hlen;have hownS := hownC;rw [hle] at hownS y0;have hPS := HPC.out;clear hle hownC
     go_upto_region 19 with ((at_builtin; refine wpList_append_lies _ rfl _ _ _ rfl base 40 i0 _ 7 96 Tryz.underlying26 hi0 hz0 hz1 hz2 rfl (by omega) (.slice A len c) len (itV S.items) rfl (hownS.alloc _) ⟨wc.heap.size, 0, none⟩ 1 1 [.string ⟨a1.toArray⟩, .string ⟨a2.toArray⟩, .int .i64 kb, .string ⟨nm.toArray⟩, .int .i64 at_, .string ⟨pv.toArray⟩, .string ⟨#[]⟩] rfl rfl (World.news_of_block (cs := #[.string ⟨a1.toArray⟩, .string ⟨a2.toArray⟩, .int .i64 kb, .string ⟨nm.toArray⟩, .int .i64 at_, .string ⟨pv.toArray⟩, .string ⟨#[]⟩]) (t := 40) (fr := (0, 0)) (heap_alloc_new wc _)) (by simp [Value.oneCell']) (by omega) (by simp [maxLen]; omega) (by omega) (by have := hPS.size; simp; omega) (wc.heap.size + 1) (by simp) ?_; intro g5 cap5 w5 hown5 hgrow hat hlt5); have hBO5 := (HBO.out.alloc (.cells #[.string ⟨a1.toArray⟩, .string ⟨a2.toArray⟩, .int .i64 kb, .string ⟨nm.toArray⟩, .int .i64 at_, .string ⟨pv.toArray⟩, .string ⟨#[]⟩] 40)).mod (mod_grown hgrow) (fun hv => absurd (own_ty (hownS.alloc (.cells #[.string ⟨a1.toArray⟩, .string ⟨a2.toArray⟩, .int .i64 kb, .string ⟨nm.toArray⟩, .int .i64 at_, .string ⟨pv.toArray⟩, .string ⟨#[]⟩] 40)) hv (HBO.out.alloc (.cells #[.string ⟨a1.toArray⟩, .string ⟨a2.toArray⟩, .int .i64 kb, .string ⟨nm.toArray⟩, .int .i64 at_, .string ⟨pv.toArray⟩, .string ⟨#[]⟩] 40))) (by decide)); have hBM5 := (HBM.out.alloc (.cells #[.string ⟨a1.toArray⟩, .string ⟨a2.toArray⟩, .int .i64 kb, .string ⟨nm.toArray⟩, .int .i64 at_, .string ⟨pv.toArray⟩, .string ⟨#[]⟩] 40)).mod (mod_grown hgrow) (fun hv => absurd (own_ty (hownS.alloc (.cells #[.string ⟨a1.toArray⟩, .string ⟨a2.toArray⟩, .int .i64 kb, .string ⟨nm.toArray⟩, .int .i64 at_, .string ⟨pv.toArray⟩, .string ⟨#[]⟩] 40)) hv (HBM.out.alloc (.cells #[.string ⟨a1.toArray⟩, .string ⟨a2.toArray⟩, .int .i64 kb, .string ⟨nm.toArray⟩, .int .i64 at_, .string ⟨pv.toArray⟩, .string ⟨#[]⟩] 40))) (by decide)); have q0 := hBO5.cell 0; have qf0 := hBO5.frozen 0; simp at q0; have qm0 := hBM5.cell 0; have qmf0 := hBM5.frozen 0; simp at qm0)
     have hal := pure_alloc wc (.cells #[.string ⟨a1.toArray⟩, .string ⟨a2.toArray⟩, .int .i64 kb, .string ⟨nm.toArray⟩, .int .i64 at_, .string ⟨pv.toArray⟩, .string ⟨#[]⟩] 40);have HOA := hownS.alloc (.cells #[.string ⟨a1.toArray⟩, .string ⟨a2.toArray⟩, .int .i64 kb, .string ⟨nm.toArray⟩, .int .i64 at_, .string ⟨pv.toArray⟩, .string ⟨#[]⟩] 40);have hBN5 := (HBN.out.alloc (.cells #[.string ⟨a1.toArray⟩, .string ⟨a2.toArray⟩, .int .i64 kb, .string ⟨nm.toArray⟩, .int .i64 at_, .string ⟨pv.toArray⟩, .string ⟨#[]⟩] 40)).mod (mod_grown hgrow) (fun hv => absurd (own_ty HOA hv (HBN.out.alloc (.cells #[.string ⟨a1.toArray⟩, .string ⟨a2.toArray⟩, .int .i64 kb, .string ⟨nm.toArray⟩, .int .i64 at_, .string ⟨pv.toArray⟩, .string ⟨#[]⟩] 40))) (by decide));have hR5 := (HRC.out.alloc (.cells #[.string ⟨a1.toArray⟩, .string ⟨a2.toArray⟩, .int .i64 kb, .string ⟨nm.toArray⟩, .int .i64 at_, .string ⟨pv.toArray⟩, .string ⟨#[]⟩] 40)).mod (mod_grown hgrow) (fun hv => absurd (own_ty HOA hv (HRC.out.alloc (.cells #[.string ⟨a1.toArray⟩, .string ⟨a2.toArray⟩, .int .i64 kb, .string ⟨nm.toArray⟩, .int .i64 at_, .string ⟨pv.toArray⟩, .string ⟨#[]⟩] 40))) (by decide));have K1 : KeepS base wc w5 := (KeepS.of_pure hal).trans (KeepS.ofGrown HOA hgrow (by decide));have K2 : KeepS base w5 (w5.setCell ⟨gO, 0, none⟩ (.slice (some ⟨g5, 0, none⟩) (len + 1) cap5)) := KeepS.ofOne ((Mod.refl (· = gO) w5).setCell (.inl rfl) _) hb5 hBO5 (by decide);have hBM6 := hBM5.far (p := ⟨gO, 0, none⟩) (Ne.symm h56) (.slice (some ⟨g5, 0, none⟩) (len + 1) cap5);have hBN6 := hBN5.far (p := ⟨gO, 0, none⟩) (Ne.symm h57) (.slice (some ⟨g5, 0, none⟩) (len + 1) cap5);have hBO6 := hBO5.set 0 (.slice (some ⟨g5, 0, none⟩) (len + 1) cap5);have K3 : KeepS base (w5.setCell ⟨gO, 0, none⟩ (.slice (some ⟨g5, 0, none⟩) (len + 1) cap5)) ((w5.setCell ⟨gO, 0, none⟩ (.slice (some ⟨g5, 0, none⟩) (len + 1) cap5)).setCell ⟨gM, 0, none⟩ (.int .i64 nv)) := KeepS.ofOne ((Mod.refl (· = gM) _).setCell (.inl rfl) _) hb6 hBM6 (by decide);have hown6 := own_mod hown5 ((Mod.refl (· = gO) w5).setCell (p := ⟨gO, 0, none⟩) (.inl rfl) (.slice (some ⟨g5, 0, none⟩) (len + 1) cap5)) (fun q hq he => by subst he; exact absurd (own_ty hown5 hq hBO5) (by decide));have hown7 := own_mod hown6 ((Mod.refl (· = gM) _).setCell (p := ⟨gM, 0, none⟩) (.inl rfl) (.int .i64 nv)) (fun q hq he => by subst he; exact absurd (own_ty hown6 hq hBM6) (by decide))
     have hgr : ∀ q t cs, Blk w5 q t cs → t ≠ 9 → g1 ≠ q := fun q t cs hq hne e => by
      subst e;unfold Blk at hq hR5;rw [hR5] at hq
      injection hq with hq
      injection hq with _ hq
      exact hne hq.symm
     have HR7 := Lib.hid ((hR5.far (p := ⟨gO, 0, none⟩) (hgr _ _ _ hBO5 (by decide)) (.slice (some ⟨g5, 0, none⟩) (len + 1) cap5)).far (p := ⟨gM, 0, none⟩) (hgr _ _ _ hBM5 (by decide)) (.int .i64 nv));have HKF : Hid (KeepS base w ((w5.setCell ⟨gO, 0, none⟩ (.slice (some ⟨g5, 0, none⟩) (len + 1) cap5)).setCell ⟨gM, 0, none⟩ (.int .i64 nv))) := Lib.hid (HKC.out.trans ((K1.trans K2).trans K3))
     have HSOME : Hid (∀ x, x = (⟨a1, a2, kb, nm, at_, pv, []⟩ : Itm) → RdOk 200000 ((S.cnt + 1) * 200001) ⟨S.items ++ [x], nv, S.cnt + 1⟩ → IrI base gO gM gN (S.cnt + 1) ⟨S.items ++ [x], nv, S.cnt + 1⟩ ((w5.setCell ⟨gO, 0, none⟩ (.slice (some ⟨g5, 0, none⟩) (len + 1) cap5)).setCell ⟨gM, 0, none⟩ (.int .i64 nv))) := Lib.hid (fun x hx hr => by
      refine ⟨some ⟨g5, 0, none⟩, cap5, ?_, ?_, ?_, ?_, hr, rfl, hb5, hb6, hb7, h56, h57, h67⟩
      ·show Blk _ _ _ #[.slice _ (S.items ++ [x]).length _]
       rw [List.length_append, HLE.out];have h := hBO6.far (p := ⟨gM, 0, none⟩) h56 (.int .i64 nv)
       simpa using h
      ·have h := hBM6.set 0 (.int .i64 nv)
       simpa using h
      ·have h := hBN6.far (p := ⟨gM, 0, none⟩) (Ne.symm h67) (.int .i64 nv)
       simpa using h
      ·show World.ownsRow _ _ _ _ (.slice _ (S.items ++ [x]).length _) (S.items ++ [x]).length (itV (S.items ++ [x]))
       rw [List.length_append, HLE.out, itV_snoc, hx]
       exact hown7)
     generalize ((w5.setCell ⟨gO, 0, none⟩ (.slice (some ⟨g5, 0, none⟩) (len + 1) cap5)).setCell ⟨gM, 0, none⟩ (.int .i64 nv)) = W at *;clear hal HOA hBN5 hR5 K1 K2 K3 hBM6 hBN6 hBO6 hown6 hown7 hgr hBO5 hBM5 hown5 hgrow q0 qf0 qm0 qmf0;clear x0 x1 x2 x3 x4 x5 x6 y0 hownS hPS HBO HBM HBN HKC HPC HRC;have ER : Hid (hdP l = none → TkPost base (IrI base gO gM gN (S.cnt + 1)) o w (.returned (.bool false)) W) := Lib.hid (fun h => NONE.out (by rw [HO.out, h]; rfl) _ HKF.out)
     cases ob
     ·have HN := Lib.hid (ER.out (by rw [HH4.out]; exact hdF_at (by simpa using HOB.out)));clear HOK HSTEP HSOME NONE HO
      go_wp2_with fail
      try simp only [Exit.inBlock, Exit.then]
      refine bodyPost_ret (v := .bool false) (by simp [results, Tryz.results67, go_sem]) rfl ?_;exact HN.out
     cases nb
     ·have HN := Lib.hid (ER.out (by rw [HH4.out]; exact hdF_n (fun n hn h0 => by have h := HNB.out; rw [hn] at h; cases h)));clear HOK HSTEP HSOME NONE HO
      go_wp2_with fail
      try simp only [Exit.inBlock, Exit.then]
      refine bodyPost_ret (v := .bool false) (by simp [results, Tryz.results67, go_sem]) rfl ?_;exact HN.out
     have hue := HUE.out
     rcases hue with ⟨hu, rfl⟩ | ⟨kk, hu, rfl, rfl⟩
     ·have HN := Lib.hid (ER.out (by rw [HH4.out]; exact hdF_u hu));clear HOK HSTEP HSOME NONE HO hu
      go_wp2_with fail
      try simp only [Exit.inBlock, Exit.then]
      refine bodyPost_ret (v := .bool false) (by simp [results, Tryz.results67, go_sem]) rfl ?_;exact HN.out
     obtain ⟨n, hn⟩ := Option.isSome_iff_exists.1 HNB.out;obtain ⟨a, ha⟩ := Option.isSome_iff_exists.1 HOB.out;have e1 := HAT.out a ha;have e2 := HNV.out n hn;subst e1 e2;have hh := HH4.out.trans (hdF_full ha hn hu);rw [HKB.out, HPV.out] at hh;have HH := Lib.hid hh;obtain ⟨bq, hbq⟩ : ∃ bq, ((kk : Int) == (a6.length : Int)) = bq := ⟨_, rfl⟩;have hBQ : Hid (((kk : Int) == (a6.length : Int)) = bq) := Lib.hid hbq;clear hh ha hn hu
     by_cases hn0 : 0 ≤ nv
     rotate_left
     ·have HN := Lib.hid (ER.out (by rw [HH.out, if_neg (fun h => hn0 h.2.2)]));clear HOK HSTEP HSOME NONE HO hbq
      go_wp2_with fail
      try simp only [Exit.inBlock, Exit.then]
      refine bodyPost_ret (v := .bool false) (by simp [results, Tryz.results67, go_sem]) rfl ?_;exact HN.out
     have FIN : Hid (TkPost base (IrI base gO gM gN (S.cnt + 1)) o w (.returned (.bool bq)) W) := Lib.hid (by
      have hb := hBQ.out
      cases bq
      ·exact ER.out (by rw [HH.out, if_neg (fun h => by have h2 := h.2.1; rw [h2] at hb; simp at hb)])
      ·have hd : hdP l = some (⟨a1, a2, kb, nm, at_, pv, []⟩, nv) := by
        rw [HH.out, if_pos ⟨hk0, Int.ofNat.inj (by simpa using hb), hn0⟩]
       have ho := HO.out;rw [hd] at ho;refine ⟨by rw [ho]; rfl, HKF.out, fun S' hS => ?_⟩;have hs := HSTEP.out S' hS;rw [ho] at hS
       injection hS with hS
       subst hS
       exact HSOME.out _ rfl hs)
     have hr := HR7.out;have r0 := hr.cell 0; have r1 := hr.cell 1; have r2 := hr.cell 2; have r3 := hr.cell 3; have r4 := hr.cell 4; have r5 := hr.cell 5; have r6 := hr.cell 6; have r7 := hr.cell 7; simp at r0 r1 r2 r3 r4 r5 r6 r7;clear HOK HSTEP HSOME NONE HO ER hr
     go_wp2_with fail
     try simp only [Exit.inBlock, Exit.then]
     refine bodyPost_ret (v := .bool bq) (by simp [results, Tryz.results67, go_sem]) rfl ?_;exact FIN.out
end Go.Proofs.YtelpdjhkedhppaaGreatDoor
/- Reading items: the reference. -/
namespace Go.Proofs.YtelpdjhkedhppaaGreatDoor
open Go.RowKit
theorem MlnS.ltR {w : World} (h : MlnS w) : 0 < w.heap.size := by
 obtain ⟨m, hc⟩ := h;unfold World.cell? at hc;simp only at hc
 cases hh : w.heap[0]? with
 | none => rw [hh] at hc; cases hc
 | some b => exact (Array.getElem?_eq_some_iff.1 hh).1
theorem Asc.ltR {w : World} (h : Asc w) : 1 < w.heap.size := by
 unfold Asc Lib.TabIs World.var? at h;rw [asc_g] at h;simp only [Option.bind_some] at h
 cases hh : w.heap[1]? with
 | none => rw [hh] at h; simp at h
 | some b => exact (Array.getElem?_eq_some_iff.1 hh).1
set_option maxHeartbeats 8000000 in
theorem itemsRead_calls (w : World) (s : Str) (hs : s.length ≤ 200000) (hMl : MlnS w) (hP : Pow w) (hA : Asc w) (hV : Env w) : Calls Tryz.prog 17 #[.string ⟨s.toArray⟩] w (RdPost w (rdR s)) := by
 have hz : (⟨s.toArray⟩ : ByteArray).size = s.length := by simp [ByteArray.size]
 have hbig : ¬ (200000 : Int) < (s.length : Int) := by omega
 have hlq := linesQ_count s;have hm0 := hMl.ltR;have hp0 := hP.lt;have ha0 := hA.ltR;have HRO := Lib.hid (fun S h => rd_ok (S := S) hs h);have HEV := Lib.hid (fun W (h : Pure w W) => hV.pure h);clear hV
 go_enter Tryz.func17, Tryz.ntmps17
 go_upto_region 5 with (fail)
 have hp1 := pure_alloc w (.cells #[.slice none 0 0] 26);have hp2 := hp1.trans (pure_alloc _ (.cells #[.int .i64 0] 3));have hp3 := hp2.trans (pure_alloc _ (.cells #[.int .i64 0] 3));have hO := ((Blk.new w 26 #[.slice none 0 0]).alloc (.cells #[.int .i64 0] 3)).alloc (.cells #[.int .i64 0] 3);have hM := (Blk.snd w (.cells #[.slice none 0 0] 26) 3 #[.int .i64 0]).alloc (.cells #[.int .i64 0] 3);have hN := Blk.snd (w.alloc (.cells #[.slice none 0 0] 26)) (.cells #[.int .i64 0] 3) 3 #[.int .i64 0];rw [World.size_alloc] at hN
 have HI0 : Hid (IrI w.heap.size w.heap.size (w.heap.size + 1) (w.heap.size + 1 + 1) 0 ⟨[], 0, 0⟩ (((w.alloc (.cells #[.slice none 0 0] 26)).alloc (.cells #[.int .i64 0] 3)).alloc (.cells #[.int .i64 0] 3))) :=
  Lib.hid ⟨none, 0, hO, hM, hN, ⟨rfl, .inl ⟨rfl, rfl⟩⟩, by simpa using RdOk.start 200000, rfl, Nat.le_refl _, by omega, by omega, by omega, by omega, by omega⟩
 have HP0 : Hid (Pure w (((w.alloc (.cells #[.slice none 0 0] 26)).alloc (.cells #[.int .i64 0] 3)).alloc (.cells #[.int .i64 0] 3))) := Lib.hid hp3;clear hp1 hp2 hp3 hO hM hN;generalize (((w.alloc (.cells #[.slice none 0 0] 26)).alloc (.cells #[.int .i64 0] 3)).alloc (.cells #[.int .i64 0] 3)) = w0 at *;generalize hbs : w.heap.size = base at *;have hbs2 : w.heap.size ≤ base := Nat.le_of_eq hbs;clear hbs
 have HLX := Lib.hid (rlines3_calls w0 s base 67 (.pointer (some ⟨base + 1 + 1, 0, none⟩)) (.pointer (some ⟨base + 1, 0, none⟩)) (.pointer (some ⟨base, 0, none⟩)) rdF (fun k S W => IrI base base (base + 1) (base + 1 + 1) k S W) ⟨[], 0, 0⟩
  (fun W h => (hMl.pure HP0.out).mod h (fun hs => by have := hs.1; omega)) (by omega) HI0.out (fun k S W W' h hm => h.pure hm) (fun v W => rfl)
  (fun k S W l hk hW hR => irdClo_calls W base base (base + 1) (base + 1 + 1) k S l (by omega) hR (by omega) (fun W2 h2 => (hMl.pure HP0.out).mod (hW.trans h2) (fun hs => by have := hs.1; omega)) (fun W2 h2 => (hP.pure HP0.out).mod (hW.trans h2) (fun hs => by have := hs.1; omega)) (fun W2 h2 => (hA.pure HP0.out).mod (hW.trans h2) (fun hs => by have := hs.1; omega))))
 have HRD : Hid (rdR s = match rdG rdF (wholeQ s) (linesQ s) 0 ⟨[], 0, 0⟩ with
  | .inl i => ([], (i : Int), 9)
  | .inr S => if 0 < S.want then ([], ((linesQ s).length : Int), 9) else if itsE itemE S.items ≠ 0 then ([], 0, itsE itemE S.items) else (S.items, 0, 0)) := Lib.hid rfl
 have HCN := Lib.hid (fun S (h : rdG rdF (wholeQ s) (linesQ s) 0 ⟨[], 0, 0⟩ = .inr S) => rdG_cnt (wholeQ s) (linesQ s) 0 _ S h);simp only [Nat.zero_add] at HCN;clear hMl hP hA HI0 hm0 hp0 ha0;generalize rdR s = rr at *;generalize rdG rdF (wholeQ s) (linesQ s) 0 ⟨[], 0, 0⟩ = r at *;generalize linesQ s = ls at *
 go_wp2_with fail
 refine HLX.out.mono ?_;rintro e w5 ⟨hm, hl, hr⟩;have HP5 : Hid (Pure w w5) := Lib.hid (KeepS.pure hm HP0.out (by omega));have HL := Lib.hid hl;have HR := Lib.hid hr;clear hm hl hr HLX HP0
 cases r with
 | inl i =>
  obtain rfl := HL.out i rfl;have HR2 : Hid (rr = ([], (i : Int), 9)) := Lib.hid HRD.out;clear HL HR HRO HCN HRD
  go_wp2_with fail
  try simp only [Exit.inBlock, Exit.then]
  refine bodyPost_ret (v := .tuple #[.slice none 0 0, .int .i64 (i : Int), .int .i64 9]) (by simp [results, Tryz.results17, go_sem]) rfl ?_;rw [HR2.out];exact ⟨_, rfl, its_nil _, HP5.out⟩
 | inr S =>
  obtain ⟨rfl, k, hI⟩ := HR.out S rfl;obtain ⟨A, c, hO, hM, hN, hown, hok, rfl, hr⟩ := hI;have hcn := HCN.out S rfl;have hok2 := HRO.out S rfl;have hrr := HRD.out;simp only at hrr;have HRR := Lib.hid hrr;have HIT := Lib.hid (Sl.of_own hown);have hlc := hok2.len;have HCK := Lib.hid (itemsFaultX_calls w5 _ S.items (Sl.of_own hown) (hok2.l (by omega) (by omega)) (by omega) (HEV.out _ HP5.out));have HO := Lib.hid hO;rw [hcn] at hN;have x0 := hO.cell 0; simp at x0;have y0 := hM.cell 0; simp at y0;have z0 := hN.cell 0; simp at z0;clear hO hM hN hown hrr HL HR HRO HCN HRD HEV hcn hok hok2 hr
  by_cases hw : 0 < S.want
  ·have HR2 : Hid (rr = ([], (ls.length : Int), 9)) := Lib.hid (by rw [HRR.out, if_pos hw]);clear HRR HCK
   go_wp2_with fail
   go_quiet (fail)
   go_wp2_with fail
   try simp only [Exit.inBlock, Exit.then]
   refine bodyPost_ret (v := .tuple #[.slice none 0 0, .int .i64 (ls.length : Int), .int .i64 9]) (by simp [results, Tryz.results17, go_sem]) rfl ?_;rw [HR2.out];exact ⟨_, rfl, its_nil _, HP5.out.drewN _⟩
  ·rw [if_neg hw] at HRR;obtain ⟨q, hq⟩ : ∃ q, itsE itemE S.items = q := ⟨_, rfl⟩;rw [hq] at HRR HCK;clear hq
   go_wp2_with fail
   refine HCK.out.mono ?_;rintro e w6 ⟨rfl, hm6⟩;have HP6 : Hid (Pure w w6) := Lib.hid (HP5.out.trans hm6);have HI6 := Lib.hid (Its.pure HIT.out hm6);have h6 := HO.out.modp hm6;have x0 := h6.cell 0; simp at x0;clear hm6 HCK HIT h6 HO y0 z0
   by_cases h0 : q = 0
   ·subst h0;have HR2 : Hid (rr = (S.items, 0, 0)) := Lib.hid (by rw [HRR.out]; rfl);clear HRR
    go_wp2_with fail
    try simp only [Exit.inBlock, Exit.then]
    refine bodyPost_ret (v := .tuple #[.slice A S.items.length c, .int .i64 0, .int .i64 0]) (by simp [results, Tryz.results17, go_sem]) rfl ?_;rw [HR2.out];exact ⟨_, rfl, HI6.out, HP6.out⟩
   ·have h1 : (q != 0) = true := by simpa using h0
    have HR2 : Hid (rr = ([], 0, q)) := Lib.hid (by rw [HRR.out, if_pos h0]);clear HRR h0
    go_wp2_with fail
    try simp only [Exit.inBlock, Exit.then]
    refine bodyPost_ret (v := .tuple #[.slice none 0 0, .int .i64 0, .int .i64 q]) (by simp [results, Tryz.results17, go_sem]) rfl ?_;rw [HR2.out];exact ⟨_, rfl, its_nil _, HP6.out⟩
end Go.Proofs.YtelpdjhkedhppaaGreatDoor
