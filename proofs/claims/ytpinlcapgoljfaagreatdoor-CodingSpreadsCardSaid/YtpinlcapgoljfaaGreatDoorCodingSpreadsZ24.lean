/- Texts of the proof of CodingSpreads, put together: LayE. -/
import Derived.Test.YtpinlcapgoljfaaGreatDoorCodingSpreadsZ14
import Derived.Test.YtpinlcapgoljfaaGreatDoorCodingSpreadsZ23
set_option linter.unusedVariables false
set_option linter.unusedSimpArgs false
/- What is wrong with values of a right layout: program and reference. -/
namespace Go.Proofs.YtpinlcapgoljfaaGreatDoor
open Go.RowKit

theorem ixS_idx (cs : List Str) (s : Str) : idxQ (fun x => s == x) cs 0 = ixS cs s := by
 rw [idxQ_findIdx];unfold ixS;rw [show (fun x : Str => s == x) = fun c => decide (c = s) from by funext x; rw [Bool.eq_iff_iff]; simp; exact ⟨fun h => h.symm, fun h => h.symm⟩]
 cases cs.findIdx? fun c => decide (c = s) with
 | none => rfl
 | some k => simp
theorem valE_cons (al : List AskR) (p : Int) (c : ChoR) (t : List ChoR) : valE al p (c :: t) = match askIx al c.field with
  | none => 8
  | some k => if (k : Int) ≤ p then 7 else if c.ch.length = 0 then 3 else if 1 < c.ch.length ∧ (al.getD k askN).many = false then 16
   else if pickE (al.getD k askN).ch (-1) c.ch ≠ 0 then pickE (al.getD k askN).ch (-1) c.ch else valE al k t := rfl
theorem pickE_cons (cs : List Str) (p : Int) (s : Str) (t : List Str) : pickE cs p (s :: t) = if ixS cs s < 0 then 8 else if ixS cs s ≤ p then 7 else pickE cs (ixS cs s) t := rfl
theorem first_pick (x p : Int) : firstErr [if (decide (x < 0)) = true then (8 : Int) else 0, if (decide (x ≤ p)) = true then (7 : Int) else 0] = if x < 0 then 8 else if x ≤ p then 7 else 0 := by
 by_cases h1 : x < 0
 ·simp [firstErr, h1]
 ·by_cases h2 : x ≤ p <;> simp [firstErr, h1, h2]
set_option maxRecDepth 100000 in
set_option maxHeartbeats 16000000 in
theorem valuesError_calls (w : World) (v vv : Value) (L : LayR) (cs : List ChoR) (hL : LayV w L v) (hb : LayB L) (hV : Vals w vv cs) (hcs : cs.length ≤ 1000) (hcz : ∀ c ∈ cs, ChoB c) : Calls Tryz.prog 110 #[v, vv] w (IntPost w (valsE L cs)) := by
 obtain ⟨A, n, c, A2, n2, c2, rfl, hA, hR⟩ := hL;obtain ⟨AV, nv, cv, rfl⟩ := hV.1.form;have hn := hA.len;have hnv := hV.len;have HA := Lib.hid hA;have HV := Lib.hid hV;have HLB := Lib.hid hb;have HCZ := Lib.hid hcz;have HVE : Hid (valsE L cs = if 40 < cs.length then 2 else valE L.asks (-1) cs) := Lib.hid rfl;have HB0 := Lib.hid (Blk.new w 63 #[.slice A n c, .slice A2 n2 c2]);have HP0 := Lib.hid (pure_alloc w (.cells #[.slice A n c, .slice A2 n2 c2] 63));have HAT : Hid (∀ W, Pure w W → ∀ f, Calls Tryz.prog 137 #[.agg #[.slice A n c, .slice A2 n2 c2], .string ⟨f.toArray⟩] W (IntPost W (askI L.asks f))) := Lib.hid (fun W h f => ask_calls W _ L f ⟨A, n, c, A2, n2, c2, rfl, hA.pure h, Sl.pure hR h⟩);generalize valsE L cs = le at *;clear hA hR hb hV hcz
 go_enter Tryz.func110, Tryz.ntmps110
 go_upto_region 1 with (fail)
 generalize (w.alloc (.cells #[.slice A n c, .slice A2 n2 c2] 63)) = w1 at *;generalize w.heap.size = g1 at *
 by_cases hn40 : 40 < nv
 ·have hn40' : (40 : Int) < (nv : Int) := by omega
  go_wp2_with fail
  go_ret;exact IntPost.of (by rw [HVE.out, if_pos (by omega)]) HP0.out
 have hn40' : ¬ (40 : Int) < (nv : Int) := by omega
 rw [if_neg (by omega)] at HVE
 go_wp2_with fail
 clear hn40'
 go_loopg [5, 19] nv (fun gk la i wr => ∃ (k : Nat) (p : Int), nv - k = gk ∧ k ≤ nv ∧ la = .int .i64 p ∧ i = .int .i64 (k : Int) ∧ valE L.asks p (cs.drop k) = valE L.asks (-1) cs ∧ Pure w1 wr)
 case atStart => exact ⟨0, -1, by omega, by omega, rfl, rfl, rfl, Mod.refl _ _⟩
 case round =>
  obtain ⟨k, p, rfl, hk, rfl, rfl, hix, hm⟩ := hrel;have hm0 := HP0.out.trans hm
  by_cases hlt : k < nv
  ·have hkl : k < cs.length := by omega
   have hVk := HV.out.pure hm0;obtain ⟨g, off, rfl, q0, q1⟩ := hVk.cells hkl;have HSTP := Lib.hid (fun W (h : Pure w W) => (HV.out.pure h).2 _ (List.getElem_mem hkl));have hxb := HCZ.out _ (List.getElem_mem hkl);rw [List.drop_eq_getElem_cons hkl, valE_cons] at hix;have HIX := Lib.hid (hix.trans HVE.out.symm);have HAC := Lib.hid (fun W h => HAT.out W h cs[k].field);generalize cs[k] = x at *;obtain ⟨xf, xA, xc, xs⟩ := x;simp only [] at q0 q1 HSTP hxb HIX HAC;obtain ⟨hxf, hxs, hxz⟩ := hxb;simp only [StB] at hxf hxs hxz;have HXZ := Lib.hid hxz;have HXB := Lib.hid (Blk.new wr 125 #[.string ⟨xf.toArray⟩, .slice xA xs.length xc]);have HPA := Lib.hid (hm.alloc (.cells #[.string ⟨xf.toArray⟩, .slice xA xs.length xc] 125));have hBw := (HB0.out.modp hm).alloc (.cells #[.string ⟨xf.toArray⟩, .slice xA xs.length xc] 125);have hx1 := HXB.out;have d0 := hBw.cell 0; have d1 := hBw.cell 1; simp at d0 d1;have x0 := hx1.cell 0; have x1 := hx1.cell 1; simp at x0 x1;clear hBw hx1 hix hxz hVk
   go_wp2_with fail
   refine (HAC.out _ (HP0.out.trans HPA.out)).mono ?_;rintro e w4 ⟨rfl, hm4⟩;have HP4 := Lib.hid (HPA.out.trans hm4);have HX4 := Lib.hid (HXB.out.modp hm4);have hx1 := HX4.out;have hb1 := HB0.out.modp HP4.out;clear q0 q1 d0 d1 x0 x1 hm4 hm hm0 HPA HXB HAC;generalize wr.heap.size = g7 at *
   cases hqi : askIx L.asks xf with
   | none =>
    have hai : askI L.asks xf = -1 := by unfold askI; rw [hqi]
    rw [hai];rw [hqi] at HIX;have HL : le = 8 := HIX.out.symm;have HP := Lib.hid (HP0.out.trans HP4.out);clear hai hqi hx1 hb1 HIX
    go_wp2_with fail
    go_ret;exact IntPost.of HL HP.out
   | some q =>
    obtain ⟨hq, hqf, _, _⟩ := askIx_some hqi
    have hai : askI L.asks xf = (q : Int) := by unfold askI; rw [hqi]
    rw [hai];rw [hqi] at HIX;simp only [show L.asks.getD q askN = L.asks[q] by simp [List.getD, hq]] at HIX;obtain ⟨ga, offa, rfl, a0, a1, a2, a3⟩ := (HA.out.pure (HP0.out.trans HP4.out)).cells hq
    have hqn : (q : Int) < (n : Int) := by omega
    have HCSA := Lib.hid (fun W (h : Pure w W) => (HA.out.pure h).2 _ (List.getElem_mem hq))
    have HAQ : Hid (∀ W, Pure w W → W.cell? ⟨ga, offa + q * 4 + 1, none⟩ = some (.slice L.asks[q].A L.asks[q].ch.length L.asks[q].c)) := Lib.hid (fun W (h : Pure w W) => by
     obtain ⟨g', off', e1, b0, b1, b2, b3⟩ := (HA.out.pure h).cells hq
     injection e1 with e1
     injection e1 with e1 e2 _
     subst e1 e2
     exact b1)
    have hyb := (HLB.out.2.2.1 _ (List.getElem_mem hq)).2.1.1;clear hai hqi hqf;generalize L.asks[q] = y at *;obtain ⟨yf, yA, yc, ys, ym, yp⟩ := y;simp only [] at a0 a1 a2 a3 HIX HCSA HAQ hyb
    by_cases hqp : (q : Int) ≤ p
    ·have HL : le = 7 := by rw [← HIX.out, if_pos hqp]
     have HP := Lib.hid (HP0.out.trans HP4.out);clear hx1 hb1 HIX a0 a1 a2 a3
     go_wp2_with fail
     go_ret;exact IntPost.of HL HP.out
    rw [if_neg hqp] at HIX;have x0 := hx1.cell 0; have x1 := hx1.cell 1; simp at x0 x1;clear hx1
    by_cases hx0 : xs.length = 0
    ·have HL : le = 3 := by rw [← HIX.out, if_pos hx0]
     have HP := Lib.hid (HP0.out.trans HP4.out)
     have hxz1 : (xs.length : Int) = 0 := by omega
     have hxz0 : ((xs.length : Int) == 0) = true := by rw [hxz1]; rfl
     clear hb1 HIX hx0 a0 a1 a2 a3
     go_wp2_with fail
     go_ret;exact IntPost.of HL HP.out
    rw [if_neg hx0] at HIX
    have hx0' : ((xs.length : Int) == 0) = false := by rw [beq_eq_false_iff_ne]; omega
    clear hx0;have d0 := hb1.cell 0; have d1 := hb1.cell 1; simp at d0 d1;clear hb1;have MID : Hid (¬ (1 < xs.length ∧ ym = false) → (if pickE ys (-1) xs ≠ 0 then pickE ys (-1) xs else valE L.asks (q : Int) (cs.drop (k + 1))) = le) := Lib.hid (fun h => by have := HIX.out; rw [if_neg h] at this; exact this);have M16 : Hid (1 < xs.length ∧ ym = false → le = 16) := Lib.hid (fun h => by rw [← HIX.out, if_pos h]);clear HIX;have HS4 := Lib.hid (HSTP.out w4 (HP0.out.trans HP4.out));clear HSTP
    by_cases hov : 1 < xs.length
    rotate_left
    ·have HMD := Lib.hid (MID.out (fun h => hov h.1))
     have hov2 : ¬ (1 : Int) < (xs.length : Int) := by omega
     clear MID M16 hov
     go_wp2_with fail
     clear hov2
     go_loopg [9, 57] xs.length (fun gk la i wr => ∃ (j : Nat) (p : Int), xs.length - j = gk ∧ j ≤ xs.length ∧ la = .int .i64 p ∧ i = .int .i64 (j : Int) ∧ pickE ys p (xs.drop j) = pickE ys (-1) xs ∧ Pure w4 wr)
     case atStart => exact ⟨0, -1, by omega, by omega, rfl, rfl, rfl, Mod.refl _ _⟩
     case round =>
      clear x0 x1 d0 d1 a0 a1 a2 a3;obtain ⟨j, p2, rfl, hj, rfl, rfl, hjx, hmj⟩ := hrel
      by_cases hjl : j < xs.length
      ·obtain ⟨A', n', c', e1, hc1, hc2, hl1, hr1⟩ := HS4.out
       injection e1 with e1 e2 e3
       subst e1 e2 e3;obtain ⟨gs, offs, rfl, hrs⟩ := hr1 (by omega);have hqs := (hrs.mod hmj _root_.id).cell (strsV_get xs j hjl);rw [List.drop_eq_getElem_cons hjl, pickE_cons] at hjx;have HJX := Lib.hid hjx;generalize xs[j] = s at *;have hb1 := HB0.out.modp (HP4.out.trans hmj);have a1 := HAQ.out _ (HP0.out.trans (HP4.out.trans hmj));have HCI := Lib.hid (fun W (h : Pure w W) => indexQs_calls W _ ys s (HCSA.out W h));simp only [ixS_idx] at HCI;have hil := ixS_lt ys s;generalize ixS ys s = q2 at *;have HMJ := Lib.hid (HP4.out.trans hmj);have HM4J := Lib.hid hmj;have d0 := hb1.cell 0; have d1 := hb1.cell 1; simp at d0 d1;clear hjx hr1 hl1 hrs hb1 hmj
       go_wp2_with fail
       refine (HCI.out _ (HP0.out.trans HMJ.out)).mono ?_;rintro e w6 ⟨rfl, hm6⟩;have HM6 := Lib.hid (HMJ.out.trans hm6);have HMW := Lib.hid (HM4J.out.trans hm6);clear HM4J d0 d1 a1 hqs HMJ HCI hm6;have HFP := Lib.hid (first_pick q2 p2);obtain ⟨e5, he5⟩ : ∃ e : Int, (if (decide (q2 < 0)) = true then (8 : Int) else 0) = e := ⟨_, rfl⟩;obtain ⟨e6, he6⟩ : ∃ e : Int, (if (decide (q2 ≤ p2)) = true then (7 : Int) else 0) = e := ⟨_, rfl⟩;rw [he5, he6] at HFP;have HE5 := Lib.hid he5;have HE6 := Lib.hid he6;clear he5 he6
       go_wp2_with fail
       refine (whenQ_calls _ _ _ e5 HE5.out).mono ?_;rintro e w7 ⟨rfl, hm7⟩
       go_wp2_with fail
       refine (whenQ_calls _ _ _ e6 HE6.out).mono ?_;rintro e w8 ⟨rfl, hm8⟩
       go_wp2_with fail
       refine (firstE_calls _ _ _ [e5, e6] (Blk.new _ _ _).row0 (by simp)).mono ?_;rintro e w9 ⟨rfl, hm9⟩;have hm69 := ((hm7.trans hm8).alloc _).trans hm9;have HM9 := Lib.hid (HM6.out.trans hm69);have HMX := Lib.hid (HMW.out.trans hm69);obtain ⟨fe, hfe⟩ : ∃ fe, firstErr [e5, e6] = fe := ⟨_, rfl⟩;rw [hfe] at HFP ⊢;clear HE5 HE6 HM6 HMW hm7 hm8 hm9 hm69 hfe
       by_cases h0 : fe = 0
       ·subst h0
        have h1 : ¬ q2 < 0 := fun h => by have := HFP.out; rw [if_pos h] at this; cases this
        have h2 : ¬ q2 ≤ p2 := fun h => by have := HFP.out; rw [if_neg h1, if_pos h] at this; cases this
        have HN : Hid (pickE ys q2 (xs.drop (j + 1)) = pickE ys (-1) xs) := Lib.hid (by rw [← HJX.out, if_neg h1, if_neg h2]);clear HJX HFP h1 h2
        go_wp2_with fail
        go_roundg (xs.length - (j + 1))
        case measure => omega
        case rel => exact ⟨j + 1, q2, rfl, hjl, rfl, by simp, HN.out, HMX.out⟩
       ·have hne : (fe != 0) = true := by simpa using h0
        have hp : pickE ys (-1) xs = fe := by
         rw [← HJX.out]
         by_cases h1 : q2 < 0
         ·rw [if_pos h1]; have := HFP.out; rw [if_pos h1] at this; exact this.symm
         ·by_cases h2 : q2 ≤ p2
          ·rw [if_neg h1, if_pos h2]; have := HFP.out; rw [if_neg h1, if_pos h2] at this; exact this.symm
          ·have := HFP.out; rw [if_neg h1, if_neg h2] at this; exact absurd this h0
        have HL : le = fe := by rw [← HMD.out, hp, if_pos h0]
        have HP := Lib.hid (HP0.out.trans HM9.out);clear h0 hp HJX HFP HMD
        go_wp2_with fail
        go_ret;exact IntPost.of HL HP.out
      ·have hje : xs.length = j := by omega
       have hpz : pickE ys (-1) xs = 0 := by rw [← hjx, ← hje, List.drop_length]; rfl
       rw [hpz, if_neg (by simp)] at HMD;have HM6 := Lib.hid (HP4.out.trans hmj)
       have hjl2 : ¬ (j : Int) < (xs.length : Int) := by omega
       clear hje hpz hjx hjl hj hmj
       go_wp2_with fail
       go_roundg (nv - (k + 1))
       case measure => omega
       case rel => exact ⟨k + 1, (q : Int), rfl, hlt, rfl, by simp, by rw [HMD.out, HVE.out], HM6.out⟩
    ·have hov2 : (1 : Int) < (xs.length : Int) := by omega
     cases ym
     ·have HL := M16.out ⟨hov, rfl⟩;have HP := Lib.hid (HP0.out.trans HP4.out);clear MID M16 hov
      go_wp2_with fail
      go_ret;exact IntPost.of HL HP.out
     ·have HMD := Lib.hid (MID.out (fun h => by cases h.2));clear MID M16 hov
      go_wp2_with fail
      clear hov2
      go_loopg [9, 57] xs.length (fun gk la i wr => ∃ (j : Nat) (p : Int), xs.length - j = gk ∧ j ≤ xs.length ∧ la = .int .i64 p ∧ i = .int .i64 (j : Int) ∧ pickE ys p (xs.drop j) = pickE ys (-1) xs ∧ Pure w4 wr)
      case atStart => exact ⟨0, -1, by omega, by omega, rfl, rfl, rfl, Mod.refl _ _⟩
      case round =>
       clear x0 x1 d0 d1 a0 a1 a2 a3;obtain ⟨j, p2, rfl, hj, rfl, rfl, hjx, hmj⟩ := hrel
       by_cases hjl : j < xs.length
       ·obtain ⟨A', n', c', e1, hc1, hc2, hl1, hr1⟩ := HS4.out
        injection e1 with e1 e2 e3
        subst e1 e2 e3;obtain ⟨gs, offs, rfl, hrs⟩ := hr1 (by omega);have hqs := (hrs.mod hmj _root_.id).cell (strsV_get xs j hjl);rw [List.drop_eq_getElem_cons hjl, pickE_cons] at hjx;have HJX := Lib.hid hjx;generalize xs[j] = s at *;have hb1 := HB0.out.modp (HP4.out.trans hmj);have a1 := HAQ.out _ (HP0.out.trans (HP4.out.trans hmj));have HCI := Lib.hid (fun W (h : Pure w W) => indexQs_calls W _ ys s (HCSA.out W h));simp only [ixS_idx] at HCI;have hil := ixS_lt ys s;generalize ixS ys s = q2 at *;have HMJ := Lib.hid (HP4.out.trans hmj);have HM4J := Lib.hid hmj;have d0 := hb1.cell 0; have d1 := hb1.cell 1; simp at d0 d1;clear hjx hr1 hl1 hrs hb1 hmj
        go_wp2_with fail
        refine (HCI.out _ (HP0.out.trans HMJ.out)).mono ?_;rintro e w6 ⟨rfl, hm6⟩;have HM6 := Lib.hid (HMJ.out.trans hm6);have HMW := Lib.hid (HM4J.out.trans hm6);clear HM4J d0 d1 a1 hqs HMJ HCI hm6;have HFP := Lib.hid (first_pick q2 p2);obtain ⟨e5, he5⟩ : ∃ e : Int, (if (decide (q2 < 0)) = true then (8 : Int) else 0) = e := ⟨_, rfl⟩;obtain ⟨e6, he6⟩ : ∃ e : Int, (if (decide (q2 ≤ p2)) = true then (7 : Int) else 0) = e := ⟨_, rfl⟩;rw [he5, he6] at HFP;have HE5 := Lib.hid he5;have HE6 := Lib.hid he6;clear he5 he6
        go_wp2_with fail
        refine (whenQ_calls _ _ _ e5 HE5.out).mono ?_;rintro e w7 ⟨rfl, hm7⟩
        go_wp2_with fail
        refine (whenQ_calls _ _ _ e6 HE6.out).mono ?_;rintro e w8 ⟨rfl, hm8⟩
        go_wp2_with fail
        refine (firstE_calls _ _ _ [e5, e6] (Blk.new _ _ _).row0 (by simp)).mono ?_;rintro e w9 ⟨rfl, hm9⟩;have hm69 := ((hm7.trans hm8).alloc _).trans hm9;have HM9 := Lib.hid (HM6.out.trans hm69);have HMX := Lib.hid (HMW.out.trans hm69);obtain ⟨fe, hfe⟩ : ∃ fe, firstErr [e5, e6] = fe := ⟨_, rfl⟩;rw [hfe] at HFP ⊢;clear HE5 HE6 HM6 HMW hm7 hm8 hm9 hm69 hfe
        by_cases h0 : fe = 0
        ·subst h0
         have h1 : ¬ q2 < 0 := fun h => by have := HFP.out; rw [if_pos h] at this; cases this
         have h2 : ¬ q2 ≤ p2 := fun h => by have := HFP.out; rw [if_neg h1, if_pos h] at this; cases this
         have HN : Hid (pickE ys q2 (xs.drop (j + 1)) = pickE ys (-1) xs) := Lib.hid (by rw [← HJX.out, if_neg h1, if_neg h2]);clear HJX HFP h1 h2
         go_wp2_with fail
         go_roundg (xs.length - (j + 1))
         case measure => omega
         case rel => exact ⟨j + 1, q2, rfl, hjl, rfl, by simp, HN.out, HMX.out⟩
        ·have hne : (fe != 0) = true := by simpa using h0
         have hp : pickE ys (-1) xs = fe := by
          rw [← HJX.out]
          by_cases h1 : q2 < 0
          ·rw [if_pos h1]; have := HFP.out; rw [if_pos h1] at this; exact this.symm
          ·by_cases h2 : q2 ≤ p2
           ·rw [if_neg h1, if_pos h2]; have := HFP.out; rw [if_neg h1, if_pos h2] at this; exact this.symm
           ·have := HFP.out; rw [if_neg h1, if_neg h2] at this; exact absurd this h0
         have HL : le = fe := by rw [← HMD.out, hp, if_pos h0]
         have HP := Lib.hid (HP0.out.trans HM9.out);clear h0 hp HJX HFP HMD
         go_wp2_with fail
         go_ret;exact IntPost.of HL HP.out
       ·have hje : xs.length = j := by omega
        have hpz : pickE ys (-1) xs = 0 := by rw [← hjx, ← hje, List.drop_length]; rfl
        rw [hpz, if_neg (by simp)] at HMD;have HM6 := Lib.hid (HP4.out.trans hmj)
        have hjl2 : ¬ (j : Int) < (xs.length : Int) := by omega
        clear hje hpz hjx hjl hj hmj
        go_wp2_with fail
        go_roundg (nv - (k + 1))
        case measure => omega
        case rel => exact ⟨k + 1, (q : Int), rfl, hlt, rfl, by simp, by rw [HMD.out, HVE.out], HM6.out⟩
  ·have hke : cs.length = k := by omega
   have HL : le = 0 := by
    rw [HVE.out, ← hix, ← hke, List.drop_length]
    rfl
   have HP := Lib.hid (HP0.out.trans hm)
   have hkn : nv = k := by omega
   subst hkn;clear hke hix hm hm0 hlt hk
   go_wp2_with fail
   go_ret;exact IntPost.of HL HP.out
set_option maxRecDepth 100000 in
set_option maxHeartbeats 16000000 in
theorem valuesRight_calls (w : World) (v vv : Value) (L : LayR) (cs : List ChoR) (hL : LayV w L v) (hb : LayB L) (hV : Vals w vv cs) (hcs : cs.length ≤ 1000) (hcz : ∀ c ∈ cs, ChoB c) : Calls Tryz.prog 74 #[v, vv] w (IntPost w (valsE L cs)) := by
 obtain ⟨A, n, c, A2, n2, c2, rfl, hA, hR⟩ := hL;obtain ⟨AV, nv, cv, rfl⟩ := hV.1.form;have hn := hA.len;have hnv := hV.len;have HA := Lib.hid hA;have HV := Lib.hid hV;have HLB := Lib.hid hb;have HCZ := Lib.hid hcz;have HVE : Hid (valsE L cs = if 40 < cs.length then 2 else valE L.asks (-1) cs) := Lib.hid rfl;have HB0 := Lib.hid (Blk.new w 63 #[.slice A n c, .slice A2 n2 c2]);have HP0 := Lib.hid (pure_alloc w (.cells #[.slice A n c, .slice A2 n2 c2] 63));have HAT : Hid (∀ W, Pure w W → ∀ f, Calls Tryz.prog 70 #[.agg #[.slice A n c, .slice A2 n2 c2], .string ⟨f.toArray⟩] W (IntPost W (askI L.asks f))) := Lib.hid (fun W h f => askAt_calls W _ L f ⟨A, n, c, A2, n2, c2, rfl, hA.pure h, Sl.pure hR h⟩);generalize valsE L cs = le at *;clear hA hR hb hV hcz
 go_enter Tryz.func74, Tryz.ntmps74
 go_upto_region 1 with (fail)
 generalize (w.alloc (.cells #[.slice A n c, .slice A2 n2 c2] 63)) = w1 at *;generalize w.heap.size = g1 at *
 by_cases hn40 : 40 < nv
 ·have hn40' : (40 : Int) < (nv : Int) := by omega
  go_wp2_with fail
  go_ret;exact IntPost.of (by rw [HVE.out, if_pos (by omega)]) HP0.out
 have hn40' : ¬ (40 : Int) < (nv : Int) := by omega
 rw [if_neg (by omega)] at HVE
 go_wp2_with fail
 clear hn40'
 go_loopg [5, 18] nv (fun gk la i wr => ∃ (k : Nat) (p : Int), nv - k = gk ∧ k ≤ nv ∧ la = .int .i64 p ∧ i = .int .i64 (k : Int) ∧ valE L.asks p (cs.drop k) = valE L.asks (-1) cs ∧ Pure w1 wr)
 case atStart => exact ⟨0, -1, by omega, by omega, rfl, rfl, rfl, Mod.refl _ _⟩
 case round =>
  obtain ⟨k, p, rfl, hk, rfl, rfl, hix, hm⟩ := hrel;have hm0 := HP0.out.trans hm
  by_cases hlt : k < nv
  ·have hkl : k < cs.length := by omega
   have hVk := HV.out.pure hm0;obtain ⟨g, off, rfl, q0, q1⟩ := hVk.cells hkl;have HSTP := Lib.hid (fun W (h : Pure w W) => (HV.out.pure h).2 _ (List.getElem_mem hkl));have hxb := HCZ.out _ (List.getElem_mem hkl);rw [List.drop_eq_getElem_cons hkl, valE_cons] at hix;have HIX := Lib.hid (hix.trans HVE.out.symm);have HAC := Lib.hid (fun W h => HAT.out W h cs[k].field);generalize cs[k] = x at *;obtain ⟨xf, xA, xc, xs⟩ := x;simp only [] at q0 q1 HSTP hxb HIX HAC;obtain ⟨hxf, hxs, hxz⟩ := hxb;simp only [StB] at hxf hxs hxz;have HXZ := Lib.hid hxz;have HXB := Lib.hid (Blk.new wr 125 #[.string ⟨xf.toArray⟩, .slice xA xs.length xc]);have HPA := Lib.hid (hm.alloc (.cells #[.string ⟨xf.toArray⟩, .slice xA xs.length xc] 125));have hBw := (HB0.out.modp hm).alloc (.cells #[.string ⟨xf.toArray⟩, .slice xA xs.length xc] 125);have hx1 := HXB.out;have d0 := hBw.cell 0; have d1 := hBw.cell 1; simp at d0 d1;have x0 := hx1.cell 0; have x1 := hx1.cell 1; simp at x0 x1;clear hBw hx1 hix hxz hVk
   go_wp2_with fail
   refine (HAC.out _ (HP0.out.trans HPA.out)).mono ?_;rintro e w4 ⟨rfl, hm4⟩;have HP4 := Lib.hid (HPA.out.trans hm4);have HX4 := Lib.hid (HXB.out.modp hm4);have hx1 := HX4.out;have hb1 := HB0.out.modp HP4.out;clear q0 q1 d0 d1 x0 x1 hm4 hm hm0 HPA HXB HAC;generalize wr.heap.size = g7 at *
   cases hqi : askIx L.asks xf with
   | none =>
    have hai : askI L.asks xf = -1 := by unfold askI; rw [hqi]
    rw [hai];rw [hqi] at HIX;have HL : le = 8 := HIX.out.symm;have HP := Lib.hid (HP0.out.trans HP4.out);clear hai hqi hx1 hb1 HIX
    go_wp2_with fail
    go_ret;exact IntPost.of HL HP.out
   | some q =>
    obtain ⟨hq, hqf, _, _⟩ := askIx_some hqi
    have hai : askI L.asks xf = (q : Int) := by unfold askI; rw [hqi]
    rw [hai];rw [hqi] at HIX;simp only [show L.asks.getD q askN = L.asks[q] by simp [List.getD, hq]] at HIX;obtain ⟨ga, offa, rfl, a0, a1, a2, a3⟩ := (HA.out.pure (HP0.out.trans HP4.out)).cells hq
    have hqn : (q : Int) < (n : Int) := by omega
    have HCSA := Lib.hid (fun W (h : Pure w W) => (HA.out.pure h).2 _ (List.getElem_mem hq))
    have HAQ : Hid (∀ W, Pure w W → W.cell? ⟨ga, offa + q * 4 + 1, none⟩ = some (.slice L.asks[q].A L.asks[q].ch.length L.asks[q].c)) := Lib.hid (fun W (h : Pure w W) => by
     obtain ⟨g', off', e1, b0, b1, b2, b3⟩ := (HA.out.pure h).cells hq
     injection e1 with e1
     injection e1 with e1 e2 _
     subst e1 e2
     exact b1)
    have hyb := (HLB.out.2.2.1 _ (List.getElem_mem hq)).2.1.1;clear hai hqi hqf;generalize L.asks[q] = y at *;obtain ⟨yf, yA, yc, ys, ym, yp⟩ := y;simp only [] at a0 a1 a2 a3 HIX HCSA HAQ hyb
    by_cases hqp : (q : Int) ≤ p
    ·have HL : le = 7 := by rw [← HIX.out, if_pos hqp]
     have HP := Lib.hid (HP0.out.trans HP4.out);clear hx1 hb1 HIX a0 a1 a2 a3
     go_wp2_with fail
     go_ret;exact IntPost.of HL HP.out
    rw [if_neg hqp] at HIX;have x0 := hx1.cell 0; have x1 := hx1.cell 1; simp at x0 x1;clear hx1
    by_cases hx0 : xs.length = 0
    ·have HL : le = 3 := by rw [← HIX.out, if_pos hx0]
     have HP := Lib.hid (HP0.out.trans HP4.out)
     have hxz1 : (xs.length : Int) = 0 := by omega
     have hxz0 : ((xs.length : Int) == 0) = true := by rw [hxz1]; rfl
     clear hb1 HIX hx0 a0 a1 a2 a3
     go_wp2_with fail
     go_ret;exact IntPost.of HL HP.out
    rw [if_neg hx0] at HIX
    have hx0' : ((xs.length : Int) == 0) = false := by rw [beq_eq_false_iff_ne]; omega
    clear hx0;have d0 := hb1.cell 0; have d1 := hb1.cell 1; simp at d0 d1;clear hb1;have MID : Hid (¬ (1 < xs.length ∧ ym = false) → (if pickE ys (-1) xs ≠ 0 then pickE ys (-1) xs else valE L.asks (q : Int) (cs.drop (k + 1))) = le) := Lib.hid (fun h => by have := HIX.out; rw [if_neg h] at this; exact this);have M16 : Hid (1 < xs.length ∧ ym = false → le = 16) := Lib.hid (fun h => by rw [← HIX.out, if_pos h]);clear HIX;have HS4 := Lib.hid (HSTP.out w4 (HP0.out.trans HP4.out));clear HSTP
    by_cases hov : 1 < xs.length
    rotate_left
    ·have HMD := Lib.hid (MID.out (fun h => hov h.1))
     have hov2 : ¬ (1 : Int) < (xs.length : Int) := by omega
     clear MID M16 hov
     go_wp2_with fail
     clear hov2
     go_loopg [9, 56] xs.length (fun gk la i wr => ∃ (j : Nat) (p : Int), xs.length - j = gk ∧ j ≤ xs.length ∧ la = .int .i64 p ∧ i = .int .i64 (j : Int) ∧ pickE ys p (xs.drop j) = pickE ys (-1) xs ∧ Pure w4 wr)
     case atStart => exact ⟨0, -1, by omega, by omega, rfl, rfl, rfl, Mod.refl _ _⟩
     case round =>
      clear x0 x1 d0 d1 a0 a1 a2 a3;obtain ⟨j, p2, rfl, hj, rfl, rfl, hjx, hmj⟩ := hrel
      by_cases hjl : j < xs.length
      ·obtain ⟨A', n', c', e1, hc1, hc2, hl1, hr1⟩ := HS4.out
       injection e1 with e1 e2 e3
       subst e1 e2 e3;obtain ⟨gs, offs, rfl, hrs⟩ := hr1 (by omega);have hqs := (hrs.mod hmj _root_.id).cell (strsV_get xs j hjl);rw [List.drop_eq_getElem_cons hjl, pickE_cons] at hjx;have HJX := Lib.hid hjx;generalize xs[j] = s at *;have hb1 := HB0.out.modp (HP4.out.trans hmj);have a1 := HAQ.out _ (HP0.out.trans (HP4.out.trans hmj));have HCI := Lib.hid (fun W (h : Pure w W) => indexQs_calls W _ ys s (HCSA.out W h));simp only [ixS_idx] at HCI;have hil := ixS_lt ys s;generalize ixS ys s = q2 at *;have HMJ := Lib.hid (HP4.out.trans hmj);have HM4J := Lib.hid hmj;have d0 := hb1.cell 0; have d1 := hb1.cell 1; simp at d0 d1;clear hjx hr1 hl1 hrs hb1 hmj
       go_wp2_with fail
       refine (HCI.out _ (HP0.out.trans HMJ.out)).mono ?_;rintro e w6 ⟨rfl, hm6⟩;have HM6 := Lib.hid (HMJ.out.trans hm6);have HMW := Lib.hid (HM4J.out.trans hm6);clear HM4J d0 d1 a1 hqs HMJ HCI hm6
       by_cases h1 : q2 < 0
       ·have h0 : pickE ys (-1) xs = 8 := by rw [← HJX.out, if_pos h1]
        have HL : le = 8 := by rw [← HMD.out, h0]; rfl
        have HP := Lib.hid (HP0.out.trans HM6.out);clear h0 HJX HMD
        go_wp2_with fail
        go_ret;exact IntPost.of HL HP.out
       by_cases h2 : q2 ≤ p2
       ·have h0 : pickE ys (-1) xs = 7 := by rw [← HJX.out, if_neg h1, if_pos h2]
        have HL : le = 7 := by rw [← HMD.out, h0]; rfl
        have HP := Lib.hid (HP0.out.trans HM6.out);clear h0 HJX HMD
        go_wp2_with fail
        go_ret;exact IntPost.of HL HP.out
       have HN : Hid (pickE ys q2 (xs.drop (j + 1)) = pickE ys (-1) xs) := Lib.hid (by rw [← HJX.out, if_neg h1, if_neg h2]);have HM7 := Lib.hid HMW.out;clear HJX HMW
       go_wp2_with fail
       go_roundg (xs.length - (j + 1))
       case measure => omega
       case rel => exact ⟨j + 1, q2, rfl, hjl, rfl, by simp, HN.out, HM7.out⟩
      ·have hje : xs.length = j := by omega
       have hpz : pickE ys (-1) xs = 0 := by rw [← hjx, ← hje, List.drop_length]; rfl
       rw [hpz, if_neg (by simp)] at HMD;have HM6 := Lib.hid (HP4.out.trans hmj)
       have hjl2 : ¬ (j : Int) < (xs.length : Int) := by omega
       clear hje hpz hjx hjl hj hmj
       go_wp2_with fail
       go_roundg (nv - (k + 1))
       case measure => omega
       case rel => exact ⟨k + 1, (q : Int), rfl, hlt, rfl, by simp, by rw [HMD.out, HVE.out], HM6.out⟩
    ·have hov2 : (1 : Int) < (xs.length : Int) := by omega
     cases ym
     ·have HL := M16.out ⟨hov, rfl⟩;have HP := Lib.hid (HP0.out.trans HP4.out);clear MID M16 hov
      go_wp2_with fail
      go_ret;exact IntPost.of HL HP.out
     ·have HMD := Lib.hid (MID.out (fun h => by cases h.2));clear MID M16 hov
      go_wp2_with fail
      clear hov2
      go_loopg [9, 56] xs.length (fun gk la i wr => ∃ (j : Nat) (p : Int), xs.length - j = gk ∧ j ≤ xs.length ∧ la = .int .i64 p ∧ i = .int .i64 (j : Int) ∧ pickE ys p (xs.drop j) = pickE ys (-1) xs ∧ Pure w4 wr)
      case atStart => exact ⟨0, -1, by omega, by omega, rfl, rfl, rfl, Mod.refl _ _⟩
      case round =>
       clear x0 x1 d0 d1 a0 a1 a2 a3;obtain ⟨j, p2, rfl, hj, rfl, rfl, hjx, hmj⟩ := hrel
       by_cases hjl : j < xs.length
       ·obtain ⟨A', n', c', e1, hc1, hc2, hl1, hr1⟩ := HS4.out
        injection e1 with e1 e2 e3
        subst e1 e2 e3;obtain ⟨gs, offs, rfl, hrs⟩ := hr1 (by omega);have hqs := (hrs.mod hmj _root_.id).cell (strsV_get xs j hjl);rw [List.drop_eq_getElem_cons hjl, pickE_cons] at hjx;have HJX := Lib.hid hjx;generalize xs[j] = s at *;have hb1 := HB0.out.modp (HP4.out.trans hmj);have a1 := HAQ.out _ (HP0.out.trans (HP4.out.trans hmj));have HCI := Lib.hid (fun W (h : Pure w W) => indexQs_calls W _ ys s (HCSA.out W h));simp only [ixS_idx] at HCI;have hil := ixS_lt ys s;generalize ixS ys s = q2 at *;have HMJ := Lib.hid (HP4.out.trans hmj);have HM4J := Lib.hid hmj;have d0 := hb1.cell 0; have d1 := hb1.cell 1; simp at d0 d1;clear hjx hr1 hl1 hrs hb1 hmj
        go_wp2_with fail
        refine (HCI.out _ (HP0.out.trans HMJ.out)).mono ?_;rintro e w6 ⟨rfl, hm6⟩;have HM6 := Lib.hid (HMJ.out.trans hm6);have HMW := Lib.hid (HM4J.out.trans hm6);clear HM4J d0 d1 a1 hqs HMJ HCI hm6
        by_cases h1 : q2 < 0
        ·have h0 : pickE ys (-1) xs = 8 := by rw [← HJX.out, if_pos h1]
         have HL : le = 8 := by rw [← HMD.out, h0]; rfl
         have HP := Lib.hid (HP0.out.trans HM6.out);clear h0 HJX HMD
         go_wp2_with fail
         go_ret;exact IntPost.of HL HP.out
        by_cases h2 : q2 ≤ p2
        ·have h0 : pickE ys (-1) xs = 7 := by rw [← HJX.out, if_neg h1, if_pos h2]
         have HL : le = 7 := by rw [← HMD.out, h0]; rfl
         have HP := Lib.hid (HP0.out.trans HM6.out);clear h0 HJX HMD
         go_wp2_with fail
         go_ret;exact IntPost.of HL HP.out
        have HN : Hid (pickE ys q2 (xs.drop (j + 1)) = pickE ys (-1) xs) := Lib.hid (by rw [← HJX.out, if_neg h1, if_neg h2]);have HM7 := Lib.hid HMW.out;clear HJX HMW
        go_wp2_with fail
        go_roundg (xs.length - (j + 1))
        case measure => omega
        case rel => exact ⟨j + 1, q2, rfl, hjl, rfl, by simp, HN.out, HM7.out⟩
       ·have hje : xs.length = j := by omega
        have hpz : pickE ys (-1) xs = 0 := by rw [← hjx, ← hje, List.drop_length]; rfl
        rw [hpz, if_neg (by simp)] at HMD;have HM6 := Lib.hid (HP4.out.trans hmj)
        have hjl2 : ¬ (j : Int) < (xs.length : Int) := by omega
        clear hje hpz hjx hjl hj hmj
        go_wp2_with fail
        go_roundg (nv - (k + 1))
        case measure => omega
        case rel => exact ⟨k + 1, (q : Int), rfl, hlt, rfl, by simp, by rw [HMD.out, HVE.out], HM6.out⟩
  ·have hke : cs.length = k := by omega
   have HL : le = 0 := by
    rw [HVE.out, ← hix, ← hke, List.drop_length]
    rfl
   have HP := Lib.hid (HP0.out.trans hm)
   have hkn : nv = k := by omega
   subst hkn;clear hke hix hm hm0 hlt hk
   go_wp2_with fail
   go_ret;exact IntPost.of HL HP.out

end Go.Proofs.YtpinlcapgoljfaaGreatDoor
