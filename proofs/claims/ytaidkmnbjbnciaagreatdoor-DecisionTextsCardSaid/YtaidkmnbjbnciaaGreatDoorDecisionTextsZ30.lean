/- Texts of the proof of DecisionTexts, put together: DecA, DecC, DecD. -/
import Derived.Test.YtaidkmnbjbnciaaGreatDoorDecisionTextsZ18
import Derived.Test.YtaidkmnbjbnciaaGreatDoorDecisionTextsZ26
import Derived.Test.YtaidkmnbjbnciaaGreatDoorDecisionTextsZ28
import Derived.Test.YtaidkmnbjbnciaaGreatDoorDecisionTextsZ29
/- One decision's errors: decisionFault of the reference. -/
namespace Go.Proofs.YtaidkmnbjbnciaaGreatDoor
set_option linter.unusedVariables false
set_option linter.unusedSimpArgs false
open Go.RowKit

set_option maxRecDepth 100000 in
set_option maxHeartbeats 4000000 in
theorem dfault_calls (w : World) (vl : Value) (L : LayR) (d : DecR) (no : Int) (hL : LayV w L vl) (hb : LayB L) (hV : Vals w (.slice d.A d.vals.length d.c) d.vals) (hz : DecB d) : Calls Tryz.prog 87 #[vl, .int .i64 no, DecVal d] w (IntPost w (decE L no d)) := by
 have HV := Lib.hid (fun W (h : Pure w W) => valuesRight_calls W vl _ L d.vals (hL.pure h) hb (hV.pure h) (by have := hz.2.2.2.2.2.2.1; omega) hz.2.2.2.2.2.2.2)
 have HK := Lib.hid (fun W (h : Pure w W) => brokenOf_calls W vl _ L d.vals (hL.pure h) (hV.pure h) (by have := hb.2.1; omega) (by have := hz.2.2.2.2.2.2.1; omega) (fun c hc => by have := (hz.2.2.2.2.2.2.2 c hc).2.1; omega))
 unfold BrkPost at HK
 have HR := Lib.hid (fun W => rkeyP_calls W d.rev _ rfl hz.2.2.2.2.1)
 have HI := Lib.hid (fun W => rkeyP_calls W d.item _ rfl hz.2.2.2.2.2.1)
 have HT := Lib.hid (fun W => rin_calls d.at_ 0 5761439 W)
 have HLE : Hid (decE L no d = if d.no ≠ no ∨ inB d.at_ 0 5761439 = false then 1 else if keyB d.rev = false ∨ keyB d.item = false then 5
  else if valsE L d.vals ≠ 0 then valsE L d.vals else if d.vals.length = 0 then 3 else if (brkI L d.vals L.rules.length).length ≠ 0 then 16 else 0) := Lib.hid rfl
 obtain ⟨A, n, c, A2, n2, c2, rfl, hA, hR⟩ := hL
 obtain ⟨dno, dat, drev, ditem, dsec, dA, dc, dv⟩ := d
 simp only at *
 unfold DecVal decC
 simp only
 generalize keyB drev = kr at *
 generalize keyB ditem = ki at *
 generalize inB dat 0 5761439 = ib at *
 generalize valsE L dv = ve at *
 generalize (brkI L dv L.rules.length).length = bl at *
 generalize decE L no ⟨dno, dat, drev, ditem, dsec, dA, dc, dv⟩ = de at *
 generalize dv.length = nv at *
 have HB0 := Lib.hid ((Blk.new w 29 #[.slice A n c, .slice A2 n2 c2]).alloc (.cells #[.int .i64 dno, .int .i64 dat, .string ⟨drev.toArray⟩, .string ⟨ditem.toArray⟩, .bool dsec, .slice dA nv dc] 53))
 have HB1 := Lib.hid (Blk.snd w (.cells #[.slice A n c, .slice A2 n2 c2] 29) 53 #[.int .i64 dno, .int .i64 dat, .string ⟨drev.toArray⟩, .string ⟨ditem.toArray⟩, .bool dsec, .slice dA nv dc])
 have HP0 : Hid (Pure w ((w.alloc (.cells #[.slice A n c, .slice A2 n2 c2] 29)).alloc (.cells #[.int .i64 dno, .int .i64 dat, .string ⟨drev.toArray⟩, .string ⟨ditem.toArray⟩, .bool dsec, .slice dA nv dc] 53))) := Lib.hid ((pure_alloc _ _).trans (pure_alloc _ _))
 have hB0 := HB0.out
 have hB1 := HB1.out
 clear hA hR hV hz hb
 go_enter Tryz.func87, Tryz.ntmps87
 have c0 := hB0.cell 0; have c1 := hB0.cell 1; simp at c0 c1
 have d0 := hB1.cell 0; have d1 := hB1.cell 1; have d2 := hB1.cell 2; have d3 := hB1.cell 3; have d4 := hB1.cell 4; have d5 := hB1.cell 5; simp at d0 d1 d2 d3 d4 d5
 clear hB0 hB1
 by_cases h1 : dno = no
 ·have h1' : (dno != no) = false := by simpa using h1
  subst h1
  go_wp2_with fail
  refine (HT.out _).mono ?_
  rintro e w1 ⟨rfl, rfl⟩
  cases ib
  ·have HL := HLE.out
   rw [if_pos (Or.inr rfl)] at HL
   clear HLE HV HK HR HI HT
   go_wp2_with fail
   go_ret
   exact IntPost.of HL HP0.out
  ·have HL := HLE.out
   rw [if_neg (by simp)] at HL
   clear HT HLE
   have HLE := Lib.hid HL
   clear HL
   go_wp2_with fail
   refine (HR.out _).mono ?_
   rintro e w1 ⟨rfl, hm⟩
   cases kr
   ·have HL := HLE.out
    rw [if_pos (Or.inl rfl)] at HL
    clear HLE HV HK HR HI d0 d1 d2 d3 d4 d5 c0 c1
    have HP := Lib.hid (HP0.out.trans hm)
    clear hm
    go_wp2_with fail
    go_ret
    exact IntPost.of HL HP.out
   ·have hB0 := HB0.out.modp hm
    have hB1 := HB1.out.modp hm
    have HM := Lib.hid (HP0.out.trans hm)
    have HC0 := Lib.hid hB0
    have HC1 := Lib.hid hB1
    clear HR c0 c1 d0 d1 d2 d3 d4 d5 hm HB0 HB1 HP0
    have e0 := hB0.cell 0; have e1 := hB0.cell 1; simp at e0 e1
    have f0 := hB1.cell 0; have f1 := hB1.cell 1; have f2 := hB1.cell 2; have f3 := hB1.cell 3; have f4 := hB1.cell 4; have f5 := hB1.cell 5; simp at f0 f1 f2 f3 f4 f5
    clear hB0 hB1
    go_wp2_with fail
    refine (HI.out _).mono ?_
    rintro e w2 ⟨rfl, hm⟩
    cases ki
    ·have HL := HLE.out
     rw [if_pos (Or.inr rfl)] at HL
     clear HLE HV HK HI e0 e1 f0 f1 f2 f3 f4 f5
     have HP := Lib.hid (HM.out.trans hm)
     clear hm
     go_wp2_with fail
     go_ret
     exact IntPost.of HL HP.out
    ·have hB0 := HC0.out.modp hm
     have hB1 := HC1.out.modp hm
     have HP := Lib.hid (HM.out.trans hm)
     have HC2 := Lib.hid hB0
     have HC3 := Lib.hid hB1
     have HL := HLE.out
     rw [if_neg (by simp)] at HL
     clear HLE HI e0 e1 f0 f1 f2 f3 f4 f5 hm HC0 HC1 HM
     have c0 := hB0.cell 0; have c1 := hB0.cell 1; simp at c0 c1
     have d0 := hB1.cell 0; have d1 := hB1.cell 1; have d2 := hB1.cell 2; have d3 := hB1.cell 3; have d4 := hB1.cell 4; have d5 := hB1.cell 5; simp at d0 d1 d2 d3 d4 d5
     clear hB0 hB1
     have HLE := Lib.hid HL
     have HCV := Lib.hid (HV.out _ HP.out)
     clear HL HV
     go_wp2_with fail
     refine HCV.out.mono ?_
     rintro e w3 ⟨rfl, hm⟩
     have hB0 := HC2.out.modp hm
     have hB1 := HC3.out.modp hm
     have HQ := Lib.hid (HP.out.trans hm)
     have HC4 := Lib.hid hB0
     have HC5 := Lib.hid hB1
     clear HCV c0 c1 d0 d1 d2 d3 d4 d5 hm HC2 HC3 HP
     have e0 := hB0.cell 0; have e1 := hB0.cell 1; simp at e0 e1
     have f0 := hB1.cell 0; have f1 := hB1.cell 1; have f2 := hB1.cell 2; have f3 := hB1.cell 3; have f4 := hB1.cell 4; have f5 := hB1.cell 5; simp at f0 f1 f2 f3 f4 f5
     clear hB0 hB1
     by_cases h2 : ve = 0
     ·subst h2
      have HL := HLE.out
      rw [if_neg (by simp)] at HL
      clear HLE
      have HLE := Lib.hid HL
      clear HL
      by_cases h3 : nv = 0
      ·subst h3
       have HL := HLE.out
       rw [if_pos rfl] at HL
       clear HLE HK
       go_wp2_with fail
       go_ret
       exact IntPost.of HL HQ.out
      ·have h3' : ((nv : Int) == 0) = false := by simpa using h3
       have HL := HLE.out
       rw [if_neg h3] at HL
       clear HLE
       have HLE := Lib.hid HL
       have HKV := Lib.hid (HK.out _ HQ.out)
       have H3 := Lib.hid h3
       clear HL HK h3
       go_wp2_with fail
       refine HKV.out.mono ?_
       rintro e w4 ⟨A8, c8, rfl, _, hm⟩
       have HQ2 := Lib.hid (HQ.out.trans hm)
       clear HKV e0 e1 f0 f1 f2 f3 f4 f5 hm HC4 HC5 HQ
       by_cases h4 : bl = 0
       ·subst h4
        have HL := HLE.out
        rw [if_neg (by simp)] at HL
        clear HLE
        go_wp2_with fail
        go_ret
        exact IntPost.of HL HQ2.out
       ·have h4' : decide (0 < bl) = true := by simpa using Nat.pos_of_ne_zero h4
        have HL := HLE.out
        rw [if_pos h4] at HL
        clear HLE h4
        go_wp2_with fail
        go_ret
        exact IntPost.of HL HQ2.out
     ·have h2' : (ve != 0) = true := by simpa using h2
      have HL := HLE.out
      rw [if_pos h2] at HL
      clear HLE HK h2
      go_wp2_with fail
      go_ret
      exact IntPost.of HL HQ.out
 ·have h1' : (dno != no) = true := by simpa using h1
  have HL := HLE.out
  rw [if_pos (Or.inl h1)] at HL
  clear HLE h1 HV HK HR HI HT
  go_wp2_with fail
  go_ret
  exact IntPost.of HL HP0.out

end Go.Proofs.YtaidkmnbjbnciaaGreatDoor

/- DecisionsFault of the reference. -/
namespace Go.Proofs.YtaidkmnbjbnciaaGreatDoor
set_option linter.unusedVariables false
set_option linter.unusedSimpArgs false
open Go.RowKit

set_option maxRecDepth 100000 in
set_option maxHeartbeats 4000000 in
theorem dsfault_calls (w : World) (vl : Value) (L : LayR) (A3 : Option Addr) (n3 c3 : Nat) (ds : List DecR) (hL : LayV w L vl) (hb : LayB L) (hD : Decs w (.slice A3 n3 c3) ds) (hz : ∀ d ∈ ds, DecB d) (hn : ds.length ≤ 4000) : Calls Tryz.prog 20 #[vl, .slice A3 n3 c3] w (IntPost w (decsE L ds)) := by
 have HLF := Lib.hid (fun W (h : Pure w W) => layoutFault_calls W vl L (hL.pure h) hb)
 have HDF := Lib.hid (fun W (h : Pure w W) (k : Nat) (hk : k < ds.length) (no : Int) => dfault_calls W vl L ds[k] no (hL.pure h) hb ((hD.2 _ (List.getElem_mem hk)).pure h) (hz _ (List.getElem_mem hk)))
 have HLE : Hid (decsE L ds = if layE L ≠ 0 then layE L else if 5000 < ds.length then 2 else errsOf (fun k => decE L ((k : Int) + 1) (ds.getD k decN)) ds.length) := Lib.hid rfl
 have hl := hD.len
 have HD := Lib.hid hD
 obtain ⟨A, n, c, A2, n2, c2, rfl, hA, hR⟩ := hL
 have HB0 := Lib.hid (Blk.new w 29 #[.slice A n c, .slice A2 n2 c2])
 have HP0 := Lib.hid (pure_alloc w (.cells #[.slice A n c, .slice A2 n2 c2] 29))
 generalize decsE L ds = de at *
 generalize layE L = le at *
 clear hA hR hb hD hz
 go_enter Tryz.func20, Tryz.ntmps20
 go_upto_region 1 with (fail)
 generalize (w.alloc (.cells #[.slice A n c, .slice A2 n2 c2] 29)) = w1 at *
 generalize w.heap.size = g1 at *
 have hB0 := HB0.out
 have c0 := hB0.cell 0; have c1 := hB0.cell 1; simp at c0 c1
 clear hB0
 go_wp2_with fail
 refine (HLF.out _ HP0.out).mono ?_
 rintro e w2 ⟨rfl, hm⟩
 have HP1 := Lib.hid (HP0.out.trans hm)
 have HB1 := Lib.hid (HB0.out.modp hm)
 clear HLF c0 c1 hm HB0 HP0
 by_cases h0 : le = 0
 ·subst h0
  have HL := HLE.out
  rw [if_neg (by simp), if_neg (by omega)] at HL
  clear HLE
  have HLE := Lib.hid HL
  clear HL
  have hn5 : ¬ (5000 : Int) < (n3 : Int) := by omega
  go_wp2_with fail
  clear hn5
  go_loopg [19] n3 (fun gk i wr => ∃ k : Nat, n3 - k = gk ∧ k ≤ n3 ∧ i = .int .i64 (k : Int) ∧ errsFrom (fun k => decE L ((k : Int) + 1) (ds.getD k decN)) ds.length k = de ∧ Pure w2 wr)
  case atStart => exact ⟨0, by omega, by omega, rfl, HLE.out.symm, Mod.refl _ _⟩
  case round =>
   obtain ⟨k, rfl, hk, rfl, hix, hm⟩ := hrel
   have hm0 := HP1.out.trans hm
   by_cases hlt : k < n3
   ·have hkl : k < ds.length := by omega
    have hi2 := errsFrom_step (fun k => decE L ((k : Int) + 1) (ds.getD k decN)) hkl
    rw [hix] at hi2
    simp only [show ds.getD k decN = ds[k] by simp [List.getD, hkl]] at hi2
    have HI2 := Lib.hid hi2
    have HDk := Lib.hid (fun W (h : Pure w W) => HDF.out W h k hkl ((k : Int) + 1))
    obtain ⟨g, off, rfl, q0, q1, q2, q3, q4, q5⟩ := (HD.out.pure hm0).cells hkl
    have hBw := HB1.out.modp hm
    clear hi2 hix
    generalize ds[k] = x at *
    obtain ⟨xno, xat, xrev, xitem, xsec, xA, xc, xv⟩ := x
    simp only at q0 q1 q2 q3 q4 q5
    unfold DecVal decC at HDk
    simp only at HDk
    have HXB := Lib.hid (Blk.new wr 53 #[.int .i64 xno, .int .i64 xat, .string ⟨xrev.toArray⟩, .string ⟨xitem.toArray⟩, .bool xsec, .slice xA xv.length xc])
    have HPA := Lib.hid (hm0.alloc (.cells #[.int .i64 xno, .int .i64 xat, .string ⟨xrev.toArray⟩, .string ⟨xitem.toArray⟩, .bool xsec, .slice xA xv.length xc] 53))
    have HPW := Lib.hid (hm.alloc (.cells #[.int .i64 xno, .int .i64 xat, .string ⟨xrev.toArray⟩, .string ⟨xitem.toArray⟩, .bool xsec, .slice xA xv.length xc] 53))
    have HBA := Lib.hid (hBw.alloc (.cells #[.int .i64 xno, .int .i64 xat, .string ⟨xrev.toArray⟩, .string ⟨xitem.toArray⟩, .bool xsec, .slice xA xv.length xc] 53))
    have hBw1 := hBw
    have c0 := hBw1.cell 0; have c1 := hBw1.cell 1; simp at c0 c1
    clear hBw hBw1 hm hm0
    generalize decE L ((k : Int) + 1) ⟨xno, xat, xrev, xitem, xsec, xA, xc, xv⟩ = xe at *
    go_upto_region 9 with (fail)
    generalize (wr.alloc (.cells #[.int .i64 xno, .int .i64 xat, .string ⟨xrev.toArray⟩, .string ⟨xitem.toArray⟩, .bool xsec, .slice xA xv.length xc] 53)) = w3 at *
    generalize wr.heap.size = g3 at *
    have hx1 := HXB.out
    have hx2 := HBA.out
    clear c0 c1 q0 q1 q2 q3 q4 q5
    have d0 := hx1.cell 0; have d1 := hx1.cell 1; have d2 := hx1.cell 2; have d3 := hx1.cell 3; have d4 := hx1.cell 4; have d5 := hx1.cell 5; simp at d0 d1 d2 d3 d4 d5
    have c0 := hx2.cell 0; have c1 := hx2.cell 1; simp at c0 c1
    clear hx1 hx2
    have HDC := Lib.hid (HDk.out _ HPA.out)
    have hk9 : k ≤ 4000 := by omega
    go_wp2_with fail
    refine HDC.out.mono ?_
    rintro e w4 ⟨rfl, hm4⟩
    have HM4 := Lib.hid (HPA.out.trans hm4)
    have HM5 := Lib.hid (HPW.out.trans hm4)
    clear HDC HDk d0 d1 d2 d3 d4 d5 c0 c1 hm4
    by_cases hx : xe = 0
    ·subst hx
     have HN := HI2.out
     rw [if_pos rfl] at HN
     have HN2 := Lib.hid HN
     clear HI2 HN
     go_wp2_with fail
     go_roundg (n3 - (k + 1))
     case measure => omega
     case rel => exact ⟨k + 1, rfl, by omega, by simp, HN2.out.symm, HM5.out⟩
    ·have hx' : (xe != 0) = true := by simpa using hx
     have HN := HI2.out
     rw [if_neg hx] at HN
     have HN2 := Lib.hid HN
     clear HI2 HN hx
     go_wp2_with fail
     go_ret
     exact IntPost.of HN2.out HM4.out
   ·obtain rfl : k = n3 := by omega
    have HZ : Hid (de = 0) := Lib.hid (by rw [← hix, ← hl]; exact errsFrom_end _ _)
    have HM := Lib.hid hm0
    clear hix hm hm0 HDF HD HLE
    go_wp2_with fail
    go_ret
    exact IntPost.of HZ.out HM.out
 ·have h0' : (le != 0) = true := by simpa using h0
  have HL := HLE.out
  rw [if_pos h0] at HL
  clear HLE h0 HDF
  go_wp2_with fail
  go_ret
  exact IntPost.of HL HP1.out

end Go.Proofs.YtaidkmnbjbnciaaGreatDoor

/- Check of the program. -/
namespace Go.Proofs.YtaidkmnbjbnciaaGreatDoor
set_option linter.unusedVariables false
set_option linter.unusedSimpArgs false
open Go.RowKit

set_option maxRecDepth 100000 in
set_option maxHeartbeats 4000000 in
theorem dcheck_calls (w : World) (vl : Value) (L : LayR) (A3 : Option Addr) (n3 c3 : Nat) (ds : List DecR) (hL : LayV w L vl) (hb : LayB L) (hD : Decs w (.slice A3 n3 c3) ds) (hz : ∀ d ∈ ds, DecB d) (hn : ds.length ≤ 4000) : Calls Tryz.prog 82 #[vl, .slice A3 n3 c3] w (IntPost w (decsE L ds)) := by
 have HLF := Lib.hid (fun W (h : Pure w W) => checkLayout_calls W vl L (hL.pure h) hb)
 have HDF := Lib.hid (fun W (h : Pure w W) (k : Nat) (hk : k < ds.length) => derror_calls W vl L ds[k] k (by omega) (hL.pure h) hb ((hD.2 _ (List.getElem_mem hk)).pure h) (hz _ (List.getElem_mem hk)))
 have HLE : Hid (decsE L ds = if layE L ≠ 0 then layE L else if 5000 < ds.length then 2 else errsOf (fun k => decE L ((k : Int) + 1) (ds.getD k decN)) ds.length) := Lib.hid rfl
 have hl := hD.len
 have HD := Lib.hid hD
 obtain ⟨A, n, c, A2, n2, c2, rfl, hA, hR⟩ := hL
 have HB0 := Lib.hid (Blk.new w 29 #[.slice A n c, .slice A2 n2 c2])
 have HP0 := Lib.hid (pure_alloc w (.cells #[.slice A n c, .slice A2 n2 c2] 29))
 generalize decsE L ds = de at *
 generalize layE L = le at *
 clear hA hR hb hD hz
 go_enter Tryz.func82, Tryz.ntmps82
 go_upto_region 1 with (fail)
 generalize (w.alloc (.cells #[.slice A n c, .slice A2 n2 c2] 29)) = w1 at *
 generalize w.heap.size = g1 at *
 have hB0 := HB0.out
 have c0 := hB0.cell 0; have c1 := hB0.cell 1; simp at c0 c1
 clear hB0
 go_wp2_with fail
 refine (HLF.out _ HP0.out).mono ?_
 rintro e w2 ⟨rfl, hm⟩
 have HP1 := Lib.hid (HP0.out.trans hm)
 have HB1 := Lib.hid (HB0.out.modp hm)
 clear HLF c0 c1 hm HB0 HP0
 have HF1 : Hid (∀ (W : World) (g : Nat), Blk W g 31 #[.int .i64 le, .int .i64 0] → Calls Tryz.prog 88 #[.slice (some ⟨g, 0, none⟩) 2 2] W (IntPost W le)) := Lib.hid (fun W g h => by
  have := firstE_calls W g 2 [le, 0] h.row0 (by simp)
  rwa [show firstErr [le, 0] = le by simp [firstErr]; intro h; exact h.symm] at this)
 have hn5 : ¬ (5000 : Int) < (n3 : Int) := by omega
 go_wp2_with fail
 refine (whenQ_calls _ _ _ 0 (by simp; omega)).mono ?_
 rintro e w3 ⟨rfl, hm⟩
 have HP2 := Lib.hid (HP1.out.trans hm)
 have HB2 := Lib.hid (HB1.out.modp hm)
 clear hm HP1 HB1
 go_wp2_with fail
 refine (HF1.out _ _ (Blk.new' rfl)).mono ?_
 rintro e w4 ⟨rfl, hm⟩
 have HP1 := Lib.hid (HP2.out.trans ((pure_alloc _ _).trans hm))
 have HB1 := Lib.hid ((HB2.out.alloc _).modp hm)
 clear hm HP2 HB2 HF1
 by_cases h0 : le = 0
 ·subst h0
  have HL := HLE.out
  rw [if_neg (by simp), if_neg (by omega)] at HL
  clear HLE
  have HLE := Lib.hid HL
  clear HL
  go_wp2_with fail
  go_loopg [22] n3 (fun gk i wr => ∃ k : Nat, n3 - k = gk ∧ k ≤ n3 ∧ i = .int .i64 (k : Int) ∧ errsFrom (fun k => decE L ((k : Int) + 1) (ds.getD k decN)) ds.length k = de ∧ Pure w4 wr)
  case atStart => exact ⟨0, by omega, by omega, rfl, HLE.out.symm, Mod.refl _ _⟩
  case round =>
   obtain ⟨k, rfl, hk, rfl, hix, hm⟩ := hrel
   have hm0 := HP1.out.trans hm
   by_cases hlt : k < n3
   ·have hkl : k < ds.length := by omega
    have hi2 := errsFrom_step (fun k => decE L ((k : Int) + 1) (ds.getD k decN)) hkl
    rw [hix] at hi2
    simp only [show ds.getD k decN = ds[k] by simp [List.getD, hkl]] at hi2
    have HI2 := Lib.hid hi2
    have HDk := Lib.hid (fun W (h : Pure w W) => HDF.out W h k hkl)
    obtain ⟨g, off, rfl, q0, q1, q2, q3, q4, q5⟩ := (HD.out.pure hm0).cells hkl
    have hBw := HB1.out.modp hm
    clear hi2 hix
    generalize ds[k] = x at *
    obtain ⟨xno, xat, xrev, xitem, xsec, xA, xc, xv⟩ := x
    simp only at q0 q1 q2 q3 q4 q5
    unfold DecVal decC at HDk
    simp only at HDk
    have HXB := Lib.hid (Blk.new wr 53 #[.int .i64 xno, .int .i64 xat, .string ⟨xrev.toArray⟩, .string ⟨xitem.toArray⟩, .bool xsec, .slice xA xv.length xc])
    have HPA := Lib.hid (hm0.alloc (.cells #[.int .i64 xno, .int .i64 xat, .string ⟨xrev.toArray⟩, .string ⟨xitem.toArray⟩, .bool xsec, .slice xA xv.length xc] 53))
    have HPW := Lib.hid (hm.alloc (.cells #[.int .i64 xno, .int .i64 xat, .string ⟨xrev.toArray⟩, .string ⟨xitem.toArray⟩, .bool xsec, .slice xA xv.length xc] 53))
    have HBA := Lib.hid (hBw.alloc (.cells #[.int .i64 xno, .int .i64 xat, .string ⟨xrev.toArray⟩, .string ⟨xitem.toArray⟩, .bool xsec, .slice xA xv.length xc] 53))
    have hBw1 := hBw
    have c0 := hBw1.cell 0; have c1 := hBw1.cell 1; simp at c0 c1
    clear hBw hBw1 hm hm0
    generalize decE L ((k : Int) + 1) ⟨xno, xat, xrev, xitem, xsec, xA, xc, xv⟩ = xe at *
    go_upto_region 7 with (fail)
    generalize (wr.alloc (.cells #[.int .i64 xno, .int .i64 xat, .string ⟨xrev.toArray⟩, .string ⟨xitem.toArray⟩, .bool xsec, .slice xA xv.length xc] 53)) = w3 at *
    generalize wr.heap.size = g3 at *
    have hx1 := HXB.out
    have hx2 := HBA.out
    clear c0 c1 q0 q1 q2 q3 q4 q5
    have d0 := hx1.cell 0; have d1 := hx1.cell 1; have d2 := hx1.cell 2; have d3 := hx1.cell 3; have d4 := hx1.cell 4; have d5 := hx1.cell 5; simp at d0 d1 d2 d3 d4 d5
    have c0 := hx2.cell 0; have c1 := hx2.cell 1; simp at c0 c1
    clear hx1 hx2
    have HDC := Lib.hid (HDk.out _ HPA.out)
    have hk9 : k ≤ 4000 := by omega
    go_wp2_with fail
    refine HDC.out.mono ?_
    rintro e w4 ⟨rfl, hm4⟩
    have HM4 := Lib.hid (HPA.out.trans hm4)
    have HM5 := Lib.hid (HPW.out.trans hm4)
    clear HDC HDk d0 d1 d2 d3 d4 d5 c0 c1 hm4
    by_cases hx : xe = 0
    ·subst hx
     have HN := HI2.out
     rw [if_pos rfl] at HN
     have HN2 := Lib.hid HN
     clear HI2 HN
     go_wp2_with fail
     go_roundg (n3 - (k + 1))
     case measure => omega
     case rel => exact ⟨k + 1, rfl, by omega, by simp, HN2.out.symm, HM5.out⟩
    ·have hx' : (xe != 0) = true := by simpa using hx
     have HN := HI2.out
     rw [if_neg hx] at HN
     have HN2 := Lib.hid HN
     clear HI2 HN hx
     go_wp2_with fail
     go_ret
     exact IntPost.of HN2.out HM4.out
   ·obtain rfl : k = n3 := by omega
    have HZ : Hid (de = 0) := Lib.hid (by rw [← hix, ← hl]; exact errsFrom_end _ _)
    have HM := Lib.hid hm0
    clear hix hm hm0 HDF HD HLE
    go_wp2_with fail
    go_ret
    exact IntPost.of HZ.out HM.out
 ·have h0' : (le != 0) = true := by simpa using h0
  have HL := HLE.out
  rw [if_pos h0] at HL
  clear HLE h0 HDF
  go_wp2_with fail
  go_ret
  exact IntPost.of HL HP1.out

end Go.Proofs.YtaidkmnbjbnciaaGreatDoor
