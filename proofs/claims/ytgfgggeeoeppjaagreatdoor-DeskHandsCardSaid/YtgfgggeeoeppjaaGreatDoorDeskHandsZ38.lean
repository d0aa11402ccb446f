/- Texts of the proof of DeskHands, put together: ItmJ, DskU, Del1, DskH, DskI, DskJ, DskD, DskK, DskV, DskF, DskG. -/
import Derived.Test.YtgfgggeeoeppjaaGreatDoorDeskHandsZ19
import Derived.Test.YtgfgggeeoeppjaaGreatDoorDeskHandsZ37
import Derived.Lib.SliceRun
import Derived.Sort.Grow
set_option linter.unusedVariables false
set_option linter.unusedSimpArgs false
set_option maxRecDepth 100000
/- Items of the reference: ItemsFault. -/
namespace Go.Proofs.YtgfgggeeoeppjaaGreatDoor
open Go.RowKit
def Jf1 (w : World) (xs : List Itm) (gk : Nat) (lv i : Value) (wr : World) : Prop := ∃ k : Nat, xs.length - k = gk ∧ k ≤ xs.length ∧ lv = .string ⟨(pid xs k).toArray⟩ ∧ i = .int .i64 (k : Int) ∧ ordE itemE (pid xs k) (xs.drop k) = ordE itemE [] xs ∧ Pure w wr
def Jf2 (w : World) (xs : List Itm) (gk : Nat) (i : Value) (wr : World) : Prop := ∃ k : Nat, xs.length - k = gk ∧ k ≤ xs.length ∧ i = .int .i64 (k : Int) ∧ (xs.take k).any (missB xs) = false ∧ Pure w wr
theorem missB_plcZ (l : List Itm) (x : Itm) : missB l x = (!x.par.isEmpty && decide (plcZ l x.par < 0)) := by
 unfold missB plcZ;rw [show decide (x.par ≠ []) = !x.par.isEmpty by cases x.par <;> simp]
 cases plc l x.par with
 | none => rfl
 | some k =>
  rw [show decide (((k : Nat) : Int) < 0) = false by simp]
  rfl
set_option maxHeartbeats 8000000 in
theorem itemsFault_calls (w : World) (v : Value) (xs : List Itm) (hv : Its w v xs) (hz : ∀ x ∈ xs, ItB x) (hl : xs.length ≤ 2000) (hE : Env w) : Calls Tryz.prog 30 #[v] w (IntPost w (itsE itemE xs)) := by
 obtain ⟨A, n, c, rfl, hc1, hc2, hl2, hr⟩ := hv
 have hln : xs.length = n := by rw [itV_len] at hl2; omega
 subst hln;have HTF := Lib.hid (fun W (h : Pure w W) => treeFault_calls W (.slice A xs.length c) xs (Its.pure ⟨A, xs.length, c, rfl, hc1, hc2, hl2, hr⟩ h) (by omega));have HPL := Lib.hid (fun W (h : Pure w W) s => place_calls W (.slice A xs.length c) xs s (Its.pure ⟨A, xs.length, c, rfl, hc1, hc2, hl2, hr⟩ h));have HR := Lib.hid hr;have HZ := Lib.hid hz;have HE := Lib.hid hE;have HIE : Hid (itsE itemE xs = if ordE itemE [] xs ≠ 0 then ordE itemE [] xs else if xs.any (missB xs) then 8 else treeE xs) := Lib.hid (by unfold itsE; rw [if_neg (by omega)])
 have n1 : ¬ ((2000 : Int) < (xs.length : Int)) := by omega
 have m0 : Pure w w := Mod.refl _ _;clear hl2 hr hz hE
 go_enter Tryz.func30, Tryz.ntmps30
 go_wp2_with fail
 go_loopg [3, 14] xs.length (fun gk lv i wr => Jf1 w xs gk lv i wr)
 case atStart => exact ⟨0, by omega, by omega, rfl, rfl, rfl, m0⟩
 case round =>
  clear m0;obtain ⟨k, rfl, hk, rfl, rfl, hord, hm⟩ := hrel
  by_cases hlt : k < xs.length
  ·obtain ⟨g, off, rfl, hrow⟩ := HR.out (by omega);obtain ⟨q0, q1, q2, q3, q4, q5, q6⟩ := item_cells (hrow.mod hm id) hlt;have HST := Lib.hid (ordE_step (E := itemE) hlt (pid xs k));rw [hord] at HST;have HPI := Lib.hid (pid_succ hlt);have HIF := Lib.hid (itemFault_calls (wr.alloc (.cells (itQ xs[k]) 79)) xs[k] (HZ.out _ (List.getElem_mem hlt)) (HE.out.pure (hm.alloc _)));have HB0 := Lib.hid (Blk.new wr 79 (itQ xs[k]));have Hm0 := Lib.hid (hm.alloc (.cells (itQ xs[k]) 79));obtain ⟨p, hp⟩ : ∃ p, pid xs k = p := ⟨_, rfl⟩;rw [hp] at HST ⊢;clear hrow hord hm hp;generalize xs[k] = x at *;obtain ⟨e1, he1⟩ : ∃ e1, itemE x = e1 := ⟨_, rfl⟩;rw [he1] at HST HIF;clear he1;unfold itA at HIF;unfold itQ at HIF HB0 Hm0
   go_wp2_with fail
   refine HIF.out.mono ?_;rintro e w1 ⟨rfl, m1⟩;have B1 := HB0.out.mod m1 id;have m2 := Hm0.out.trans m1;clear HIF HB0 Hm0 m1 q0 q1 q2 q3 q4 q5 q6;generalize wr.heap.size = gs at *
   by_cases he0 : e1 = 0
   ·subst he0;have c0 := B1.cell 0; have c1 := B1.cell 1; have c2 := B1.cell 2; have c3 := B1.cell 3; have c4 := B1.cell 4; have c5 := B1.cell 5; have c6 := B1.cell 6; simp at c0 c1 c2 c3 c4 c5 c6;clear B1
    cases hle : leS x.id p
    ·have hle2 : (Op.bytesLess x.id p || x.id == p) = false := hle
     have HS1 : Hid (ordE itemE [] xs = ordE itemE x.id (xs.drop (k + 1))) := Lib.hid (by
      rw [HST.out, if_neg (by simp), if_neg];intro h;rw [leS_iff.2 h] at hle
      cases hle)
     clear HST hle
     go_wp2_with fail
     go_roundg (xs.length - (k + 1))
     case measure => omega
     case rel => exact ⟨k + 1, rfl, by omega, by rw [HPI.out], by simp, by rw [HPI.out, HS1.out], m2⟩
    ·have hle2 : (Op.bytesLess x.id p || x.id == p) = true := hle
     have HF : Hid (itsE itemE xs = 7) := Lib.hid (by
      have : ordE itemE [] xs = 7 := by rw [HST.out, if_neg (by simp), if_pos (leS_iff.1 hle)]
      rw [HIE.out, this]
      rfl)
     clear HST hle HIE
     go_wp2_with fail
     go_ret;exact IntPost.of HF.out m2
   ·have he0' : (e1 != 0) = true := by simpa using he0
    have HF : Hid (itsE itemE xs = e1) := Lib.hid (by
     have : ordE itemE [] xs = e1 := by rw [HST.out, if_pos he0]
     rw [HIE.out, this, if_pos he0])
    clear HST HIE B1
    go_wp2_with fail
    go_ret;exact IntPost.of HF.out m2
  ·have hke : k = xs.length := by omega
   have ho : ordE itemE [] xs = 0 := by
    rw [← hord, hke, List.drop_of_length_le (Nat.le_refl _)]
    rfl
   have HIE2 : Hid (itsE itemE xs = if xs.any (missB xs) then 8 else treeE xs) := Lib.hid (by rw [HIE.out, ho]; rfl);clear ho HIE hord hke
   go_wp2_with fail
   go_loopg [32] xs.length (fun gk i wr => Jf2 w xs gk i wr)
   case atStart => exact ⟨0, by omega, by omega, rfl, rfl, hm⟩
   case round =>
    clear hm hlt hk;obtain ⟨k, rfl, hk, rfl, hno, hm⟩ := hrel
    by_cases hlt : k < xs.length
    ·obtain ⟨g, off, rfl, hrow⟩ := HR.out (by omega);obtain ⟨q0, q1, q2, q3, q4, q5, q6⟩ := item_cells (hrow.mod hm id) hlt;have HTK := Lib.hid (any_take_snoc (missB xs) xs k hlt);rw [hno] at HTK;have HAT := Lib.hid (fun h => any_of_at (p := missB xs) hlt h);have HMF := Lib.hid (missB_plcZ xs xs[k]);have HPK := Lib.hid (HPL.out (wr.alloc (.cells (itQ xs[k]) 79)) (hm.alloc _) xs[k].par);have Hm0 := Lib.hid (hm.alloc (.cells (itQ xs[k]) 79));clear hrow hno hm;generalize xs[k] = x at *;obtain ⟨z, hz⟩ : ∃ z, plcZ xs x.par = z := ⟨_, rfl⟩;rw [hz] at HMF HPK;clear hz;unfold itQ at HPK Hm0
     cases he : x.par.isEmpty
     ·rw [he] at HMF
      by_cases hz0 : z < 0
      ·have HF : Hid (itsE itemE xs = 8) := Lib.hid (by rw [HIE2.out, HAT.out (by rw [HMF.out, decide_eq_true hz0]; rfl)]; rfl);clear HTK HAT HMF
       go_wp2_with fail
       refine HPK.out.mono ?_;rintro e w1 ⟨rfl, m1⟩;have m2 := Hm0.out.trans m1;clear HPK
       go_wp2_with fail
       go_ret;exact IntPost.of HF.out m2
      ·have HN : Hid ((xs.take (k + 1)).any (missB xs) = false) := Lib.hid (by rw [HTK.out, HMF.out, decide_eq_false hz0]; rfl);clear HTK HAT HMF
       go_wp2_with fail
       refine HPK.out.mono ?_;rintro e w1 ⟨rfl, m1⟩;have m2 := Hm0.out.trans m1;clear HPK
       go_wp2_with fail
       go_roundg (xs.length - (k + 1))
       case measure => omega
       case rel => exact ⟨k + 1, rfl, by omega, by simp, HN.out, m2⟩
     ·rw [he] at HMF;have HN : Hid ((xs.take (k + 1)).any (missB xs) = false) := Lib.hid (by rw [HTK.out, HMF.out]; rfl);clear HTK HAT HMF HPK
      go_wp2_with fail
      go_roundg (xs.length - (k + 1))
      case measure => omega
      case rel => exact ⟨k + 1, rfl, by omega, by simp, HN.out, Hm0.out⟩
    ·obtain rfl : k = xs.length := by omega
     rw [List.take_length] at hno;have HF : Hid (itsE itemE xs = treeE xs) := Lib.hid (by rw [HIE2.out, hno]; rfl);have HT := Lib.hid (HTF.out _ hm);rw [← HF.out] at HT;clear HIE2 hno HTF HPL
     go_wp2_with fail
     refine HT.out.mono ?_;rintro e w1 ⟨rfl, m1⟩
     go_wp2_with fail
     go_ret;exact IntPost.of rfl (hm.trans m1)
end Go.Proofs.YtgfgggeeoeppjaaGreatDoor
/- DeskFault of the reference. -/
namespace Go.Proofs.YtgfgggeeoeppjaaGreatDoor
open Go.RowKit
theorem top_plc {its : List Itm} (hR : Right its) {s : Str} : s ∈ (famsS its).map (·.1) ↔ ∃ k, ∃ hk : k < its.length, plc its s = some k ∧ its[k].par = [] := by
 unfold famsS;rw [List.map_map, List.mem_map]
 constructor
 ·rintro ⟨t, ht, he⟩;have hl := (mem_topsI.1 ht).1
  have he2 : its[t].id = s := by rw [← idAt2_eq hl]; exact he
  refine ⟨t, hl, by rw [← he2]; exact plc_self hR.distinct t hl, ?_⟩;exact (hR.top_iff hl).1 (mem_topsI.1 ht).2
 ·rintro ⟨k, hk, hp, hpar⟩;refine ⟨k, mem_topsI.2 ⟨hk, (hR.top_iff hk).2 hpar⟩, ?_⟩;obtain ⟨_, h2⟩ := plc_lt its s k hp
  show idAt2 its k = s
  rw [idAt2_eq hk, h2]
set_option maxHeartbeats 8000000 in
theorem deskFault_calls (w : World) (vi : Value) (its : List Itm) (hI : Its w vi its) (hz : ∀ x ∈ its, ItB x) (hn : its.length ≤ 12) (hE : Env w) (OA : Option Addr) (on oc : Nat) (order : List Str) (ho : Sl w 9 1 (.slice OA on oc) (strsV order)) (hol : order.length ≤ 12) :
  Calls Tryz.prog 11 #[vi, .slice OA on oc] w (IntPost w (nwE its order)) := by
 have hon := Sl.lenS ho;subst hon;have HIF := Lib.hid (itemsFault_calls w vi its hI hz (by omega) hE);have HPL := Lib.hid (fun W (h : Pure w W) s => place_calls W vi its s (hI.pure h));have HRI : Hid (itsE itemE its = 0 → Right its) := Lib.hid right_items;have HNE : Hid (nwE its order = if itsE itemE its ≠ 0 then itsE itemE its else ofE ((famsS its).map (·.1)) order []) := Lib.hid rfl;obtain ⟨_, _, _, e0, hoc1, hoc2, _, hor⟩ := ho
 cases e0
 have HOW := Lib.hid hor;obtain ⟨IA, inn, ic, rfl⟩ := Sl.form hI
 have hil : its.length = inn := by
  obtain ⟨_, _, _, e, _, _, h, _⟩ := hI
  cases e
  rw [itV_len] at h
  omega
 subst hil
 have HRW : Hid (0 < its.length → ∃ g off, IA = some ⟨g, off, none⟩ ∧ RowAt w 79 g off (itV its)) := Lib.hid (by
  obtain ⟨_, _, _, e, _, _, _, h⟩ := hI
  cases e
  exact h)
 generalize nwE its order = ef at *;obtain ⟨ie, hie⟩ : ∃ ie, itsE itemE its = ie := ⟨_, rfl⟩;rw [hie] at HIF HRI HNE;clear hor hI hz hE hie
 go_enter Tryz.func11, Tryz.ntmps11
 go_wp2_with fail
 refine HIF.out.mono ?_;rintro e w1 ⟨rfl, hm1⟩
 by_cases h0 : ie = 0
 rotate_left
 ·have h0' : (ie != 0) = true := by simpa using h0
  have HQ := Lib.hid (show ef = ie by rw [HNE.out, if_pos h0]);clear h0
  go_wp2_with fail
  go_ret;exact IntPost.of HQ.out hm1
 subst h0;have HR := Lib.hid (HRI.out (by first | rfl | trivial));have HNE2 := Lib.hid (show ef = ofE ((famsS its).map (·.1)) order [] by rw [HNE.out, if_neg (by simp)]);have HM1 := Lib.hid hm1;clear HNE HRI hm1
 go_wp2_with fail
 go_loopg [16] order.length (fun gk i wr => ∃ k : Nat, order.length - k = gk ∧ k ≤ order.length ∧ i = .int .i64 (k : Int) ∧ ef = ofE ((famsS its).map (·.1)) (order.drop k) (order.take k) ∧ (∀ x ∈ order.take k, x ∈ (famsS its).map (·.1)) ∧ Pure w wr)
 case atStart => exact ⟨0, by omega, by omega, rfl, HNE2.out, by simp, HM1.out⟩
 case round =>
  clear HNE2 HM1;obtain ⟨k, rfl, hk, rfl, hef, hall, hm⟩ := hrel;have HM := Lib.hid hm
  by_cases hlt : k < order.length
  ·obtain ⟨gx, ox, rfl, hrow⟩ := HOW.out (by omega);have hq := (hrow.mod hm id).cell (strsV_get order k hlt);have HSK := Lib.hid (slTake (hrow.mod hm id) (k := k) (by omega) (Nat.le_trans (Nat.le_of_lt hlt) hoc1) hoc2);have HOE := Lib.hid (by have h := hef.trans (ofE_step _ order hlt); rw [ofE_turn hall] at h; exact h);have HTT := Lib.hid (List.take_succ_eq_append_getElem hlt);have HALL := Lib.hid hall;have HC2 := Lib.hid (fun (W : World) (h : Pure wr W) (s : Str) => by have := containsSq_calls W _ (order.take k) s (HSK.out.pure h); rwa [any_eq_mem] at this)
   have i1 : (k : Int) ≤ (oc : Int) := by omega
   clear hrow hef hall;generalize order[k] = s at *;have HP := Lib.hid (HPL.out wr hm s);have HTP := Lib.hid (top_plc HR.out (s := s));clear hm;unfold plcZ at HP
   cases hp : plc its s with
   | none =>
    have hns : s ∉ (famsS its).map (·.1) := fun h => by
     obtain ⟨k2, _, h2, _⟩ := HTP.out.1 h;rw [hp] at h2; cases h2
    have HQ := Lib.hid (show ef = 8 by rw [HOE.out, if_pos hns]);simp only [hp] at HP;clear HOE hns hp HTP HC2
    go_wp2_with fail
    refine HP.out.mono ?_;rintro e w2 ⟨rfl, hm2⟩;have HM2 := Lib.hid (HM.out.trans hm2)
    go_wp2_with fail
    go_ret;exact IntPost.of HQ.out HM2.out
   | some q =>
    simp only [hp] at HP;obtain ⟨hql, _⟩ := plc_lt its s q hp;obtain ⟨gi, oi, rfl, hir⟩ := HRW.out (by omega)
    have i2 : (q : Int) < (its.length : Int) := by omega
    by_cases hpar : its[q].par = []
    ·have hts : s ∈ (famsS its).map (·.1) := HTP.out.2 ⟨q, hql, hp, hpar⟩;have HOE2 := Lib.hid (show ef = if s ∈ order.take k then 6 else ofE ((famsS its).map (·.1)) (order.drop (k + 1)) (order.take (k + 1)) by rw [HOE.out, if_neg (by simpa using hts)]);have HTS := Lib.hid hts;have HIC := Lib.hid (fun (W : World) (h : Pure w W) => by have := item_cells (hir.mod h id) hql; rw [hpar] at this; exact this.2.2.2.2.2.1);clear HOE hp HTP hts hir hpar
     go_wp2_with fail
     refine HP.out.mono ?_;rintro e w2 ⟨rfl, hm2⟩;have p5 := HIC.out w2 (HM.out.trans hm2);obtain ⟨b2, hb2⟩ : ∃ b2, decide (s ∈ order.take k) = b2 := ⟨_, rfl⟩;have HCN := Lib.hid (HC2.out w2 hm2 s);rw [hb2] at HCN;have HB2 := Lib.hid hb2;have HM2 := Lib.hid (HM.out.trans hm2);clear hb2 HC2 hm2 HP HIC
     go_wp2_with fail
     refine HCN.out.mono ?_;rintro e w3 ⟨rfl, hm3⟩;have HM3 := Lib.hid (HM2.out.trans hm3);clear hm3 HCN
     cases b2
     ·have HQ := Lib.hid (show ef = ofE ((famsS its).map (·.1)) (order.drop (k + 1)) (order.take (k + 1)) by rw [HOE2.out, if_neg (of_decide_eq_false HB2.out)]);clear HOE2
      go_wp2_with fail
      go_roundg (order.length - (k + 1))
      case measure => omega
      case rel =>
       refine ⟨k + 1, rfl, by omega, by simp, HQ.out, fun x hx => ?_, HM3.out⟩;rw [HTT.out] at hx
       rcases List.mem_append.1 hx with hx | hx
       ·exact HALL.out x hx
       ·rw [List.mem_singleton.1 hx]; exact HTS.out
     ·have HQ := Lib.hid (show ef = 6 by rw [HOE2.out, if_pos (of_decide_eq_true HB2.out)]);clear HOE2
      go_wp2_with fail
      go_ret;exact IntPost.of HQ.out HM3.out
    ·have hts : s ∉ (famsS its).map (·.1) := fun h => by
      obtain ⟨k2, _, h2, h3⟩ := HTP.out.1 h;rw [hp] at h2
      obtain rfl : q = k2 := by injection h2
      exact hpar h3
     have HQ := Lib.hid (show ef = 8 by rw [HOE.out, if_pos hts]);have HIC := Lib.hid (fun (W : World) (h : Pure w W) => (item_cells (hir.mod h id) hql).2.2.2.2.2.1);have HPR := Lib.hid hpar
     have hpn : (its[q].par.isEmpty) = false := by cases h : its[q].par <;> simp_all
     clear HOE hp HTP hts hir hpar HC2;generalize its[q].par = pr at *
     go_wp2_with fail
     refine HP.out.mono ?_;rintro e w2 ⟨rfl, hm2⟩;have p5 := HIC.out w2 (HM.out.trans hm2);have HM2 := Lib.hid (HM.out.trans hm2);clear HP HIC hm2
     go_wp2_with fail
     go_ret;exact IntPost.of HQ.out HM2.out
  ·obtain rfl : k = order.length := by omega
   have HQ := Lib.hid (show ef = 0 by rw [hef, List.drop_of_length_le (Nat.le_refl _)]; rfl);clear hef hall hm
   go_wp2_with fail
   go_ret;exact IntPost.of HQ.out HM.out
end Go.Proofs.YtgfgggeeoeppjaaGreatDoor
/- slices.DeleteFunc of strings, with a function of one capture. -/
namespace Go.Proofs.YtgfgggeeoeppjaaGreatDoor
open Go.RowKit
set_option maxHeartbeats 4000000 in
theorem deleteS1_calls (w : World) (base g cap n : Nat) (xs : List Str) (F : Nat) (c1 : Value) (P : Str → Bool) (hn : n ≤ 1000000) (hown : w.ownsRow base 9 1 (.slice (some ⟨g, 0, none⟩) n cap) n (strsV xs))
  (hcf : ∀ (x : Str) (W : World), Sem.run Tryz.prog (callFunc F #[.string ⟨x.toArray⟩, c1]) W = .ok (.enter F #[.string ⟨x.toArray⟩, c1]) W)
  (hF : ∀ (x : Str) (W : World), x ∈ xs → Mod (fun j => j = g) w W → Calls Tryz.prog F #[.string ⟨x.toArray⟩, c1] W (BoolPost W (P x))) :
  Calls Tryz.prog 120 #[.slice (some ⟨g, 0, none⟩) n cap, .func (.func F) #[] #[c1]] w (DelPost w base g cap (xs.filter fun x => !P x)) := by
 have hlx : xs.length = n := by have := hown.1; simp [strsV] at this; omega
 have HF := Lib.hid hF;have HIF := Lib.hid (indexS1_calls w _ xs F c1 P (Sl.of_own hown) hcf (fun x W hx hm => hF x W hx (Mod.of_pure hm)));have HLX := Lib.hid hlx;clear hF hlx
 have hcap : n ≤ cap ∧ cap ≤ 9223372036854775807 := by
  rcases hown.2 with ⟨h0, _⟩ | ⟨g', cap', cur, hv, hbase, hb, h1, h2, h3, h4⟩
  ·cases h0
  ·cases hv
   exact ⟨h1, by simpa [maxLen] using h2⟩
 obtain ⟨hcap1, hcap2⟩ := hcap
 go_enter Tryz.func120, Tryz.ntmps120
 go_wp2_with fail
 refine HIF.out.mono ?_;rintro e w1 ⟨rfl, hm1⟩;have own1 := own_pure hown hm1;clear HIF hown
 rcases idxQ_spec P xs 0 with ⟨h1, h2⟩ | ⟨i, hi, h1, h2, h3⟩
 ·have HFL := Lib.hid (filter_none h2);rw [h1];clear h1 h2
  go_wp2_with fail
  go_ret;refine ⟨by rw [HFL.out, HLX.out]; rfl, ?_, Mod.of_pure hm1⟩;rw [HFL.out, HLX.out];exact own1
 ·rw [h1, Int.zero_add]
  have hin : i < n := by rw [← HLX.out]; exact hi
  have hst : (xs.take (i + 1)).filter (fun x => !P x) = xs.take i := by
   rw [List.take_succ_eq_append_getElem hi, List.filter_append, filter_none h3];simp [h2]
  have hst2 : ((xs.take (i + 1)).filter fun x => !P x).length = i := by rw [hst, List.length_take]; omega
  have HST := Lib.hid hst;have HST2 := Lib.hid hst2;clear h1 h2 h3 hst hst2 hi
  have hi1 : ((i : Int) == -1) = false := by simp
  have M1 : Mod (fun j => j = g) w w1 := Mod.of_pure hm1;clear hm1
  go_wp2_with fail
  go_loopg [5, 6] (n - (i + 1)) (fun gk i j wr => DelRel w base g cap n P xs gk i j wr)
  case atStart => exact ⟨i + 1, xs, rfl, by omega, by simp, by rw [HST2.out], HLX.out, by rw [HST2.out, HST.out], rfl, by rw [HST2.out]; omega, own1, M1⟩
  case round =>
   clear own1 M1 HST HST2 hi1;obtain ⟨k, ys, rfl, hk, rfl, rfl, hyl, hyt, hyd, hlk, hown, hm⟩ := hrel;have HYL := Lib.hid hyl;have HYT := Lib.hid hyt;have HYD := Lib.hid hyd;clear hyl hyt hyd
   by_cases hlt : k < n
   ·have hkx : k < xs.length := by rw [HLX.out]; exact hlt
    have hky : k < ys.length := by rw [HYL.out]; exact hlt
    have e1 : ys[k] = xs[k] := by
     have h1 := congrArg (fun l => l[0]?) HYD.out;simp only [List.getElem?_drop, Nat.add_zero, List.getElem?_eq_getElem hkx, List.getElem?_eq_getElem hky] at h1
     injection h1
    have hq := (hown.cellAt k (by omega)).trans (strsV_get ys k hky);rw [e1] at hq;have hcall := HF.out xs[k] wr (List.getElem_mem hkx) hm;have HC := Lib.hid hcall
    have hts : (xs.take (k + 1)).filter (fun x => !P x) = (xs.take k).filter (fun x => !P x) ++ (if P xs[k] then [] else [xs[k]]) := by
     rw [List.take_succ_eq_append_getElem hkx, List.filter_append]
     congr 1
     cases hp : P xs[k] <;> simp [hp]
    have HTS := Lib.hid hts
    have HYD2 : Hid (ys.drop (k + 1) = xs.drop (k + 1)) := by
     show ys.drop (k + 1) = xs.drop (k + 1)
     have := congrArg (List.drop 1) HYD.out;rw [List.drop_drop, List.drop_drop] at this;exact this
    clear e1 hcall hts HF HYD;generalize xs[k] = x at *;generalize hfl : ((xs.take k).filter fun x => !P x) = fl at *;clear hfl
    have i1 : (0 : Int) ≤ (k : Int) := by omega
    have i2 : (k : Int) < (n : Int) := by omega
    go_wp2_with fail
    refine HC.out.mono ?_;rintro e w2 ⟨rfl, hm2⟩;have own2 := own_pure hown hm2;have M2 : Mod (fun j => j = g) w w2 := hm.transp hm2;clear HC hown hm hq
    cases hp : P x
    ·have hfl2 : fl.length < ys.length := by rw [HYL.out]; omega
     have q1 := (own2.cellAt fl.length (by omega)).trans (strsV_get ys fl.length hfl2);have q2 := own2.frozenAt fl.length;obtain ⟨hset, _⟩ := own2.stored fl.length (.string ⟨x.toArray⟩)
     have e : (strsV ys).set fl.length (.string ⟨x.toArray⟩) = strsV (ys.set fl.length x) := by simp [strsV, List.map_set]
     rw [e] at hset;have HSET := Lib.hid hset;have HM3 := Lib.hid (M2.setCell (p := ⟨g, fl.length, none⟩) (.inl rfl) (.string ⟨x.toArray⟩));clear e hset own2;generalize ys[fl.length] = z0 at *
     have i3 : (0 : Int) ≤ (fl.length : Int) := by omega
     have i4 : (fl.length : Int) < (n : Int) := by omega
     have HFL2 := Lib.hid hfl2;clear hfl2
     go_wp2_with fail
     go_roundg (n - (k + 1))
     case measure => omega
     case rel =>
      have ef : (xs.take (k + 1)).filter (fun x => !P x) = fl ++ [x] := by rw [HTS.out, hp]; rfl
      refine ⟨k + 1, ys.set fl.length x, rfl, by omega, by simp, by rw [ef]; simp, by rw [List.length_set]; exact HYL.out, ?_, ?_, by rw [ef]; simp; omega, HSET.out, HM3.out⟩
      ·rw [ef, List.length_append, List.length_singleton, List.take_succ_eq_append_getElem (by rw [List.length_set]; exact HFL2.out), List.take_set_of_le (Nat.le_refl _), HYT.out];simp
      ·rw [List.drop_set_of_lt (by omega)];exact HYD2.out
    ·go_wp2_with fail
     go_roundg (n - (k + 1))
     case measure => omega
     case rel =>
      have ef : (xs.take (k + 1)).filter (fun x => !P x) = fl := by rw [HTS.out, hp]; simp
      exact ⟨k + 1, ys, rfl, by omega, by simp, by rw [ef], HYL.out, by rw [ef]; exact HYT.out, HYD2.out, by rw [ef]; omega, own2, M2⟩
   ·obtain rfl : n = k := by omega
    have e1 : xs.take n = xs := List.take_of_length_le (by rw [HLX.out]; omega);rw [e1] at hlk HYT ⊢;clear e1 HYD HF hk hlt;generalize hfl : (xs.filter fun x => !P x) = fl at *;have HFLE := Lib.hid hfl;clear hfl;obtain ⟨zs, hlz, htz, hownz, hmz⟩ := own_setCellsS (g := g) (n - fl.length) fl.length wr ys hown
    have hclr := fun ty => Lib.run_clear_slice (P := Tryz.prog) wr 29 9 ty (.string ⟨#[]⟩) Tryz.underlying29 (fun _ => by kernel_rfl) rfl rfl g fl.length (n - fl.length) (cap - fl.length) (by omega)
     (fun j hj => by
      have hj2 : fl.length + j < ys.length := by rw [HYL.out]; omega
      rw [hown.cellAt (fl.length + j) (by omega), strsV_get ys (fl.length + j) hj2]; rfl) (fun j hj => by exact hown.frozenAt _)
    have own3 := own_shrinkS hownz (show fl.length ≤ n by omega)
    have e2 : (strsV zs).take fl.length = strsV fl := by
     have h1 := htz.trans HYT.out;rw [strsV, ← List.map_take, h1]
     rfl
    rw [e2] at own3;have HO3 := Lib.hid own3;have HM3 := Lib.hid (hm.trans hmz);clear e2 own3 hownz hmz htz hlz
    have c1' : fl.length ≤ n := by omega
    have c2' : fl.length ≤ cap := by omega
    go_wp2_with fail
    go_ret;exact ⟨by rw [HFLE.out]; rfl, by rw [HFLE.out]; exact HO3.out, HM3.out⟩
set_option maxHeartbeats 1000000 in
theorem deleteN1_calls (w : World) (A : Option Addr) (cap : Nat) (F : Nat) (c1 : Value) (hcap : cap ≤ 9223372036854775807) (hcf : ∀ (x : Str) (W : World), Sem.run Tryz.prog (callFunc F #[.string ⟨x.toArray⟩, c1]) W = .ok (.enter F #[.string ⟨x.toArray⟩, c1]) W) :
  Calls Tryz.prog 120 #[.slice A 0 cap, .func (.func F) #[] #[c1]] w fun e w' => e = .returned (.slice A 0 cap) ∧ Pure w w' := by
 have HIF := Lib.hid (indexS1_calls w (.slice A 0 cap) [] F c1 (fun _ => false) ⟨A, 0, cap, rfl, by omega, hcap, rfl, fun h => absurd h (by omega)⟩ hcf (fun x W hx hm => absurd hx (by simp)))
 go_enter Tryz.func120, Tryz.ntmps120
 go_wp2_with fail
 refine HIF.out.mono ?_;rintro e w1 ⟨rfl, hm1⟩;rw [show idxQ (fun _ : Str => false) [] 0 = -1 from rfl]
 go_wp2_with fail
 go_ret;exact ⟨rfl, hm1⟩
end Go.Proofs.YtgfgggeeoeppjaaGreatDoor
/- The open items of a family, those that are left; of the reference. -/
namespace Go.Proofs.YtgfgggeeoeppjaaGreatDoor
open Go.RowKit
set_option maxHeartbeats 4000000 in
theorem ropen1_calls (W : World) (g3 g bm : Nat) (bo : Option Nat) (ids : List Str) (d : DskR) (hB : Blk W g3 38 #[.pointer (some ⟨g, 0, none⟩)]) (hD : DkR W g bm bo ids d) (hO : DkOk ids d) (s : Str) (hs : s ∈ ids) : Calls Tryz.prog 121 #[.string ⟨s.toArray⟩, .pointer (some ⟨g3, 0, none⟩)] W (BoolPost W (decide (d.st s ≠ 0))) := by
 obtain ⟨FA, fc, fms, BA, bc, bts, hb, _, _, hS, _, _⟩ := hD;have hlk := hS.look hs (hO.sl _ hs);have HQ := Lib.hid (show decide (d.st s ≠ 0) = (d.st s != 0) by rw [Bool.eq_iff_iff]; simp);have y0 := hB.cell 0; simp at y0;have x0 := hb.cell 0; have x1 := hb.cell 1; have x2 := hb.cell 2; have x3 := hb.cell 3; simp at x0 x1 x2 x3;clear hB hb hO;generalize decide (d.st s ≠ 0) = q at *
 go_enter Tryz.func121, Tryz.ntmps121
 go_wp2_with fail
 go_ret;exact BoolPost.of HQ.out (Mod.refl _ _)
set_option maxHeartbeats 4000000 in
theorem ropen_calls (w : World) (g bm : Nat) (bo : Option Nat) (ids : List Str) (d : DskR) (hD : DkR w g bm bo ids d) (hO : DkOk ids d) (A : Option Addr) (n c : Nat) (f : List Str) (hf : Sl w 9 1 (.slice A n c) (strsV f)) (hfi : ∀ s ∈ f, s ∈ ids) (hfl : f.length ≤ 1000) :
  Calls Tryz.prog 65 #[.pointer (some ⟨g, 0, none⟩), .slice A n c] w (OwnSPost w (opnF d.st f)) := by
 have hfn := Sl.lenS hf;subst hfn;have hp := pure_alloc w (.cells #[.pointer (some ⟨g, 0, none⟩)] 38);have HB := Lib.hid (Blk.new w 38 #[.pointer (some ⟨g, 0, none⟩)]);have HP1 := Lib.hid hp;have HD := Lib.hid (hD.pure hp);have HCL := Lib.hid (cloneC_calls _ _ f (hf.pure hp) (by omega));have HFI := Lib.hid hfi;have HO := Lib.hid hO
 have hf0 : opnF d.st f = f.filter fun x => !decide (d.st x ≠ 0) := by
  unfold opnF
  apply List.filter_congr
  intro x _
  by_cases e : d.st x = 0 <;> simp [e]
 have HOF := Lib.hid hf0;unfold OwnSPost;clear hD hf hfi hp hO hf0
 go_enter Tryz.func65, Tryz.ntmps65
 go_upto_region 1 with (fail)
 generalize (w.alloc (.cells #[.pointer (some ⟨g, 0, none⟩)] 38)) = w1 at *;generalize hg3 : w.heap.size = g3 at *;have hg3a := Nat.le_of_eq hg3;have hg3b := Nat.le_of_eq hg3.symm;clear hg3;have hw1 := HB.out.lt
 go_wp2_with fail
 refine HCL.out.mono ?_;rintro e w2 ⟨v, rfl, hown, hm⟩;obtain ⟨A2, n2, c2, rfl⟩ := (Sl.of_own hown).form;have hnc := Sl.lenS (Sl.of_own hown);subst hnc;have hcap := (Sl.capL (Sl.of_own hown))
 rcases own_two hown with ⟨rfl, h0, rfl, rfl⟩ | ⟨g2, rfl, _⟩
 ·have HDN := Lib.hid (deleteN1_calls w2 none 0 121 (.pointer (some ⟨g3, 0, none⟩)) (by omega) (fun _ _ => rfl));have HM := Lib.hid (HP1.out.trans hm);clear HCL hown hm
  go_wp2_with fail
  refine HDN.out.mono ?_;rintro e w3 ⟨rfl, hm3⟩
  go_wp2_with fail
  go_ret;exact ⟨none, 0, by rw [HOF.out]; rfl, ⟨by rw [HOF.out]; rfl, .inl ⟨by rw [HOF.out]; rfl, by rw [HOF.out]; rfl⟩⟩, HM.out.trans hm3⟩
 ·have hg2 : w1.heap.size ≤ g2 := own_block hown g2 rfl
  have HDN := Lib.hid (deleteS1_calls w2 w1.heap.size g2 c2 f.length f 121 (.pointer (some ⟨g3, 0, none⟩)) (fun x => decide (d.st x ≠ 0)) (by omega) hown (fun _ _ => rfl) (fun x W hx hmw => by
   have hst : Mod (fun j => j = g2) w1 W := (Mod.of_pure hm).trans hmw;obtain ⟨arr, h2⟩ := own_heap hown rfl;have h3 : Pure w1 W := hm.trans' hmw (fun i hi hlt => by omega)
   exact ropen1_calls W g3 g bm bo ids d (HB.out.modp h3) (HD.out.pure h3) HO.out x (HFI.out x hx)))
  rw [← HOF.out] at HDN;have HM := Lib.hid (HP1.out.trans hm);clear HCL hown hm
  go_wp2_with fail
  refine HDN.out.mono ?_;rintro e w3 ⟨rfl, hown3, hm3⟩;have HO3 := Lib.hid hown3;have HM3 := Lib.hid (HM.out.trans' hm3 (fun i hi hlt => by omega));clear hown3 hm3 HDN HM
  go_wp2_with fail
  go_ret;exact ⟨some ⟨g2, 0, none⟩, c2, rfl, own_baseK HO3.out (by omega), HM3.out⟩
end Go.Proofs.YtgfgggeeoeppjaaGreatDoor
/- Left and Take of the reference. -/
namespace Go.Proofs.YtgfgggeeoeppjaaGreatDoor
open Go.RowKit
theorem OrL.at {w : World} {A : Option Addr} {n c : Nat} {os : List (Value × List Str)} (h : OrL w (.slice A n c) os) {k : Nat} (hk : k < os.length) : ∃ g off B m d, A = some ⟨g, off, none⟩ ∧ w.cell? ⟨g, off + k, none⟩ = some (.slice B m d) ∧ Sl w 9 1 (.slice B m d) (strsV os[k].2) := by
 have hs := h.2 _ (List.getElem_mem hk);obtain ⟨B, m, d, hu⟩ := hs.form;obtain ⟨A', n', c', hf, _, _, hl, hr⟩ := h.1
 injection hf with e1 e2 e3
 subst e1 e2 e3;rw [List.length_map] at hl;obtain ⟨g, off, rfl, hrow⟩ := hr (by omega);refine ⟨g, off, B, m, d, rfl, ?_, by rw [← hu]; exact hs⟩;have := hrow.cell (i := k) (u := os[k].1) (by simp [hk]);rw [hu] at this;exact this
set_option maxHeartbeats 4000000 in
theorem rleft_calls (w : World) (g bm : Nat) (bo : Option Nat) (ids : List Str) (d : DskR) (hD : DkR w g bm bo ids d) (hO : DkOk ids d) :
  Calls Tryz.prog 26 #[.pointer (some ⟨g, 0, none⟩)] w (OwnSPost w (lftL d.st d.fams)) := by
 obtain ⟨i0, hi0, hz0, hz1, hz2⟩ := info_parts info_str7;have HDP := Lib.hid (fun W (h : Pure w W) => ropen_calls W g bm bo ids d (hD.pure h) hO);obtain ⟨FA, fc, fms, BA, bc, bts, hB, hF, hfe, hS, _, _⟩ := hD
 have hfl : fms.length = d.fams.length := by rw [← hfe]; simp
 have HB := Lib.hid hB;have HF := Lib.hid hF;have HFE := Lib.hid (fun k (h : k < fms.length) => show d.fams[k]'(by omega) = fms[k].2 by simp [← hfe]);have HFI := Lib.hid hO.fi;have HFL := Lib.hid hO.fl;have hfn := hO.fn
 have hfl9 : fms.length ≤ 1000 := by have := hO.fn; omega
 unfold OwnSPost;clear hB hS hF hfe hO;obtain ⟨g3, hg3⟩ : ∃ g3, g3 = w.heap.size := ⟨_, rfl⟩;have hg3a := Nat.le_of_eq hg3;have hg3b := Nat.le_of_eq hg3.symm;clear hg3;have hx := HB.out;have x0 := hx.cell 0; have x1 := hx.cell 1; have x2 := hx.cell 2; have x3 := hx.cell 3; simp at x0 x1 x2 x3;clear hx
 go_enter Tryz.func26, Tryz.ntmps26
 go_wp2_with fail
 go_loopg [3, 11] fms.length (fun gk x i wr => ∃ (k cap : Nat) (Ao : Option Addr) (out : List Str), fms.length - k = gk ∧ k ≤ fms.length ∧ x = .slice Ao out.length cap ∧ i = .int .i64 (k : Int) ∧ out = lftL d.st (d.fams.take k) ∧ wr.ownsRow g3 9 1 (.slice Ao out.length cap) out.length (strsV out) ∧ Pure w wr ∧ g3 ≤ wr.heap.size)
 case atStart => exact ⟨0, 0, none, [], by omega, by omega, rfl, rfl, by simp [lftL], ⟨rfl, .inl ⟨rfl, rfl⟩⟩, Mod.refl _ _, hg3a⟩
 case round =>
  clear x0 x1 x2 x3;obtain ⟨k, cap, Ao, out, rfl, hk, rfl, rfl, hout, hown, hm, hsz⟩ := hrel
  have hol : out.length ≤ 1000 := by
   have h1 := lftL_len d.st (d.fams.take k);have h2 := flatten_take_len (fs := d.fams) k;have h3 := HFL.out;rw [hout]; omega
  by_cases hlt : k < fms.length
  ·obtain ⟨gf, off, YA, yn, yc, rfl, p0, hfs⟩ := (HF.out.pure hm).at hlt;have HFS := Lib.hid hfs;have hfe := HFE.out k hlt;have HMF := Lib.hid (HFI.out _ (List.getElem_mem (show k < d.fams.length by omega)));have HLT := Lib.hid (lftL_take (st := d.st) (show k < d.fams.length by omega));have HLF := Lib.hid (Nat.le_trans (len_flatten (List.getElem_mem (show k < d.fams.length by omega))) HFL.out);rw [hfe] at HMF HLT HLF;have HOUT := Lib.hid hout;have HOWN := Lib.hid hown;have HM := Lib.hid hm;clear hfe hout hown hm hfs;generalize fms[k] = y at *;obtain ⟨yv, f⟩ := y;simp only at p0 HFS HMF HLT HLF;have HOP := Lib.hid (HDP.out wr HM.out YA yn yc f HFS.out HMF.out HLF.out);have HOW4 := HOWN;have HP4 := HM;clear HOWN HM HFS
   go_wp2_with fail
   refine HOP.out.mono ?_;rintro e w5 ⟨A5, c5, rfl, hown5, hm5⟩;have hown := own_pure HOW4.out hm5;have HMM := HP4.out.trans hm5;have HOB := Lib.hid (own_block hown)
   have hsz5 : g3 ≤ w5.heap.size := by have := hm5.size; omega
   have HN := Lib.hid (show lftL d.st (d.fams.take (k + 1)) = out ++ opnF d.st f by rw [HLT.out, HOUT.out]);have hop2 : (opnF d.st f).length ≤ 1000 := Nat.le_trans (opnF_len _ _) HLF.out;clear HOP HOW4 HP4 HLT HOUT;generalize opnF d.st f = some_ at *;have hown5' := hown5
   have hl5 : (strsV some_).length = some_.length * 1 := by simp [strsV]
   have hone := strsV_one some_
   rcases own_two hown5 with ⟨rfl, h0, rfl, rfl⟩ | ⟨g2, rfl, hnews⟩
   ·have HM := Lib.hid HMM;have HOWN := Lib.hid hown;clear hown5' hown5 hm5 HMM
    go_wp2_with (at_builtin; (refine wpList_append_own_none rfl _ _ _ rfl g3 9 i0 1 Tryz.underlying29 hi0 (.slice Ao out.length cap) out.length _ rfl hown rfl ?_))
    go_roundg (fms.length - (k + 1))
    case measure => omega
    case rel => exact ⟨k + 1, cap, Ao, out, rfl, by omega, rfl, by simp, by rw [HN.out]; simp, HOWN.out, HM.out, hsz5⟩
   ·have HM := Lib.hid HMM;clear hown5' hown5 hm5 HMM
    go_wp2_with (at_builtin; (refine wpList_append_own_at _ rfl _ _ _ rfl g3 9 i0 _ 1 16 Tryz.underlying29 hi0 hz0 hz1 hz2 rfl (by omega) (.slice Ao out.length cap) out.length _ rfl hown ⟨g2, 0, none⟩ some_.length _ _ rfl hl5 hnews hone (by simp [maxLen]; omega) (by omega) (by omega) ?_); intro v6 w6 hown6 hgrow hnil hat; obtain ⟨A6, n6, c6, rfl⟩ := (Sl.of_own hown6).form; clear hnil)
    have hm6 := grown_mod (v := .slice Ao out.length cap) hgrow
    have hn6 : n6 = (out ++ some_).length := by
     rcases hown6.2 with ⟨h, h0⟩ | ⟨g, cap', cur, h, _⟩
     ·injection h with _ h1 _
      simp
      omega
     ·injection h with _ h1 _
      simp
      omega
    subst hn6
    go_roundg (fms.length - (k + 1))
    case measure => omega
    case rel =>
     refine ⟨k + 1, c6, A6, out ++ some_, rfl, by omega, rfl, by simp, HN.out.symm, ?_, HM.out.trans' hm6 (fun i hi hl => by have := HOB.out _ hi; omega), by have := hgrow.size; omega⟩
     have e1 : strsV (out ++ some_) = strsV out ++ strsV some_ := by simp [strsV]
     rw [e1];have h := hown6;rw [← List.length_append] at h;exact h
  ·obtain rfl : k = fms.length := by omega
   rw [List.take_of_length_le (by omega)] at hout;have HOUT := Lib.hid hout;have HOW := Lib.hid hown;have HM2 := Lib.hid hm;clear hown hout hm
   go_wp2_with fail
   go_ret;rw [← HOUT.out];exact ⟨Ao, cap, rfl, own_baseK HOW.out hg3b, HM2.out⟩
end Go.Proofs.YtgfgggeeoeppjaaGreatDoor
/- Take of the reference. -/
namespace Go.Proofs.YtgfgggeeoeppjaaGreatDoor
open Go.RowKit
theorem rinP_calls (w : World) (n a b : Int) : Calls Tryz.prog 63 #[.int .i64 n, .int .i64 a, .int .i64 b] w (BoolPost w (inB n a b)) := (rin_calls n a b w).mono (by rintro e w' ⟨rfl, rfl⟩; exact BoolPost.of rfl (Mod.refl _ _))
theorem tkE_ways (d : DskR) (rev : Str) (at_ most : Int) : tkE d rev at_ most = if keyB rev = false then 5 else if inB at_ 0 5761439 = false then 1 else if at_ < d.last then 7 else if inB most 1 500 = false then 1 else if hasB d rev = true then 11 else 0 := by
 unfold tkE moE
 cases keyB rev
 ·simp
 ·cases inB at_ 0 5761439 <;> simp
set_option maxHeartbeats 8000000 in
theorem rtake_calls (w : World) (g bm : Nat) (bo : Option Nat) (ids : List Str) (d : DskR) (hD : DkR w g bm bo ids d) (hO : DkOk ids d) (rev : Str) (hrl : rev.length ≤ 1000) (at_ most : Int) (hbn : d.bats.length ≤ 900) :
  Calls Tryz.prog 16 #[.pointer (some ⟨g, 0, none⟩), .string ⟨rev.toArray⟩, .int .i64 at_, .int .i64 most] w (TkPost (fun W bo' d' => DkR W g bm bo' ids d') w g bm bo d rev at_ most) := by
 have HD := Lib.hid hD;have HO := Lib.hid hO;have HOP := Lib.hid (fun W (h : Pure w W) => ropen_calls W g bm bo ids d (hD.pure h) hO);obtain ⟨FA, fc, fms, BA, bc, bts, hB, hF, hfe, hS, hBT, hbo⟩ := hD;have HB := Lib.hid hB;have HF := Lib.hid hF;have HFE := Lib.hid hfe;have HS := Lib.hid hS;have HBT := Lib.hid hBT;have HBO := Lib.hid hbo
 have hfla : fms.length ≤ d.fams.length := by rw [← hfe]; simp
 have hflb : d.fams.length ≤ fms.length := by rw [← hfe]; simp
 have hfl9 : fms.length ≤ 1000 := by have := hO.fn; omega
 have hbla := Nat.le_of_eq hBT.kl;have hblb := Nat.le_of_eq hBT.kl.symm;have hgw := hB.lt;have hbmw := hS.lt;have hp1 := pure_alloc w (.cells #[.string ⟨rev.toArray⟩] 9);have hp2 := pure_alloc (w.alloc (.cells #[.string ⟨rev.toArray⟩] 9)) (.cells #[.int .i64 0, .int .i64 0, .int .i64 0, .string ⟨#[]⟩, .slice none 0 0] 42);have HM2 := Lib.hid (hp1.trans hp2);have HB52 := Lib.hid ((Blk.new w 9 #[.string ⟨rev.toArray⟩]).modp hp2);have HB82 := Lib.hid (Blk.snd w (.cells #[.string ⟨rev.toArray⟩] 9) 42 #[.int .i64 0, .int .i64 0, .int .i64 0, .string ⟨#[]⟩, .slice none 0 0]);have HTK := Lib.hid (tkE_ways d rev at_ most);have HKF : Hid (tkF d rev at_ most = if tkE d rev at_ most ≠ 0 then tkE d rev at_ most else if takL d.st most d.fams [] = [] then 8 else 0) := Lib.hid rfl;unfold TkPost;obtain ⟨er, her⟩ : ∃ er, tkE d rev at_ most = er := ⟨_, rfl⟩;rw [her] at HTK HKF;obtain ⟨ef, hef⟩ : ∃ ef, tkF d rev at_ most = ef := ⟨_, rfl⟩;rw [hef] at HKF ⊢;obtain ⟨mb, hme⟩ : ∃ mb, inB at_ 0 5761439 = mb := ⟨_, rfl⟩;have HME := Lib.hid (fun W => by have := rinP_calls W at_ 0 5761439; rwa [hme] at this);rw [hme] at HTK;obtain ⟨kb, hkb⟩ : ∃ kb, keyB rev = kb := ⟨_, rfl⟩;have HKY := Lib.hid (fun W => by have := rkey_any W rev (by omega); rwa [hkb] at this);rw [hkb] at HTK;obtain ⟨ib, hib⟩ : ∃ ib, inB most 1 500 = ib := ⟨_, rfl⟩;have HIN := Lib.hid (fun W => by have := rinP_calls W most 1 500; rwa [hib] at this);rw [hib] at HTK;obtain ⟨hb, hhb⟩ : ∃ hb, hasB d rev = hb := ⟨_, rfl⟩;have HHB := Lib.hid ((hasB_of2 (rev := rev) hBT.2.2 hO.inn).trans hhb);rw [hhb] at HTK;obtain ⟨TL, hTL⟩ : ∃ TL, takL d.st most d.fams [] = TL := ⟨_, rfl⟩;rw [hTL] at HKF ⊢
 have hTLl : TL.length ≤ 1000 := by
  have h1 := takL_len d.st most d.fams [];have h2 := HO.out.fl;rw [hTL] at h1;simp only [List.length_nil, Nat.zero_add] at h1
  omega
 have HTI : Hid (∀ s ∈ TL, s ∈ ids) := Lib.hid (by rw [← hTL]; exact takL_mem _ _ (fun s h => absurd h (by simp)) HO.out.fi);have HTL := Lib.hid hTL;have HDT := Lib.hid (show dTake d rev at_ most = ⟨d.fams, fun s => if s ∈ TL then (d.bats.length : Int) + 1 else d.st s, d.bats ++ [((d.bats.length : Int) + 1, at_, -1, rev, TL)], at_⟩ by unfold dTake; rw [hTL]);clear hTL;clear hB hF hfe hS hBT hbo hp1 hp2 her hef hme hkb hib hhb hO
 go_enter Tryz.func16, Tryz.ntmps16
 go_upto_region 1 with (fail)
 generalize ((w.alloc (.cells #[.string ⟨rev.toArray⟩] 9)).alloc (.cells #[.int .i64 0, .int .i64 0, .int .i64 0, .string ⟨#[]⟩, .slice none 0 0] 42)) = w2 at *;generalize hg8 : w.heap.size + 1 = g8 at *;generalize hg5 : w.heap.size = g5 at *;have hg8a := Nat.le_of_eq hg8;have hg8b := Nat.le_of_eq hg8.symm;have hg5a := Nat.le_of_eq hg5;have hg5b := Nat.le_of_eq hg5.symm;clear hg8 hg5;have hx := HB52.out;have x0 := hx.cell 0; simp at x0;clear hx
 go_wp2_with fail
 refine (HKY.out w2).mono ?_;rintro e w3 ⟨rfl, hm3⟩;have HM3 := Lib.hid (HM2.out.trans hm3);have HB53 := Lib.hid (HB52.out.modp hm3);have HB83 := Lib.hid (HB82.out.modp hm3);clear x0 hm3 HM2 HB52 HB82 HKY
 cases kb
 ·have HE := Lib.hid (show er = 5 by rw [HTK.out, if_pos rfl]);have HQ := Lib.hid (show ef = 5 by rw [HKF.out, HE.out]; simp);have hB8 := HB83.out;have t0 := hB8.cell 0; have tf0 := hB8.frozen 0; have t1 := hB8.cell 1; have tf1 := hB8.frozen 1; have t2 := hB8.cell 2; have tf2 := hB8.frozen 2; have t3 := hB8.cell 3; have tf3 := hB8.frozen 3; have t4 := hB8.cell 4; have tf4 := hB8.frozen 4; simp at t0 t1 t2 t3 t4;clear hB8 HKF HE
  go_wp2_with fail
  have hB9 := HB83.out.set5 (.int .i64 0) (.int .i64 0) (.int .i64 0) (.string ⟨#[]⟩) (.slice none 0 0);have u0 := hB9.cell 0; have u1 := hB9.cell 1; have u2 := hB9.cell 2; have u3 := hB9.cell 3; have u4 := hB9.cell 4; simp at u0 u1 u2 u3 u4;refine bodyPost_ret (v := .tuple #[.agg #[.int .i64 0, .int .i64 0, .int .i64 0, .string ⟨#[]⟩, .slice none 0 0], .int .i64 5]) (by simp [results, Tryz.results16, go_sem, u0, u1, u2, u3, u4]) rfl ?_;exact .inl ⟨by rw [HQ.out]; decide, by rw [HQ.out], HM3.out.set5 (.inr (by omega)) _ _ _ _ _⟩
 go_wp2_with fail
 refine (HME.out w3).mono ?_;rintro e w4 ⟨rfl, hm4⟩;have HM4 := Lib.hid (HM3.out.trans hm4);have HB54 := Lib.hid (HB53.out.modp hm4);have HB84 := Lib.hid (HB83.out.modp hm4);clear hm4 HM3 HB53 HB83 HME
 cases mb
 ·have HE := Lib.hid (show er = 1 by rw [HTK.out, if_neg (by simp), if_pos rfl]);have HQ := Lib.hid (show ef = 1 by rw [HKF.out, HE.out]; simp);have hB8 := HB84.out;have t0 := hB8.cell 0; have tf0 := hB8.frozen 0; have t1 := hB8.cell 1; have tf1 := hB8.frozen 1; have t2 := hB8.cell 2; have tf2 := hB8.frozen 2; have t3 := hB8.cell 3; have tf3 := hB8.frozen 3; have t4 := hB8.cell 4; have tf4 := hB8.frozen 4; simp at t0 t1 t2 t3 t4;clear hB8 HKF HE
  go_wp2_with fail
  have hB9 := HB84.out.set5 (.int .i64 0) (.int .i64 0) (.int .i64 0) (.string ⟨#[]⟩) (.slice none 0 0);have u0 := hB9.cell 0; have u1 := hB9.cell 1; have u2 := hB9.cell 2; have u3 := hB9.cell 3; have u4 := hB9.cell 4; simp at u0 u1 u2 u3 u4;refine bodyPost_ret (v := .tuple #[.agg #[.int .i64 0, .int .i64 0, .int .i64 0, .string ⟨#[]⟩, .slice none 0 0], .int .i64 1]) (by simp [results, Tryz.results16, go_sem, u0, u1, u2, u3, u4]) rfl ?_;exact .inl ⟨by rw [HQ.out]; decide, by rw [HQ.out], HM4.out.set5 (.inr (by omega)) _ _ _ _ _⟩
 have hx := HB.out.modp HM4.out;have x0 := hx.cell 0; have x1 := hx.cell 1; have x2 := hx.cell 2; have x3 := hx.cell 3; simp at x0 x1 x2 x3;clear hx
 by_cases hat : at_ < d.last
 ·have HE := Lib.hid (show er = 7 by rw [HTK.out, if_neg (by simp), if_neg (by simp), if_pos hat]);have HQ := Lib.hid (show ef = 7 by rw [HKF.out, HE.out]; simp);have hB8 := HB84.out;have t0 := hB8.cell 0; have tf0 := hB8.frozen 0; have t1 := hB8.cell 1; have tf1 := hB8.frozen 1; have t2 := hB8.cell 2; have tf2 := hB8.frozen 2; have t3 := hB8.cell 3; have tf3 := hB8.frozen 3; have t4 := hB8.cell 4; have tf4 := hB8.frozen 4; simp at t0 t1 t2 t3 t4;clear hB8 HKF HE
  go_wp2_with fail
  have hB9 := HB84.out.set5 (.int .i64 0) (.int .i64 0) (.int .i64 0) (.string ⟨#[]⟩) (.slice none 0 0);have u0 := hB9.cell 0; have u1 := hB9.cell 1; have u2 := hB9.cell 2; have u3 := hB9.cell 3; have u4 := hB9.cell 4; simp at u0 u1 u2 u3 u4;refine bodyPost_ret (v := .tuple #[.agg #[.int .i64 0, .int .i64 0, .int .i64 0, .string ⟨#[]⟩, .slice none 0 0], .int .i64 7]) (by simp [results, Tryz.results16, go_sem, u0, u1, u2, u3, u4]) rfl ?_;exact .inl ⟨by rw [HQ.out]; decide, by rw [HQ.out], HM4.out.set5 (.inr (by omega)) _ _ _ _ _⟩
 go_wp2_with fail
 refine (HIN.out w4).mono ?_;rintro e w5 ⟨rfl, hm5⟩;have HM5 := Lib.hid (HM4.out.trans hm5);have HB55 := Lib.hid (HB54.out.modp hm5);have HB85 := Lib.hid (HB84.out.modp hm5);clear hm5 HM4 HB54 HB84 HIN x0 x1 x2 x3
 cases ib
 ·have HE := Lib.hid (show er = 1 by rw [HTK.out, if_neg (by simp), if_neg (by simp), if_neg (show ¬ at_ < d.last by omega), if_pos rfl]);have HQ := Lib.hid (show ef = 1 by rw [HKF.out, HE.out]; simp);have hB8 := HB85.out;have t0 := hB8.cell 0; have tf0 := hB8.frozen 0; have t1 := hB8.cell 1; have tf1 := hB8.frozen 1; have t2 := hB8.cell 2; have tf2 := hB8.frozen 2; have t3 := hB8.cell 3; have tf3 := hB8.frozen 3; have t4 := hB8.cell 4; have tf4 := hB8.frozen 4; simp at t0 t1 t2 t3 t4;clear hB8 HKF HE
  go_wp2_with fail
  have hB9 := HB85.out.set5 (.int .i64 0) (.int .i64 0) (.int .i64 0) (.string ⟨#[]⟩) (.slice none 0 0);have u0 := hB9.cell 0; have u1 := hB9.cell 1; have u2 := hB9.cell 2; have u3 := hB9.cell 3; have u4 := hB9.cell 4; simp at u0 u1 u2 u3 u4;refine bodyPost_ret (v := .tuple #[.agg #[.int .i64 0, .int .i64 0, .int .i64 0, .string ⟨#[]⟩, .slice none 0 0], .int .i64 1]) (by simp [results, Tryz.results16, go_sem, u0, u1, u2, u3, u4]) rfl ?_;exact .inl ⟨by rw [HQ.out]; decide, by rw [HQ.out], HM5.out.set5 (.inr (by omega)) _ _ _ _ _⟩
 have hx := HB.out.modp HM5.out;have x0 := hx.cell 0; have x1 := hx.cell 1; have x2 := hx.cell 2; have x3 := hx.cell 3; simp at x0 x1 x2 x3;clear hx;have HCT := Lib.hid (containsBt_calls w5 (.slice BA bts.length bc) bts 64 (.pointer (some ⟨g5, 0, none⟩)) (fun x => decide (x.rev = rev) && decide (x.inn < 0)) (Sl.of_own (own_pure HBT.out.1 HM5.out)) (fun _ _ => rfl) (fun x W hx hm => rtake1_calls W g5 x rev (HB55.out.modp hm)));rw [HHB.out] at HCT
 go_wp2_with fail
 refine HCT.out.mono ?_;rintro e w6 ⟨rfl, hm6⟩;have HM6 := Lib.hid (HM5.out.trans hm6);have HB56 := Lib.hid (HB55.out.modp hm6);have HB86 := Lib.hid (HB85.out.modp hm6);clear hm6 HM5 HB55 HB85 HCT HHB x0 x1 x2 x3
 cases hb
 rotate_left
 ·have HE := Lib.hid (show er = 11 by rw [HTK.out, if_neg (by simp), if_neg (by simp), if_neg (show ¬ at_ < d.last by omega), if_neg (by simp), if_pos rfl]);have HQ := Lib.hid (show ef = 11 by rw [HKF.out, HE.out]; simp);have hB8 := HB86.out;have t0 := hB8.cell 0; have tf0 := hB8.frozen 0; have t1 := hB8.cell 1; have tf1 := hB8.frozen 1; have t2 := hB8.cell 2; have tf2 := hB8.frozen 2; have t3 := hB8.cell 3; have tf3 := hB8.frozen 3; have t4 := hB8.cell 4; have tf4 := hB8.frozen 4; simp at t0 t1 t2 t3 t4;clear hB8 HKF HE
  go_wp2_with fail
  have hB9 := HB86.out.set5 (.int .i64 0) (.int .i64 0) (.int .i64 0) (.string ⟨#[]⟩) (.slice none 0 0);have u0 := hB9.cell 0; have u1 := hB9.cell 1; have u2 := hB9.cell 2; have u3 := hB9.cell 3; have u4 := hB9.cell 4; simp at u0 u1 u2 u3 u4;refine bodyPost_ret (v := .tuple #[.agg #[.int .i64 0, .int .i64 0, .int .i64 0, .string ⟨#[]⟩, .slice none 0 0], .int .i64 11]) (by simp [results, Tryz.results16, go_sem, u0, u1, u2, u3, u4]) rfl ?_;exact .inl ⟨by rw [HQ.out]; decide, by rw [HQ.out], HM6.out.set5 (.inr (by omega)) _ _ _ _ _⟩
 have HE := Lib.hid (show er = 0 by rw [HTK.out, if_neg (by simp), if_neg (by simp), if_neg (show ¬ at_ < d.last by omega), if_neg (by simp), if_neg (by simp)]);have HKF2 := Lib.hid (show ef = if TL = [] then 8 else 0 by rw [HKF.out, HE.out, if_neg (by simp)]);have HDB := Lib.hid (HB.out.modp HM6.out);have h5w := HB56.out.lt;have h8w := HB86.out.lt;have hgw6 := HDB.out.lt;have hw6s := HM6.out.size
 clear HKF HE HTK hat
 go_upto_region 11 with (fail)
 have HGs := Lib.hid (show ∀ (D : Nat → Bool) (zzi : Nat) (zq zq' : World), (fun _ zq => (fun Z => Blk Z g5 9 #[.string ⟨rev.toArray⟩] ∧ Blk Z g 50 #[.slice FA fms.length fc, .map (some bm), .slice BA bts.length bc, .int .i64 d.last]) zq) D zq → Mod (fun _ => False) zq zq' → (fun _ zq => (fun Z => Blk Z g5 9 #[.string ⟨rev.toArray⟩] ∧ Blk Z g 50 #[.slice FA fms.length fc, .map (some bm), .slice BA bts.length bc, .int .i64 d.last]) zq) (upd D zzi true) zq' from by intro D zzi zq zq' h hm; (exact ⟨h.1.modp hm, h.2.modp hm⟩))
 refine wp_region_inv (by kernel_rfl) (by kernel_rfl) (InvF (R := Mod (fun _ => False)) [.is (.pointer (some ⟨g, 0, none⟩)),
   .is (.pointer (some ⟨g, 0, none⟩)),
   .is (.pointer (some ⟨g, 2, none⟩)),
   .is (.slice BA bts.length bc),
   .is (.int .i64 (bts.length : Int)),
   .is (.int .i64 ((bts.length : Int) + 1)),
   .is (.int .i64 at_),
   .is (.string ⟨rev.toArray⟩),
   .is (.agg #[.int .i64 ((bts.length : Int) + 1), .int .i64 at_, (.int .i64 (-1)), .string ⟨rev.toArray⟩, .slice none 0 0]),
   ⟨fun zv zw => ∃ (g_9 : Nat), zv = .pointer (some ⟨g_9, 0, none⟩) ∧ w6.heap.size ≤ g_9 ∧ Blk zw g_9 42 #[.int .i64 0, .int .i64 0, .int .i64 0, .string ⟨#[]⟩, .slice none 0 0], (by rintro zv zw zx ⟨g_9, rfl, c0, q0⟩ hm; exact ⟨g_9, rfl, c0, (q0.modp hm)⟩), none, some 10⟩,
   ⟨fun zv zw => ∃ (g_10 : Nat), zv = .pointer (some ⟨g_10, 0, none⟩) ∧ w6.heap.size ≤ g_10 ∧ Blk zw g_10 42 #[.int .i64 ((bts.length : Int) + 1), .int .i64 at_, (.int .i64 (-1)), .string ⟨rev.toArray⟩, .slice none 0 0], (by rintro zv zw zx ⟨g_10, rfl, c0, q0⟩ hm; exact ⟨g_10, rfl, c0, (q0.modp hm)⟩), some 9, none⟩]
   (PB w6 (fun _ => False) w6.heap.size (fun _ zq => (fun Z => Blk Z g5 9 #[.string ⟨rev.toArray⟩] ∧ Blk Z g 50 #[.slice FA fms.length fc, .map (some bm), .slice BA bts.length bc, .int .i64 d.last]) zq))) (InvF.start (PB.start (Mod.refl _ _) (Nat.le_refl _) (⟨HB56.out.drew, HDB.out.drew⟩))) ?_ ?_
 ·refine .cons ?_ (.cons ?_ (.cons ?_ (.cons ?_ (.cons ?_ (.cons ?_ (.cons ?_ (.cons ?_ (.cons ?_ (.cons ?_ (.cons ?_ .nil))))))))))
  ·intro D V zw1 a hR hI K hK;obtain ⟨hM1, hB1, hG1⟩ := hI.1;have ze0 := hR.frame.other (t := 0) (by kernel_rfl) rfl;rw [if_pos (by rfl)];go_simp;exact hK (.pointer (some ⟨g, 0, none⟩)) _ (hI.next hR (by kernel_rfl) (Mod.refl _ _) (PB.quiet hI.1 (Mod.refl _ _) (HGs.out D 0 zw1 zw1 (hI.1).g (Mod.refl _ _))) (upd_same V 0 _))
  ·intro D V zw1 a hR hI K hK;obtain ⟨hM1, hB1, hG1⟩ := hI.1;have zd0 := hR.pred 0 (by kernel_rfl);have zf0 : V 0 = .pointer (some ⟨g, 0, none⟩) := hI.2 0 zd0 rfl;have ze47 := hR.frame.done (t := 47) (j := 0) (by kernel_rfl) hR.ok zd0;rw [if_pos (by rfl)];go_simp;exact hK (.pointer (some ⟨g, 0, none⟩)) _ (hI.next hR (by kernel_rfl) (Mod.refl _ _) (PB.quiet hI.1 (Mod.refl _ _) (HGs.out D 1 zw1 zw1 (hI.1).g (Mod.refl _ _))) (upd_same V 1 _))
  ·intro D V zw1 a hR hI K hK;obtain ⟨hM1, hB1, hG1⟩ := hI.1;have zd1 := hR.pred 1 (by kernel_rfl);have zf1 : V 1 = .pointer (some ⟨g, 0, none⟩) := hI.2 1 zd1 rfl;have ze48 := hR.frame.done (t := 48) (j := 1) (by kernel_rfl) hR.ok zd1;rw [if_pos (by rfl)];go_simp;exact hK (.pointer (some ⟨g, 2, none⟩)) _ (hI.next hR (by kernel_rfl) (Mod.refl _ _) (PB.quiet hI.1 (Mod.refl _ _) (HGs.out D 2 zw1 zw1 (hI.1).g (Mod.refl _ _))) (upd_same V 2 _))
  ·intro D V zw1 a hR hI K hK;obtain ⟨hM1, hB1, hG1⟩ := hI.1;have zd2 := hR.pred 2 (by kernel_rfl);have zf2 : V 2 = .pointer (some ⟨g, 2, none⟩) := hI.2 2 zd2 rfl;have ze49 := hR.frame.done (t := 49) (j := 2) (by kernel_rfl) hR.ok zd2;have zx0 := hG1.2.cell 2;simp at zx0;rw [if_pos (by rfl)];go_simp;exact hK (.slice BA bts.length bc) _ (hI.next hR (by kernel_rfl) (Mod.refl _ _) (PB.quiet hI.1 (Mod.refl _ _) (HGs.out D 3 zw1 zw1 (hI.1).g (Mod.refl _ _))) (upd_same V 3 _))
  ·intro D V zw1 a hR hI K hK;obtain ⟨hM1, hB1, hG1⟩ := hI.1;have zd3 := hR.pred 3 (by kernel_rfl);have zf3 : V 3 = .slice BA bts.length bc := hI.2 3 zd3 rfl;have ze50 := hR.frame.done (t := 50) (j := 3) (by kernel_rfl) hR.ok zd3;rw [if_pos (by rfl)];go_simp;exact hK (.int .i64 (bts.length : Int)) _ (hI.next hR (by kernel_rfl) (Mod.refl _ _) (PB.quiet hI.1 (Mod.refl _ _) (HGs.out D 4 zw1 zw1 (hI.1).g (Mod.refl _ _))) (upd_same V 4 _))
  ·intro D V zw1 a hR hI K hK;obtain ⟨hM1, hB1, hG1⟩ := hI.1;have zd4 := hR.pred 4 (by kernel_rfl);have zf4 : V 4 = .int .i64 (bts.length : Int) := hI.2 4 zd4 rfl;have ze51 := hR.frame.done (t := 51) (j := 4) (by kernel_rfl) hR.ok zd4;rw [if_pos (by rfl)];have zw : IntKind.i64.wrap ((bts.length : Int) + 1) = (bts.length : Int) + 1 := IntWalk.i64_in _ (by omega);go_simp;exact hK (.int .i64 ((bts.length : Int) + 1)) _ (hI.next hR (by kernel_rfl) (Mod.refl _ _) (PB.quiet hI.1 (Mod.refl _ _) (HGs.out D 5 zw1 zw1 (hI.1).g (Mod.refl _ _))) (upd_same V 5 _))
  ·intro D V zw1 a hR hI K hK;obtain ⟨hM1, hB1, hG1⟩ := hI.1;have ze2 := hR.frame.other (t := 2) (by kernel_rfl) rfl;rw [if_pos (by rfl)];go_simp;exact hK (.int .i64 at_) _ (hI.next hR (by kernel_rfl) (Mod.refl _ _) (PB.quiet hI.1 (Mod.refl _ _) (HGs.out D 6 zw1 zw1 (hI.1).g (Mod.refl _ _))) (upd_same V 6 _))
  ·intro D V zw1 a hR hI K hK;obtain ⟨hM1, hB1, hG1⟩ := hI.1;have ze5 := hR.frame.other (t := 5) (by kernel_rfl) rfl;have zx0 := hG1.1.cell 0;simp at zx0;rw [if_pos (by rfl)];go_simp;exact hK (.string ⟨rev.toArray⟩) _ (hI.next hR (by kernel_rfl) (Mod.refl _ _) (PB.quiet hI.1 (Mod.refl _ _) (HGs.out D 7 zw1 zw1 (hI.1).g (Mod.refl _ _))) (upd_same V 7 _))
  ·intro D V zw1 a hR hI K hK;obtain ⟨hM1, hB1, hG1⟩ := hI.1;have zd5 := hR.pred 5 (by kernel_rfl);have zf5 : V 5 = .int .i64 ((bts.length : Int) + 1) := hI.2 5 zd5 rfl;have zd6 := hR.pred 6 (by kernel_rfl);have zf6 : V 6 = .int .i64 at_ := hI.2 6 zd6 rfl;have zd7 := hR.pred 7 (by kernel_rfl);have zf7 : V 7 = .string ⟨rev.toArray⟩ := hI.2 7 zd7 rfl;have ze52 := hR.frame.done (t := 52) (j := 5) (by kernel_rfl) hR.ok zd5;have ze53 := hR.frame.done (t := 53) (j := 6) (by kernel_rfl) hR.ok zd6;have ze54 := hR.frame.done (t := 54) (j := 7) (by kernel_rfl) hR.ok zd7;rw [if_pos (by rfl)];go_simp;exact hK (_) _ (hI.next hR (by kernel_rfl) (Mod.refl _ _) (PB.quiet hI.1 (Mod.refl _ _) (HGs.out D 8 zw1 zw1 (hI.1).g (Mod.refl _ _))) (upd_same V 8 _))
  ·intro D V zw1 a hR hI K hK;obtain ⟨hM1, hB1, hG1⟩ := hI.1;rw [if_pos (by rfl)];go_simp;exact hK (_) _ (hI.next hR (by kernel_rfl) ((Mod.refl _ _).alloc _) (PB.quiet hI.1 (pure_alloc _ _) (HGs.out D 9 _ _ (hI.1).g ((Mod.refl _ _).alloc _))) (⟨_, upd_same V 9 _, (by omega), (Blk.new _ _ _)⟩))
  ·intro D V zw1 a hR hI K hK;obtain ⟨hM1, hB1, hG1⟩ := hI.1;have zd9 := hR.pred 9 (by kernel_rfl);have zF9 : ∃ (g_9 : Nat), V 9 = .pointer (some ⟨g_9, 0, none⟩) ∧ w6.heap.size ≤ g_9 ∧ Blk zw1 g_9 42 #[.int .i64 0, .int .i64 0, .int .i64 0, .string ⟨#[]⟩, .slice none 0 0] := hI.2 9 zd9 (by show (!D 10) = true; rw [hR.not]; rfl);obtain ⟨g_9, zf9, c9_0, b9_0⟩ := zF9;have zd8 := hR.pred 8 (by kernel_rfl);have zf8 : V 8 = .agg #[.int .i64 ((bts.length : Int) + 1), .int .i64 at_, (.int .i64 (-1)), .string ⟨rev.toArray⟩, .slice none 0 0] := hI.2 8 zd8 rfl;have ze10 := hR.frame.done (t := 10) (j := 9) (by kernel_rfl) hR.ok zd9;have ze55 := hR.frame.done (t := 55) (j := 8) (by kernel_rfl) hR.ok zd8;rw [if_pos (by rfl)];have zx0 := b9_0.cell 0; have zy0 := b9_0.frozen 0;have zx1 := b9_0.cell 1; have zy1 := b9_0.frozen 1;have zx2 := b9_0.cell 2; have zy2 := b9_0.frozen 2;have zx3 := b9_0.cell 3; have zy3 := b9_0.frozen 3;have zx4 := b9_0.cell 4; have zy4 := b9_0.frozen 4;simp at zx0 zy0 zx1 zy1 zx2 zy2 zx3 zy3 zx4 zy4;go_simp;refine hK undef _ (InvF.last ?_ ?_ ?_)
   ·exact ⟨(((((hM1.setCell (.inr (by show _ ≤ g_9; omega)) _).setCell (.inr (by show _ ≤ g_9; omega)) _).setCell (.inr (by show _ ≤ g_9; omega)) _).setCell (.inr (by show _ ≤ g_9; omega)) _).setCell (.inr (by show _ ≤ g_9; omega)) _), (by simpa using hB1), (blk2_far (blk2_far (blk2_far (blk2_far (blk2_far hG1 (by show g5 ≠ g_9; omega) (by show g ≠ g_9; omega) _) (by show g5 ≠ g_9; omega) (by show g ≠ g_9; omega) _) (by show g5 ≠ g_9; omega) (by show g ≠ g_9; omega) _) (by show g5 ≠ g_9; omega) (by show g ≠ g_9; omega) _) (by show g5 ≠ g_9; omega) (by show g ≠ g_9; omega) _)⟩
   ·exact ⟨g_9, (upd_ne V (i := 10) (k := 9) undef (by omega)).trans zf9, (by first | assumption | omega), (by have hset := (((((b9_0.set 0 (.int .i64 ((bts.length : Int) + 1))).set 1 (.int .i64 at_)).set 2 ((.int .i64 (-1)))).set 3 (.string ⟨rev.toArray⟩)).set 4 (.slice none 0 0)); simpa using hset)⟩
   ·intro k hk hDk hlv;have hkl := hR.lt k hDk;have hv := hI.2 k hDk (liveB_of hlv)
    match k, hk, hDk, hlv, hkl, hv with
    | 0, _, _, _, _, hv => exact hv
    | 1, _, _, _, _, hv => exact hv
    | 2, _, _, _, _, hv => exact hv
    | 3, _, _, _, _, hv => exact hv
    | 4, _, _, _, _, hv => exact hv
    | 5, _, _, _, _, hv => exact hv
    | 6, _, _, _, _, hv => exact hv
    | 7, _, _, _, _, hv => exact hv
    | 8, _, _, _, _, hv => exact hv
    | 9, _, _, hlv, _, _ => exact absurd hlv (by show ¬ (!upd D 10 true 10) = true; rw [upd_same]; decide)
    | 10, hk, _, _, _, _ => exact absurd rfl hk
    | k + 11, _, _, _, hkl, _ => exact absurd hkl (by simp)
 ·intro D V w7 hD hI;obtain ⟨hM1, hB1, hG1⟩ := hI.1;have hMx := hM1;clear hM1;have hBx := hB1;clear hB1;have hGx := hG1;clear hG1;have zf0 : V 0 = .pointer (some ⟨g, 0, none⟩) := hI.2 0 (hD 0 (by decide)) rfl;have zf1 : V 1 = .pointer (some ⟨g, 0, none⟩) := hI.2 1 (hD 1 (by decide)) rfl;have zf2 : V 2 = .pointer (some ⟨g, 2, none⟩) := hI.2 2 (hD 2 (by decide)) rfl;have zf3 : V 3 = .slice BA bts.length bc := hI.2 3 (hD 3 (by decide)) rfl;have zf4 : V 4 = .int .i64 (bts.length : Int) := hI.2 4 (hD 4 (by decide)) rfl;have zf5 : V 5 = .int .i64 ((bts.length : Int) + 1) := hI.2 5 (hD 5 (by decide)) rfl;have zf6 : V 6 = .int .i64 at_ := hI.2 6 (hD 6 (by decide)) rfl;have zf7 : V 7 = .string ⟨rev.toArray⟩ := hI.2 7 (hD 7 (by decide)) rfl;have zf8 : V 8 = .agg #[.int .i64 ((bts.length : Int) + 1), .int .i64 at_, (.int .i64 (-1)), .string ⟨rev.toArray⟩, .slice none 0 0] := hI.2 8 (hD 8 (by decide)) rfl;have zF10 : ∃ (g_10 : Nat), V 9 = .pointer (some ⟨g_10, 0, none⟩) ∧ w6.heap.size ≤ g_10 ∧ Blk w7 g_10 42 #[.int .i64 ((bts.length : Int) + 1), .int .i64 at_, (.int .i64 (-1)), .string ⟨rev.toArray⟩, .slice none 0 0] := hI.2 10 (hD 10 (by decide)) rfl;obtain ⟨g_10, zf10, c10_0, b10_0⟩ := zF10;clear hI hD HGs;simp only [frAll, Act.put, List.setIfInBounds_toArray, List.set_cons_zero, List.set_cons_succ, Nat.zero_add, Nat.reduceAdd, zf0, zf1, zf2, zf3, zf4, zf5, zf6, zf7, zf8, zf10];clear zf0 zf1 zf2 zf3 zf4 zf5 zf6 zf7 zf8 zf10;clear V D;have HBN := Lib.hid b10_0;have hgn : w6.heap.size ≤ g_10 := c10_0;have HM7 := Lib.hid (HM6.out.trans hMx);have HB57 := Lib.hid hGx.1;have HDB7 := Lib.hid hGx.2;have HB87 := Lib.hid (HB86.out.modp hMx);have hgn7 := b10_0.lt;have hw7s := hMx.size;clear b10_0 c10_0 hMx hGx hBx HB56 HDB HB86 HM6;generalize g_10 = gn at *;obtain ⟨nb, hnb⟩ : ∃ nb, nb = (bts.length : Int) + 1 := ⟨_, rfl⟩;rw [← hnb] at HBN;have HNB := Lib.hid (show nb = (d.bats.length : Int) + 1 by rw [hnb]; omega);clear hnb;obtain ⟨bl, hbl⟩ : ∃ bl, bl = w7.heap.size := ⟨_, rfl⟩;have hbl1 := Nat.le_of_eq hbl;have hbl2 := Nat.le_of_eq hbl.symm;clear hbl;have hg8w := HB87.out.lt;have hx := HDB7.out;have x0 := hx.cell 0; have x1 := hx.cell 1; have x2 := hx.cell 2; have x3 := hx.cell 3; simp at x0 x1 x2 x3;clear hx
  go_upto_block 1 with (fail)
  go_cut [] (fun wx => ∃ (A : Option Addr) (c : Nat), Blk wx gn 42 #[.int .i64 nb, .int .i64 at_, .int .i64 (-1), .string ⟨rev.toArray⟩, .slice A TL.length c] ∧ wx.ownsRow bl 9 1 (.slice A TL.length c) TL.length (strsV TL) ∧ Pure w wx ∧ w7.heap.size ≤ wx.heap.size ∧ Mod (· = gn) w7 wx)
  case first =>
   obtain ⟨i0, hi0, hz0, hz1, hz2⟩ := info_parts info_str7;have HFK := Lib.hid (fun k (h : k < fms.length) => show d.fams[k]'(by omega) = fms[k].2 by simp [← HFE.out])
   go_wp2_with fail
   go_loopg [61] fms.length (fun gk i wr => ∃ (k cap : Nat) (Ao : Option Addr) (out : List Str), fms.length - k = gk ∧ k ≤ fms.length ∧ i = .int .i64 (k : Int) ∧ takL d.st most (d.fams.drop k) out = TL ∧ out.length ≤ (d.fams.take k).flatten.length ∧ Blk wr gn 42 #[.int .i64 nb, .int .i64 at_, .int .i64 (-1), .string ⟨rev.toArray⟩, .slice Ao out.length cap] ∧ wr.ownsRow bl 9 1 (.slice Ao out.length cap) out.length (strsV out) ∧ Pure w wr ∧ bl ≤ wr.heap.size ∧ Mod (· = gn) w7 wr)
   case atStart => exact ⟨0, 0, none, [], by omega, by omega, rfl, HTL.out, by simp, HBN.out, ⟨rfl, .inl ⟨rfl, rfl⟩⟩, HM7.out, hbl1, Mod.refl _ _⟩
   case round =>
    clear x0 x1 x2 x3;obtain ⟨k, cap, Ao, out, rfl, hk, rfl, htl, hol0, hbn0, hown, hm, hsz, hmg⟩ := hrel
    have hol : out.length ≤ 1000 := by
     have h2 := flatten_take_len (fs := d.fams) k;have h3 := HO.out.fl
     omega
    by_cases hlt : k < fms.length
    ·obtain ⟨gf, off, YA, yn, yc, rfl, p0, hfs⟩ := (HF.out.pure hm).at hlt;have hfe := HFK.out k hlt;have HMF := Lib.hid (HO.out.fi _ (List.getElem_mem (show k < d.fams.length by omega)));have HLF := Lib.hid (Nat.le_trans (len_flatten (List.getElem_mem (show k < d.fams.length by omega))) HO.out.fl);have HFT := Lib.hid (show (d.fams.take (k + 1)).flatten.length = (d.fams.take k).flatten.length + (d.fams[k]'(by omega)).length by rw [List.take_succ_eq_append_getElem (show k < d.fams.length by omega), List.flatten_append, List.length_append, List.flatten_cons, List.flatten_nil, List.append_nil]);have HDR := Lib.hid htl;rw [List.drop_eq_getElem_cons (show k < d.fams.length by omega)] at HDR;rw [hfe] at HMF HLF HFT HDR;have HFS := Lib.hid hfs;have HOWN := Lib.hid hown;have HM := Lib.hid hm;have HBG := Lib.hid hbn0;have HMG := Lib.hid hmg;clear hfe hown hm hfs htl hbn0 hmg;generalize fms[k] = y at *;obtain ⟨yv, f⟩ := y;simp only at p0 HFS HMF HLF HFT HDR;have HOQ := Lib.hid (HOP.out wr HM.out YA yn yc f HFS.out HMF.out HLF.out);clear HFS
     go_wp2_with fail
     refine HOQ.out.mono ?_;rintro e w8 ⟨A8, c8, rfl, hown8, hm8⟩;have HOW := Lib.hid (own_pure HOWN.out hm8);have HMM := Lib.hid (HM.out.trans hm8);have HBG8 := Lib.hid (HBG.out.modp hm8);have HMG8 := Lib.hid (HMG.out.trans (Mod.of_pure hm8))
     have hsz8 : bl ≤ w8.heap.size := by have := hm8.size; omega
     have HO8 := Lib.hid hown8;have hop2 : (opnF d.st f).length ≤ f.length := opnF_len _ _;have hop3 : (opnF d.st f).length ≤ 1000 := Nat.le_trans hop2 HLF.out;have HTT := Lib.hid (show takL d.st most (f :: d.fams.drop (k + 1)) out = if out ≠ [] ∧ opnF d.st f ≠ [] ∧ most < (out.length : Int) + (opnF d.st f).length then out else takL d.st most (d.fams.drop (k + 1)) (out ++ opnF d.st f) from rfl);rw [HDR.out] at HTT;clear HOQ HOWN HM HBG HMG HDR hown8 hm8 p0;generalize opnF d.st f = so at *;obtain ⟨cb, hcb⟩ : ∃ cb, cb = decide (out ≠ [] ∧ so ≠ [] ∧ most < (out.length : Int) + so.length) := ⟨_, rfl⟩;have HCB := Lib.hid hcb;have hx := HBG8.out;have x0 := hx.cell 0; have x1 := hx.cell 1; have x2 := hx.cell 2; have x3 := hx.cell 3; have x4 := hx.cell 4; simp at x0 x1 x2 x3 x4;clear hcb hx
     go_upto_region 16 with (fail)
     go_cut [86] (fun p wx => p = .bool cb ∧ w8 = wx)
     case first =>
      by_cases h1 : out = []
      ·subst h1;have HE := Lib.hid (show cb = false by rw [HCB.out]; exact decide_eq_false (fun h => h.1 rfl));clear HCB
       go_wp2_with fail
       go_meet;exact ⟨by rw [HE.out], rfl⟩
      ·have h1' : (0 : Int) < (out.length : Int) := by have := List.length_pos_iff.2 h1; omega
       by_cases h2 : so = []
       ·subst h2;have HE := Lib.hid (show cb = false by rw [HCB.out]; exact decide_eq_false (fun h => h.2.1 rfl));clear HCB
        go_wp2_with fail
        go_meet;exact ⟨by rw [HE.out], rfl⟩
       ·have h2' : (0 : Int) < (so.length : Int) := by have := List.length_pos_iff.2 h2; omega
        have HE := Lib.hid (show cb = decide (most < (out.length : Int) + so.length) by rw [HCB.out, decide_eq_decide]; exact ⟨fun h => h.2.2, fun h => ⟨h1, h2, h⟩⟩);clear HCB h1 h2
        go_wp2_with fail
        go_meet;exact ⟨by rw [HE.out], rfl⟩
     case rest =>
     obtain ⟨rfl, rfl⟩ := hcut
     cases cb
     ·have HT2 := Lib.hid (show takL d.st most (d.fams.drop (k + 1)) (out ++ so) = TL by rw [HTT.out, if_neg (of_decide_eq_false HCB.out.symm)]);have hown := HOW.out;have hmS := HMM.out;have HOB := Lib.hid (own_block hown)
      have hl5 : (strsV so).length = so.length * 1 := by simp [strsV]
      have hone := strsV_one so;have HNE := Lib.hid (fun j (hj : (Value.slice Ao out.length cap).ownBlock = some j) (e : j = gn) => by subst e; have h2 := HBG8.out; unfold Blk at h2; exact absurd (own_ty hown hj h2) (by decide) : ∀ j, (Value.slice Ao out.length cap).ownBlock = some j → j = gn → False);clear HTT HCB
      rcases own_two HO8.out with ⟨rfl, h0, rfl, rfl⟩ | ⟨g2, rfl, hnews⟩
      ·have hx := HBG8.out;have f4 := hx.frozen 4;clear hx
       go_wp2_with (at_builtin; refine wpList_append_own_none rfl _ _ _ rfl bl 9 i0 1 Tryz.underlying29 hi0 (.slice Ao out.length cap) out.length _ rfl hown rfl ?_)
       go_roundg (fms.length - (k + 1))
       case measure => omega
       case rel =>
        have hmS : Mod (· = gn) w8 (w8.setCell ⟨gn, 4, none⟩ (.slice Ao out.length cap)) := (Mod.refl (· = gn) w8).setCell (.inl rfl) _;refine ⟨k + 1, cap, Ao, out, rfl, by omega, by simp, by have := HT2.out; simpa using this, by rw [HFT.out]; omega, ?_, own_mod HOW.out hmS (fun j hj e => HNE.out j hj e), HMM.out.trans' hmS (fun i hi hl => by omega), by have := hmS.size; omega, HMG8.out.trans hmS⟩;have h := HBG8.out.set 4 (.slice Ao out.length cap)
        simpa using h
      ·go_wp2_with (at_builtin; (refine wpList_append_own_at _ rfl _ _ _ rfl bl 9 i0 _ 1 16 Tryz.underlying29 hi0 hz0 hz1 hz2 rfl (by omega) (.slice Ao out.length cap) out.length _ rfl hown ⟨g2, 0, none⟩ so.length _ _ rfl hl5 hnews hone (by simp [maxLen]; omega) (by omega) (by omega) ?_); intro v9 w9 hown9 hgrow hnil hat; obtain ⟨A9, n9, c9, rfl⟩ := (Sl.of_own hown9).form; clear hnil; have hB9 := HBG8.out.mod (grown_mod (v := .slice Ao out.length cap) hgrow) (fun hv => HNE.out _ hv rfl); have u4 := hB9.cell 4; have uf4 := hB9.frozen 4; simp at u4)
       have hm9 := grown_mod (v := .slice Ao out.length cap) hgrow
       have hn9 : n9 = (out ++ so).length := by
        rcases hown9.2 with ⟨h, h0⟩ | ⟨g, cap', cur, h, _⟩
        ·injection h with _ h1 _
         simp
         omega
        ·injection h with _ h1 _
         simp
         omega
       subst hn9
       go_roundg (fms.length - (k + 1))
       case measure => omega
       case rel =>
        have hmS : Mod (· = gn) w9 (w9.setCell ⟨gn, 4, none⟩ (.slice A9 (out ++ so).length c9)) := (Mod.refl (· = gn) w9).setCell (.inl rfl) _;have hown10 := own_mod hown9 hmS (fun j hj e => by subst e; have h2 := hB9; unfold Blk at h2; exact absurd (own_ty hown9 hj h2) (by decide));refine ⟨k + 1, c9, A9, out ++ so, rfl, by omega, by simp, HT2.out, by rw [HFT.out, List.length_append]; omega, ?_, ?_, (HMM.out.trans' hm9 (fun i hi hl => by have := HOB.out _ hi; omega)).trans' hmS (fun i hi hl => by omega), by have := hgrow.size; have := hmS.size; omega, (HMG8.out.trans' hm9 (fun i hi hl => by have := HOB.out _ hi; omega)).trans hmS⟩
        ·have h := hB9.set 4 (.slice A9 (out ++ so).length c9)
         simpa using h
        ·have e1 : strsV (out ++ so) = strsV out ++ strsV so := by simp [strsV]
         rw [e1];have h := hown10;rw [← List.length_append] at h;exact h
     ·obtain rfl : TL = out := by rw [HTT.out, if_pos (of_decide_eq_true HCB.out.symm)]
      clear HTT HCB
      go_wp2_with fail
      go_meet;exact ⟨Ao, cap, HBG8.out, HOW.out, HMM.out, by omega, HMG8.out⟩
    ·obtain rfl : k = fms.length := by omega
     rw [List.drop_of_length_le (by omega)] at htl;obtain rfl : out = TL := htl;have HOW := Lib.hid hown;have HM2 := Lib.hid hm;have HBG := Lib.hid hbn0;have HMG := Lib.hid hmg;clear hown hm hbn0 hmg
     go_wp2_with fail
     go_meet;exact ⟨Ao, cap, HBG.out, HOW.out, HM2.out, by omega, HMG.out⟩
  case rest =>
  obtain ⟨A6, c6, hbn8, hown8, hm8, hsz8, hmg8⟩ := hcut;obtain ⟨w8, hw8⟩ : ∃ W, W = wc := ⟨wc, rfl⟩;subst hw8;have HBN8 := Lib.hid hbn8;have HOW := Lib.hid hown8;have HM8 := Lib.hid hm8;have HB88 := Lib.hid (HB87.out.mod hmg8 (fun h => by omega));have HB58 := Lib.hid (HB57.out.mod hmg8 (fun h => by omega));have HDB8 := Lib.hid (HDB7.out.mod hmg8 (fun h => by omega));have hx := hbn8;clear x0 x1 x2 x3;have x0 := hx.cell 0; have x1 := hx.cell 1; have x2 := hx.cell 2; have x3 := hx.cell 3; have x4 := hx.cell 4; simp at x0 x1 x2 x3 x4;clear hx hbn8 hown8 hm8 hmg8 HB87 HB57 HDB7 HBN HM7 HOP HTL
  by_cases hT : TL = []
  ·subst hT;have hB8 := HB88.out;have t0 := hB8.cell 0; have tf0 := hB8.frozen 0; have t1 := hB8.cell 1; have tf1 := hB8.frozen 1; have t2 := hB8.cell 2; have tf2 := hB8.frozen 2; have t3 := hB8.cell 3; have tf3 := hB8.frozen 3; have t4 := hB8.cell 4; have tf4 := hB8.frozen 4; simp at t0 t1 t2 t3 t4;clear hB8
   go_wp2_with fail
   have hB9 := HB88.out.set5 (.int .i64 0) (.int .i64 0) (.int .i64 0) (.string ⟨#[]⟩) (.slice none 0 0);have u0 := hB9.cell 0; have u1 := hB9.cell 1; have u2 := hB9.cell 2; have u3 := hB9.cell 3; have u4 := hB9.cell 4; simp at u0 u1 u2 u3 u4;refine bodyPost_ret (v := .tuple #[.agg #[.int .i64 0, .int .i64 0, .int .i64 0, .string ⟨#[]⟩, .slice none 0 0], .int .i64 8]) (by simp [results, Tryz.results16, go_sem, u0, u1, u2, u3, u4]) rfl ?_
   have hq : ef = 8 := by rw [HKF2.out]; simp
   exact .inl ⟨by rw [hq]; decide, by rw [hq], HM8.out.set5 (.inr (by omega)) _ _ _ _ _⟩
  have hT2 : ((TL.length : Int) == 0) = false := by rw [beq_eq_false_iff_ne]; have := List.length_pos_iff.2 hT; omega
  have HQ0 := Lib.hid (show ef = 0 by rw [HKF2.out, if_neg hT])
  obtain ⟨g2, rfl⟩ : ∃ g2, A6 = some ⟨g2, 0, none⟩ := by
   rcases own_two HOW.out with ⟨_, _, _, h⟩ | ⟨g2, h, _⟩
   ·exact absurd h hT
   ·exact ⟨g2, h⟩
  have hg2 : bl ≤ g2 := own_block HOW.out g2 rfl;have HS8 := Lib.hid (HS.out.pure HM8.out);have hgbm := mapX_ne HS8.out HDB8.out;have hgnbm := mapX_ne HS8.out HBN8.out;clear hT HKF2
  go_wp2_with fail
  go_loopg [101] TL.length (fun gk i wr => ∃ (k : Nat), TL.length - k = gk ∧ k ≤ TL.length ∧ i = .int .i64 (k : Int) ∧ StM wr bm (fun x => x) ids (fun s => if s ∈ TL.take k then nb else d.st s) ∧ Mod (· = bm) w8 wr)
  case atStart => exact ⟨0, by omega, by omega, rfl, by simpa using HS8.out, Mod.refl _ _⟩
  case round =>
   clear x0 x1 x2 x3 x4;obtain ⟨k, rfl, hk, rfl, hst, hm⟩ := hrel
   by_cases hlt : k < TL.length
   ·have hown := own_mod HOW.out hm (fun j hj => by have hj2 : g2 = j := (by simpa [Value.ownBlock] using hj); show ¬ j = bm; omega);have hq := (hown.cellAt k (by omega)).trans (strsV_get TL k hlt);have hmem := HTI.out _ (List.getElem_mem hlt);have hsl := HO.out.sl _ hmem;have HTT := Lib.hid (List.take_succ_eq_append_getElem hlt);obtain ⟨w9, hw9⟩ : ∃ W, W = wr := ⟨wr, rfl⟩;subst hw9;have HD9 := Lib.hid (HDB8.out.mod hm hgbm);have HN9 := Lib.hid (HBN8.out.mod hm hgnbm);have HST := Lib.hid hst;have HM9 := Lib.hid hm;clear hown hst hm;generalize TL[k] = s at *
    go_upto_region 24 with (fail)
    have HGs := Lib.hid (show ∀ (D : Nat → Bool) (zzi : Nat) (zq zq' : World), zzi ≠ 7 → (fun D zq => (D 7 = false → (fun Z => StM Z bm (fun x => x) ids (fun q => if q ∈ TL.take k then nb else d.st q)) zq) ∧ (fun Z => Blk Z g 50 #[.slice FA fms.length fc, .map (some bm), .slice BA bts.length bc, .int .i64 d.last] ∧ Blk Z gn 42 #[.int .i64 nb, .int .i64 at_, .int .i64 (-1), .string ⟨rev.toArray⟩, .slice (some ⟨g2, 0, none⟩) TL.length c6]) zq) D zq → Mod (fun _ => False) zq zq' → (fun D zq => (D 7 = false → (fun Z => StM Z bm (fun x => x) ids (fun q => if q ∈ TL.take k then nb else d.st q)) zq) ∧ (fun Z => Blk Z g 50 #[.slice FA fms.length fc, .map (some bm), .slice BA bts.length bc, .int .i64 d.last] ∧ Blk Z gn 42 #[.int .i64 nb, .int .i64 at_, .int .i64 (-1), .string ⟨rev.toArray⟩, .slice (some ⟨g2, 0, none⟩) TL.length c6]) zq) (upd D zzi true) zq' from by intro D zzi zq zq' hi hh hm; refine ⟨fun hs => ?_, ?_⟩; (rw [upd_ne _ _ (Ne.symm hi)] at hs; have h := hh.1 hs; (exact h.pure hm)); (have h := hh.2; (exact ⟨h.1.modp hm, h.2.modp hm⟩)))
    refine wp_region_inv (by kernel_rfl) (by kernel_rfl) (InvF (R := Mod (fun _ => False)) [.is (.pointer (some ⟨g, 0, none⟩)),
      .is (.pointer (some ⟨g, 0, none⟩)),
      .is (.pointer (some ⟨g, 1, none⟩)),
      .is (.map (some bm)),
      .is (.string ⟨s.toArray⟩),
      .is (.pointer (some ⟨gn, 0, none⟩)),
      .is (.int .i64 nb),
      ⟨fun zv zw => zv = undef ∧ StM zw bm (fun x => x) ids (fun q => if q = s then nb else if q ∈ TL.take k then nb else d.st q), (by rintro zv zw zx ⟨rfl, q0⟩ hm; exact ⟨rfl, (q0.pure hm)⟩), none, none⟩]
      (PB w9 (fun j => j = bm) w9.heap.size (fun D zq => (D 7 = false → (fun Z => StM Z bm (fun x => x) ids (fun q => if q ∈ TL.take k then nb else d.st q)) zq) ∧ (fun Z => Blk Z g 50 #[.slice FA fms.length fc, .map (some bm), .slice BA bts.length bc, .int .i64 d.last] ∧ Blk Z gn 42 #[.int .i64 nb, .int .i64 at_, .int .i64 (-1), .string ⟨rev.toArray⟩, .slice (some ⟨g2, 0, none⟩) TL.length c6]) zq))) (InvF.start (PB.start (Mod.refl _ _) (Nat.le_refl _) (⟨fun _ => HST.out.pure ((Mod.refl _ _).drew), ⟨HD9.out.drew, HN9.out.drew⟩⟩))) ?_ ?_
    ·refine .cons ?_ (.cons ?_ (.cons ?_ (.cons ?_ (.cons ?_ (.cons ?_ (.cons ?_ (.cons ?_ .nil)))))))
     ·intro D V zw1 a hR hI K hK;obtain ⟨hM1, hB1, hG1⟩ := hI.1;obtain ⟨hGK, hG1⟩ := hG1;have ze0 := hR.frame.other (t := 0) (by kernel_rfl) rfl;rw [if_pos (by rfl)];go_simp;exact hK (.pointer (some ⟨g, 0, none⟩)) _ (hI.next hR (by kernel_rfl) (Mod.refl _ _) (PB.quiet hI.1 (Mod.refl _ _) (HGs.out D 0 zw1 zw1 (by omega) (hI.1).g (Mod.refl _ _))) (upd_same V 0 _))
     ·intro D V zw1 a hR hI K hK;obtain ⟨hM1, hB1, hG1⟩ := hI.1;obtain ⟨hGK, hG1⟩ := hG1;have zd0 := hR.pred 0 (by kernel_rfl);have zf0 : V 0 = .pointer (some ⟨g, 0, none⟩) := hI.2 0 zd0 rfl;have ze105 := hR.frame.done (t := 105) (j := 0) (by kernel_rfl) hR.ok zd0;rw [if_pos (by rfl)];go_simp;exact hK (.pointer (some ⟨g, 0, none⟩)) _ (hI.next hR (by kernel_rfl) (Mod.refl _ _) (PB.quiet hI.1 (Mod.refl _ _) (HGs.out D 1 zw1 zw1 (by omega) (hI.1).g (Mod.refl _ _))) (upd_same V 1 _))
     ·intro D V zw1 a hR hI K hK;obtain ⟨hM1, hB1, hG1⟩ := hI.1;obtain ⟨hGK, hG1⟩ := hG1;have zd1 := hR.pred 1 (by kernel_rfl);have zf1 : V 1 = .pointer (some ⟨g, 0, none⟩) := hI.2 1 zd1 rfl;have ze106 := hR.frame.done (t := 106) (j := 1) (by kernel_rfl) hR.ok zd1;rw [if_pos (by rfl)];go_simp;exact hK (.pointer (some ⟨g, 1, none⟩)) _ (hI.next hR (by kernel_rfl) (Mod.refl _ _) (PB.quiet hI.1 (Mod.refl _ _) (HGs.out D 2 zw1 zw1 (by omega) (hI.1).g (Mod.refl _ _))) (upd_same V 2 _))
     ·intro D V zw1 a hR hI K hK;obtain ⟨hM1, hB1, hG1⟩ := hI.1;obtain ⟨hGK, hG1⟩ := hG1;have zd2 := hR.pred 2 (by kernel_rfl);have zf2 : V 2 = .pointer (some ⟨g, 1, none⟩) := hI.2 2 zd2 rfl;have ze107 := hR.frame.done (t := 107) (j := 2) (by kernel_rfl) hR.ok zd2;have zx0 := hG1.1.cell 1;simp at zx0;rw [if_pos (by rfl)];go_simp;exact hK (.map (some bm)) _ (hI.next hR (by kernel_rfl) (Mod.refl _ _) (PB.quiet hI.1 (Mod.refl _ _) (HGs.out D 3 zw1 zw1 (by omega) (hI.1).g (Mod.refl _ _))) (upd_same V 3 _))
     ·intro D V zw1 a hR hI K hK;obtain ⟨hM1, hB1, hG1⟩ := hI.1;obtain ⟨hGK, hG1⟩ := hG1;have ze15 := hR.frame.other (t := 15) (by kernel_rfl) rfl;rw [if_pos (by rfl)];go_simp;exact hK (.string ⟨s.toArray⟩) _ (hI.next hR (by kernel_rfl) (Mod.refl _ _) (PB.quiet hI.1 (Mod.refl _ _) (HGs.out D 4 zw1 zw1 (by omega) (hI.1).g (Mod.refl _ _))) (upd_same V 4 _))
     ·intro D V zw1 a hR hI K hK;obtain ⟨hM1, hB1, hG1⟩ := hI.1;obtain ⟨hGK, hG1⟩ := hG1;have ze10 := hR.frame.other (t := 10) (by kernel_rfl) rfl;rw [if_pos (by rfl)];go_simp;exact hK (.pointer (some ⟨gn, 0, none⟩)) _ (hI.next hR (by kernel_rfl) (Mod.refl _ _) (PB.quiet hI.1 (Mod.refl _ _) (HGs.out D 5 zw1 zw1 (by omega) (hI.1).g (Mod.refl _ _))) (upd_same V 5 _))
     ·intro D V zw1 a hR hI K hK;obtain ⟨hM1, hB1, hG1⟩ := hI.1;obtain ⟨hGK, hG1⟩ := hG1;have zd5 := hR.pred 5 (by kernel_rfl);have zf5 : V 5 = .pointer (some ⟨gn, 0, none⟩) := hI.2 5 zd5 rfl;have ze110 := hR.frame.done (t := 110) (j := 5) (by kernel_rfl) hR.ok zd5;have zx0 := hG1.2.cell 0;simp at zx0;rw [if_pos (by rfl)];go_simp;exact hK (.int .i64 nb) _ (hI.next hR (by kernel_rfl) (Mod.refl _ _) (PB.quiet hI.1 (Mod.refl _ _) (HGs.out D 6 zw1 zw1 (by omega) (hI.1).g (Mod.refl _ _))) (upd_same V 6 _))
     ·intro D V zw1 a hR hI K hK;obtain ⟨hM1, hB1, hG1⟩ := hI.1;obtain ⟨hGK, hG1⟩ := hG1;have zd3 := hR.pred 3 (by kernel_rfl);have zf3 : V 3 = .map (some bm) := hI.2 3 zd3 rfl;have zd4 := hR.pred 4 (by kernel_rfl);have zf4 : V 4 = .string ⟨s.toArray⟩ := hI.2 4 zd4 rfl;have zd6 := hR.pred 6 (by kernel_rfl);have zf6 : V 6 = .int .i64 nb := hI.2 6 zd6 rfl;have ze108 := hR.frame.done (t := 108) (j := 3) (by kernel_rfl) hR.ok zd3;have ze109 := hR.frame.done (t := 109) (j := 4) (by kernel_rfl) hR.ok zd4;have ze111 := hR.frame.done (t := 111) (j := 6) (by kernel_rfl) hR.ok zd6;rw [if_pos (by rfl)];obtain ⟨w6', hrun6, hS6, hm6⟩ := (hGK hR.not).store HO.out.nd HO.out.il hmem hsl nb;go_simp;refine hK undef _ (InvF.last ⟨hM1.trans' hm6 (fun i hi hlt => hi), (by have := hm6.size; omega), ⟨fun hs => absurd hs (by rw [upd_same]; decide), ⟨hG1.1.mod hm6 hgbm, hG1.2.mod hm6 hgnbm⟩⟩⟩ ⟨upd_same _ 7 _, hS6⟩ ?_);intro k hk hDk hlv;have hkl := hR.lt k hDk;have hv := hI.2 k hDk (liveB_of hlv)
      match k, hk, hDk, hlv, hkl, hv with
      | 0, _, _, _, _, hv => exact hv
      | 1, _, _, _, _, hv => exact hv
      | 2, _, _, _, _, hv => exact hv
      | 3, _, _, _, _, hv => exact hv
      | 4, _, _, _, _, hv => exact hv
      | 5, _, _, _, _, hv => exact hv
      | 6, _, _, _, _, hv => exact hv
      | 7, hk, _, _, _, _ => exact absurd rfl hk
      | k + 8, _, _, _, hkl, _ => exact absurd hkl (by simp)
    ·intro D V wA hD hI;obtain ⟨hM1, hB1, hG1⟩ := hI.1;have hMx := hM1;clear hM1;have hBx := hB1;clear hB1;have hGx := hG1.2;clear hG1;have zf0 : V 0 = .pointer (some ⟨g, 0, none⟩) := hI.2 0 (hD 0 (by decide)) rfl;have zf1 : V 1 = .pointer (some ⟨g, 0, none⟩) := hI.2 1 (hD 1 (by decide)) rfl;have zf2 : V 2 = .pointer (some ⟨g, 1, none⟩) := hI.2 2 (hD 2 (by decide)) rfl;have zf3 : V 3 = .map (some bm) := hI.2 3 (hD 3 (by decide)) rfl;have zf4 : V 4 = .string ⟨s.toArray⟩ := hI.2 4 (hD 4 (by decide)) rfl;have zf5 : V 5 = .pointer (some ⟨gn, 0, none⟩) := hI.2 5 (hD 5 (by decide)) rfl;have zf6 : V 6 = .int .i64 nb := hI.2 6 (hD 6 (by decide)) rfl;have zF7 : V 7 = undef ∧ StM wA bm (fun x => x) ids (fun q => if q = s then nb else if q ∈ TL.take k then nb else d.st q) := hI.2 7 (hD 7 (by decide)) rfl;obtain ⟨zf7, b7_0⟩ := zF7;clear hI hD HGs;simp only [frAll, Act.put, List.setIfInBounds_toArray, List.set_cons_zero, List.set_cons_succ, Nat.zero_add, Nat.reduceAdd, zf0, zf1, zf2, zf3, zf4, zf5, zf6, zf7];clear zf0 zf1 zf2 zf3 zf4 zf5 zf6 zf7;clear V D;have HSA := Lib.hid b7_0;have HMA := Lib.hid (HM9.out.trans hMx);clear b7_0 hMx hGx hBx HD9 HN9 HST HM9
     go_wp2_with fail
     go_roundg (TL.length - (k + 1))
     case measure => omega
     case rel =>
      refine ⟨k + 1, rfl, by omega, by simp, ?_, HMA.out⟩;rw [HTT.out]
      have e : (fun q => if q ∈ TL.take k ++ [s] then nb else d.st q) = (fun q => if q = s then nb else if q ∈ TL.take k then nb else d.st q) := by
       funext q
       by_cases e1 : q = s
       ·subst e1; simp
       ·simp [e1]
      rw [e];exact HSA.out
   ·obtain rfl : k = TL.length := by omega
    rw [List.take_length] at hst;obtain ⟨w9, hw9⟩ : ∃ W, W = wr := ⟨wr, rfl⟩;subst hw9;have hcl : ∀ g arr t fr, w8.heap[g]? = some (.cells arr t fr) → ¬ g = bm := fun g arr t fr h => mapX_cells HS8.out h;have HS9 := Lib.hid hst;have HOW9 := Lib.hid (own_mod HOW.out hm (fun j hj => by have hj2 : g2 = j := (by simpa [Value.ownBlock] using hj); show ¬ j = bm; omega));have HDB9 := Lib.hid (HDB8.out.mod hm hgbm);have HBN9 := Lib.hid (HBN8.out.mod hm hgnbm);have HB89 := Lib.hid (HB88.out.mod hm (fun h => by omega));have HF9 := Lib.hid ((HF.out.pure HM8.out).mod hm (fun g arr fr h => hcl g arr _ fr h) (fun g arr fr h => hcl g arr _ fr h));have HBT9 := Lib.hid ((HBT.out.pure HM8.out).mod hm (fun j hj e => by obtain ⟨arr, h⟩ := own_heap (own_pure HBT.out.1 HM8.out) hj; exact hcl j _ _ _ h e) (fun g arr fr h => hcl g arr _ fr h));have HM9 : Hid (Mod (fun j => j = g ∨ j = bm ∨ bo = some j) w w9) := Lib.hid ((Mod.of_pure HM8.out).trans' hm (fun i hi hlt => .inr (.inl hi)));have hw9s := hm.size;have HLT := Lib.hid (fun j (hj : (Value.slice BA bts.length bc).ownBlock = some j) => by obtain ⟨arr, h⟩ := own_heap HBT.out.1 hj; exact lt_of_heap h);have HSL9 := Lib.hid (Sl.of_own HOW9.out);clear hst hm hcl HS HS8 HB HF HBT HOW HDB8 HB58 HB88 HBN8 HM8 hlt
    obtain ⟨i0, hi0, hz0, hz1, hz2⟩ := info_parts info_bat
    go_upto_region 26 with (fail)
    have HGs := Lib.hid (show ∀ (D : Nat → Bool) (zzi : Nat) (zq zq' : World), zzi ≠ 8 → (fun D zq => (D 8 = false → (fun Z => BtB Z BA bc bts d.bats g 50 #[.slice FA fms.length fc, .map (some bm), .slice BA bts.length bc, .int .i64 d.last] ∧ Sl Z 9 1 (.slice (some ⟨g2, 0, none⟩) TL.length c6) (strsV TL)) zq) ∧ (fun Z => Blk Z gn 42 #[.int .i64 nb, .int .i64 at_, .int .i64 (-1), .string ⟨rev.toArray⟩, .slice (some ⟨g2, 0, none⟩) TL.length c6]) zq) D zq → Mod (fun _ => False) zq zq' → (fun D zq => (D 8 = false → (fun Z => BtB Z BA bc bts d.bats g 50 #[.slice FA fms.length fc, .map (some bm), .slice BA bts.length bc, .int .i64 d.last] ∧ Sl Z 9 1 (.slice (some ⟨g2, 0, none⟩) TL.length c6) (strsV TL)) zq) ∧ (fun Z => Blk Z gn 42 #[.int .i64 nb, .int .i64 at_, .int .i64 (-1), .string ⟨rev.toArray⟩, .slice (some ⟨g2, 0, none⟩) TL.length c6]) zq) (upd D zzi true) zq' from by intro D zzi zq zq' hi hh hm; refine ⟨fun hs => ?_, ?_⟩; (rw [upd_ne _ _ (Ne.symm hi)] at hs; have h := hh.1 hs; (exact ⟨h.1.pure hm, h.2.pure hm⟩)); (have h := hh.2; (exact h.modp hm)))
    refine wp_region_inv (by kernel_rfl) (by kernel_rfl) (InvF (R := Mod (fun _ => False)) [.is (.pointer (some ⟨g, 0, none⟩)),
      .is (.pointer (some ⟨g, 0, none⟩)),
      .is (.pointer (some ⟨g, 0, none⟩)),
      .is (.pointer (some ⟨g, 0, none⟩)),
      .is (.pointer (some ⟨g, 2, none⟩)),
      .is (.slice BA bts.length bc),
      .is (.agg #[.int .i64 nb, .int .i64 at_, .int .i64 (-1), .string ⟨rev.toArray⟩, .slice (some ⟨g2, 0, none⟩) TL.length c6]),
      ⟨fun zv zw => ∃ (g_7 : Nat), zv = .slice (some ⟨g_7, 0, none⟩) 1 1 ∧ w9.heap.size ≤ g_7 ∧ Blk zw g_7 42 #[.int .i64 nb, .int .i64 at_, .int .i64 (-1), .string ⟨rev.toArray⟩, .slice (some ⟨g2, 0, none⟩) TL.length c6], (by rintro zv zw zx ⟨g_7, rfl, c0, q0⟩ hm; exact ⟨g_7, rfl, c0, (q0.modp hm)⟩), none, some 8⟩,
      ⟨fun zv zw => ∃ (g_8 : Nat) (c_8 : Nat), zv = .slice (some ⟨g_8, 0, none⟩) (bts.length + 1) c_8 ∧ (bo = some g_8 ∨ w9.heap.size ≤ g_8) ∧ BtB zw (some ⟨g_8, 0, none⟩) c_8 (bts ++ [⟨nb, at_, -1, rev, some ⟨g2, 0, none⟩, c6, TL⟩]) (d.bats ++ [(nb, at_, -1, rev, TL)]) g 50 #[.slice FA fms.length fc, .map (some bm), .slice BA bts.length bc, .int .i64 d.last], (by rintro zv zw zx ⟨g_8, c_8, rfl, c0, q0⟩ hm; exact ⟨g_8, c_8, rfl, c0, (q0.pure hm)⟩), none, some 12⟩,
      .is (.int .i64 at_),
      .is (.pointer (some ⟨g, 0, none⟩)),
      .is (.pointer (some ⟨g, 2, none⟩)),
      ⟨fun zv zw => ∃ (g_12 : Nat) (c_12 : Nat), zv = undef ∧ (bo = some g_12 ∨ w9.heap.size ≤ g_12) ∧ BtB zw (some ⟨g_12, 0, none⟩) c_12 (bts ++ [⟨nb, at_, -1, rev, some ⟨g2, 0, none⟩, c6, TL⟩]) (d.bats ++ [(nb, at_, -1, rev, TL)]) g 50 #[.slice FA fms.length fc, .map (some bm), .slice (some ⟨g_12, 0, none⟩) (bts.length + 1) c_12, .int .i64 d.last], (by rintro zv zw zx ⟨g_12, c_12, rfl, c0, q0⟩ hm; exact ⟨g_12, c_12, rfl, c0, (q0.pure hm)⟩), none, some 15⟩,
      .is (.pointer (some ⟨g, 0, none⟩)),
      .is (.pointer (some ⟨g, 3, none⟩)),
      ⟨fun zv zw => ∃ (g_15 : Nat) (c_15 : Nat), zv = undef ∧ (bo = some g_15 ∨ w9.heap.size ≤ g_15) ∧ BtB zw (some ⟨g_15, 0, none⟩) c_15 (bts ++ [⟨nb, at_, -1, rev, some ⟨g2, 0, none⟩, c6, TL⟩]) (d.bats ++ [(nb, at_, -1, rev, TL)]) g 50 #[.slice FA fms.length fc, .map (some bm), .slice (some ⟨g_15, 0, none⟩) (bts.length + 1) c_15, .int .i64 at_], (by rintro zv zw zx ⟨g_15, c_15, rfl, c0, q0⟩ hm; exact ⟨g_15, c_15, rfl, c0, (q0.pure hm)⟩), none, none⟩]
      (PB w9 (fun j => j = g ∨ bo = some j) w9.heap.size (fun D zq => (D 8 = false → (fun Z => BtB Z BA bc bts d.bats g 50 #[.slice FA fms.length fc, .map (some bm), .slice BA bts.length bc, .int .i64 d.last] ∧ Sl Z 9 1 (.slice (some ⟨g2, 0, none⟩) TL.length c6) (strsV TL)) zq) ∧ (fun Z => Blk Z gn 42 #[.int .i64 nb, .int .i64 at_, .int .i64 (-1), .string ⟨rev.toArray⟩, .slice (some ⟨g2, 0, none⟩) TL.length c6]) zq))) (InvF.start (PB.start (Mod.refl _ _) (Nat.le_refl _) (⟨fun _ => ⟨BtB.pure ⟨HBT9.out, HDB9.out⟩ ((Mod.refl _ _).drew), HSL9.out.pure ((Mod.refl _ _).drew)⟩, HBN9.out.drew⟩))) ?_ ?_
    ·refine .cons ?_ (.cons ?_ (.cons ?_ (.cons ?_ (.cons ?_ (.cons ?_ (.cons ?_ (.cons ?_ (.cons ?_ (.cons ?_ (.cons ?_ (.cons ?_ (.cons ?_ (.cons ?_ (.cons ?_ (.cons ?_ .nil)))))))))))))))
     ·intro D V zw1 a hR hI K hK;obtain ⟨hM1, hB1, hG1⟩ := hI.1;obtain ⟨hGK, hG1⟩ := hG1;have ze0 := hR.frame.other (t := 0) (by kernel_rfl) rfl;rw [if_pos (by rfl)];go_simp;exact hK (.pointer (some ⟨g, 0, none⟩)) _ (hI.next hR (by kernel_rfl) (Mod.refl _ _) (PB.quiet hI.1 (Mod.refl _ _) (HGs.out D 0 zw1 zw1 (by omega) (hI.1).g (Mod.refl _ _))) (upd_same V 0 _))
     ·intro D V zw1 a hR hI K hK;obtain ⟨hM1, hB1, hG1⟩ := hI.1;obtain ⟨hGK, hG1⟩ := hG1;have ze0 := hR.frame.other (t := 0) (by kernel_rfl) rfl;rw [if_pos (by rfl)];go_simp;exact hK (.pointer (some ⟨g, 0, none⟩)) _ (hI.next hR (by kernel_rfl) (Mod.refl _ _) (PB.quiet hI.1 (Mod.refl _ _) (HGs.out D 1 zw1 zw1 (by omega) (hI.1).g (Mod.refl _ _))) (upd_same V 1 _))
     ·intro D V zw1 a hR hI K hK;obtain ⟨hM1, hB1, hG1⟩ := hI.1;obtain ⟨hGK, hG1⟩ := hG1;have ze0 := hR.frame.other (t := 0) (by kernel_rfl) rfl;rw [if_pos (by rfl)];go_simp;exact hK (.pointer (some ⟨g, 0, none⟩)) _ (hI.next hR (by kernel_rfl) (Mod.refl _ _) (PB.quiet hI.1 (Mod.refl _ _) (HGs.out D 2 zw1 zw1 (by omega) (hI.1).g (Mod.refl _ _))) (upd_same V 2 _))
     ·intro D V zw1 a hR hI K hK;obtain ⟨hM1, hB1, hG1⟩ := hI.1;obtain ⟨hGK, hG1⟩ := hG1;have zd2 := hR.pred 2 (by kernel_rfl);have zf2 : V 2 = .pointer (some ⟨g, 0, none⟩) := hI.2 2 zd2 rfl;have ze115 := hR.frame.done (t := 115) (j := 2) (by kernel_rfl) hR.ok zd2;rw [if_pos (by rfl)];go_simp;exact hK (.pointer (some ⟨g, 0, none⟩)) _ (hI.next hR (by kernel_rfl) (Mod.refl _ _) (PB.quiet hI.1 (Mod.refl _ _) (HGs.out D 3 zw1 zw1 (by omega) (hI.1).g (Mod.refl _ _))) (upd_same V 3 _))
     ·intro D V zw1 a hR hI K hK;obtain ⟨hM1, hB1, hG1⟩ := hI.1;obtain ⟨hGK, hG1⟩ := hG1;have zd3 := hR.pred 3 (by kernel_rfl);have zf3 : V 3 = .pointer (some ⟨g, 0, none⟩) := hI.2 3 zd3 rfl;have ze116 := hR.frame.done (t := 116) (j := 3) (by kernel_rfl) hR.ok zd3;rw [if_pos (by rfl)];go_simp;exact hK (.pointer (some ⟨g, 2, none⟩)) _ (hI.next hR (by kernel_rfl) (Mod.refl _ _) (PB.quiet hI.1 (Mod.refl _ _) (HGs.out D 4 zw1 zw1 (by omega) (hI.1).g (Mod.refl _ _))) (upd_same V 4 _))
     ·intro D V zw1 a hR hI K hK;obtain ⟨hM1, hB1, hG1⟩ := hI.1;obtain ⟨hGK, hG1⟩ := hG1;have zd4 := hR.pred 4 (by kernel_rfl);have zf4 : V 4 = .pointer (some ⟨g, 2, none⟩) := hI.2 4 zd4 rfl;have ze117 := hR.frame.done (t := 117) (j := 4) (by kernel_rfl) hR.ok zd4;have zx0 := (hGK (hR.later 8 rfl (by kernel_rfl))).1.2.cell 2;simp at zx0;rw [if_pos (by rfl)];go_simp;exact hK (.slice BA bts.length bc) _ (hI.next hR (by kernel_rfl) (Mod.refl _ _) (PB.quiet hI.1 (Mod.refl _ _) (HGs.out D 5 zw1 zw1 (by omega) (hI.1).g (Mod.refl _ _))) (upd_same V 5 _))
     ·intro D V zw1 a hR hI K hK;obtain ⟨hM1, hB1, hG1⟩ := hI.1;obtain ⟨hGK, hG1⟩ := hG1;have ze10 := hR.frame.other (t := 10) (by kernel_rfl) rfl;have zx0 := hG1.cell 0; have zx1 := hG1.cell 1; have zx2 := hG1.cell 2; have zx3 := hG1.cell 3; have zx4 := hG1.cell 4;simp at zx0 zx1 zx2 zx3 zx4;rw [if_pos (by rfl)];go_simp;exact hK (.agg #[.int .i64 nb, .int .i64 at_, .int .i64 (-1), .string ⟨rev.toArray⟩, .slice (some ⟨g2, 0, none⟩) TL.length c6]) _ (hI.next hR (by kernel_rfl) (Mod.refl _ _) (PB.quiet hI.1 (Mod.refl _ _) (HGs.out D 6 zw1 zw1 (by omega) (hI.1).g (Mod.refl _ _))) (upd_same V 6 _))
     ·intro D V zw1 a hR hI K hK;obtain ⟨hM1, hB1, hG1⟩ := hI.1;obtain ⟨hGK, hG1⟩ := hG1;have zd6 := hR.pred 6 (by kernel_rfl);have zf6 : V 6 = .agg #[.int .i64 nb, .int .i64 at_, .int .i64 (-1), .string ⟨rev.toArray⟩, .slice (some ⟨g2, 0, none⟩) TL.length c6] := hI.2 6 zd6 rfl;have ze119 := hR.frame.done (t := 119) (j := 6) (by kernel_rfl) hR.ok zd6;rw [if_pos (by rfl)];go_simp;exact hK (_) _ (hI.next hR (by kernel_rfl) ((Mod.refl _ _).alloc _) (PB.quiet hI.1 (pure_alloc _ _) (HGs.out D 7 _ _ (by omega) (hI.1).g ((Mod.refl _ _).alloc _))) (⟨_, upd_same V 7 _, (by omega), (Blk.new _ _ _)⟩))
     ·intro D V zw1 a hR hI K hK;obtain ⟨hM1, hB1, hG1⟩ := hI.1;obtain ⟨hGK, hG1⟩ := hG1;have zd5 := hR.pred 5 (by kernel_rfl);have zf5 : V 5 = .slice BA bts.length bc := hI.2 5 zd5 rfl;have zd7 := hR.pred 7 (by kernel_rfl);have zF7 : ∃ (g_7 : Nat), V 7 = .slice (some ⟨g_7, 0, none⟩) 1 1 ∧ w9.heap.size ≤ g_7 ∧ Blk zw1 g_7 42 #[.int .i64 nb, .int .i64 at_, .int .i64 (-1), .string ⟨rev.toArray⟩, .slice (some ⟨g2, 0, none⟩) TL.length c6] := hI.2 7 zd7 (by show (!D 8) = true; rw [hR.not]; rfl);obtain ⟨g_7, zf7, c7_0, b7_0⟩ := zF7;have ze118 := hR.frame.done (t := 118) (j := 5) (by kernel_rfl) hR.ok zd5;have ze120 := hR.frame.done (t := 120) (j := 7) (by kernel_rfl) hR.ok zd7;rw [if_pos (by rfl)];have hown := (hGK hR.not).1.1.1;refine wp_append_lies _ (.tmp 118) (.tmp 120) 48 (by rfl) 0 42 i0 _ 5 64 Tryz.underlying48 hi0 hz0 hz1 hz2 (by rfl) (by omega) (.slice BA bts.length bc) (bts.length) (batV bts) ?_ hown ⟨g_7, 0, none⟩ 1 1 [.int .i64 nb, .int .i64 at_, .int .i64 (-1), .string ⟨rev.toArray⟩, .slice (some ⟨g2, 0, none⟩) TL.length c6] ?_ (by rfl) (World.news_of_block (cs := #[.int .i64 nb, .int .i64 at_, .int .i64 (-1), .string ⟨rev.toArray⟩, .slice (some ⟨g2, 0, none⟩) TL.length c6]) (t := 42) (fr := (0, 0)) b7_0) (by simp [Value.oneCell']) (by omega) (by simp [maxLen]; omega) (by omega) (by omega) zw1.heap.size rfl ?_
      ·show a.tmps.getD 118 undef = _; simp [ze118, zf5]
      ·show a.tmps.getD 120 undef = _; simp [ze120, zf7]
      intro g5 cap5 zw2 hown5 hgrow hat hlt5;have hT := mod_grown hgrow;have hTb : ∀ j, (.slice BA bts.length bc : Value).ownBlock = some j → 0 ≤ j := own_block hown;refine hK _ _ (InvF.last (PB.writes hI.1 (fun j hj hl => .inr (by rw [← HBO.out]; exact hj)) hT ⟨fun hs => absurd hs (by rw [upd_same]; decide), (hG1.mod hT (fun h => by have := HLT.out _ h; omega))⟩) ⟨_, _, upd_same V 8 _, (by rw [← HBO.out]; rcases hat with h | h; exact .inl h; exact .inr (by omega)), (hGK hR.not).1.app (by decide) hT (x := ⟨nb, at_, -1, rev, some ⟨g2, 0, none⟩, c6, TL⟩) (hGK hR.not).2 rfl hown5⟩ ?_);intro k hk hDk hlv;have hkl := hR.lt k hDk;have hv := hI.2 k hDk (liveB_of hlv)
      match k, hk, hDk, hlv, hkl, hv with
      | 0, _, _, _, _, hv => exact hv
      | 1, _, _, _, _, hv => exact hv
      | 2, _, _, _, _, hv => exact hv
      | 3, _, _, _, _, hv => exact hv
      | 4, _, _, _, _, hv => exact hv
      | 5, _, _, _, _, hv => exact hv
      | 6, _, _, _, _, hv => exact hv
      | 7, _, _, hlv, _, _ => exact absurd hlv (by show ¬ (!upd D 8 true 8) = true; rw [upd_same]; decide)
      | 8, hk, _, _, _, _ => exact absurd rfl hk
      | 9, _, _, _, _, hv => exact hv
      | 10, _, _, _, _, hv => exact hv
      | 11, _, _, _, _, hv => exact hv
      | 12, _, hDk, _, _, _ => exact absurd hDk (by rw [hR.later 12 rfl (by kernel_rfl)]; decide)
      | 13, _, _, _, _, hv => exact hv
      | 14, _, _, _, _, hv => exact hv
      | 15, _, hDk, _, _, _ => exact absurd hDk (by rw [hR.later 15 rfl (by kernel_rfl)]; decide)
      | k + 16, _, _, _, hkl, _ => exact absurd hkl (by simp)
     ·intro D V zw1 a hR hI K hK;obtain ⟨hM1, hB1, hG1⟩ := hI.1;obtain ⟨hGK, hG1⟩ := hG1;have ze2 := hR.frame.other (t := 2) (by kernel_rfl) rfl;rw [if_pos (by rfl)];go_simp;exact hK (.int .i64 at_) _ (hI.next hR (by kernel_rfl) (Mod.refl _ _) (PB.quiet hI.1 (Mod.refl _ _) (HGs.out D 9 zw1 zw1 (by omega) (hI.1).g (Mod.refl _ _))) (upd_same V 9 _))
     ·intro D V zw1 a hR hI K hK;obtain ⟨hM1, hB1, hG1⟩ := hI.1;obtain ⟨hGK, hG1⟩ := hG1;have zd0 := hR.pred 0 (by kernel_rfl);have zf0 : V 0 = .pointer (some ⟨g, 0, none⟩) := hI.2 0 zd0 rfl;have ze113 := hR.frame.done (t := 113) (j := 0) (by kernel_rfl) hR.ok zd0;rw [if_pos (by rfl)];go_simp;exact hK (.pointer (some ⟨g, 0, none⟩)) _ (hI.next hR (by kernel_rfl) (Mod.refl _ _) (PB.quiet hI.1 (Mod.refl _ _) (HGs.out D 10 zw1 zw1 (by omega) (hI.1).g (Mod.refl _ _))) (upd_same V 10 _))
     ·intro D V zw1 a hR hI K hK;obtain ⟨hM1, hB1, hG1⟩ := hI.1;obtain ⟨hGK, hG1⟩ := hG1;have zd10 := hR.pred 10 (by kernel_rfl);have zf10 : V 10 = .pointer (some ⟨g, 0, none⟩) := hI.2 10 zd10 rfl;have ze123 := hR.frame.done (t := 123) (j := 10) (by kernel_rfl) hR.ok zd10;rw [if_pos (by rfl)];go_simp;exact hK (.pointer (some ⟨g, 2, none⟩)) _ (hI.next hR (by kernel_rfl) (Mod.refl _ _) (PB.quiet hI.1 (Mod.refl _ _) (HGs.out D 11 zw1 zw1 (by omega) (hI.1).g (Mod.refl _ _))) (upd_same V 11 _))
     ·intro D V zw1 a hR hI K hK;obtain ⟨hM1, hB1, hG1⟩ := hI.1;obtain ⟨hGK, hG1⟩ := hG1;have zd11 := hR.pred 11 (by kernel_rfl);have zf11 : V 11 = .pointer (some ⟨g, 2, none⟩) := hI.2 11 zd11 rfl;have zd8 := hR.pred 8 (by kernel_rfl);have zF8 : ∃ (g_8 : Nat) (c_8 : Nat), V 8 = .slice (some ⟨g_8, 0, none⟩) (bts.length + 1) c_8 ∧ (bo = some g_8 ∨ w9.heap.size ≤ g_8) ∧ BtB zw1 (some ⟨g_8, 0, none⟩) c_8 (bts ++ [⟨nb, at_, -1, rev, some ⟨g2, 0, none⟩, c6, TL⟩]) (d.bats ++ [(nb, at_, -1, rev, TL)]) g 50 #[.slice FA fms.length fc, .map (some bm), .slice BA bts.length bc, .int .i64 d.last] := hI.2 8 zd8 (by show (!D 12) = true; rw [hR.not]; rfl);obtain ⟨g_8, c_8, zf8, c8_0, b8_0⟩ := zF8;have ze124 := hR.frame.done (t := 124) (j := 11) (by kernel_rfl) hR.ok zd11;have ze121 := hR.frame.done (t := 121) (j := 8) (by kernel_rfl) hR.ok zd8;rw [if_pos (by rfl)];have zx2 := b8_0.2.cell 2;have zy2 := b8_0.2.frozen 2;simp at zx2 zy2;have hmS : Mod (· = g) zw1 (zw1.setCell ⟨g, 2, none⟩ (.slice (some ⟨g_8, 0, none⟩) (bts.length + 1) c_8)) := (Mod.refl (· = g) zw1).setCell (.inl rfl) _;go_simp;refine hK undef _ (InvF.last ⟨hM1.trans' hmS (fun i hi hlt => .inl hi), (by simpa using hB1), ⟨fun hs => absurd hs (by rw [upd_ne _ _ (by omega), hR.pred 8 (by kernel_rfl)]; decide), hG1.mod hmS (by omega)⟩⟩ ⟨g_8, c_8, upd_same _ 12 _, c8_0, by have h := b8_0.store (q := 2) (by decide) (by decide) (.slice (some ⟨g_8, 0, none⟩) (bts.length + 1) c_8); simpa using h⟩ ?_);intro k hk hDk hlv;have hkl := hR.lt k hDk;have hv := hI.2 k hDk (liveB_of hlv)
      match k, hk, hDk, hlv, hkl, hv with
      | 0, _, _, _, _, hv => exact hv
      | 1, _, _, _, _, hv => exact hv
      | 2, _, _, _, _, hv => exact hv
      | 3, _, _, _, _, hv => exact hv
      | 4, _, _, _, _, hv => exact hv
      | 5, _, _, _, _, hv => exact hv
      | 6, _, _, _, _, hv => exact hv
      | 7, _, _, hlv, _, _ => exact absurd hlv (by show ¬ (!upd D 12 true 8) = true; rw [upd_ne _ _ (by omega), hR.pred 8 (by kernel_rfl)]; decide)
      | 8, _, _, hlv, _, _ => exact absurd hlv (by show ¬ (!upd D 12 true 12) = true; rw [upd_same]; decide)
      | 9, _, _, _, _, hv => exact hv
      | 10, _, _, _, _, hv => exact hv
      | 11, _, _, _, _, hv => exact hv
      | 12, hk, _, _, _, _ => exact absurd rfl hk
      | 13, _, _, _, _, hv => exact hv
      | 14, _, _, _, _, hv => exact hv
      | 15, _, hDk, _, _, _ => exact absurd hDk (by rw [hR.later 15 rfl (by kernel_rfl)]; decide)
      | k + 16, _, _, _, hkl, _ => exact absurd hkl (by simp)
     ·intro D V zw1 a hR hI K hK;obtain ⟨hM1, hB1, hG1⟩ := hI.1;obtain ⟨hGK, hG1⟩ := hG1;have zd1 := hR.pred 1 (by kernel_rfl);have zf1 : V 1 = .pointer (some ⟨g, 0, none⟩) := hI.2 1 zd1 rfl;have ze114 := hR.frame.done (t := 114) (j := 1) (by kernel_rfl) hR.ok zd1;rw [if_pos (by rfl)];go_simp;exact hK (.pointer (some ⟨g, 0, none⟩)) _ (hI.next hR (by kernel_rfl) (Mod.refl _ _) (PB.quiet hI.1 (Mod.refl _ _) (HGs.out D 13 zw1 zw1 (by omega) (hI.1).g (Mod.refl _ _))) (upd_same V 13 _))
     ·intro D V zw1 a hR hI K hK;obtain ⟨hM1, hB1, hG1⟩ := hI.1;obtain ⟨hGK, hG1⟩ := hG1;have zd13 := hR.pred 13 (by kernel_rfl);have zf13 : V 13 = .pointer (some ⟨g, 0, none⟩) := hI.2 13 zd13 rfl;have ze125 := hR.frame.done (t := 125) (j := 13) (by kernel_rfl) hR.ok zd13;rw [if_pos (by rfl)];go_simp;exact hK (.pointer (some ⟨g, 3, none⟩)) _ (hI.next hR (by kernel_rfl) (Mod.refl _ _) (PB.quiet hI.1 (Mod.refl _ _) (HGs.out D 14 zw1 zw1 (by omega) (hI.1).g (Mod.refl _ _))) (upd_same V 14 _))
     ·intro D V zw1 a hR hI K hK;obtain ⟨hM1, hB1, hG1⟩ := hI.1;obtain ⟨hGK, hG1⟩ := hG1;have zd14 := hR.pred 14 (by kernel_rfl);have zf14 : V 14 = .pointer (some ⟨g, 3, none⟩) := hI.2 14 zd14 rfl;have zd9 := hR.pred 9 (by kernel_rfl);have zf9 : V 9 = .int .i64 at_ := hI.2 9 zd9 rfl;have zd12 := hR.pred 12 (by kernel_rfl);have zF12 : ∃ (g_12 : Nat) (c_12 : Nat), V 12 = undef ∧ (bo = some g_12 ∨ w9.heap.size ≤ g_12) ∧ BtB zw1 (some ⟨g_12, 0, none⟩) c_12 (bts ++ [⟨nb, at_, -1, rev, some ⟨g2, 0, none⟩, c6, TL⟩]) (d.bats ++ [(nb, at_, -1, rev, TL)]) g 50 #[.slice FA fms.length fc, .map (some bm), .slice (some ⟨g_12, 0, none⟩) (bts.length + 1) c_12, .int .i64 d.last] := hI.2 12 zd12 (by show (!D 15) = true; rw [hR.not]; rfl);obtain ⟨g_12, c_12, zf12, c12_0, b12_0⟩ := zF12;have ze126 := hR.frame.done (t := 126) (j := 14) (by kernel_rfl) hR.ok zd14;have ze122 := hR.frame.done (t := 122) (j := 9) (by kernel_rfl) hR.ok zd9;rw [if_pos (by rfl)];have zx3 := b12_0.2.cell 3;have zy3 := b12_0.2.frozen 3;simp at zx3 zy3;have hmS : Mod (· = g) zw1 (zw1.setCell ⟨g, 3, none⟩ (.int .i64 at_)) := (Mod.refl (· = g) zw1).setCell (.inl rfl) _;go_simp;refine hK undef _ (InvF.last ⟨hM1.trans' hmS (fun i hi hlt => .inl hi), (by simpa using hB1), ⟨fun hs => absurd hs (by rw [upd_ne _ _ (by omega), hR.pred 8 (by kernel_rfl)]; decide), hG1.mod hmS (by omega)⟩⟩ ⟨g_12, c_12, upd_same _ 15 _, c12_0, by have h := b12_0.store (q := 3) (by decide) (by decide) (.int .i64 at_); simpa using h⟩ ?_);intro k hk hDk hlv;have hkl := hR.lt k hDk;have hv := hI.2 k hDk (liveB_of hlv)
      match k, hk, hDk, hlv, hkl, hv with
      | 0, _, _, _, _, hv => exact hv
      | 1, _, _, _, _, hv => exact hv
      | 2, _, _, _, _, hv => exact hv
      | 3, _, _, _, _, hv => exact hv
      | 4, _, _, _, _, hv => exact hv
      | 5, _, _, _, _, hv => exact hv
      | 6, _, _, _, _, hv => exact hv
      | 7, _, _, hlv, _, _ => exact absurd hlv (by show ¬ (!upd D 15 true 8) = true; rw [upd_ne _ _ (by omega), hR.pred 8 (by kernel_rfl)]; decide)
      | 8, _, _, hlv, _, _ => exact absurd hlv (by show ¬ (!upd D 15 true 12) = true; rw [upd_ne _ _ (by omega), hR.pred 12 (by kernel_rfl)]; decide)
      | 9, _, _, _, _, hv => exact hv
      | 10, _, _, _, _, hv => exact hv
      | 11, _, _, _, _, hv => exact hv
      | 12, _, _, hlv, _, _ => exact absurd hlv (by show ¬ (!upd D 15 true 15) = true; rw [upd_same]; decide)
      | 13, _, _, _, _, hv => exact hv
      | 14, _, _, _, _, hv => exact hv
      | 15, hk, _, _, _, _ => exact absurd rfl hk
      | k + 16, _, _, _, hkl, _ => exact absurd hkl (by simp)
    ·intro D V wA hD hI;obtain ⟨hM1, hB1, hG1⟩ := hI.1;have hMx := hM1;clear hM1;have hBx := hB1;clear hB1;have hGx := hG1.2;clear hG1;have zf0 : V 0 = .pointer (some ⟨g, 0, none⟩) := hI.2 0 (hD 0 (by decide)) rfl;have zf1 : V 1 = .pointer (some ⟨g, 0, none⟩) := hI.2 1 (hD 1 (by decide)) rfl;have zf2 : V 2 = .pointer (some ⟨g, 0, none⟩) := hI.2 2 (hD 2 (by decide)) rfl;have zf3 : V 3 = .pointer (some ⟨g, 0, none⟩) := hI.2 3 (hD 3 (by decide)) rfl;have zf4 : V 4 = .pointer (some ⟨g, 2, none⟩) := hI.2 4 (hD 4 (by decide)) rfl;have zf5 : V 5 = .slice BA bts.length bc := hI.2 5 (hD 5 (by decide)) rfl;have zf6 : V 6 = .agg #[.int .i64 nb, .int .i64 at_, .int .i64 (-1), .string ⟨rev.toArray⟩, .slice (some ⟨g2, 0, none⟩) TL.length c6] := hI.2 6 (hD 6 (by decide)) rfl;have zf9 : V 9 = .int .i64 at_ := hI.2 9 (hD 9 (by decide)) rfl;have zf10 : V 10 = .pointer (some ⟨g, 0, none⟩) := hI.2 10 (hD 10 (by decide)) rfl;have zf11 : V 11 = .pointer (some ⟨g, 2, none⟩) := hI.2 11 (hD 11 (by decide)) rfl;have zf13 : V 13 = .pointer (some ⟨g, 0, none⟩) := hI.2 13 (hD 13 (by decide)) rfl;have zf14 : V 14 = .pointer (some ⟨g, 3, none⟩) := hI.2 14 (hD 14 (by decide)) rfl;have zF15 : ∃ (g_15 : Nat) (c_15 : Nat), V 15 = undef ∧ (bo = some g_15 ∨ w9.heap.size ≤ g_15) ∧ BtB wA (some ⟨g_15, 0, none⟩) c_15 (bts ++ [⟨nb, at_, -1, rev, some ⟨g2, 0, none⟩, c6, TL⟩]) (d.bats ++ [(nb, at_, -1, rev, TL)]) g 50 #[.slice FA fms.length fc, .map (some bm), .slice (some ⟨g_15, 0, none⟩) (bts.length + 1) c_15, .int .i64 at_] := hI.2 15 (hD 15 (by decide)) rfl;obtain ⟨g_15, c_15, zf15, c15_0, b15_0⟩ := zF15;clear hI hD HGs;simp only [frAll, Act.put, List.setIfInBounds_toArray, List.set_cons_zero, List.set_cons_succ, Nat.zero_add, Nat.reduceAdd, zf0, zf1, zf2, zf3, zf4, zf5, zf6, zf9, zf10, zf11, zf13, zf14, zf15];clear zf0 zf1 zf2 zf3 zf4 zf5 zf6 zf9 zf10 zf11 zf13 zf14 zf15;generalize V 7 = u7;generalize V 8 = u8;clear V D;have HGO := Lib.hid c15_0;have hboh : ∀ j, bo = some j → ∃ arr, w9.heap[j]? = some (.cells arr 42 (0, 0)) := fun j hj => own_heap HBT9.out.1 (by rw [HBO.out]; exact hj)
     have hbol : ∀ j, bo = some j → j < w.heap.size := fun j hj => by have := HLT.out j (by rw [HBO.out]; exact hj); omega
     have hn8 : ¬ (g8 = g ∨ bo = some g8) := fun h => by
      rcases h with h | h
      ·omega
      ·have := hbol _ h; omega
     have hnb : ¬ (bm = g ∨ bo = some bm) := fun h => by
      rcases h with h | h
      ·exact hgbm h.symm
      ·obtain ⟨arr, h2⟩ := hboh _ h;exact mapX_cells HS9.out h2 rfl
     have hnt : ∀ (T : TypeId), T ≠ 50 → T ≠ 42 → ∀ i arr fr, w9.heap[i]? = some (.cells arr T fr) → ¬ (i = g ∨ bo = some i) := fun T h1 h2 i arr fr hi h => by
      rcases h with h | h
      ·exact blk_ty2 HDB9.out hi h1 h
      ·obtain ⟨arr2, h3⟩ := hboh _ h;rw [hi] at h3
       injection h3 with h3
       injection h3 with _ h4 _
       exact h2 h4
     have HBB := Lib.hid b15_0;have HBNA := Lib.hid hGx;have HMX := Lib.hid hMx;clear b15_0 c15_0 hGx hMx hBx;generalize g_15 = gz at *;generalize c_15 = cz at *;have HB8A := Lib.hid (HB89.out.mod HMX.out hn8);have HSA := Lib.hid (HS9.out.mod HMX.out hnb);have HFA := Lib.hid (HF9.out.mod HMX.out (hnt _ (by decide) (by decide)) (hnt _ (by decide) (by decide)));have HSLA := Lib.hid (HSL9.out.mod HMX.out (hnt _ (by decide) (by decide)));have HMA := Lib.hid (HM9.out.trans' HMX.out (fun i hi hlt => by rcases hi with h | h; exact .inl h; exact .inr (.inr h)))
     have HDKA : Hid (DkR wA g bm (some gz) ids (dTake d rev at_ most)) := Lib.hid (by
      rw [HDT.out];refine ⟨FA, fc, fms, some ⟨gz, 0, none⟩, cz, bts ++ [⟨nb, at_, -1, rev, some ⟨g2, 0, none⟩, c6, TL⟩], ?_, HFA.out, HFE.out, ?_, ?_, rfl⟩
      ·have h := HBB.out.2
       simpa using h
      ·have h := HSA.out;rw [HNB.out] at h;exact h
      ·have h := HBB.out.1;rw [HNB.out] at h ⊢
       exact h)
     have hszA := HMX.out.size;have hBN := HBNA.out;have hB8 := HB8A.out;have t0 := hBN.cell 0; have t1 := hBN.cell 1; have t2 := hBN.cell 2; have t3 := hBN.cell 3; have t4 := hBN.cell 4; simp at t0 t1 t2 t3 t4;have s0 := hB8.cell 0; have sf0 := hB8.frozen 0; have s1 := hB8.cell 1; have sf1 := hB8.frozen 1; have s2 := hB8.cell 2; have sf2 := hB8.frozen 2; have s3 := hB8.cell 3; have sf3 := hB8.frozen 3; have s4 := hB8.cell 4; have sf4 := hB8.frozen 4; simp at s0 s1 s2 s3 s4
     have hg8n : g8 ≠ gn := by omega
     clear hBN hB8 HBB hboh hn8 hnb hnt HMX HB89 HS9 HSL9 HF9 HM9 HDB9 HBT9 HBN9 HSA HFA HOW9
     go_wp2_with fail
     have hB9 := HB8A.out.set5 (.int .i64 nb) (.int .i64 at_) (.int .i64 (-1)) (.string ⟨rev.toArray⟩) (.slice (some ⟨g2, 0, none⟩) TL.length c6);have u0 := hB9.cell 0; have u1 := hB9.cell 1; have u2 := hB9.cell 2; have u3 := hB9.cell 3; have u4 := hB9.cell 4; simp at u0 u1 u2 u3 u4;refine bodyPost_ret (v := .tuple #[.agg #[.int .i64 nb, .int .i64 at_, .int .i64 (-1), .string ⟨rev.toArray⟩, .slice (some ⟨g2, 0, none⟩) TL.length c6], .int .i64 0]) (by simp [results, Tryz.results16, go_sem, u0, u1, u2, u3, u4]) rfl ?_;have hmF := (Mod.refl (fun j => j = g8) wA).set5 (g := g8) (.inl rfl) (.int .i64 nb) (.int .i64 at_) (.int .i64 (-1)) (.string ⟨rev.toArray⟩) (.slice (some ⟨g2, 0, none⟩) TL.length c6);have hty : ∀ (T : TypeId), T ≠ 42 → ∀ i arr fr, wA.heap[i]? = some (.cells arr T fr) → ¬ (i = g8) := fun T h1 i arr fr hi => blk_ty2 HB8A.out hi h1;have hz : bo = some gz ∨ w9.heap.size ≤ gz := HGO.out;refine .inr ⟨HQ0.out, some ⟨g2, 0, none⟩, c6, by rw [HNB.out], HSLA.out.mod hmF (hty _ (by decide)), some gz, HDKA.out.mod hmF (by omega) (by omega) (fun j hj h => ?_) (hty _ (by decide)) (hty _ (by decide)), fun j hj => ?_, HMA.out.trans' hmF (fun i hi hlt => by omega)⟩
     ·injection hj with hj
      subst hj
      rcases hz with h1 | h1
      ·have := hbol _ h1; omega
      ·omega
     ·injection hj with hj
      subst hj
      rcases hz with h1 | h1
      ·exact .inl h1
      ·right; omega
end Go.Proofs.YtgfgggeeoeppjaaGreatDoor
/- Return of the program. -/
namespace Go.Proofs.YtgfgggeeoeppjaaGreatDoor
open Go.RowKit
set_option maxHeartbeats 8000000 in
theorem preturn_calls (w : World) (g bm : Nat) (bo : Option Nat) (ids : List Str) (d : DskR) (hD : DkP w g bm bo ids d) (hO : DkOk ids d) (no at_ : Int) (DA : Option Addr) (dn dc : Nat) (done : List Str) (hdn : Sl w 9 1 (.slice DA dn dc) (strsV done)) (hdl : done.length ≤ 1001) (hds : ∀ s ∈ done, s.length ≤ 1000) :
  Calls Tryz.prog 18 #[.pointer (some ⟨g, 0, none⟩), .int .i64 no, .int .i64 at_, .slice DA dn dc] w (RtPost (fun W d' => DkP W g bm bo ids d') w g bm bo d no at_ done) := by
 have hdn1 := Sl.lenS hdn;subst hdn1;obtain ⟨FA, fc, fms, BA, bc, bts, hB, hF, hfe, hS, hBT, hbo⟩ := hD;have HO := Lib.hid hO;have HB := Lib.hid hB;have HF := Lib.hid hF;have HFE := Lib.hid hfe;have HS := Lib.hid hS;have HBT := Lib.hid hBT;have HBO := Lib.hid hbo;have HDN := Lib.hid hdn;have HDS := Lib.hid hds;have hbla := Nat.le_of_eq hBT.kl;have hblb := Nat.le_of_eq hBT.kl.symm;have hb9 := hO.bl;have hgw := hB.lt;have hbmw := hS.lt;have hgbm := mapX_ne hS hB;have HRF : Hid (rtF d no at_ done = if rtE d no at_ ≠ 0 then rtE d no at_ else dnE (d.bats.getD (no - 1).toNat batN).2.2.2.2 done []) := Lib.hid rfl;have HRE := Lib.hid (fun (h : inB no 1 (d.bats.length : Int) = false) => show rtE d no at_ = 8 by unfold rtE; rw [if_pos h]);have HFI := Lib.hid (fun (h : inB no 1 (d.bats.length : Int) = true) => rtE_first (at_ := at_) h rfl);unfold RtPost;obtain ⟨ib, hib⟩ : ∃ ib, inB no 1 (d.bats.length : Int) = ib := ⟨_, rfl⟩;have HIB := Lib.hid hib;have HIN := Lib.hid (fun W => by have := inP_calls W no 1 (bts.length : Int); rw [hBT.kl, hib] at this; rwa [← hBT.kl] at this);rw [hib] at HRE HFI;obtain ⟨er, her⟩ : ∃ er, rtE d no at_ = er := ⟨_, rfl⟩;rw [her] at HRF HRE HFI;obtain ⟨ef, hef⟩ : ∃ ef, rtF d no at_ done = ef := ⟨_, rfl⟩;rw [hef] at HRF ⊢;obtain ⟨me, hme⟩ : ∃ me, moE at_ = me := ⟨_, rfl⟩;have HME := Lib.hid (fun W => by have := momentE_calls W at_; rwa [hme] at this);rw [hme] at HFI;obtain ⟨bk, hbk⟩ : ∃ bk, d.bats.getD (no - 1).toNat batN = bk := ⟨_, rfl⟩;have HBK := Lib.hid hbk;rw [hbk] at HRF HFI ⊢;obtain ⟨nz, hnz⟩ : ∃ nz, (no - 1).toNat = nz := ⟨_, rfl⟩;rw [hnz] at HBK ⊢;have HNZ := Lib.hid hnz;have hx := hB;have x0 := hx.cell 0; have x1 := hx.cell 1; have x2 := hx.cell 2; have x3 := hx.cell 3; simp at x0 x1 x2 x3;clear hx hB hF hfe hS hBT hbo hdn hds hib her hef hme hbk hO hnz
 go_enter Tryz.func18, Tryz.ntmps18
 go_wp2_with fail
 refine (HIN.out w).mono ?_;rintro e w1 ⟨rfl, hm1⟩
 cases ib
 ·have he : er = 8 := HRE.out rfl
  have hq : ef = 8 := by rw [HRF.out, he]; simp
  have HQ := Lib.hid hq;clear he hq x0 x1 x2 x3
  go_wp2_with fail
  go_ret;exact .inl ⟨by rw [HQ.out]; decide, by rw [HQ.out]; rfl, hm1⟩
 have hno : 1 ≤ no ∧ no ≤ (d.bats.length : Int) := by
  have h := HIB.out;unfold inB at h
  simpa using h
 obtain ⟨i, hi⟩ : ∃ i : Nat, no = (i : Int) + 1 := ⟨(no - 1).toNat, by omega⟩;subst hi
 have hnzi : nz = i := by have := HNZ.out; omega
 subst hnzi
 have hil : nz < bts.length := by omega
 obtain ⟨gB, rfl⟩ : ∃ gB, BA = some ⟨gB, 0, none⟩ := by
  obtain ⟨gB, h, _⟩ := HBT.out.cells hil;exact ⟨gB, h⟩
 have HKX := Lib.hid (HBK.out.symm.trans (HBT.out.at_ hil));have HFLD := Lib.hid (fun (W : World) (h : BatO W 0 (some ⟨gB, 0, none⟩) bc bts d.bats) => h.fld hil);have HSX := Lib.hid (fun (W : World) (h : BatO W 0 (some ⟨gB, 0, none⟩) bc bts d.bats) => h.2.1 _ (List.getElem_mem hil));have HINN := Lib.hid (fun (W : World) (h : BatO W 0 (some ⟨gB, 0, none⟩) bc bts d.bats) => h.inn hil at_)
 have hkm : bk ∈ d.bats := by
  have h := HBK.out
  have h2 : nz < d.bats.length := by omega
  rw [← h];simp [List.getD, h2]
 have HBI := Lib.hid (HO.out.bi _ hkm);have HBZ := Lib.hid (HO.out.bz _ hkm);clear hkm;generalize bts[nz] = x at *;obtain ⟨xn, xo, xi, xr, xA, xc, xs⟩ := x;obtain rfl : bk = (xn, xo, xi, xr, xs) := HKX.out;simp only at HFLD HSX HFI HRF HBI HBZ;have HFI2 := Lib.hid (HFI.out (by first | rfl | trivial));have HB1 := Lib.hid (HB.out.modp hm1);have HBT1 := Lib.hid (HBT.out.pure hm1);have hfld := HFLD.out w1 HBT1.out;obtain ⟨q2, q4, q0⟩ := hfld;have HM1 := Lib.hid hm1;have hx := HB1.out;clear HFI HRE HIN HKX hm1 x0 x1 x2 x3;have x0 := hx.cell 0; have x1 := hx.cell 1; have x2 := hx.cell 2; have x3 := hx.cell 3; simp at x0 x1 x2 x3;clear hx
 have hsub : IntKind.i64.wrap ((nz : Int) + 1 - 1) = (nz : Int) := by rw [Int.add_sub_cancel]; exact IntWalk.i64_in _ (by omega)
 go_upto_region 4 with (fail)
 obtain ⟨e1, he1⟩ : ∃ e1 : Int, (if (xi != -1) = true then 11 else 0) = e1 := ⟨_, rfl⟩;obtain ⟨e3, he3⟩ : ∃ e3 : Int, (if decide (at_ < d.last) = true then 7 else 0) = e3 := ⟨_, rfl⟩;rw [he1, he3] at HFI2;have HE1 := Lib.hid he1;have HE3 := Lib.hid he3;have HFC := Lib.hid (fun (W : World) (g : Nat) (h : Blk W g 33 #[.int .i64 e1, .int .i64 me, .int .i64 e3]) => by have := firstE_calls W g 3 [e1, me, e3] h.row0 (by simp); rwa [HFI2.out] at this);clear he1 he3 HFI2 q0 q2 q4;have HGs := Lib.hid (show ∀ (D : Nat → Bool) (zzi : Nat) (zq zq' : World), (fun _ zq => (fun Z => Blk Z g 87 #[.slice FA fms.length fc, .map (some bm), .slice (some ⟨gB, 0, none⟩) bts.length bc, .int .i64 d.last] ∧ BatO Z 0 (some ⟨gB, 0, none⟩) bc bts d.bats) zq) D zq → Mod (fun _ => False) zq zq' → (fun _ zq => (fun Z => Blk Z g 87 #[.slice FA fms.length fc, .map (some bm), .slice (some ⟨gB, 0, none⟩) bts.length bc, .int .i64 d.last] ∧ BatO Z 0 (some ⟨gB, 0, none⟩) bc bts d.bats) zq) (upd D zzi true) zq' from by intro D zzi zq zq' h hm; (exact ⟨h.1.modp hm, h.2.pure hm⟩))
 refine wp_region_inv (by kernel_rfl) (by kernel_rfl) (InvF (R := Mod (fun _ => False)) [.is (.pointer (some ⟨gB, nz * 5, none⟩)),
   .is (.pointer (some ⟨gB, nz * 5, none⟩)),
   .is (.pointer (some ⟨gB, nz * 5 + 2, none⟩)),
   .is (.int .i64 xi),
   .is (.bool (xi != -1)),
   .is (.int .i64 e1),
   .is (.int .i64 at_),
   .is (.int .i64 me),
   .is (.int .i64 at_),
   .is (.pointer (some ⟨g, 0, none⟩)),
   .is (.pointer (some ⟨g, 0, none⟩)),
   .is (.pointer (some ⟨g, 3, none⟩)),
   .is (.int .i64 d.last),
   .is (.bool (decide (at_ < d.last))),
   .is (.int .i64 e3),
   ⟨fun zv zw => ∃ (g_15 : Nat), zv = .slice (some ⟨g_15, 0, none⟩) 3 3 ∧ w1.heap.size ≤ g_15 ∧ Blk zw g_15 33 #[.int .i64 e1, .int .i64 me, .int .i64 e3], (by rintro zv zw zx ⟨g_15, rfl, c0, q0⟩ hm; exact ⟨g_15, rfl, c0, (q0.modp hm)⟩), none, some 16⟩,
   .is (.int .i64 er),
   .is (.int .i64 er)]
   (PB w (fun _ => False) w1.heap.size (fun _ zq => (fun Z => Blk Z g 87 #[.slice FA fms.length fc, .map (some bm), .slice (some ⟨gB, 0, none⟩) bts.length bc, .int .i64 d.last] ∧ BatO Z 0 (some ⟨gB, 0, none⟩) bc bts d.bats) zq))) (InvF.start (PB.start HM1.out (Nat.le_refl _) (⟨HB1.out.drew, HBT1.out.pure ((Mod.refl _ _).drew)⟩))) ?_ ?_
 ·refine .cons ?_ (.cons ?_ (.cons ?_ (.cons ?_ (.cons ?_ (.cons ?_ (.cons ?_ (.cons ?_ (.cons ?_ (.cons ?_ (.cons ?_ (.cons ?_ (.cons ?_ (.cons ?_ (.cons ?_ (.cons ?_ (.cons ?_ (.cons ?_ .nil)))))))))))))))))
  ·intro D V zw1 a hR hI K hK;obtain ⟨hM1, hB1, hG1⟩ := hI.1;have ze9 := hR.frame.other (t := 9) (by kernel_rfl) rfl;rw [if_pos (by rfl)];go_simp;exact hK (.pointer (some ⟨gB, nz * 5, none⟩)) _ (hI.next hR (by kernel_rfl) (Mod.refl _ _) (PB.quiet hI.1 (Mod.refl _ _) (HGs.out D 0 zw1 zw1 (hI.1).g (Mod.refl _ _))) (upd_same V 0 _))
  ·intro D V zw1 a hR hI K hK;obtain ⟨hM1, hB1, hG1⟩ := hI.1;have zd0 := hR.pred 0 (by kernel_rfl);have zf0 : V 0 = .pointer (some ⟨gB, nz * 5, none⟩) := hI.2 0 zd0 rfl;have ze35 := hR.frame.done (t := 35) (j := 0) (by kernel_rfl) hR.ok zd0;rw [if_pos (by rfl)];go_simp;exact hK (.pointer (some ⟨gB, nz * 5, none⟩)) _ (hI.next hR (by kernel_rfl) (Mod.refl _ _) (PB.quiet hI.1 (Mod.refl _ _) (HGs.out D 1 zw1 zw1 (hI.1).g (Mod.refl _ _))) (upd_same V 1 _))
  ·intro D V zw1 a hR hI K hK;obtain ⟨hM1, hB1, hG1⟩ := hI.1;have zd1 := hR.pred 1 (by kernel_rfl);have zf1 : V 1 = .pointer (some ⟨gB, nz * 5, none⟩) := hI.2 1 zd1 rfl;have ze36 := hR.frame.done (t := 36) (j := 1) (by kernel_rfl) hR.ok zd1;rw [if_pos (by rfl)];go_simp;exact hK (.pointer (some ⟨gB, nz * 5 + 2, none⟩)) _ (hI.next hR (by kernel_rfl) (Mod.refl _ _) (PB.quiet hI.1 (Mod.refl _ _) (HGs.out D 2 zw1 zw1 (hI.1).g (Mod.refl _ _))) (upd_same V 2 _))
  ·intro D V zw1 a hR hI K hK;obtain ⟨hM1, hB1, hG1⟩ := hI.1;have zd2 := hR.pred 2 (by kernel_rfl);have zf2 : V 2 = .pointer (some ⟨gB, nz * 5 + 2, none⟩) := hI.2 2 zd2 rfl;have ze37 := hR.frame.done (t := 37) (j := 2) (by kernel_rfl) hR.ok zd2;have zx0 := (HFLD.out zw1 hG1.2).1;rw [if_pos (by rfl)];go_simp;exact hK (.int .i64 xi) _ (hI.next hR (by kernel_rfl) (Mod.refl _ _) (PB.quiet hI.1 (Mod.refl _ _) (HGs.out D 3 zw1 zw1 (hI.1).g (Mod.refl _ _))) (upd_same V 3 _))
  ·intro D V zw1 a hR hI K hK;obtain ⟨hM1, hB1, hG1⟩ := hI.1;have zd3 := hR.pred 3 (by kernel_rfl);have zf3 : V 3 = .int .i64 xi := hI.2 3 zd3 rfl;have ze38 := hR.frame.done (t := 38) (j := 3) (by kernel_rfl) hR.ok zd3;rw [if_pos (by rfl)];go_simp;exact hK (.bool (xi != -1)) _ (hI.next hR (by kernel_rfl) (Mod.refl _ _) (PB.quiet hI.1 (Mod.refl _ _) (HGs.out D 4 zw1 zw1 (hI.1).g (Mod.refl _ _))) (upd_same V 4 _))
  ·intro D V zw1 a hR hI K hK;obtain ⟨hM1, hB1, hG1⟩ := hI.1;have zd4 := hR.pred 4 (by kernel_rfl);have zf4 : V 4 = .bool (xi != -1) := hI.2 4 zd4 rfl;have ze39 := hR.frame.done (t := 39) (j := 4) (by kernel_rfl) hR.ok zd4;rw [if_pos (by rfl)];go_simp;refine (whenQ_calls zw1 (xi != -1) 11 e1 HE1.out).mono ?_;rintro e zw2 ⟨rfl, hm2⟩;exact hK (.int .i64 e1) _ (hI.next hR (by kernel_rfl) hm2 (PB.quiet hI.1 hm2 (HGs.out D 5 _ _ (hI.1).g hm2)) (upd_same V 5 _))
  ·intro D V zw1 a hR hI K hK;obtain ⟨hM1, hB1, hG1⟩ := hI.1;have ze2 := hR.frame.other (t := 2) (by kernel_rfl) rfl;rw [if_pos (by rfl)];go_simp;exact hK (.int .i64 at_) _ (hI.next hR (by kernel_rfl) (Mod.refl _ _) (PB.quiet hI.1 (Mod.refl _ _) (HGs.out D 6 zw1 zw1 (hI.1).g (Mod.refl _ _))) (upd_same V 6 _))
  ·intro D V zw1 a hR hI K hK;obtain ⟨hM1, hB1, hG1⟩ := hI.1;have zd6 := hR.pred 6 (by kernel_rfl);have zf6 : V 6 = .int .i64 at_ := hI.2 6 zd6 rfl;have ze41 := hR.frame.done (t := 41) (j := 6) (by kernel_rfl) hR.ok zd6;rw [if_pos (by rfl)];go_simp;refine (HME.out zw1).mono ?_;rintro e zw2 ⟨rfl, hm2⟩;exact hK (.int .i64 me) _ (hI.next hR (by kernel_rfl) hm2 (PB.quiet hI.1 hm2 (HGs.out D 7 _ _ (hI.1).g hm2)) (upd_same V 7 _))
  ·intro D V zw1 a hR hI K hK;obtain ⟨hM1, hB1, hG1⟩ := hI.1;have ze2 := hR.frame.other (t := 2) (by kernel_rfl) rfl;rw [if_pos (by rfl)];go_simp;exact hK (.int .i64 at_) _ (hI.next hR (by kernel_rfl) (Mod.refl _ _) (PB.quiet hI.1 (Mod.refl _ _) (HGs.out D 8 zw1 zw1 (hI.1).g (Mod.refl _ _))) (upd_same V 8 _))
  ·intro D V zw1 a hR hI K hK;obtain ⟨hM1, hB1, hG1⟩ := hI.1;have ze0 := hR.frame.other (t := 0) (by kernel_rfl) rfl;rw [if_pos (by rfl)];go_simp;exact hK (.pointer (some ⟨g, 0, none⟩)) _ (hI.next hR (by kernel_rfl) (Mod.refl _ _) (PB.quiet hI.1 (Mod.refl _ _) (HGs.out D 9 zw1 zw1 (hI.1).g (Mod.refl _ _))) (upd_same V 9 _))
  ·intro D V zw1 a hR hI K hK;obtain ⟨hM1, hB1, hG1⟩ := hI.1;have zd9 := hR.pred 9 (by kernel_rfl);have zf9 : V 9 = .pointer (some ⟨g, 0, none⟩) := hI.2 9 zd9 rfl;have ze44 := hR.frame.done (t := 44) (j := 9) (by kernel_rfl) hR.ok zd9;rw [if_pos (by rfl)];go_simp;exact hK (.pointer (some ⟨g, 0, none⟩)) _ (hI.next hR (by kernel_rfl) (Mod.refl _ _) (PB.quiet hI.1 (Mod.refl _ _) (HGs.out D 10 zw1 zw1 (hI.1).g (Mod.refl _ _))) (upd_same V 10 _))
  ·intro D V zw1 a hR hI K hK;obtain ⟨hM1, hB1, hG1⟩ := hI.1;have zd10 := hR.pred 10 (by kernel_rfl);have zf10 : V 10 = .pointer (some ⟨g, 0, none⟩) := hI.2 10 zd10 rfl;have ze45 := hR.frame.done (t := 45) (j := 10) (by kernel_rfl) hR.ok zd10;rw [if_pos (by rfl)];go_simp;exact hK (.pointer (some ⟨g, 3, none⟩)) _ (hI.next hR (by kernel_rfl) (Mod.refl _ _) (PB.quiet hI.1 (Mod.refl _ _) (HGs.out D 11 zw1 zw1 (hI.1).g (Mod.refl _ _))) (upd_same V 11 _))
  ·intro D V zw1 a hR hI K hK;obtain ⟨hM1, hB1, hG1⟩ := hI.1;have zd11 := hR.pred 11 (by kernel_rfl);have zf11 : V 11 = .pointer (some ⟨g, 3, none⟩) := hI.2 11 zd11 rfl;have ze46 := hR.frame.done (t := 46) (j := 11) (by kernel_rfl) hR.ok zd11;have zx0 := hG1.1.cell 3;simp at zx0;rw [if_pos (by rfl)];go_simp;exact hK (.int .i64 d.last) _ (hI.next hR (by kernel_rfl) (Mod.refl _ _) (PB.quiet hI.1 (Mod.refl _ _) (HGs.out D 12 zw1 zw1 (hI.1).g (Mod.refl _ _))) (upd_same V 12 _))
  ·intro D V zw1 a hR hI K hK;obtain ⟨hM1, hB1, hG1⟩ := hI.1;have zd8 := hR.pred 8 (by kernel_rfl);have zf8 : V 8 = .int .i64 at_ := hI.2 8 zd8 rfl;have zd12 := hR.pred 12 (by kernel_rfl);have zf12 : V 12 = .int .i64 d.last := hI.2 12 zd12 rfl;have ze43 := hR.frame.done (t := 43) (j := 8) (by kernel_rfl) hR.ok zd8;have ze47 := hR.frame.done (t := 47) (j := 12) (by kernel_rfl) hR.ok zd12;rw [if_pos (by rfl)];go_simp;exact hK (.bool (decide (at_ < d.last))) _ (hI.next hR (by kernel_rfl) (Mod.refl _ _) (PB.quiet hI.1 (Mod.refl _ _) (HGs.out D 13 zw1 zw1 (hI.1).g (Mod.refl _ _))) (upd_same V 13 _))
  ·intro D V zw1 a hR hI K hK;obtain ⟨hM1, hB1, hG1⟩ := hI.1;have zd13 := hR.pred 13 (by kernel_rfl);have zf13 : V 13 = .bool (decide (at_ < d.last)) := hI.2 13 zd13 rfl;have ze48 := hR.frame.done (t := 48) (j := 13) (by kernel_rfl) hR.ok zd13;rw [if_pos (by rfl)];go_simp;refine (whenQ_calls zw1 (decide (at_ < d.last)) 7 e3 HE3.out).mono ?_;rintro e zw2 ⟨rfl, hm2⟩;exact hK (.int .i64 e3) _ (hI.next hR (by kernel_rfl) hm2 (PB.quiet hI.1 hm2 (HGs.out D 14 _ _ (hI.1).g hm2)) (upd_same V 14 _))
  ·intro D V zw1 a hR hI K hK;obtain ⟨hM1, hB1, hG1⟩ := hI.1;have zd5 := hR.pred 5 (by kernel_rfl);have zf5 : V 5 = .int .i64 e1 := hI.2 5 zd5 rfl;have zd7 := hR.pred 7 (by kernel_rfl);have zf7 : V 7 = .int .i64 me := hI.2 7 zd7 rfl;have zd14 := hR.pred 14 (by kernel_rfl);have zf14 : V 14 = .int .i64 e3 := hI.2 14 zd14 rfl;have ze40 := hR.frame.done (t := 40) (j := 5) (by kernel_rfl) hR.ok zd5;have ze42 := hR.frame.done (t := 42) (j := 7) (by kernel_rfl) hR.ok zd7;have ze49 := hR.frame.done (t := 49) (j := 14) (by kernel_rfl) hR.ok zd14;rw [if_pos (by rfl)];go_simp;exact hK (_) _ (hI.next hR (by kernel_rfl) ((Mod.refl _ _).alloc _) (PB.quiet hI.1 (pure_alloc _ _) (HGs.out D 15 _ _ (hI.1).g ((Mod.refl _ _).alloc _))) (⟨_, upd_same V 15 _, (by omega), (Blk.new _ _ _)⟩))
  ·intro D V zw1 a hR hI K hK;obtain ⟨hM1, hB1, hG1⟩ := hI.1;have zd15 := hR.pred 15 (by kernel_rfl);have zF15 : ∃ (g_15 : Nat), V 15 = .slice (some ⟨g_15, 0, none⟩) 3 3 ∧ w1.heap.size ≤ g_15 ∧ Blk zw1 g_15 33 #[.int .i64 e1, .int .i64 me, .int .i64 e3] := hI.2 15 zd15 (by show (!D 16) = true; rw [hR.not]; rfl);obtain ⟨g_15, zf15, c15_0, b15_0⟩ := zF15;have ze50 := hR.frame.done (t := 50) (j := 15) (by kernel_rfl) hR.ok zd15;rw [if_pos (by rfl)];go_simp;refine (HFC.out zw1 _ b15_0).mono ?_;rintro e zw2 ⟨rfl, hm2⟩;exact hK (.int .i64 er) _ (hI.next hR (by kernel_rfl) hm2 (PB.quiet hI.1 hm2 (HGs.out D 16 _ _ (hI.1).g hm2)) (upd_same V 16 _))
  ·intro D V zw1 a hR hI K hK;obtain ⟨hM1, hB1, hG1⟩ := hI.1;have zd16 := hR.pred 16 (by kernel_rfl);have zf16 : V 16 = .int .i64 er := hI.2 16 zd16 rfl;have ze51 := hR.frame.done (t := 51) (j := 16) (by kernel_rfl) hR.ok zd16;rw [if_pos (by rfl)];go_simp;exact hK (.int .i64 er) _ (hI.next hR (by kernel_rfl) (Mod.refl _ _) (PB.quiet hI.1 (Mod.refl _ _) (HGs.out D 17 zw1 zw1 (hI.1).g (Mod.refl _ _))) (upd_same V 17 _))
 ·intro D V w2 hD hI;obtain ⟨hM1, hB1, hG1⟩ := hI.1;have hMx := hM1;clear hM1;have hBx := hB1;clear hB1;have hGx := hG1;clear hG1;have zf0 : V 0 = .pointer (some ⟨gB, nz * 5, none⟩) := hI.2 0 (hD 0 (by decide)) rfl;have zf1 : V 1 = .pointer (some ⟨gB, nz * 5, none⟩) := hI.2 1 (hD 1 (by decide)) rfl;have zf2 : V 2 = .pointer (some ⟨gB, nz * 5 + 2, none⟩) := hI.2 2 (hD 2 (by decide)) rfl;have zf3 : V 3 = .int .i64 xi := hI.2 3 (hD 3 (by decide)) rfl;have zf4 : V 4 = .bool (xi != -1) := hI.2 4 (hD 4 (by decide)) rfl;have zf5 : V 5 = .int .i64 e1 := hI.2 5 (hD 5 (by decide)) rfl;have zf6 : V 6 = .int .i64 at_ := hI.2 6 (hD 6 (by decide)) rfl;have zf7 : V 7 = .int .i64 me := hI.2 7 (hD 7 (by decide)) rfl;have zf8 : V 8 = .int .i64 at_ := hI.2 8 (hD 8 (by decide)) rfl;have zf9 : V 9 = .pointer (some ⟨g, 0, none⟩) := hI.2 9 (hD 9 (by decide)) rfl;have zf10 : V 10 = .pointer (some ⟨g, 0, none⟩) := hI.2 10 (hD 10 (by decide)) rfl;have zf11 : V 11 = .pointer (some ⟨g, 3, none⟩) := hI.2 11 (hD 11 (by decide)) rfl;have zf12 : V 12 = .int .i64 d.last := hI.2 12 (hD 12 (by decide)) rfl;have zf13 : V 13 = .bool (decide (at_ < d.last)) := hI.2 13 (hD 13 (by decide)) rfl;have zf14 : V 14 = .int .i64 e3 := hI.2 14 (hD 14 (by decide)) rfl;have zf16 : V 16 = .int .i64 er := hI.2 16 (hD 16 (by decide)) rfl;have zf17 : V 17 = .int .i64 er := hI.2 17 (hD 17 (by decide)) rfl;clear hI hD HGs;simp only [frAll, Act.put, List.setIfInBounds_toArray, List.set_cons_zero, List.set_cons_succ, Nat.zero_add, Nat.reduceAdd, zf0, zf1, zf2, zf3, zf4, zf5, zf6, zf7, zf8, zf9, zf10, zf11, zf12, zf13, zf14, zf16, zf17];clear zf0 zf1 zf2 zf3 zf4 zf5 zf6 zf7 zf8 zf9 zf10 zf11 zf12 zf13 zf14 zf16 zf17;generalize V 15 = u15;clear V D;have HM2 := Lib.hid hMx;have HB2 := Lib.hid hGx.1;have HBT2 := Lib.hid hGx.2;clear hMx hGx hBx HM1 HB1 HBT1 HFC HME HE1 HE3 x0 x1 x2 x3
  by_cases he : er = 0
  rotate_left
  ·have he' : (er != 0) = true := by simpa using he
   have HQ := Lib.hid (show ef = er by rw [HRF.out, if_pos he]);have HE := Lib.hid he;clear he HRF
   go_wp2_with fail
   go_ret;exact .inl ⟨by rw [HQ.out]; exact HE.out, by rw [HQ.out]; rfl, HM2.out⟩
  subst he;have HRF2 := Lib.hid (show ef = dnE xs done [] by rw [HRF.out, if_neg (by simp)]);clear HRF;obtain ⟨_, _, _, e0, hxc1, hxc2, _, hxr⟩ := HSX.out w2 HBT2.out
  cases e0
  have HXR := Lib.hid hxr;obtain ⟨_, _, _, e0, hdc1, hdc2, _, hdr⟩ := HDN.out
  cases e0
  have HDR := Lib.hid (fun h => by obtain ⟨g, off, e, h2⟩ := hdr h; exact ⟨g, off, e, h2.mod HM2.out id⟩ : 0 < done.length → ∃ g off, DA = some ⟨g, off, none⟩ ∧ RowAt w2 9 g off (strsV done));obtain ⟨q2, q4, q0⟩ := HFLD.out w2 HBT2.out;have hxz : xs.length ≤ 1000 := HBZ.out;have hmm := @run_makeMap Tryz.prog;have hpm := pure_alloc w2 (.map #[] 0);have HMI := Lib.hid (SetS.made w2);have HM3 := Lib.hid hpm;have q4b := q4;rw [← Mod.cell hpm (p := ⟨gB, nz * 5 + 4, none⟩) (by have := own_heap HBT2.out.1 rfl; obtain ⟨arr, h⟩ := this; exact lt_of_heap h) id] at q4b;have hw2s := HM2.out.size;clear hxr hdr hpm q0 q2 q4 HDN
  go_upto_region 8 with (fail)
  generalize (w2.alloc (.map #[] 0)) = w3 at *;generalize hbi : w2.heap.size = bi at *;have hbi1 := Nat.le_of_eq hbi;have hbi2 := Nat.le_of_eq hbi.symm;clear hbi
  go_wp2_with fail
  go_loopg [61] xs.length (fun gk i wr => ∃ k : Nat, xs.length - k = gk ∧ k ≤ xs.length ∧ i = .int .i64 (k : Int) ∧ SetS wr bi k (xs.take k) ∧ Pure w2 wr)
  case atStart => exact ⟨0, by omega, by omega, rfl, HMI.out, HM3.out⟩
  case round =>
   clear HMI HM3 q4b;obtain ⟨k, rfl, hk, rfl, hset, hm⟩ := hrel
   by_cases hlt : k < xs.length
   ·obtain ⟨gx, ox, rfl, hrow⟩ := HXR.out (by omega);have hq := (hrow.mod hm id).cell (strsV_get xs k hlt);have hsl := HO.out.sl _ (HBI.out _ (List.getElem_mem hlt));have HTT := Lib.hid (List.take_succ_eq_append_getElem hlt);obtain ⟨w4, hrun, hset4, hm4⟩ := hset.add (t := 111) (e := 4) Tryz.underlying111 (by omega) xs[k] (by omega);have HS4 := Lib.hid hset4;have HM4 := Lib.hid (hm.trans' hm4 (fun i hi hlt => by omega));clear hrow hset hset4 hm4 hm;generalize xs[k] = s at *
    go_wp2_with fail
    go_roundg (xs.length - (k + 1))
    case measure => omega
    case rel => exact ⟨k + 1, rfl, by omega, by simp, by rw [HTT.out]; exact HS4.out, HM4.out⟩
   ·obtain rfl : k = xs.length := by omega
    rw [List.take_length] at hset;obtain ⟨w4, hw4⟩ : ∃ W, W = wr := ⟨wr, rfl⟩;subst hw4;have HSI := Lib.hid (SetS.pure hset (pure_alloc w4 (.map #[] 0)));have HMS := Lib.hid (SetS.made w4);have HM5 := Lib.hid (hm.trans (pure_alloc w4 (.map #[] 0)));have hbiw := hset.lt;clear hset hm hlt
    go_upto_region 14 with (fail)
    generalize (w4.alloc (.map #[] 0)) = w5 at *;generalize hbs : w4.heap.size = bs at *;have hbs1 := Nat.le_of_eq hbs;have hbs2 := Nat.le_of_eq hbs.symm;clear hbs
    go_wp2_with fail
    go_loopg [71] done.length (fun gk i wr => ∃ k : Nat, done.length - k = gk ∧ k ≤ done.length ∧ i = .int .i64 (k : Int) ∧ SetS wr bs k (done.take k) ∧ SetS wr bi xs.length xs ∧ ef = dnE xs (done.drop k) (done.take k) ∧ Pure w2 wr)
    case atStart => exact ⟨0, by omega, by omega, rfl, HMS.out, HSI.out, HRF2.out, HM5.out⟩
    case round =>
     clear HMS HSI HRF2 HM5;obtain ⟨k, rfl, hk, rfl, hset, hsi, hef, hm⟩ := hrel
     by_cases hlt : k < done.length
     ·obtain ⟨gx, ox, rfl, hrow⟩ := HDR.out (by omega);have hq := (hrow.mod hm id).cell (strsV_get done k hlt);have hsl := HDS.out _ (List.getElem_mem hlt);have HTT := Lib.hid (List.take_succ_eq_append_getElem hlt);have HDE := Lib.hid (hef.trans (dnE_step xs done hlt));have HDF := Lib.hid (dn_first xs (done.take k) done[k]);obtain ⟨w6, hw6⟩ : ∃ W, W = wr := ⟨wr, rfl⟩;subst hw6;have HS6 := Lib.hid hset;have HI6 := Lib.hid hsi;have HM6 := Lib.hid hm;clear hrow hset hsi hm hef;generalize done[k] = s at *;obtain ⟨b1, hb1⟩ : ∃ b1, decide (s ∈ xs) = b1 := ⟨_, rfl⟩;obtain ⟨b2, hb2⟩ : ∃ b2, decide (s ∈ done.take k) = b2 := ⟨_, rfl⟩;obtain ⟨e2, he2⟩ : ∃ e2 : Int, (if s ∉ xs then 8 else if s ∈ done.take k then 6 else 0) = e2 := ⟨_, rfl⟩;obtain ⟨f1, hf1⟩ : ∃ f1 : Int, (if (!b1) = true then 8 else 0) = f1 := ⟨_, rfl⟩;obtain ⟨f2, hf2⟩ : ∃ f2 : Int, (if b2 = true then 6 else 0) = f2 := ⟨_, rfl⟩;rw [hb1, hb2, he2, hf1, hf2] at HDF;have HB1 := Lib.hid hb1;have HB2' := Lib.hid hb2;have HF1 := Lib.hid hf1;have HF2 := Lib.hid hf2;have HE2 := Lib.hid he2;have HFC := Lib.hid (fun (W : World) (g : Nat) (h : Blk W g 33 #[.int .i64 f1, .int .i64 f2]) => by have := firstE_calls W g 2 [f1, f2] h.row0 (by simp); rwa [HDF.out] at this);clear hb1 hb2 hf1 hf2 he2 HDF
      go_upto_region 17 with (fail)
      have HGs := Lib.hid (show ∀ (D : Nat → Bool) (zzi : Nat) (zq zq' : World), (fun _ zq => (fun Z => SetS Z bi xs.length xs ∧ SetS Z bs k (done.take k)) zq) D zq → Mod (fun _ => False) zq zq' → (fun _ zq => (fun Z => SetS Z bi xs.length xs ∧ SetS Z bs k (done.take k)) zq) (upd D zzi true) zq' from by intro D zzi zq zq' h hm; (exact ⟨h.1.pure hm, h.2.pure hm⟩))
      refine wp_region_inv (by kernel_rfl) (by kernel_rfl) (InvF (R := Mod (fun _ => False)) [.is (.map (some bi)),
        .is (.string ⟨s.toArray⟩),
        .is (.bool b1),
        .is (.bool (!b1)),
        .is (.int .i64 f1),
        .is (.map (some bs)),
        .is (.string ⟨s.toArray⟩),
        .is (.bool b2),
        .is (.int .i64 f2),
        ⟨fun zv zw => ∃ (g_9 : Nat), zv = .slice (some ⟨g_9, 0, none⟩) 2 2 ∧ w6.heap.size ≤ g_9 ∧ Blk zw g_9 33 #[.int .i64 f1, .int .i64 f2], (by rintro zv zw zx ⟨g_9, rfl, c0, q0⟩ hm; exact ⟨g_9, rfl, c0, (q0.modp hm)⟩), none, some 10⟩,
        .is (.int .i64 e2),
        .is (.int .i64 e2)]
        (PB w2 (fun _ => False) w6.heap.size (fun _ zq => (fun Z => SetS Z bi xs.length xs ∧ SetS Z bs k (done.take k)) zq))) (InvF.start (PB.start HM6.out (Nat.le_refl _) (⟨HI6.out.pure ((Mod.refl _ _).drew), HS6.out.pure ((Mod.refl _ _).drew)⟩))) ?_ ?_
      ·refine .cons ?_ (.cons ?_ (.cons ?_ (.cons ?_ (.cons ?_ (.cons ?_ (.cons ?_ (.cons ?_ (.cons ?_ (.cons ?_ (.cons ?_ (.cons ?_ .nil)))))))))))
       ·intro D V zw1 a hR hI K hK;obtain ⟨hM1, hB1, hG1⟩ := hI.1;have ze11 := hR.frame.other (t := 11) (by kernel_rfl) rfl;rw [if_pos (by rfl)];go_simp;exact hK (.map (some bi)) _ (hI.next hR (by kernel_rfl) (Mod.refl _ _) (PB.quiet hI.1 (Mod.refl _ _) (HGs.out D 0 zw1 zw1 (hI.1).g (Mod.refl _ _))) (upd_same V 0 _))
       ·intro D V zw1 a hR hI K hK;obtain ⟨hM1, hB1, hG1⟩ := hI.1;have ze16 := hR.frame.other (t := 16) (by kernel_rfl) rfl;rw [if_pos (by rfl)];go_simp;exact hK (.string ⟨s.toArray⟩) _ (hI.next hR (by kernel_rfl) (Mod.refl _ _) (PB.quiet hI.1 (Mod.refl _ _) (HGs.out D 1 zw1 zw1 (hI.1).g (Mod.refl _ _))) (upd_same V 1 _))
       ·intro D V zw1 a hR hI K hK;obtain ⟨hM1, hB1, hG1⟩ := hI.1;have zd0 := hR.pred 0 (by kernel_rfl);have zf0 : V 0 = .map (some bi) := hI.2 0 zd0 rfl;have zd1 := hR.pred 1 (by kernel_rfl);have zf1 : V 1 = .string ⟨s.toArray⟩ := hI.2 1 zd1 rfl;have ze75 := hR.frame.done (t := 75) (j := 0) (by kernel_rfl) hR.ok zd0;have ze76 := hR.frame.done (t := 76) (j := 1) (by kernel_rfl) hR.ok zd1;have hrun := hG1.1.has (t := 111) (e := 4) Tryz.underlying111 zero_bool s (by omega);rw [HB1.out] at hrun;rw [if_pos (by rfl)];go_simp;exact hK (.bool b1) _ (hI.next hR (by kernel_rfl) (Mod.refl _ _) (PB.quiet hI.1 (Mod.refl _ _) (HGs.out D 2 zw1 zw1 (hI.1).g (Mod.refl _ _))) (upd_same V 2 _))
       ·intro D V zw1 a hR hI K hK;obtain ⟨hM1, hB1, hG1⟩ := hI.1;have zd2 := hR.pred 2 (by kernel_rfl);have zf2 : V 2 = .bool b1 := hI.2 2 zd2 rfl;have ze77 := hR.frame.done (t := 77) (j := 2) (by kernel_rfl) hR.ok zd2;rw [if_pos (by rfl)];go_simp;exact hK (.bool (!b1)) _ (hI.next hR (by kernel_rfl) (Mod.refl _ _) (PB.quiet hI.1 (Mod.refl _ _) (HGs.out D 3 zw1 zw1 (hI.1).g (Mod.refl _ _))) (upd_same V 3 _))
       ·intro D V zw1 a hR hI K hK;obtain ⟨hM1, hB1, hG1⟩ := hI.1;have zd3 := hR.pred 3 (by kernel_rfl);have zf3 : V 3 = .bool (!b1) := hI.2 3 zd3 rfl;have ze78 := hR.frame.done (t := 78) (j := 3) (by kernel_rfl) hR.ok zd3;rw [if_pos (by rfl)];go_simp;refine (whenQ_calls zw1 (!b1) 8 f1 HF1.out).mono ?_;rintro e zw2 ⟨rfl, hm2⟩;exact hK (.int .i64 f1) _ (hI.next hR (by kernel_rfl) hm2 (PB.quiet hI.1 hm2 (HGs.out D 4 _ _ (hI.1).g hm2)) (upd_same V 4 _))
       ·intro D V zw1 a hR hI K hK;obtain ⟨hM1, hB1, hG1⟩ := hI.1;have ze14 := hR.frame.other (t := 14) (by kernel_rfl) rfl;rw [if_pos (by rfl)];go_simp;exact hK (.map (some bs)) _ (hI.next hR (by kernel_rfl) (Mod.refl _ _) (PB.quiet hI.1 (Mod.refl _ _) (HGs.out D 5 zw1 zw1 (hI.1).g (Mod.refl _ _))) (upd_same V 5 _))
       ·intro D V zw1 a hR hI K hK;obtain ⟨hM1, hB1, hG1⟩ := hI.1;have ze16 := hR.frame.other (t := 16) (by kernel_rfl) rfl;rw [if_pos (by rfl)];go_simp;exact hK (.string ⟨s.toArray⟩) _ (hI.next hR (by kernel_rfl) (Mod.refl _ _) (PB.quiet hI.1 (Mod.refl _ _) (HGs.out D 6 zw1 zw1 (hI.1).g (Mod.refl _ _))) (upd_same V 6 _))
       ·intro D V zw1 a hR hI K hK;obtain ⟨hM1, hB1, hG1⟩ := hI.1;have zd5 := hR.pred 5 (by kernel_rfl);have zf5 : V 5 = .map (some bs) := hI.2 5 zd5 rfl;have zd6 := hR.pred 6 (by kernel_rfl);have zf6 : V 6 = .string ⟨s.toArray⟩ := hI.2 6 zd6 rfl;have ze80 := hR.frame.done (t := 80) (j := 5) (by kernel_rfl) hR.ok zd5;have ze81 := hR.frame.done (t := 81) (j := 6) (by kernel_rfl) hR.ok zd6;have hrun := hG1.2.has (t := 111) (e := 4) Tryz.underlying111 zero_bool s (by omega);rw [HB2'.out] at hrun;rw [if_pos (by rfl)];go_simp;exact hK (.bool b2) _ (hI.next hR (by kernel_rfl) (Mod.refl _ _) (PB.quiet hI.1 (Mod.refl _ _) (HGs.out D 7 zw1 zw1 (hI.1).g (Mod.refl _ _))) (upd_same V 7 _))
       ·intro D V zw1 a hR hI K hK;obtain ⟨hM1, hB1, hG1⟩ := hI.1;have zd7 := hR.pred 7 (by kernel_rfl);have zf7 : V 7 = .bool b2 := hI.2 7 zd7 rfl;have ze82 := hR.frame.done (t := 82) (j := 7) (by kernel_rfl) hR.ok zd7;rw [if_pos (by rfl)];go_simp;refine (whenQ_calls zw1 b2 6 f2 HF2.out).mono ?_;rintro e zw2 ⟨rfl, hm2⟩;exact hK (.int .i64 f2) _ (hI.next hR (by kernel_rfl) hm2 (PB.quiet hI.1 hm2 (HGs.out D 8 _ _ (hI.1).g hm2)) (upd_same V 8 _))
       ·intro D V zw1 a hR hI K hK;obtain ⟨hM1, hB1, hG1⟩ := hI.1;have zd4 := hR.pred 4 (by kernel_rfl);have zf4 : V 4 = .int .i64 f1 := hI.2 4 zd4 rfl;have zd8 := hR.pred 8 (by kernel_rfl);have zf8 : V 8 = .int .i64 f2 := hI.2 8 zd8 rfl;have ze79 := hR.frame.done (t := 79) (j := 4) (by kernel_rfl) hR.ok zd4;have ze83 := hR.frame.done (t := 83) (j := 8) (by kernel_rfl) hR.ok zd8;rw [if_pos (by rfl)];go_simp;exact hK (_) _ (hI.next hR (by kernel_rfl) ((Mod.refl _ _).alloc _) (PB.quiet hI.1 (pure_alloc _ _) (HGs.out D 9 _ _ (hI.1).g ((Mod.refl _ _).alloc _))) (⟨_, upd_same V 9 _, (by omega), (Blk.new _ _ _)⟩))
       ·intro D V zw1 a hR hI K hK;obtain ⟨hM1, hB1, hG1⟩ := hI.1;have zd9 := hR.pred 9 (by kernel_rfl);have zF9 : ∃ (g_9 : Nat), V 9 = .slice (some ⟨g_9, 0, none⟩) 2 2 ∧ w6.heap.size ≤ g_9 ∧ Blk zw1 g_9 33 #[.int .i64 f1, .int .i64 f2] := hI.2 9 zd9 (by show (!D 10) = true; rw [hR.not]; rfl);obtain ⟨g_9, zf9, c9_0, b9_0⟩ := zF9;have ze84 := hR.frame.done (t := 84) (j := 9) (by kernel_rfl) hR.ok zd9;rw [if_pos (by rfl)];go_simp;refine (HFC.out zw1 _ b9_0).mono ?_;rintro e zw2 ⟨rfl, hm2⟩;exact hK (.int .i64 e2) _ (hI.next hR (by kernel_rfl) hm2 (PB.quiet hI.1 hm2 (HGs.out D 10 _ _ (hI.1).g hm2)) (upd_same V 10 _))
       ·intro D V zw1 a hR hI K hK;obtain ⟨hM1, hB1, hG1⟩ := hI.1;have zd10 := hR.pred 10 (by kernel_rfl);have zf10 : V 10 = .int .i64 e2 := hI.2 10 zd10 rfl;have ze85 := hR.frame.done (t := 85) (j := 10) (by kernel_rfl) hR.ok zd10;rw [if_pos (by rfl)];go_simp;exact hK (.int .i64 e2) _ (hI.next hR (by kernel_rfl) (Mod.refl _ _) (PB.quiet hI.1 (Mod.refl _ _) (HGs.out D 11 zw1 zw1 (hI.1).g (Mod.refl _ _))) (upd_same V 11 _))
      ·intro D V w7 hD hI;obtain ⟨hM1, hB1, hG1⟩ := hI.1;have hMx := hM1;clear hM1;have hBx := hB1;clear hB1;have hGx := hG1;clear hG1;have zf0 : V 0 = .map (some bi) := hI.2 0 (hD 0 (by decide)) rfl;have zf1 : V 1 = .string ⟨s.toArray⟩ := hI.2 1 (hD 1 (by decide)) rfl;have zf2 : V 2 = .bool b1 := hI.2 2 (hD 2 (by decide)) rfl;have zf3 : V 3 = .bool (!b1) := hI.2 3 (hD 3 (by decide)) rfl;have zf4 : V 4 = .int .i64 f1 := hI.2 4 (hD 4 (by decide)) rfl;have zf5 : V 5 = .map (some bs) := hI.2 5 (hD 5 (by decide)) rfl;have zf6 : V 6 = .string ⟨s.toArray⟩ := hI.2 6 (hD 6 (by decide)) rfl;have zf7 : V 7 = .bool b2 := hI.2 7 (hD 7 (by decide)) rfl;have zf8 : V 8 = .int .i64 f2 := hI.2 8 (hD 8 (by decide)) rfl;have zf10 : V 10 = .int .i64 e2 := hI.2 10 (hD 10 (by decide)) rfl;have zf11 : V 11 = .int .i64 e2 := hI.2 11 (hD 11 (by decide)) rfl;clear hI hD HGs;simp only [frAll, Act.put, List.setIfInBounds_toArray, List.set_cons_zero, List.set_cons_succ, Nat.zero_add, Nat.reduceAdd, zf0, zf1, zf2, zf3, zf4, zf5, zf6, zf7, zf8, zf10, zf11];clear zf0 zf1 zf2 zf3 zf4 zf5 zf6 zf7 zf8 zf10 zf11;generalize V 9 = u9;clear V D;have HM7 := Lib.hid hMx;have HI7 := Lib.hid hGx.1;have HS7 := Lib.hid hGx.2;have hw7 := hMx.size;clear hMx hGx hBx HI6 HS6 HM6 HFC HF1 HF2
       by_cases h2 : e2 = 0
       ·subst h2
        have hsx : s ∈ xs ∧ s ∉ done.take k := by
         have h := HE2.out
         by_cases a : s ∈ xs
         ·rw [if_neg (by simpa using a)] at h
          by_cases b : s ∈ done.take k
          ·rw [if_pos b] at h; cases h
          ·exact ⟨a, b⟩
         ·rw [if_pos a] at h; cases h
        have HDE2 := Lib.hid (show ef = dnE xs (done.drop (k + 1)) (done.take (k + 1)) by rw [HDE.out, if_neg (by simpa using hsx.1), if_neg hsx.2]);obtain ⟨w8, hrun, hset8, hm8⟩ := HS7.out.add (t := 111) (e := 4) Tryz.underlying111 (by omega) s (by omega);have HS8 := Lib.hid hset8;have HI8 := Lib.hid (HI7.out.mod hm8 (by omega));have HM8 := Lib.hid (HM7.out.trans' hm8 (fun i hi hlt => by omega));clear hset8 hm8 hsx HE2 HDE HS7 HI7 HM7
        go_wp2_with fail
        go_roundg (done.length - (k + 1))
        case measure => omega
        case rel => exact ⟨k + 1, rfl, by omega, by simp, by rw [HTT.out]; exact HS8.out, HI8.out, HDE2.out, HM8.out⟩
       ·have h2' : (e2 != 0) = true := by simpa using h2
        have HQ := Lib.hid (show ef = e2 by
         have h := HE2.out;rw [HDE.out]
         by_cases a : s ∈ xs
         ·rw [if_neg (by simpa using a)] at h ⊢
          by_cases b : s ∈ done.take k
          ·rw [if_pos b] at h ⊢; exact h
          ·rw [if_neg b] at h; exact absurd h.symm h2
         ·rw [if_pos a] at h ⊢; exact h)
        have HE := Lib.hid h2;clear h2 HE2 HDE HS7 HI7
        go_wp2_with fail
        go_ret;exact .inl ⟨by rw [HQ.out]; exact HE.out, by rw [HQ.out]; rfl, HM2.out.trans HM7.out⟩
     ·obtain rfl : k = done.length := by omega
      rw [List.take_length] at hset;have HQ0 := Lib.hid (show ef = 0 by rw [hef, List.drop_of_length_le (Nat.le_refl _)]; rfl);obtain ⟨w6, hw6⟩ : ∃ W, W = wr := ⟨wr, rfl⟩;subst hw6;have HSD := Lib.hid hset;have HM6 := Lib.hid (HM2.out.trans hm);have HX6 := Lib.hid (fun (h : 0 < xs.length) => by obtain ⟨g, off, e, h2⟩ := HXR.out h; exact ⟨g, off, e, h2.mod hm id⟩ : 0 < xs.length → ∃ g off, xA = some ⟨g, off, none⟩ ∧ RowAt w6 9 g off (strsV xs));have HB6 := Lib.hid (HB2.out.modp hm);have HBT6 := Lib.hid (HBT2.out.pure hm);have HS6 := Lib.hid (HS.out.pure HM6.out);have hbsl := hset.lt;obtain ⟨q2, q4, q0⟩ := HFLD.out w6 HBT6.out;clear hset hsi hm hef hlt HB2 HBT2 HM2 HXR HDR;have hcl : ∀ g arr t fr, w6.heap[g]? = some (.cells arr t fr) → ¬ g = bm := fun g arr t fr h => mapX_cells HS6.out h;have HCL := Lib.hid hcl;clear hcl
      go_wp2_with fail
      go_loopg [97] xs.length (fun gk i wr => ∃ k : Nat, xs.length - k = gk ∧ k ≤ xs.length ∧ i = .int .i64 (k : Int) ∧ StM wr bm pst ids (fun q => if q ∈ xs.take k then (if q ∈ done then -1 else 0) else d.st q) ∧ Mod (· = bm) w6 wr)
      case atStart => exact ⟨0, by omega, by omega, rfl, by simpa using HS6.out, Mod.refl _ _⟩
      case round =>
       clear q0 q2 q4;obtain ⟨k, rfl, hk, rfl, hst, hm⟩ := hrel
       by_cases hlt : k < xs.length
       ·obtain ⟨gx, ox, rfl, hrow⟩ := HX6.out (by omega);have hq := (hrow.mod hm (by obtain ⟨cs, fr, hb, _⟩ := hrow; exact HCL.out _ _ _ _ hb)).cell (strsV_get xs k hlt);have hmem := HBI.out _ (List.getElem_mem hlt);have HTT := Lib.hid (List.take_succ_eq_append_getElem hlt);have hsl := HO.out.sl _ hmem;clear hrow;generalize xs[k] = s at *;obtain ⟨w7, hrun7, hS7, hm7⟩ := hst.store HO.out.nd HO.out.il hmem hsl 0;rw [show pst 0 = 0 from rfl] at hrun7;have hlk := (HSD.out.mod (hm.trans hm7) (by omega)).has (t := 111) (e := 4) Tryz.underlying111 zero_bool s (by omega);have hx := HB6.out.mod hm hgbm;have hy := HB6.out.mod (hm.trans hm7) hgbm;have x0 := hx.cell 0; have x1 := hx.cell 1; have x2 := hx.cell 2; have x3 := hx.cell 3; simp at x0 x1 x2 x3;have y0 := hy.cell 0; have y1 := hy.cell 1; have y2 := hy.cell 2; have y3 := hy.cell 3; simp at y0 y1 y2 y3
        by_cases hsd : s ∈ done
        ·obtain ⟨w8, hrun8, hS8, hm8⟩ := hS7.store HO.out.nd HO.out.il hmem hsl (-1);rw [show pst (-1) = 2 from rfl] at hrun8;rw [decide_eq_true hsd] at hlk;have HS8 := Lib.hid hS8;have HM8 := Lib.hid ((hm.trans hm7).trans hm8);have HSD2 := Lib.hid hsd;clear hx hy hst hS7 hS8 hm hm7 hm8 hmem hsl hsd
         go_wp2_with fail
         go_roundg (xs.length - (k + 1))
         case measure => omega
         case rel =>
          refine ⟨k + 1, rfl, by omega, by simp, ?_, HM8.out⟩;rw [HTT.out]
          have e : (fun q => if q ∈ xs.take k ++ [s] then (if q ∈ done then (-1 : Int) else 0) else d.st q) = (fun q => if q = s then (-1 : Int) else if q = s then 0 else if q ∈ xs.take k then (if q ∈ done then -1 else 0) else d.st q) := by
           funext q
           by_cases e1 : q = s
           ·subst e1; simp [HSD2.out]
           ·simp [e1]
          rw [e];exact HS8.out
        ·rw [decide_eq_false hsd] at hlk;have HS8 := Lib.hid hS7;have HM8 := Lib.hid (hm.trans hm7);have HSD2 := Lib.hid hsd;clear hx hy hst hS7 hm hm7 hmem hsl hsd
         go_wp2_with fail
         go_roundg (xs.length - (k + 1))
         case measure => omega
         case rel =>
          refine ⟨k + 1, rfl, by omega, by simp, ?_, HM8.out⟩;rw [HTT.out]
          have e : (fun q => if q ∈ xs.take k ++ [s] then (if q ∈ done then (-1 : Int) else 0) else d.st q) = (fun q => if q = s then (0 : Int) else if q ∈ xs.take k then (if q ∈ done then -1 else 0) else d.st q) := by
           funext q
           by_cases e1 : q = s
           ·subst e1; simp [HSD2.out]
           ·simp [e1]
          rw [e];exact HS8.out
       ·obtain rfl : k = xs.length := by omega
        rw [List.take_length] at hst;obtain ⟨w7, hw7⟩ : ∃ W, W = wr := ⟨wr, rfl⟩;subst hw7;have HBT7 := Lib.hid (HBT6.out.mod hm (fun j hj => by obtain ⟨arr, h⟩ := own_heap HBT6.out.1 hj; exact HCL.out _ _ _ _ h) (fun g arr fr h => HCL.out _ _ _ _ h));have hB7 := HB6.out.mod hm hgbm;have HB7 := Lib.hid hB7
        have hggB : gB ≠ g := by
         obtain ⟨arr, h⟩ := own_heap HBT7.out.1 rfl;exact blk_ty2 hB7 h (by decide)
        have hggB2 : g ≠ gB := fun h => hggB h.symm;obtain ⟨g', e, c0, c1, c2, c3, c4, cf⟩ := HBT7.out.cells hil
        cases e
        have HS7 := Lib.hid hst;have HF7 := Lib.hid ((HF.out.pure HM6.out).mod2 hm (fun g arr fr h => HCL.out g arr _ fr h) (fun g arr fr h => HCL.out g arr _ fr h));have HM7 := Lib.hid ((Mod.of_pure HM6.out : Mod (fun j => j = g ∨ j = bm ∨ bo = some j) w w6).trans' hm (fun i hi hlt => .inr (.inl hi)));have t0 := hB7.cell 0; have tf0 := hB7.frozen 0; have t1 := hB7.cell 1; have tf1 := hB7.frozen 1; have t2 := hB7.cell 2; have tf2 := hB7.frozen 2; have t3 := hB7.cell 3; have tf3 := hB7.frozen 3; simp at t0 t1 t2 t3;clear hst hm hB7 hlt hk
        go_wp2_with fail
        go_ret;have hma : Mod (· = gB) w7 (w7.setCell ⟨gB, nz * 5 + 2, none⟩ (.int .i64 at_)) := (Mod.refl (· = gB) w7).setCell (.inl rfl) _;have hmb : Mod (· = g) (w7.setCell ⟨gB, nz * 5 + 2, none⟩ (.int .i64 at_)) ((w7.setCell ⟨gB, nz * 5 + 2, none⟩ (.int .i64 at_)).setCell ⟨g, 3, none⟩ (.int .i64 at_)) := (Mod.refl (· = g) _).setCell (.inl rfl) _
        have hgb : ∀ T, T ≠ 42 → ∀ i arr fr, w7.heap[i]? = some (.cells arr T fr) → ¬ i = gB := fun T hT i arr fr hi e => by
         obtain ⟨arr2, h⟩ := own_heap HBT7.out.1 rfl;subst e;rw [hi] at h
         injection h with h
         injection h with _ h2 _
         exact hT h2
        have hBa := HB7.out.mod hma hggB2;have hgg : ∀ T, T ≠ 87 → ∀ i arr fr, (w7.setCell ⟨gB, nz * 5 + 2, none⟩ (.int .i64 at_)).heap[i]? = some (.cells arr T fr) → ¬ i = g := fun T hT i arr fr hi => blk_ty2 hBa hi hT;have hinn := (HINN.out w7 HBT7.out).mod hmb (fun j hj e => by have : gB = j := (by simpa [Value.ownBlock] using hj); omega) (hgg _ (by decide));refine .inr ⟨HQ0.out, rfl, ⟨FA, fc, fms, some ⟨gB, 0, none⟩, bc, _, ?_, (HF7.out.mod2 hma (hgb _ (by decide)) (hgb _ (by decide))).mod2 hmb (hgg _ (by decide)) (hgg _ (by decide)), HFE.out, (HS7.out.mod hma (fun e => by obtain ⟨arr, h⟩ := own_heap HBT7.out.1 rfl; exact mapX_cells HS7.out h e.symm)).mod hmb (fun e => hgbm e.symm), hinn, ?_⟩, (HM7.out.trans' hma (fun i hi hlt => .inr (.inr ?_))).trans' hmb (fun i hi hlt => .inl hi)⟩
        ·have h := hBa.set 3 (.int .i64 at_);rw [List.length_set]
         simpa [dRet] using h
        ·rw [List.length_set]; exact HBO.out
        ·rw [← HBO.out, hi]; rfl
end Go.Proofs.YtgfgggeeoeppjaaGreatDoor
/- Return of the reference. -/
namespace Go.Proofs.YtgfgggeeoeppjaaGreatDoor
open Go.RowKit
theorem rtE_ways {d : DskR} {no at_ : Int} (hi : inB no 1 (d.bats.length : Int) = true) {b : BatK} (hb : d.bats.getD (no - 1).toNat batN = b) : rtE d no at_ = if b.2.2.1 ≠ -1 then 11 else if inB at_ 0 5761439 = false then 1 else if at_ < d.last then 7 else 0 := by
 unfold rtE moE;rw [if_neg (show ¬ inB no 1 (d.bats.length : Int) = false by rw [hi]; decide), hb]
 by_cases h0 : b.2.2.1 = -1
 ·cases inB at_ 0 5761439 <;> simp [h0]
 ·simp [h0]
theorem rflag_calls (w : World) (b : Bool) : Calls Tryz.prog 66 #[.bool b] w (IntPost w (if b = true then 1 else 0)) := by
 cases b
 ·go_enter Tryz.func66, Tryz.ntmps66
  go_wp2_with fail
  go_ret;exact IntPost.of rfl (Mod.refl _ _)
 ·go_enter Tryz.func66, Tryz.ntmps66
  go_wp2_with fail
  go_ret;exact IntPost.of rfl (Mod.refl _ _)
set_option maxHeartbeats 8000000 in
theorem rreturn_calls (w : World) (g bm : Nat) (bo : Option Nat) (ids : List Str) (d : DskR) (hD : DkR w g bm bo ids d) (hO : DkOk ids d) (no at_ : Int) (DA : Option Addr) (dn dc : Nat) (done : List Str) (hdn : Sl w 9 1 (.slice DA dn dc) (strsV done)) (hdl : done.length ≤ 1001) (hds : ∀ s ∈ done, s.length ≤ 1000) :
  Calls Tryz.prog 19 #[.pointer (some ⟨g, 0, none⟩), .int .i64 no, .int .i64 at_, .slice DA dn dc] w (RtPost (fun W d' => DkR W g bm bo ids d') w g bm bo d no at_ done) := by
 have hdn1 := Sl.lenS hdn;subst hdn1;obtain ⟨FA, fc, fms, BA, bc, bts, hB, hF, hfe, hS, hBT, hbo⟩ := hD;have HO := Lib.hid hO;have HB := Lib.hid hB;have HF := Lib.hid hF;have HFE := Lib.hid hfe;have HS := Lib.hid hS;have HBT := Lib.hid hBT;have HBO := Lib.hid hbo;have HDN := Lib.hid hdn;have HDS := Lib.hid hds;have hbla := Nat.le_of_eq hBT.kl;have hblb := Nat.le_of_eq hBT.kl.symm;have hb9 := hO.bl;have hgw := hB.lt;have hbmw := hS.lt;have hgbm := mapX_ne hS hB;have HRF : Hid (rtF d no at_ done = if rtE d no at_ ≠ 0 then rtE d no at_ else dnE (d.bats.getD (no - 1).toNat batN).2.2.2.2 done []) := Lib.hid rfl;have HRE := Lib.hid (fun (h : inB no 1 (d.bats.length : Int) = false) => show rtE d no at_ = 8 by unfold rtE; rw [if_pos h]);have HFI := Lib.hid (fun (h : inB no 1 (d.bats.length : Int) = true) => rtE_ways (at_ := at_) h rfl);unfold RtPost;obtain ⟨ib, hib⟩ : ∃ ib, inB no 1 (d.bats.length : Int) = ib := ⟨_, rfl⟩;have HIB := Lib.hid hib;have HIN := Lib.hid (fun W => by have := rinP_calls W no 1 (bts.length : Int); rw [hBT.kl, hib] at this; rwa [← hBT.kl] at this);rw [hib] at HRE HFI;obtain ⟨er, her⟩ : ∃ er, rtE d no at_ = er := ⟨_, rfl⟩;rw [her] at HRF HRE HFI;obtain ⟨ef, hef⟩ : ∃ ef, rtF d no at_ done = ef := ⟨_, rfl⟩;rw [hef] at HRF ⊢;obtain ⟨mb, hme⟩ : ∃ mb, inB at_ 0 5761439 = mb := ⟨_, rfl⟩;have HME := Lib.hid (fun W => by have := rinP_calls W at_ 0 5761439; rwa [hme] at this);rw [hme] at HFI;obtain ⟨bk, hbk⟩ : ∃ bk, d.bats.getD (no - 1).toNat batN = bk := ⟨_, rfl⟩;have HBK := Lib.hid hbk;rw [hbk] at HRF HFI ⊢;obtain ⟨nz, hnz⟩ : ∃ nz, (no - 1).toNat = nz := ⟨_, rfl⟩;rw [hnz] at HBK ⊢;have HNZ := Lib.hid hnz;have hx := hB;have x0 := hx.cell 0; have x1 := hx.cell 1; have x2 := hx.cell 2; have x3 := hx.cell 3; simp at x0 x1 x2 x3;clear hx hB hF hfe hS hBT hbo hdn hds hib her hef hme hbk hO hnz
 go_enter Tryz.func19, Tryz.ntmps19
 go_wp2_with fail
 refine (HIN.out w).mono ?_;rintro e w1 ⟨rfl, hm1⟩
 cases ib
 ·have he : er = 8 := HRE.out rfl
  have hq : ef = 8 := by rw [HRF.out, he]; simp
  have HQ := Lib.hid hq;clear he hq x0 x1 x2 x3
  go_wp2_with fail
  go_ret;exact .inl ⟨by rw [HQ.out]; decide, by rw [HQ.out]; rfl, hm1⟩
 have hno : 1 ≤ no ∧ no ≤ (d.bats.length : Int) := by
  have h := HIB.out;unfold inB at h
  simpa using h
 obtain ⟨i, hi⟩ : ∃ i : Nat, no = (i : Int) + 1 := ⟨(no - 1).toNat, by omega⟩;subst hi
 have hnzi : nz = i := by have := HNZ.out; omega
 subst hnzi
 have hil : nz < bts.length := by omega
 obtain ⟨gB, rfl⟩ : ∃ gB, BA = some ⟨gB, 0, none⟩ := by
  obtain ⟨gB, h, _⟩ := HBT.out.cells hil;exact ⟨gB, h⟩
 have HKX := Lib.hid (HBK.out.symm.trans (HBT.out.at_ hil));have HFLD := Lib.hid (fun (W : World) (h : BatO W 0 (some ⟨gB, 0, none⟩) bc bts d.bats) => h.fld hil);have HSX := Lib.hid (fun (W : World) (h : BatO W 0 (some ⟨gB, 0, none⟩) bc bts d.bats) => h.2.1 _ (List.getElem_mem hil));have HINN := Lib.hid (fun (W : World) (h : BatO W 0 (some ⟨gB, 0, none⟩) bc bts d.bats) => h.inn hil at_)
 have hkm : bk ∈ d.bats := by
  have h := HBK.out
  have h2 : nz < d.bats.length := by omega
  rw [← h];simp [List.getD, h2]
 have HBI := Lib.hid (HO.out.bi _ hkm);have HBZ := Lib.hid (HO.out.bz _ hkm);have HBQ := Lib.hid (HO.out.inn _ hkm);clear hkm;generalize bts[nz] = x at *;obtain ⟨xn, xo, xi, xr, xA, xc, xs⟩ := x;obtain rfl : bk = (xn, xo, xi, xr, xs) := HKX.out;simp only at HFLD HSX HFI HRF HBI HBZ HBQ;have HFI2 := Lib.hid (HFI.out (by first | rfl | trivial));have HB1 := Lib.hid (HB.out.modp hm1);have HBT1 := Lib.hid (HBT.out.pure hm1);obtain ⟨q2, q4, q0⟩ := HFLD.out w1 HBT1.out;have HM1 := Lib.hid hm1;have hx := HB1.out;clear HFI HRE HIN HKX hm1 x0 x1 x2 x3;have x0 := hx.cell 0; have x1 := hx.cell 1; have x2 := hx.cell 2; have x3 := hx.cell 3; simp at x0 x1 x2 x3;clear hx
 have hsub : IntKind.i64.wrap ((nz : Int) + 1 - 1) = (nz : Int) := by rw [Int.add_sub_cancel]; exact IntWalk.i64_in _ (by omega)
 by_cases hin : xi = -1
 rotate_left
 ·have HE := Lib.hid (show er = 11 by rw [HFI2.out, if_pos hin])
  have hge : 0 ≤ xi := by rcases HBQ.out with h | h; exact absurd h hin; exact h
  have HQ := Lib.hid (show ef = 11 by rw [HRF.out, HE.out]; simp);clear HRF HE
  go_wp2_with fail
  go_ret;exact .inl ⟨by rw [HQ.out]; decide, by rw [HQ.out]; rfl, HM1.out⟩
 subst hin
 go_wp2_with fail
 refine (HME.out w1).mono ?_;rintro e w2 ⟨rfl, hm2⟩;have HM2 := Lib.hid (HM1.out.trans hm2);have HB2 := Lib.hid (HB1.out.modp hm2);have HBT2 := Lib.hid (HBT1.out.pure hm2);clear hm2 HM1 HB1 HBT1 HME x0 x1 x2 x3 q0 q2 q4
 cases mb
 ·have HE := Lib.hid (show er = 1 by rw [HFI2.out, if_neg (by simp), if_pos rfl]);have HQ := Lib.hid (show ef = 1 by rw [HRF.out, HE.out]; simp);clear HRF HE
  go_wp2_with fail
  go_ret;exact .inl ⟨by rw [HQ.out]; decide, by rw [HQ.out]; rfl, HM2.out⟩
 have hx := HB2.out;have x0 := hx.cell 0; have x1 := hx.cell 1; have x2 := hx.cell 2; have x3 := hx.cell 3; simp at x0 x1 x2 x3;clear hx
 by_cases hat : at_ < d.last
 ·have HE := Lib.hid (show er = 7 by rw [HFI2.out, if_neg (by simp), if_neg (by simp), if_pos hat]);have HQ := Lib.hid (show ef = 7 by rw [HRF.out, HE.out]; simp);clear HRF HE
  go_wp2_with fail
  go_ret;exact .inl ⟨by rw [HQ.out]; decide, by rw [HQ.out]; rfl, HM2.out⟩
 have HE := Lib.hid (show er = 0 by rw [HFI2.out, if_neg (by simp), if_neg (by simp), if_neg hat]);have HRF2 := Lib.hid (show ef = dnE xs done [] by rw [HRF.out, HE.out, if_neg (by simp)]);clear HRF HE HFI2;obtain ⟨_, _, _, e0, hxc1, hxc2, _, hxr⟩ := HSX.out w2 HBT2.out
 cases e0
 have HXR := Lib.hid hxr;obtain ⟨_, _, _, e0, hdc1, hdc2, _, hdr⟩ := HDN.out
 cases e0
 have HDR := Lib.hid (fun h => by obtain ⟨g, off, e, h2⟩ := hdr h; exact ⟨g, off, e, h2.mod HM2.out id⟩ : 0 < done.length → ∃ g off, DA = some ⟨g, off, none⟩ ∧ RowAt w2 9 g off (strsV done));have hxz : xs.length ≤ 1000 := HBZ.out;clear hxr hdr
 go_wp2_with fail
 go_loopg [54] done.length (fun gk i wr => ∃ k : Nat, done.length - k = gk ∧ k ≤ done.length ∧ i = .int .i64 (k : Int) ∧ ef = dnE xs (done.drop k) (done.take k) ∧ Pure w2 wr)
 case atStart => exact ⟨0, by omega, by omega, rfl, HRF2.out, Mod.refl _ _⟩
 case round =>
  clear HRF2 x0 x1 x2 x3;obtain ⟨k, rfl, hk, rfl, hef, hm⟩ := hrel;have HM := Lib.hid hm;have HB3 := Lib.hid (HB2.out.modp hm);have HBT3 := Lib.hid (HBT2.out.pure hm)
  by_cases hlt : k < done.length
  ·obtain ⟨gx, ox, rfl, hrow⟩ := HDR.out (by omega);have hq := (hrow.mod hm id).cell (strsV_get done k hlt);have HSK := Lib.hid (slTake (hrow.mod hm id) (k := k) (by omega) (Nat.le_trans (Nat.le_of_lt hlt) hdc1) hdc2);have HDE := Lib.hid (hef.trans (dnE_step xs done hlt));obtain ⟨q2, q4, q0⟩ := HFLD.out wr HBT3.out;have HC1 := Lib.hid (fun (s : Str) => by have := containsSq_calls wr _ xs s (HSX.out wr HBT3.out); rwa [any_eq_mem] at this);have HC2 := Lib.hid (fun (W : World) (h : Pure wr W) (s : Str) => by have := containsSq_calls W _ (done.take k) s (HSK.out.pure h); rwa [any_eq_mem] at this);clear hrow hef hm;generalize done[k] = s at *;obtain ⟨b1, hb1⟩ : ∃ b1, decide (s ∈ xs) = b1 := ⟨_, rfl⟩;obtain ⟨b2, hb2⟩ : ∃ b2, decide (s ∈ done.take k) = b2 := ⟨_, rfl⟩;have HD1 := Lib.hid (HC1.out s);have HD2 := Lib.hid (fun W h => HC2.out W h s);rw [hb1] at HD1;rw [hb2] at HD2;have HB1' := Lib.hid hb1;have HB2' := Lib.hid hb2;clear HC1 HC2 hb1 hb2
   go_wp2_with fail
   refine HD1.out.mono ?_;rintro e w4 ⟨rfl, hm4⟩
   cases b1
   ·have HQ := Lib.hid (show ef = 8 by rw [HDE.out, if_pos (of_decide_eq_false HB1'.out)]);have HM4 := Lib.hid (HM2.out.trans (HM.out.trans hm4));clear HD2 HDE hm4 HD1
    go_wp2_with fail
    go_ret;exact .inl ⟨by rw [HQ.out]; decide, by rw [HQ.out]; rfl, HM4.out⟩
   ·have i1 : (k : Int) ≤ (dc : Int) := by omega
    go_wp2_with fail
    refine (HD2.out w4 hm4).mono ?_;rintro e w5 ⟨rfl, hm5⟩;have HM5 := Lib.hid (HM.out.trans (hm4.trans hm5));clear hm4 hm5 HD1 HD2
    cases b2
    ·have HDE2 := Lib.hid (show ef = dnE xs (done.drop (k + 1)) (done.take (k + 1)) by rw [HDE.out, if_neg (by simpa using of_decide_eq_true HB1'.out), if_neg (of_decide_eq_false HB2'.out)]);clear HDE
     go_wp2_with fail
     go_roundg (done.length - (k + 1))
     case measure => omega
     case rel => exact ⟨k + 1, rfl, by omega, by simp, HDE2.out, HM5.out⟩
    ·have HQ := Lib.hid (show ef = 6 by rw [HDE.out, if_neg (by simpa using of_decide_eq_true HB1'.out), if_pos (of_decide_eq_true HB2'.out)]);clear HDE
     go_wp2_with fail
     go_ret;exact .inl ⟨by rw [HQ.out]; decide, by rw [HQ.out]; rfl, HM2.out.trans HM5.out⟩
  ·obtain rfl : k = done.length := by omega
   have HQ0 := Lib.hid (show ef = 0 by rw [hef, List.drop_of_length_le (Nat.le_refl _)]; rfl);obtain ⟨w6, hw6⟩ : ∃ W, W = wr := ⟨wr, rfl⟩;subst hw6;have HM6 := Lib.hid (HM2.out.trans hm);have HX6 := Lib.hid (fun (h : 0 < xs.length) => by obtain ⟨g, off, e, h2⟩ := HXR.out h; exact ⟨g, off, e, h2.mod hm id⟩ : 0 < xs.length → ∃ g off, xA = some ⟨g, off, none⟩ ∧ RowAt w6 9 g off (strsV xs));have HS6 := Lib.hid (HS.out.pure HM6.out);have HDN6 := Lib.hid (HDN.out.pure HM6.out);have HB6 := HB3;have HBT6 := HBT3;obtain ⟨q2, q4, q0⟩ := HFLD.out w6 HBT6.out;have hcl : ∀ g arr t fr, w6.heap[g]? = some (.cells arr t fr) → ¬ g = bm := fun g arr t fr h => mapX_cells HS6.out h;have HCL := Lib.hid hcl;clear hm hef hlt HB2 HBT2 HM2 HXR HDR HM HB3 HBT3 hcl
   go_wp2_with fail
   go_loopg [77] xs.length (fun gk i wr => ∃ k : Nat, xs.length - k = gk ∧ k ≤ xs.length ∧ i = .int .i64 (k : Int) ∧ StM wr bm (fun x => x) ids (fun q => if q ∈ xs.take k then (if q ∈ done then -1 else 0) else d.st q) ∧ Mod (· = bm) w6 wr)
   case atStart => exact ⟨0, by omega, by omega, rfl, by simpa using HS6.out, Mod.refl _ _⟩
   case round =>
    clear q0 q2 q4;obtain ⟨k, rfl, hk, rfl, hst, hm⟩ := hrel
    by_cases hlt : k < xs.length
    ·obtain ⟨gx, ox, rfl, hrow⟩ := HX6.out (by omega);have hq := (hrow.mod hm (by obtain ⟨cs, fr, hb, _⟩ := hrow; exact HCL.out _ _ _ _ hb)).cell (strsV_get xs k hlt);have hmem := HBI.out _ (List.getElem_mem hlt);have HTT := Lib.hid (List.take_succ_eq_append_getElem hlt);have hsl := HO.out.sl _ hmem;obtain ⟨w7, hw7⟩ : ∃ W, W = wr := ⟨wr, rfl⟩;subst hw7;have HST := Lib.hid hst;have HM7 := Lib.hid hm;have HB7 := Lib.hid (HB6.out.mod hm hgbm);have HDN7 := Lib.hid (HDN6.out.mod hm (fun g arr fr h => HCL.out g arr _ fr h));clear hrow hst hm;generalize xs[k] = s at *;obtain ⟨bd, hbd⟩ : ∃ bd, decide (s ∈ done) = bd := ⟨_, rfl⟩;have HCN := Lib.hid (fun (W : World) (h : Pure w7 W) => by have := containsSq_calls W _ done s (HDN7.out.pure h); rwa [any_eq_mem, hbd] at this);obtain ⟨fv, hfv⟩ : ∃ fv : Int, (if bd = true then 1 else 0) = fv := ⟨_, rfl⟩;have HFL := Lib.hid (fun (W : World) => by have := rflag_calls W bd; rwa [hfv] at this);have HFV := Lib.hid (show -fv = if s ∈ done then (-1 : Int) else 0 by rw [← hfv, ← hbd]; by_cases e : s ∈ done <;> simp [e])
     have hfb : 0 ≤ fv ∧ fv ≤ 1 := by rw [← hfv]; split <;> omega
     clear hbd hfv
     go_upto_region 21 with (fail)
     have HGs := Lib.hid (show ∀ (D : Nat → Bool) (zzi : Nat) (zq zq' : World), zzi ≠ 10 → (fun D zq => (D 10 = false → (fun Z => StM Z bm (fun x => x) ids (fun q => if q ∈ xs.take k then (if q ∈ done then -1 else 0) else d.st q) ∧ Pure w7 Z) zq) ∧ (fun Z => Blk Z g 50 #[.slice FA fms.length fc, .map (some bm), .slice (some ⟨gB, 0, none⟩) bts.length bc, .int .i64 d.last]) zq) D zq → Mod (fun _ => False) zq zq' → (fun D zq => (D 10 = false → (fun Z => StM Z bm (fun x => x) ids (fun q => if q ∈ xs.take k then (if q ∈ done then -1 else 0) else d.st q) ∧ Pure w7 Z) zq) ∧ (fun Z => Blk Z g 50 #[.slice FA fms.length fc, .map (some bm), .slice (some ⟨gB, 0, none⟩) bts.length bc, .int .i64 d.last]) zq) (upd D zzi true) zq' from by intro D zzi zq zq' hi hh hm; refine ⟨fun hs => ?_, ?_⟩; (rw [upd_ne _ _ (Ne.symm hi)] at hs; have h := hh.1 hs; (exact ⟨h.1.pure hm, h.2.trans hm⟩)); (have h := hh.2; (exact h.modp hm)))
     refine wp_region_inv (by kernel_rfl) (by kernel_rfl) (InvF (R := Mod (fun _ => False)) [.is (.pointer (some ⟨g, 0, none⟩)),
       .is (.pointer (some ⟨g, 0, none⟩)),
       .is (.pointer (some ⟨g, 1, none⟩)),
       .is (.map (some bm)),
       .is (.string ⟨s.toArray⟩),
       .is (.slice DA done.length dc),
       .is (.string ⟨s.toArray⟩),
       .is (.bool bd),
       .is (.int .i64 fv),
       .is (.int .i64 (-fv)),
       ⟨fun zv zw => zv = undef ∧ StM zw bm (fun x => x) ids (fun q => if q = s then -fv else if q ∈ xs.take k then (if q ∈ done then -1 else 0) else d.st q), (by rintro zv zw zx ⟨rfl, q0⟩ hm; exact ⟨rfl, (q0.pure hm)⟩), none, none⟩]
       (PB w7 (fun j => j = bm) w7.heap.size (fun D zq => (D 10 = false → (fun Z => StM Z bm (fun x => x) ids (fun q => if q ∈ xs.take k then (if q ∈ done then -1 else 0) else d.st q) ∧ Pure w7 Z) zq) ∧ (fun Z => Blk Z g 50 #[.slice FA fms.length fc, .map (some bm), .slice (some ⟨gB, 0, none⟩) bts.length bc, .int .i64 d.last]) zq))) (InvF.start (PB.start (Mod.refl _ _) (Nat.le_refl _) (⟨fun _ => ⟨HST.out.pure ((Mod.refl _ _).drew), (Mod.refl _ _).drew⟩, HB7.out.drew⟩))) ?_ ?_
     ·refine .cons ?_ (.cons ?_ (.cons ?_ (.cons ?_ (.cons ?_ (.cons ?_ (.cons ?_ (.cons ?_ (.cons ?_ (.cons ?_ (.cons ?_ .nil))))))))))
      ·intro D V zw1 a hR hI K hK;obtain ⟨hM1, hB1, hG1⟩ := hI.1;obtain ⟨hGK, hG1⟩ := hG1;have ze0 := hR.frame.other (t := 0) (by kernel_rfl) rfl;rw [if_pos (by rfl)];go_simp;exact hK (.pointer (some ⟨g, 0, none⟩)) _ (hI.next hR (by kernel_rfl) (Mod.refl _ _) (PB.quiet hI.1 (Mod.refl _ _) (HGs.out D 0 zw1 zw1 (by omega) (hI.1).g (Mod.refl _ _))) (upd_same V 0 _))
      ·intro D V zw1 a hR hI K hK;obtain ⟨hM1, hB1, hG1⟩ := hI.1;obtain ⟨hGK, hG1⟩ := hG1;have zd0 := hR.pred 0 (by kernel_rfl);have zf0 : V 0 = .pointer (some ⟨g, 0, none⟩) := hI.2 0 zd0 rfl;have ze81 := hR.frame.done (t := 81) (j := 0) (by kernel_rfl) hR.ok zd0;rw [if_pos (by rfl)];go_simp;exact hK (.pointer (some ⟨g, 0, none⟩)) _ (hI.next hR (by kernel_rfl) (Mod.refl _ _) (PB.quiet hI.1 (Mod.refl _ _) (HGs.out D 1 zw1 zw1 (by omega) (hI.1).g (Mod.refl _ _))) (upd_same V 1 _))
      ·intro D V zw1 a hR hI K hK;obtain ⟨hM1, hB1, hG1⟩ := hI.1;obtain ⟨hGK, hG1⟩ := hG1;have zd1 := hR.pred 1 (by kernel_rfl);have zf1 : V 1 = .pointer (some ⟨g, 0, none⟩) := hI.2 1 zd1 rfl;have ze82 := hR.frame.done (t := 82) (j := 1) (by kernel_rfl) hR.ok zd1;rw [if_pos (by rfl)];go_simp;exact hK (.pointer (some ⟨g, 1, none⟩)) _ (hI.next hR (by kernel_rfl) (Mod.refl _ _) (PB.quiet hI.1 (Mod.refl _ _) (HGs.out D 2 zw1 zw1 (by omega) (hI.1).g (Mod.refl _ _))) (upd_same V 2 _))
      ·intro D V zw1 a hR hI K hK;obtain ⟨hM1, hB1, hG1⟩ := hI.1;obtain ⟨hGK, hG1⟩ := hG1;have zd2 := hR.pred 2 (by kernel_rfl);have zf2 : V 2 = .pointer (some ⟨g, 1, none⟩) := hI.2 2 zd2 rfl;have ze83 := hR.frame.done (t := 83) (j := 2) (by kernel_rfl) hR.ok zd2;have zx0 := hG1.cell 1;simp at zx0;rw [if_pos (by rfl)];go_simp;exact hK (.map (some bm)) _ (hI.next hR (by kernel_rfl) (Mod.refl _ _) (PB.quiet hI.1 (Mod.refl _ _) (HGs.out D 3 zw1 zw1 (by omega) (hI.1).g (Mod.refl _ _))) (upd_same V 3 _))
      ·intro D V zw1 a hR hI K hK;obtain ⟨hM1, hB1, hG1⟩ := hI.1;obtain ⟨hGK, hG1⟩ := hG1;have ze13 := hR.frame.other (t := 13) (by kernel_rfl) rfl;rw [if_pos (by rfl)];go_simp;exact hK (.string ⟨s.toArray⟩) _ (hI.next hR (by kernel_rfl) (Mod.refl _ _) (PB.quiet hI.1 (Mod.refl _ _) (HGs.out D 4 zw1 zw1 (by omega) (hI.1).g (Mod.refl _ _))) (upd_same V 4 _))
      ·intro D V zw1 a hR hI K hK;obtain ⟨hM1, hB1, hG1⟩ := hI.1;obtain ⟨hGK, hG1⟩ := hG1;have ze3 := hR.frame.other (t := 3) (by kernel_rfl) rfl;rw [if_pos (by rfl)];go_simp;exact hK (.slice DA done.length dc) _ (hI.next hR (by kernel_rfl) (Mod.refl _ _) (PB.quiet hI.1 (Mod.refl _ _) (HGs.out D 5 zw1 zw1 (by omega) (hI.1).g (Mod.refl _ _))) (upd_same V 5 _))
      ·intro D V zw1 a hR hI K hK;obtain ⟨hM1, hB1, hG1⟩ := hI.1;obtain ⟨hGK, hG1⟩ := hG1;have ze13 := hR.frame.other (t := 13) (by kernel_rfl) rfl;rw [if_pos (by rfl)];go_simp;exact hK (.string ⟨s.toArray⟩) _ (hI.next hR (by kernel_rfl) (Mod.refl _ _) (PB.quiet hI.1 (Mod.refl _ _) (HGs.out D 6 zw1 zw1 (by omega) (hI.1).g (Mod.refl _ _))) (upd_same V 6 _))
      ·intro D V zw1 a hR hI K hK;obtain ⟨hM1, hB1, hG1⟩ := hI.1;obtain ⟨hGK, hG1⟩ := hG1;have zd5 := hR.pred 5 (by kernel_rfl);have zf5 : V 5 = .slice DA done.length dc := hI.2 5 zd5 rfl;have zd6 := hR.pred 6 (by kernel_rfl);have zf6 : V 6 = .string ⟨s.toArray⟩ := hI.2 6 zd6 rfl;have ze86 := hR.frame.done (t := 86) (j := 5) (by kernel_rfl) hR.ok zd5;have ze87 := hR.frame.done (t := 87) (j := 6) (by kernel_rfl) hR.ok zd6;rw [if_pos (by rfl)];go_simp;refine (HCN.out zw1 (hGK (hR.later 10 rfl (by kernel_rfl))).2).mono ?_;rintro e zw2 ⟨rfl, hm2⟩;exact hK (.bool bd) _ (hI.next hR (by kernel_rfl) hm2 (PB.quiet hI.1 hm2 (HGs.out D 7 _ _ (by omega) (hI.1).g hm2)) (upd_same V 7 _))
      ·intro D V zw1 a hR hI K hK;obtain ⟨hM1, hB1, hG1⟩ := hI.1;obtain ⟨hGK, hG1⟩ := hG1;have zd7 := hR.pred 7 (by kernel_rfl);have zf7 : V 7 = .bool bd := hI.2 7 zd7 rfl;have ze88 := hR.frame.done (t := 88) (j := 7) (by kernel_rfl) hR.ok zd7;rw [if_pos (by rfl)];go_simp;refine (HFL.out zw1).mono ?_;rintro e zw2 ⟨rfl, hm2⟩;exact hK (.int .i64 fv) _ (hI.next hR (by kernel_rfl) hm2 (PB.quiet hI.1 hm2 (HGs.out D 8 _ _ (by omega) (hI.1).g hm2)) (upd_same V 8 _))
      ·intro D V zw1 a hR hI K hK;obtain ⟨hM1, hB1, hG1⟩ := hI.1;obtain ⟨hGK, hG1⟩ := hG1;have zd8 := hR.pred 8 (by kernel_rfl);have zf8 : V 8 = .int .i64 fv := hI.2 8 zd8 rfl;have ze89 := hR.frame.done (t := 89) (j := 8) (by kernel_rfl) hR.ok zd8;rw [if_pos (by rfl)];have zw : IntKind.i64.wrap (-fv) = -fv := IntWalk.i64_in _ (by omega);go_simp;exact hK (.int .i64 (-fv)) _ (hI.next hR (by kernel_rfl) (Mod.refl _ _) (PB.quiet hI.1 (Mod.refl _ _) (HGs.out D 9 zw1 zw1 (by omega) (hI.1).g (Mod.refl _ _))) (upd_same V 9 _))
      ·intro D V zw1 a hR hI K hK;obtain ⟨hM1, hB1, hG1⟩ := hI.1;obtain ⟨hGK, hG1⟩ := hG1;have zd3 := hR.pred 3 (by kernel_rfl);have zf3 : V 3 = .map (some bm) := hI.2 3 zd3 rfl;have zd4 := hR.pred 4 (by kernel_rfl);have zf4 : V 4 = .string ⟨s.toArray⟩ := hI.2 4 zd4 rfl;have zd9 := hR.pred 9 (by kernel_rfl);have zf9 : V 9 = .int .i64 (-fv) := hI.2 9 zd9 rfl;have ze84 := hR.frame.done (t := 84) (j := 3) (by kernel_rfl) hR.ok zd3;have ze85 := hR.frame.done (t := 85) (j := 4) (by kernel_rfl) hR.ok zd4;have ze90 := hR.frame.done (t := 90) (j := 9) (by kernel_rfl) hR.ok zd9;rw [if_pos (by rfl)];obtain ⟨w6', hrun6, hS6, hm6⟩ := (hGK hR.not).1.store HO.out.nd HO.out.il hmem hsl (-fv);go_simp;refine hK undef _ (InvF.last ⟨hM1.trans' hm6 (fun i hi hlt => hi), (by have := hm6.size; omega), ⟨fun hs => absurd hs (by rw [upd_same]; decide), hG1.mod hm6 hgbm⟩⟩ ⟨upd_same _ 10 _, hS6⟩ ?_);intro k hk hDk hlv;have hkl := hR.lt k hDk;have hv := hI.2 k hDk (liveB_of hlv)
       match k, hk, hDk, hlv, hkl, hv with
       | 0, _, _, _, _, hv => exact hv
       | 1, _, _, _, _, hv => exact hv
       | 2, _, _, _, _, hv => exact hv
       | 3, _, _, _, _, hv => exact hv
       | 4, _, _, _, _, hv => exact hv
       | 5, _, _, _, _, hv => exact hv
       | 6, _, _, _, _, hv => exact hv
       | 7, _, _, _, _, hv => exact hv
       | 8, _, _, _, _, hv => exact hv
       | 9, _, _, _, _, hv => exact hv
       | 10, hk, _, _, _, _ => exact absurd rfl hk
       | k + 11, _, _, _, hkl, _ => exact absurd hkl (by simp)
     ·intro D V w8 hD hI;obtain ⟨hM1, hB1, hG1⟩ := hI.1;have hMx := hM1;clear hM1;have hBx := hB1;clear hB1;have hGx := hG1.2;clear hG1;have zf0 : V 0 = .pointer (some ⟨g, 0, none⟩) := hI.2 0 (hD 0 (by decide)) rfl;have zf1 : V 1 = .pointer (some ⟨g, 0, none⟩) := hI.2 1 (hD 1 (by decide)) rfl;have zf2 : V 2 = .pointer (some ⟨g, 1, none⟩) := hI.2 2 (hD 2 (by decide)) rfl;have zf3 : V 3 = .map (some bm) := hI.2 3 (hD 3 (by decide)) rfl;have zf4 : V 4 = .string ⟨s.toArray⟩ := hI.2 4 (hD 4 (by decide)) rfl;have zf5 : V 5 = .slice DA done.length dc := hI.2 5 (hD 5 (by decide)) rfl;have zf6 : V 6 = .string ⟨s.toArray⟩ := hI.2 6 (hD 6 (by decide)) rfl;have zf7 : V 7 = .bool bd := hI.2 7 (hD 7 (by decide)) rfl;have zf8 : V 8 = .int .i64 fv := hI.2 8 (hD 8 (by decide)) rfl;have zf9 : V 9 = .int .i64 (-fv) := hI.2 9 (hD 9 (by decide)) rfl;have zF10 : V 10 = undef ∧ StM w8 bm (fun x => x) ids (fun q => if q = s then -fv else if q ∈ xs.take k then (if q ∈ done then -1 else 0) else d.st q) := hI.2 10 (hD 10 (by decide)) rfl;obtain ⟨zf10, b10_0⟩ := zF10;clear hI hD HGs;simp only [frAll, Act.put, List.setIfInBounds_toArray, List.set_cons_zero, List.set_cons_succ, Nat.zero_add, Nat.reduceAdd, zf0, zf1, zf2, zf3, zf4, zf5, zf6, zf7, zf8, zf9, zf10];clear zf0 zf1 zf2 zf3 zf4 zf5 zf6 zf7 zf8 zf9 zf10;clear V D;have HSA := Lib.hid b10_0;have HMA := Lib.hid (HM7.out.trans hMx);clear b10_0 hMx hGx hBx HB7 HST HM7 HDN7
      go_wp2_with fail
      go_roundg (xs.length - (k + 1))
      case measure => omega
      case rel =>
       refine ⟨k + 1, rfl, by omega, by simp, ?_, HMA.out⟩;rw [HTT.out]
       have e : (fun q => if q ∈ xs.take k ++ [s] then (if q ∈ done then (-1 : Int) else 0) else d.st q) = (fun q => if q = s then -fv else if q ∈ xs.take k then (if q ∈ done then -1 else 0) else d.st q) := by
        funext q
        by_cases e1 : q = s
        ·subst e1; simp [HFV.out]
        ·simp [e1]
       rw [e];exact HSA.out
    ·obtain rfl : k = xs.length := by omega
     rw [List.take_length] at hst;obtain ⟨w7, hw7⟩ : ∃ W, W = wr := ⟨wr, rfl⟩;subst hw7;have HBT7 := Lib.hid (HBT6.out.mod hm (fun j hj => by obtain ⟨arr, h⟩ := own_heap HBT6.out.1 hj; exact HCL.out _ _ _ _ h) (fun g arr fr h => HCL.out _ _ _ _ h));have hB7 := HB6.out.mod hm hgbm;have HB7 := Lib.hid hB7
     have hggB : gB ≠ g := by
      obtain ⟨arr, h⟩ := own_heap HBT7.out.1 rfl;exact blk_ty2 hB7 h (by decide)
     have hggB2 : g ≠ gB := fun h => hggB h.symm;obtain ⟨g', e, c0, c1, c2, c3, c4, cf⟩ := HBT7.out.cells hil
     cases e
     have HS7 := Lib.hid hst;have HF7 := Lib.hid ((HF.out.pure HM6.out).mod hm (fun g arr fr h => HCL.out g arr _ fr h) (fun g arr fr h => HCL.out g arr _ fr h));have HM7 := Lib.hid ((Mod.of_pure HM6.out : Mod (fun j => j = g ∨ j = bm ∨ bo = some j) w w6).trans' hm (fun i hi hlt => .inr (.inl hi)));have t0 := hB7.cell 0; have tf0 := hB7.frozen 0; have t1 := hB7.cell 1; have tf1 := hB7.frozen 1; have t2 := hB7.cell 2; have tf2 := hB7.frozen 2; have t3 := hB7.cell 3; have tf3 := hB7.frozen 3; simp at t0 t1 t2 t3;clear hst hm hB7 hlt hk
     go_wp2_with fail
     go_ret;have hma : Mod (· = gB) w7 (w7.setCell ⟨gB, nz * 5 + 2, none⟩ (.int .i64 at_)) := (Mod.refl (· = gB) w7).setCell (.inl rfl) _;have hmb : Mod (· = g) (w7.setCell ⟨gB, nz * 5 + 2, none⟩ (.int .i64 at_)) ((w7.setCell ⟨gB, nz * 5 + 2, none⟩ (.int .i64 at_)).setCell ⟨g, 3, none⟩ (.int .i64 at_)) := (Mod.refl (· = g) _).setCell (.inl rfl) _
     have hgb : ∀ T, T ≠ 42 → ∀ i arr fr, w7.heap[i]? = some (.cells arr T fr) → ¬ i = gB := fun T hT i arr fr hi e => by
      obtain ⟨arr2, h⟩ := own_heap HBT7.out.1 rfl;subst e;rw [hi] at h
      injection h with h
      injection h with _ h2 _
      exact hT h2
     have hBa := HB7.out.mod hma hggB2;have hgg : ∀ T, T ≠ 50 → ∀ i arr fr, (w7.setCell ⟨gB, nz * 5 + 2, none⟩ (.int .i64 at_)).heap[i]? = some (.cells arr T fr) → ¬ i = g := fun T hT i arr fr hi => blk_ty2 hBa hi hT;have hinn := (HINN.out w7 HBT7.out).mod hmb (fun j hj e => by have : gB = j := (by simpa [Value.ownBlock] using hj); omega) (hgg _ (by decide));refine .inr ⟨HQ0.out, rfl, ⟨FA, fc, fms, some ⟨gB, 0, none⟩, bc, _, ?_, (HF7.out.mod hma (hgb _ (by decide)) (hgb _ (by decide))).mod hmb (hgg _ (by decide)) (hgg _ (by decide)), HFE.out, (HS7.out.mod hma (fun e => by obtain ⟨arr, h⟩ := own_heap HBT7.out.1 rfl; exact mapX_cells HS7.out h e.symm)).mod hmb (fun e => hgbm e.symm), hinn, ?_⟩, (HM7.out.trans' hma (fun i hi hlt => .inr (.inr ?_))).trans' hmb (fun i hi hlt => .inl hi)⟩
     ·have h := hBa.set 3 (.int .i64 at_);rw [List.length_set]
      simpa [dRet] using h
     ·rw [List.length_set]; exact HBO.out
     ·rw [← HBO.out, hi]; rfl
end Go.Proofs.YtgfgggeeoeppjaaGreatDoor
/- DeskOf of the reference. -/
namespace Go.Proofs.YtgfgggeeoeppjaaGreatDoor
open Go.RowKit
theorem info_sls : (Tryz.prog.info? 29).map (fun i => (i.zero, i.size, i.bytes)) = some (some (.slice none 0 0), 1, 24) := by kernel_rfl
def OrF (w : World) (base : Nat) (A : Option Addr) (c : Nat) (os : List (Value × List Str)) (g : Nat) (cl : Array Value) : Prop := w.ownsRow base 29 1 (.slice A os.length c) os.length (os.map fun p => p.1) ∧ Blk w g 50 cl ∧ ∀ p ∈ os, Sl w 9 1 p.1 (strsV p.2)
theorem OrF.pure {w w' : World} {base c g : Nat} {A : Option Addr} {os : List (Value × List Str)} {cl : Array Value} (h : OrF w base A c os g cl) (hm : Pure w w') : OrF w' base A c os g cl := ⟨own_pure h.1 hm, h.2.1.modp hm, fun p hp => (h.2.2 p hp).pure hm⟩
theorem OrF.app {w w' : World} {base c c5 n' g : Nat} {A A5 : Option Addr} {os : List (Value × List Str)} {cl : Array Value} (p : Value × List Str) (h : OrF w base A c os g cl) (hx : Sl w 9 1 p.1 (strsV p.2)) (hm : Mod (fun j => (Value.slice A os.length c).ownBlock = some j) w w') (hn : n' = os.length + 1)
  (hown : w'.ownsRow base 29 1 (.slice A5 n' c5) n' (os.map (fun p => p.1) ++ [p.1])) : OrF w' base A5 c5 (os ++ [p]) g cl := by
 subst hn;have hty : ∀ i arr fr, w.heap[i]? = some (.cells arr 9 fr) → ¬ (Value.slice A os.length c).ownBlock = some i := fun i arr fr hi hv => absurd (own_ty h.1 hv hi) (by decide);refine ⟨?_, h.2.1.mod hm (fun hv => by have h2 := h.2.1; unfold Blk at h2; exact absurd (own_ty h.1 hv h2) (by decide)), fun q hq => ?_⟩
 ·rw [List.length_append, List.map_append];exact hown
 ·rcases List.mem_append.1 hq with hq | hq
  ·exact (h.2.2 q hq).mod hm hty
  ·rw [List.mem_singleton.1 hq]; exact hx.mod hm hty
theorem OrF.store {w : World} {base c g q : Nat} {A : Option Addr} {os : List (Value × List Str)} {cl : Array Value} (h : OrF w base A c os g cl) (u : Value) : OrF (w.setCell ⟨g, q, none⟩ u) base A c os g (cl.setIfInBounds q u) :=
 have hm : Mod (· = g) w (w.setCell ⟨g, q, none⟩ u) := (Mod.refl (· = g) w).setCell (.inl rfl) _
 ⟨own_mod h.1 hm (fun j hj e => by subst e; have h2 := h.2.1; unfold Blk at h2; exact absurd (own_ty h.1 hj h2) (by decide)), h.2.1.set q u, fun p hp => (h.2.2 p hp).mod hm (fun i arr fr hi => blk_ty2 h.2.1 hi (by decide))⟩
theorem fndF_top {its : List Itm} (hR : Right its) {s : Str} (hs : s ∈ (famsS its).map (·.1)) : fndF (famsS its) s = fmB its s ∧ ∃ hi : idxId its s < its.length, its[idxId its s].id = s := by
 obtain ⟨k, hk, hp, hpar⟩ := (top_plc hR).1 hs;obtain ⟨_, hid⟩ := plc_lt its s k hp
 have hix : idxId its s = k := by unfold idxId; rw [hp]; rfl
 refine ⟨?_, by rw [hix]; exact hk, by simp only [hix]; exact hid⟩
 have hfs : fmS ((famsS its).map fun p => ((p.1, undef, p.2) : Fm)) = famsS its := by unfold fmS; rw [List.map_map]; exact List.map_id (famsS its)
 obtain ⟨_, hof⟩ := fmD_of hfs hR (List.getElem_mem hk);unfold fndF
 cases hf : (famsS its).find? fun p => decide (p.1 = s) with
 | none =>
  obtain ⟨p, hp2, he⟩ := List.mem_map.1 hs;exact absurd (List.find?_eq_none.1 hf p hp2) (by simp [he])
 | some p =>
  have hm := List.mem_of_find?_eq_some hf
  have hps : p.1 = s := by have := List.find?_some hf; simpa using this
  have h2 := hof (p.1, undef, p.2) (List.mem_map_of_mem hm) (by
   show its[k].id ∈ p.2
   rw [hid, ← hps];unfold famsS at hm;obtain ⟨t, ht, rfl⟩ := List.mem_map.1 hm
   show idAt2 its t ∈ belS its 4 t
   unfold belS belI
   simp)
  show p.2 = fmB its s
  rw [← hid];exact h2
def RnPost (w : World) (its : List Itm) (order : List Str) (e : Ending) (w' : World) : Prop := ∃ g bm, e = .returned (.pointer (some ⟨g, 0, none⟩)) ∧ w.heap.size ≤ g ∧ w.heap.size ≤ bm ∧ DkR w' g bm none (its.map (·.id)) (dNew its order) ∧ Pure w w'
set_option maxHeartbeats 8000000 in
theorem deskOf_calls (w : World) (vi : Value) (its : List Itm) (hI : Its w vi its) (hR : Right its) (hz : ∀ x ∈ its, ItB x) (hn : its.length ≤ 12) (OA : Option Addr) (on oc : Nat) (order : List Str) (ho : Sl w 9 1 (.slice OA on oc) (strsV order)) (hol : order.length ≤ 12) (hto : ∀ s ∈ order, s ∈ (famsS its).map (·.1)) :
  Calls Tryz.prog 13 #[vi, .slice OA on oc] w (RnPost w its order) := by
 have hon := Sl.lenS ho;subst hon;obtain ⟨IA, inn, ic, rfl⟩ := Sl.form hI
 have hil : its.length = inn := by
  obtain ⟨_, _, _, e, _, _, h, _⟩ := hI
  cases e
  rw [itV_len] at h
  omega
 subst hil;have HI := Lib.hid hI;have HO := Lib.hid ho;have HTO := Lib.hid hto;have HRR := Lib.hid hR;have HZ := Lib.hid hz;have HDN : Hid ((dNew its order).fams = newF (famsS its) order ∧ (dNew its order).st = (fun _ => 0) ∧ (dNew its order).bats = [] ∧ (dNew its order).last = 0) := Lib.hid ⟨rfl, rfl, rfl, rfl⟩;unfold RnPost;obtain ⟨dk, hdk⟩ : ∃ dk, dNew its order = dk := ⟨_, rfl⟩;rw [hdk] at HDN ⊢;have hmm := @run_makeMap Tryz.prog;have hp1 := pure_alloc w (.map #[] 0);have hp2 := pure_alloc (w.alloc (.map #[] 0)) (.cells #[.slice none 0 0, .map (some w.heap.size), .slice none 0 0, .int .i64 0] 50);have HMM := Lib.hid ((MapS.made w).pure hp2);have HGB := Lib.hid (Blk.snd w (.map #[] 0) 50 #[.slice none 0 0, .map (some w.heap.size), .slice none 0 0, .int .i64 0]);have HP1 := Lib.hid (hp1.trans hp2);have HFO := Lib.hid (familiesOf_calls _ _ its ((hI.pure hp1).pure hp2) hR (by omega))
 have hz1 : ((w.alloc (.map #[] 0)).alloc (.cells #[.slice none 0 0, .map (some w.heap.size), .slice none 0 0, .int .i64 0] 50)).heap.size = w.heap.size + 2 := by simp
 clear hI ho hto hR hz hdk hp1 hp2
 go_enter Tryz.func13, Tryz.ntmps13
 go_upto_region 2 with (fail)
 generalize ((w.alloc (.map #[] 0)).alloc (.cells #[.slice none 0 0, .map (some w.heap.size), .slice none 0 0, .int .i64 0] 50)) = w1 at *;generalize hg : w.heap.size + 1 = g at *;generalize hbm : w.heap.size = bm at *;have hga := Nat.le_of_eq hg;have hgb := Nat.le_of_eq hg.symm;have hba := Nat.le_of_eq hbm;have hbb := Nat.le_of_eq hbm.symm;have hz1a := Nat.le_of_eq hz1;have hz1b := Nat.le_of_eq hz1.symm;clear hg hbm hz1
 go_wp2_with fail
 refine HFO.out.mono ?_;rintro e w2 ⟨vf, fs, rfl, hF, hfe, hm2⟩;obtain ⟨Af, nf, cf, rfl⟩ := hF.1.form;have hnf := hF.len.1;subst hnf
 have hfl : fs.length ≤ 12 := by
  have h := congrArg List.length hfe;unfold fmS at h;rw [List.length_map] at h;have := fams_len its
  omega
 have HFE := Lib.hid hfe;have HGB2 := Lib.hid (HGB.out.modp hm2);have HMM2 := Lib.hid (HMM.out.pure hm2);have HP2 := Lib.hid (HP1.out.trans hm2);have hgg : ∀ T, T ≠ 50 → ∀ i arr fr, w2.heap[i]? = some (.cells arr T fr) → ¬ i = g := fun T hT i arr fr hi => blk_ty2 HGB2.out hi hT;have HFM := Lib.hid (fun W (h : Mod (fun j => j = g) w2 W) => hF.mod2 h (hgg _ (by decide)) (hgg _ (by decide)));have HIT := Lib.hid (fun W (h : Mod (fun j => j = g) w2 W) => show Its W (.slice IA its.length ic) its from (HI.out.pure HP2.out).mod h (hgg _ (by decide)));have HOO := Lib.hid (fun W (h : Mod (fun j => j = g) w2 W) => (HO.out.pure HP2.out).mod h (hgg _ (by decide)));have HBM := Lib.hid (fun W (h : Mod (fun j => j = g) w2 W) => HMM2.out.mod h (by omega));have HRF := Lib.hid (fun W (h : Mod (fun j => j = g) w2 W) s (hs : s ∈ (famsS its).map (·.1)) => rfamilyOf_calls W (.slice IA its.length ic) its s (HIT.out W h) HRR.out (by omega) (fndF_top HRR.out hs).2.1 (fndF_top HRR.out hs).2.2);obtain ⟨base, hbase⟩ : ∃ base, base = w2.heap.size := ⟨_, rfl⟩;have hb1 := Nat.le_of_eq hbase;have hb2 := Nat.le_of_eq hbase.symm;have hw12 := hm2.size;obtain ⟨i0, hi0, hz0, hz1, hz2⟩ := info_parts info_sls;clear hF hfe hm2 hgg hbase HFO HGB HMM HP1 HMM2
 go_wp2_with fail
 go_loopg [20] order.length (fun gk i wr => ∃ (k cap : Nat) (Ao : Option Addr) (os : List (Value × List Str)), order.length - k = gk ∧ k ≤ order.length ∧ i = .int .i64 (k : Int) ∧ OrF wr base Ao cap os g #[.slice Ao os.length cap, .map (some bm), .slice none 0 0, .int .i64 0] ∧ os.length ≤ k ∧ os.map (fun p => p.2) = (order.take k).map (fndF (famsS its)) ∧ Mod (fun j => j = g) w2 wr ∧ base ≤ wr.heap.size)
 case atStart => exact ⟨0, 0, none, [], by omega, by omega, rfl, ⟨⟨rfl, .inl ⟨rfl, rfl⟩⟩, HGB2.out, fun p h => absurd h (by simp)⟩, by simp, by simp, Mod.refl _ _, hb1⟩
 case round =>
  obtain ⟨k, cap, Ao, os, rfl, hk, rfl, hof, hok, hom, hm, hsz⟩ := hrel;obtain ⟨w6, hw6⟩ : ∃ W, W = wr := ⟨wr, rfl⟩;subst hw6;have HOF := Lib.hid hof;have HM := Lib.hid hm;have HOM := Lib.hid hom
  by_cases hlt : k < order.length
  ·obtain ⟨_, _, _, e0, hoc1, hoc2, _, hor⟩ := HOO.out w6 hm
   cases e0
   obtain ⟨gx, ox, rfl, hrow⟩ := hor (by omega);have hq := hrow.cell (strsV_get order k hlt);have hto := HTO.out _ (List.getElem_mem hlt);have HTT := Lib.hid (List.take_succ_eq_append_getElem hlt);have HFT := Lib.hid (fndF_top HRR.out hto).1;have HRFS := Lib.hid (fun W h => HRF.out W h _ hto);unfold RFmPost at HRFS;clear hrow hor hof hom hm hto;generalize order[k] = s at *;generalize (idAt2 its (tpI its (idxId its s))) = tp at *;obtain ⟨ff, hff⟩ : ∃ ff, fmB its s = ff := ⟨_, rfl⟩;rw [hff] at HFT HRFS;clear hff
   have hffl : ff.length ≤ 100000 := by
    have h := HFT.out
    rcases fndF_mem (fs := famsS its) (s := s) with h2 | ⟨p, hp, h2⟩
    ·rw [← h, h2]; simp
    ·rw [← h, h2]; have := fam_len HRR.out hp; omega
   go_upto_region 6 with (fail)
   have HGs := Lib.hid (show ∀ (D : Nat → Bool) (zzi : Nat) (zq zq' : World), zzi ≠ 10 → (fun D zq => (D 10 = false → (fun Z => OrF Z base Ao cap os g #[.slice Ao os.length cap, .map (some bm), .slice none 0 0, .int .i64 0]) zq) ∧ (fun Z => True) zq) D zq → Mod (fun _ => False) zq zq' → (fun D zq => (D 10 = false → (fun Z => OrF Z base Ao cap os g #[.slice Ao os.length cap, .map (some bm), .slice none 0 0, .int .i64 0]) zq) ∧ (fun Z => True) zq) (upd D zzi true) zq' from by intro D zzi zq zq' hi hh hm; refine ⟨fun hs => ?_, ?_⟩; (rw [upd_ne _ _ (Ne.symm hi)] at hs; have h := hh.1 hs; (exact h.pure hm)); (have h := hh.2; (exact trivial)))
   refine wp_region_inv (by kernel_rfl) (by kernel_rfl) (InvF (R := Mod (fun _ => False)) [.is (.pointer (some ⟨g, 0, none⟩)),
     .is (.pointer (some ⟨g, 0, none⟩)),
     .is (.pointer (some ⟨g, 0, none⟩)),
     .is (.pointer (some ⟨g, 0, none⟩)),
     .is (.slice Ao os.length cap),
     .is (.slice IA its.length ic),
     .is (.string ⟨s.toArray⟩),
     ⟨fun zv zw => ∃ (A_7 : Option Addr) (c_7 : Nat), zv = .agg #[.string ⟨tp.toArray⟩, .slice A_7 ff.length c_7] ∧ SlT zw (.slice A_7 ff.length c_7) ff, (by rintro zv zw zx ⟨A_7, c_7, rfl, q0⟩ hm; exact ⟨A_7, c_7, rfl, (q0.pure hm)⟩), none, some 8⟩,
     ⟨fun zv zw => ∃ (A_8 : Option Addr) (c_8 : Nat), zv = .slice A_8 ff.length c_8 ∧ SlT zw (.slice A_8 ff.length c_8) ff, (by rintro zv zw zx ⟨A_8, c_8, rfl, q0⟩ hm; exact ⟨A_8, c_8, rfl, (q0.pure hm)⟩), none, some 9⟩,
     ⟨fun zv zw => ∃ (A_9 : Option Addr) (c_9 : Nat) (g_9 : Nat), zv = .slice (some ⟨g_9, 0, none⟩) 1 1 ∧ w6.heap.size ≤ g_9 ∧ Blk zw g_9 29 #[.slice A_9 ff.length c_9] ∧ SlT zw (.slice A_9 ff.length c_9) ff, (by rintro zv zw zx ⟨A_9, c_9, g_9, rfl, c0, q0, q1⟩ hm; exact ⟨A_9, c_9, g_9, rfl, c0, (q0.modp hm), (q1.pure hm)⟩), none, some 10⟩,
     ⟨fun zv zw => ∃ (g_10 : Nat) (c_10 : Nat) (A_10 : Option Addr) (d_10 : Nat), zv = .slice (some ⟨g_10, 0, none⟩) (os.length + 1) c_10 ∧ OrF zw base (some ⟨g_10, 0, none⟩) c_10 (os ++ [(.slice A_10 ff.length d_10, ff)]) g #[.slice Ao os.length cap, .map (some bm), .slice none 0 0, .int .i64 0], (by rintro zv zw zx ⟨g_10, c_10, A_10, d_10, rfl, q0⟩ hm; exact ⟨g_10, c_10, A_10, d_10, rfl, (q0.pure hm)⟩), none, some 13⟩,
     .is (.pointer (some ⟨g, 0, none⟩)),
     .is (.pointer (some ⟨g, 0, none⟩)),
     ⟨fun zv zw => ∃ (g_13 : Nat) (c_13 : Nat) (A_13 : Option Addr) (d_13 : Nat), zv = undef ∧ OrF zw base (some ⟨g_13, 0, none⟩) c_13 (os ++ [(.slice A_13 ff.length d_13, ff)]) g #[.slice (some ⟨g_13, 0, none⟩) (os.length + 1) c_13, .map (some bm), .slice none 0 0, .int .i64 0], (by rintro zv zw zx ⟨g_13, c_13, A_13, d_13, rfl, q0⟩ hm; exact ⟨g_13, c_13, A_13, d_13, rfl, (q0.pure hm)⟩), none, none⟩]
     (PB w2 (fun j => j = g) w6.heap.size (fun D zq => (D 10 = false → (fun Z => OrF Z base Ao cap os g #[.slice Ao os.length cap, .map (some bm), .slice none 0 0, .int .i64 0]) zq) ∧ (fun Z => True) zq))) (InvF.start (PB.start HM.out (Nat.le_refl _) (⟨fun _ => HOF.out.pure ((Mod.refl _ _).drew), trivial⟩))) ?_ ?_
   ·refine .cons ?_ (.cons ?_ (.cons ?_ (.cons ?_ (.cons ?_ (.cons ?_ (.cons ?_ (.cons ?_ (.cons ?_ (.cons ?_ (.cons ?_ (.cons ?_ (.cons ?_ (.cons ?_ .nil)))))))))))))
    ·intro D V zw1 a hR hI K hK;obtain ⟨hM1, hB1, hG1⟩ := hI.1;obtain ⟨hGK, hG1⟩ := hG1;have ze5 := hR.frame.other (t := 5) (by kernel_rfl) rfl;rw [if_pos (by rfl)];go_simp;exact hK (.pointer (some ⟨g, 0, none⟩)) _ (hI.next hR (by kernel_rfl) (Mod.refl _ _) (PB.quiet hI.1 (Mod.refl _ _) (HGs.out D 0 zw1 zw1 (by omega) (hI.1).g (Mod.refl _ _))) (upd_same V 0 _))
    ·intro D V zw1 a hR hI K hK;obtain ⟨hM1, hB1, hG1⟩ := hI.1;obtain ⟨hGK, hG1⟩ := hG1;have ze5 := hR.frame.other (t := 5) (by kernel_rfl) rfl;rw [if_pos (by rfl)];go_simp;exact hK (.pointer (some ⟨g, 0, none⟩)) _ (hI.next hR (by kernel_rfl) (Mod.refl _ _) (PB.quiet hI.1 (Mod.refl _ _) (HGs.out D 1 zw1 zw1 (by omega) (hI.1).g (Mod.refl _ _))) (upd_same V 1 _))
    ·intro D V zw1 a hR hI K hK;obtain ⟨hM1, hB1, hG1⟩ := hI.1;obtain ⟨hGK, hG1⟩ := hG1;have zd1 := hR.pred 1 (by kernel_rfl);have zf1 : V 1 = .pointer (some ⟨g, 0, none⟩) := hI.2 1 zd1 rfl;have ze25 := hR.frame.done (t := 25) (j := 1) (by kernel_rfl) hR.ok zd1;rw [if_pos (by rfl)];go_simp;exact hK (.pointer (some ⟨g, 0, none⟩)) _ (hI.next hR (by kernel_rfl) (Mod.refl _ _) (PB.quiet hI.1 (Mod.refl _ _) (HGs.out D 2 zw1 zw1 (by omega) (hI.1).g (Mod.refl _ _))) (upd_same V 2 _))
    ·intro D V zw1 a hR hI K hK;obtain ⟨hM1, hB1, hG1⟩ := hI.1;obtain ⟨hGK, hG1⟩ := hG1;have zd2 := hR.pred 2 (by kernel_rfl);have zf2 : V 2 = .pointer (some ⟨g, 0, none⟩) := hI.2 2 zd2 rfl;have ze26 := hR.frame.done (t := 26) (j := 2) (by kernel_rfl) hR.ok zd2;rw [if_pos (by rfl)];go_simp;exact hK (.pointer (some ⟨g, 0, none⟩)) _ (hI.next hR (by kernel_rfl) (Mod.refl _ _) (PB.quiet hI.1 (Mod.refl _ _) (HGs.out D 3 zw1 zw1 (by omega) (hI.1).g (Mod.refl _ _))) (upd_same V 3 _))
    ·intro D V zw1 a hR hI K hK;obtain ⟨hM1, hB1, hG1⟩ := hI.1;obtain ⟨hGK, hG1⟩ := hG1;have zd3 := hR.pred 3 (by kernel_rfl);have zf3 : V 3 = .pointer (some ⟨g, 0, none⟩) := hI.2 3 zd3 rfl;have ze27 := hR.frame.done (t := 27) (j := 3) (by kernel_rfl) hR.ok zd3;have zx0 := (hGK (hR.later 10 rfl (by kernel_rfl))).2.1.cell 0;simp at zx0;rw [if_pos (by rfl)];go_simp;exact hK (.slice Ao os.length cap) _ (hI.next hR (by kernel_rfl) (Mod.refl _ _) (PB.quiet hI.1 (Mod.refl _ _) (HGs.out D 4 zw1 zw1 (by omega) (hI.1).g (Mod.refl _ _))) (upd_same V 4 _))
    ·intro D V zw1 a hR hI K hK;obtain ⟨hM1, hB1, hG1⟩ := hI.1;obtain ⟨hGK, hG1⟩ := hG1;have ze0 := hR.frame.other (t := 0) (by kernel_rfl) rfl;rw [if_pos (by rfl)];go_simp;exact hK (.slice IA its.length ic) _ (hI.next hR (by kernel_rfl) (Mod.refl _ _) (PB.quiet hI.1 (Mod.refl _ _) (HGs.out D 5 zw1 zw1 (by omega) (hI.1).g (Mod.refl _ _))) (upd_same V 5 _))
    ·intro D V zw1 a hR hI K hK;obtain ⟨hM1, hB1, hG1⟩ := hI.1;obtain ⟨hGK, hG1⟩ := hG1;have ze8 := hR.frame.other (t := 8) (by kernel_rfl) rfl;rw [if_pos (by rfl)];go_simp;exact hK (.string ⟨s.toArray⟩) _ (hI.next hR (by kernel_rfl) (Mod.refl _ _) (PB.quiet hI.1 (Mod.refl _ _) (HGs.out D 6 zw1 zw1 (by omega) (hI.1).g (Mod.refl _ _))) (upd_same V 6 _))
    ·intro D V zw1 a hR hI K hK;obtain ⟨hM1, hB1, hG1⟩ := hI.1;obtain ⟨hGK, hG1⟩ := hG1;have zd5 := hR.pred 5 (by kernel_rfl);have zf5 : V 5 = .slice IA its.length ic := hI.2 5 zd5 rfl;have zd6 := hR.pred 6 (by kernel_rfl);have zf6 : V 6 = .string ⟨s.toArray⟩ := hI.2 6 zd6 rfl;have ze29 := hR.frame.done (t := 29) (j := 5) (by kernel_rfl) hR.ok zd5;have ze30 := hR.frame.done (t := 30) (j := 6) (by kernel_rfl) hR.ok zd6;rw [if_pos (by rfl)];go_simp;refine (HRFS.out zw1 hM1).mono ?_;rintro e zw2 ⟨A_0, n2, c_0, rfl, hs2, hm2⟩;have hn2 : ff.length = n2 := Sl.lenS hs2;subst hn2;exact hK (.agg #[.string ⟨tp.toArray⟩, .slice A_0 ff.length c_0]) _ (hI.next hR (by kernel_rfl) hm2 (PB.quiet hI.1 hm2 (HGs.out D 7 _ _ (by omega) (hI.1).g hm2)) (⟨A_0, c_0, upd_same V 7 _, hs2⟩))
    ·intro D V zw1 a hR hI K hK;obtain ⟨hM1, hB1, hG1⟩ := hI.1;obtain ⟨hGK, hG1⟩ := hG1;have zd7 := hR.pred 7 (by kernel_rfl);have zF7 : ∃ (A_7 : Option Addr) (c_7 : Nat), V 7 = .agg #[.string ⟨tp.toArray⟩, .slice A_7 ff.length c_7] ∧ SlT zw1 (.slice A_7 ff.length c_7) ff := hI.2 7 zd7 (by show (!D 8) = true; rw [hR.not]; rfl);obtain ⟨A_7, c_7, zf7, b7_0⟩ := zF7;have ze31 := hR.frame.done (t := 31) (j := 7) (by kernel_rfl) hR.ok zd7;rw [if_pos (by rfl)];go_simp;exact hK (_) _ (hI.next hR (by kernel_rfl) (Mod.refl _ _) (PB.quiet hI.1 (Mod.refl _ _) (HGs.out D 8 zw1 zw1 (by omega) (hI.1).g (Mod.refl _ _))) (⟨A_7, c_7, upd_same V 8 _, b7_0⟩))
    ·intro D V zw1 a hR hI K hK;obtain ⟨hM1, hB1, hG1⟩ := hI.1;obtain ⟨hGK, hG1⟩ := hG1;have zd8 := hR.pred 8 (by kernel_rfl);have zF8 : ∃ (A_8 : Option Addr) (c_8 : Nat), V 8 = .slice A_8 ff.length c_8 ∧ SlT zw1 (.slice A_8 ff.length c_8) ff := hI.2 8 zd8 (by show (!D 9) = true; rw [hR.not]; rfl);obtain ⟨A_8, c_8, zf8, b8_0⟩ := zF8;have ze32 := hR.frame.done (t := 32) (j := 8) (by kernel_rfl) hR.ok zd8;rw [if_pos (by rfl)];go_simp;exact hK (_) _ (hI.next hR (by kernel_rfl) ((Mod.refl _ _).alloc _) (PB.quiet hI.1 (pure_alloc _ _) (HGs.out D 9 _ _ (by omega) (hI.1).g ((Mod.refl _ _).alloc _))) (⟨A_8, c_8, _, upd_same V 9 _, (by omega), (Blk.new _ _ _), (b8_0.pure (pure_alloc _ _))⟩))
    ·intro D V zw1 a hR hI K hK;obtain ⟨hM1, hB1, hG1⟩ := hI.1;obtain ⟨hGK, hG1⟩ := hG1;have zd4 := hR.pred 4 (by kernel_rfl);have zf4 : V 4 = .slice Ao os.length cap := hI.2 4 zd4 rfl;have zd9 := hR.pred 9 (by kernel_rfl);have zF9 : ∃ (A_9 : Option Addr) (c_9 : Nat) (g_9 : Nat), V 9 = .slice (some ⟨g_9, 0, none⟩) 1 1 ∧ w6.heap.size ≤ g_9 ∧ Blk zw1 g_9 29 #[.slice A_9 ff.length c_9] ∧ SlT zw1 (.slice A_9 ff.length c_9) ff := hI.2 9 zd9 (by show (!D 10) = true; rw [hR.not]; rfl);obtain ⟨A_9, c_9, g_9, zf9, c9_0, b9_0, b9_1⟩ := zF9;have ze28 := hR.frame.done (t := 28) (j := 4) (by kernel_rfl) hR.ok zd4;have ze33 := hR.frame.done (t := 33) (j := 9) (by kernel_rfl) hR.ok zd9;rw [if_pos (by rfl)];have hown := (hGK hR.not).1;refine wp_append_lies _ (.tmp 28) (.tmp 33) 46 (by rfl) base 29 i0 _ 1 24 Tryz.underlying46 hi0 hz0 hz1 hz2 (by rfl) (by omega) (.slice Ao os.length cap) (os.length) (os.map (fun p => p.1)) ?_ hown ⟨g_9, 0, none⟩ 1 1 [.slice A_9 ff.length c_9] ?_ (by rfl) (World.news_of_block (cs := #[.slice A_9 ff.length c_9]) (t := 29) (fr := (0, 0)) b9_0) (by simp [Value.oneCell']) (by omega) (by simp [maxLen]; omega) (by omega) (by omega) zw1.heap.size rfl ?_
     ·show a.tmps.getD 28 undef = _; simp [ze28, zf4]
     ·show a.tmps.getD 33 undef = _; simp [ze33, zf9]
     intro g5 cap5 zw2 hown5 hgrow hat hlt5;have hT := mod_grown hgrow;have hTb : ∀ j, (.slice Ao os.length cap : Value).ownBlock = some j → base ≤ j := own_block hown;refine hK _ _ (InvF.last (PB.writes hI.1 (fun j hj hl => by have := hTb j hj; omega) hT ⟨fun hs => absurd hs (by rw [upd_same]; decide), trivial⟩) ⟨_, _, A_9, c_9, upd_same V 10 _, (hGK hR.not).app (.slice A_9 ff.length c_9, ff) b9_1 hT rfl hown5⟩ ?_);intro k hk hDk hlv;have hkl := hR.lt k hDk;have hv := hI.2 k hDk (liveB_of hlv)
     match k, hk, hDk, hlv, hkl, hv with
     | 0, _, _, _, _, hv => exact hv
     | 1, _, _, _, _, hv => exact hv
     | 2, _, _, _, _, hv => exact hv
     | 3, _, _, _, _, hv => exact hv
     | 4, _, _, _, _, hv => exact hv
     | 5, _, _, _, _, hv => exact hv
     | 6, _, _, _, _, hv => exact hv
     | 7, _, _, hlv, _, _ => exact absurd hlv (by show ¬ (!upd D 10 true 8) = true; rw [upd_ne _ _ (by omega), hR.closed 9 _ 8 rfl (by kernel_rfl) (hR.pred 9 (by kernel_rfl))]; decide)
     | 8, _, _, hlv, _, _ => exact absurd hlv (by show ¬ (!upd D 10 true 9) = true; rw [upd_ne _ _ (by omega), hR.pred 9 (by kernel_rfl)]; decide)
     | 9, _, _, hlv, _, _ => exact absurd hlv (by show ¬ (!upd D 10 true 10) = true; rw [upd_same]; decide)
     | 10, hk, _, _, _, _ => exact absurd rfl hk
     | 11, _, _, _, _, hv => exact hv
     | 12, _, _, _, _, hv => exact hv
     | 13, _, hDk, _, _, _ => exact absurd hDk (by rw [hR.later 13 rfl (by kernel_rfl)]; decide)
     | k + 14, _, _, _, hkl, _ => exact absurd hkl (by simp)
    ·intro D V zw1 a hR hI K hK;obtain ⟨hM1, hB1, hG1⟩ := hI.1;obtain ⟨hGK, hG1⟩ := hG1;have zd0 := hR.pred 0 (by kernel_rfl);have zf0 : V 0 = .pointer (some ⟨g, 0, none⟩) := hI.2 0 zd0 rfl;have ze24 := hR.frame.done (t := 24) (j := 0) (by kernel_rfl) hR.ok zd0;rw [if_pos (by rfl)];go_simp;exact hK (.pointer (some ⟨g, 0, none⟩)) _ (hI.next hR (by kernel_rfl) (Mod.refl _ _) (PB.quiet hI.1 (Mod.refl _ _) (HGs.out D 11 zw1 zw1 (by omega) (hI.1).g (Mod.refl _ _))) (upd_same V 11 _))
    ·intro D V zw1 a hR hI K hK;obtain ⟨hM1, hB1, hG1⟩ := hI.1;obtain ⟨hGK, hG1⟩ := hG1;have zd11 := hR.pred 11 (by kernel_rfl);have zf11 : V 11 = .pointer (some ⟨g, 0, none⟩) := hI.2 11 zd11 rfl;have ze35 := hR.frame.done (t := 35) (j := 11) (by kernel_rfl) hR.ok zd11;rw [if_pos (by rfl)];go_simp;exact hK (.pointer (some ⟨g, 0, none⟩)) _ (hI.next hR (by kernel_rfl) (Mod.refl _ _) (PB.quiet hI.1 (Mod.refl _ _) (HGs.out D 12 zw1 zw1 (by omega) (hI.1).g (Mod.refl _ _))) (upd_same V 12 _))
    ·intro D V zw1 a hR hI K hK;obtain ⟨hM1, hB1, hG1⟩ := hI.1;obtain ⟨hGK, hG1⟩ := hG1;have zd12 := hR.pred 12 (by kernel_rfl);have zf12 : V 12 = .pointer (some ⟨g, 0, none⟩) := hI.2 12 zd12 rfl;have zd10 := hR.pred 10 (by kernel_rfl);have zF10 : ∃ (g_10 : Nat) (c_10 : Nat) (A_10 : Option Addr) (d_10 : Nat), V 10 = .slice (some ⟨g_10, 0, none⟩) (os.length + 1) c_10 ∧ OrF zw1 base (some ⟨g_10, 0, none⟩) c_10 (os ++ [(.slice A_10 ff.length d_10, ff)]) g #[.slice Ao os.length cap, .map (some bm), .slice none 0 0, .int .i64 0] := hI.2 10 zd10 (by show (!D 13) = true; rw [hR.not]; rfl);obtain ⟨g_10, c_10, A_10, d_10, zf10, b10_0⟩ := zF10;have ze36 := hR.frame.done (t := 36) (j := 12) (by kernel_rfl) hR.ok zd12;have ze34 := hR.frame.done (t := 34) (j := 10) (by kernel_rfl) hR.ok zd10;rw [if_pos (by rfl)];have zx2 := b10_0.2.1.cell 0;have zy2 := b10_0.2.1.frozen 0;simp at zx2 zy2;have hmS : Mod (· = g) zw1 (zw1.setCell ⟨g, 0, none⟩ (.slice (some ⟨g_10, 0, none⟩) (os.length + 1) c_10)) := (Mod.refl (· = g) zw1).setCell (.inl rfl) _;go_simp;refine hK undef _ (InvF.last ⟨hM1.trans' hmS (fun i hi hlt => hi), (by simpa using hB1), ⟨fun hs => absurd hs (by rw [upd_ne _ _ (by omega), hR.pred 10 (by kernel_rfl)]; decide), trivial⟩⟩ ⟨g_10, c_10, A_10, d_10, upd_same _ 13 _, by have h := b10_0.store (q := 0) (.slice (some ⟨g_10, 0, none⟩) (os.length + 1) c_10); simpa using h⟩ ?_);intro k hk hDk hlv;have hkl := hR.lt k hDk;have hv := hI.2 k hDk (liveB_of hlv)
     match k, hk, hDk, hlv, hkl, hv with
     | 0, _, _, _, _, hv => exact hv
     | 1, _, _, _, _, hv => exact hv
     | 2, _, _, _, _, hv => exact hv
     | 3, _, _, _, _, hv => exact hv
     | 4, _, _, _, _, hv => exact hv
     | 5, _, _, _, _, hv => exact hv
     | 6, _, _, _, _, hv => exact hv
     | 7, _, _, hlv, _, _ => exact absurd hlv (by show ¬ (!upd D 13 true 8) = true; rw [upd_ne _ _ (by omega), hR.pred 8 (by kernel_rfl)]; decide)
     | 8, _, _, hlv, _, _ => exact absurd hlv (by show ¬ (!upd D 13 true 9) = true; rw [upd_ne _ _ (by omega), hR.pred 9 (by kernel_rfl)]; decide)
     | 9, _, _, hlv, _, _ => exact absurd hlv (by show ¬ (!upd D 13 true 10) = true; rw [upd_ne _ _ (by omega), hR.pred 10 (by kernel_rfl)]; decide)
     | 10, _, _, hlv, _, _ => exact absurd hlv (by show ¬ (!upd D 13 true 13) = true; rw [upd_same]; decide)
     | 11, _, _, _, _, hv => exact hv
     | 12, _, _, _, _, hv => exact hv
     | 13, hk, _, _, _, _ => exact absurd rfl hk
     | k + 14, _, _, _, hkl, _ => exact absurd hkl (by simp)
   ·intro D V w9 hD hI;obtain ⟨hM1, hB1, hG1⟩ := hI.1;have hMx := hM1;clear hM1;have hBx := hB1;clear hB1;have hGx := hG1.2;clear hG1;have zf0 : V 0 = .pointer (some ⟨g, 0, none⟩) := hI.2 0 (hD 0 (by decide)) rfl;have zf1 : V 1 = .pointer (some ⟨g, 0, none⟩) := hI.2 1 (hD 1 (by decide)) rfl;have zf2 : V 2 = .pointer (some ⟨g, 0, none⟩) := hI.2 2 (hD 2 (by decide)) rfl;have zf3 : V 3 = .pointer (some ⟨g, 0, none⟩) := hI.2 3 (hD 3 (by decide)) rfl;have zf4 : V 4 = .slice Ao os.length cap := hI.2 4 (hD 4 (by decide)) rfl;have zf5 : V 5 = .slice IA its.length ic := hI.2 5 (hD 5 (by decide)) rfl;have zf6 : V 6 = .string ⟨s.toArray⟩ := hI.2 6 (hD 6 (by decide)) rfl;have zf11 : V 11 = .pointer (some ⟨g, 0, none⟩) := hI.2 11 (hD 11 (by decide)) rfl;have zf12 : V 12 = .pointer (some ⟨g, 0, none⟩) := hI.2 12 (hD 12 (by decide)) rfl;have zF13 : ∃ (g_13 : Nat) (c_13 : Nat) (A_13 : Option Addr) (d_13 : Nat), V 13 = undef ∧ OrF w9 base (some ⟨g_13, 0, none⟩) c_13 (os ++ [(.slice A_13 ff.length d_13, ff)]) g #[.slice (some ⟨g_13, 0, none⟩) (os.length + 1) c_13, .map (some bm), .slice none 0 0, .int .i64 0] := hI.2 13 (hD 13 (by decide)) rfl;obtain ⟨g_13, c_13, A_13, d_13, zf13, b13_0⟩ := zF13;clear hI hD HGs;simp only [frAll, Act.put, List.setIfInBounds_toArray, List.set_cons_zero, List.set_cons_succ, Nat.zero_add, Nat.reduceAdd, zf0, zf1, zf2, zf3, zf4, zf5, zf6, zf11, zf12, zf13];clear zf0 zf1 zf2 zf3 zf4 zf5 zf6 zf11 zf12 zf13;generalize V 7 = u7;generalize V 8 = u8;generalize V 9 = u9;generalize V 10 = u10;clear V D;have HOF9 := Lib.hid b13_0;have HM9 := Lib.hid hMx
    have hs9 : base ≤ w9.heap.size := by have := hBx; omega
    clear b13_0 hMx hBx HOF HM HRFS
    go_wp2_with fail
    go_roundg (order.length - (k + 1))
    case measure => omega
    case rel => exact ⟨k + 1, c_13, some ⟨g_13, 0, none⟩, os ++ [(.slice A_13 ff.length d_13, ff)], rfl, by omega, by simp, by simpa using HOF9.out, by simp; omega, by rw [HTT.out, List.map_append, List.map_append, HOM.out]; simp [HFT.out], HM9.out, hs9⟩
  ·obtain rfl : k = order.length := by omega
   rw [List.take_length] at hom;have HOM6 := Lib.hid hom;clear hof hom hm hlt HOM HRF
   go_wp2_with fail
   go_loopg [40] fs.length (fun gk i wr => ∃ (k cap : Nat) (Ao : Option Addr) (os : List (Value × List Str)), fs.length - k = gk ∧ k ≤ fs.length ∧ i = .int .i64 (k : Int) ∧ OrF wr base Ao cap os g #[.slice Ao os.length cap, .map (some bm), .slice none 0 0, .int .i64 0] ∧ os.length ≤ order.length + k ∧ os.map (fun p => p.2) = order.map (fndF (famsS its)) ++ ((fs.take k).filter fun p => decide (p.1 ∉ order)).map (fun p => p.2.2) ∧ Mod (fun j => j = g) w2 wr ∧ base ≤ wr.heap.size)
   case atStart => exact ⟨0, cap, Ao, os, by omega, by omega, rfl, HOF.out, by omega, by simpa using HOM6.out, HM.out, hsz⟩
   case round =>
    clear HOF HM HOM6;obtain ⟨k, cap, Ao, os, rfl, hk, rfl, hof, hok, hom, hm, hsz⟩ := hrel;obtain ⟨w6, hw6⟩ : ∃ W, W = wr := ⟨wr, rfl⟩;subst hw6;have HOF := Lib.hid hof;have HM := Lib.hid hm;have HOM := Lib.hid hom
    by_cases hlt : k < fs.length
    ·obtain ⟨gf, of, YA, yn, yc, rfl, p0, p1, e5, hfs⟩ := (HFM.out w6 hm).at hlt
     have HTK := Lib.hid (show ((fs.take (k + 1)).filter fun p => decide (p.1 ∉ order)) = ((fs.take k).filter fun p => decide (p.1 ∉ order)) ++ (if fs[k].1 ∉ order then [fs[k]] else []) by
      rw [List.take_succ_eq_append_getElem hlt, List.filter_append]
      congr 1
      by_cases e : fs[k].1 ∈ order <;> simp [e])
     have hyn := Sl.lenS hfs;have HSM := Lib.hid (fun W (h : Mod (fun j => j = g) w2 W) => show Sl W 9 1 (.slice YA yn yc) (strsV fs[k].2.2) by have := (HFM.out W h).2 _ (List.getElem_mem hlt); rwa [e5] at this);have hpa := pure_alloc w6 (.cells #[.string ⟨fs[k].1.toArray⟩, .slice YA yn yc] 90);have HYB := Lib.hid (Blk.new w6 90 #[.string ⟨fs[k].1.toArray⟩, .slice YA yn yc]);have HOF7 := Lib.hid (HOF.out.pure hpa);have HM7 := Lib.hid (HM.out.trans (Mod.of_pure hpa));have HCN := Lib.hid (by have := containsSq_calls _ _ order fs[k].1 (HOO.out _ HM7.out); rwa [any_eq_mem] at this);have HLT := Lib.hid (fun j (hj : (Value.slice Ao os.length cap).ownBlock = some j) => show j < w6.heap.size by obtain ⟨arr, h⟩ := own_heap HOF.out.1 hj; exact lt_of_heap h);have hp7s := hpa.size;clear hof hom hm hfs hpa HOF HM;generalize fs[k] = y at *;obtain ⟨top, yv, f⟩ := y;obtain rfl : yv = .slice YA yn yc := e5;simp only at p0 p1 HYB HTK HOF7 HM7 HCN hp7s HSM hyn;subst hyn;obtain ⟨bd, hbd⟩ : ∃ bd, decide (top ∈ order) = bd := ⟨_, rfl⟩;rw [hbd] at HCN;have HBD := Lib.hid hbd;clear hbd
     go_upto_region 11 with (fail)
     generalize (w6.alloc (.cells #[.string ⟨top.toArray⟩, .slice YA f.length yc] 90)) = w7 at *;generalize w6.heap.size = gy at *;have hx := HYB.out;have x0 := hx.cell 0; have x1 := hx.cell 1; simp at x0 x1;clear hx p0 p1
     go_wp2_with fail
     refine HCN.out.mono ?_;rintro e w8 ⟨rfl, hm8⟩;have HOF8 := Lib.hid (HOF7.out.pure hm8);have HM8 := Lib.hid (HM7.out.trans (Mod.of_pure hm8));have HYB8 := Lib.hid (HYB.out.modp hm8);have hw8 := hm8.size;have hgy8 := HYB8.out.lt;clear hm8 HCN HOF7 HM7 HYB x0 x1
     cases bd
     rotate_left
     ·have HTK2 := Lib.hid (show ((fs.take (k + 1)).filter fun p => decide (p.1 ∉ order)) = ((fs.take k).filter fun p => decide (p.1 ∉ order)) by rw [HTK.out, if_neg (by simpa using of_decide_eq_true HBD.out)]; simp);clear HTK
      go_wp2_with fail
      go_roundg (fs.length - (k + 1))
      case measure => omega
      case rel => exact ⟨k + 1, cap, Ao, os, rfl, by omega, by simp, HOF8.out, by omega, by rw [HTK2.out]; exact HOM.out, HM8.out, by omega⟩
     ·have HTK2 := Lib.hid (show ((fs.take (k + 1)).filter fun p => decide (p.1 ∉ order)) = ((fs.take k).filter fun p => decide (p.1 ∉ order)) ++ [(top, .slice YA f.length yc, f)] by rw [HTK.out, if_pos (of_decide_eq_false HBD.out)])
      have hsl8 : base ≤ w8.heap.size := by omega
      clear HTK
      go_upto_region 12 with (fail)
      have HGs := Lib.hid (show ∀ (D : Nat → Bool) (zzi : Nat) (zq zq' : World), zzi ≠ 8 → (fun D zq => (D 8 = false → (fun Z => OrF Z base Ao cap os g #[.slice Ao os.length cap, .map (some bm), .slice none 0 0, .int .i64 0]) zq) ∧ (fun Z => Blk Z gy 90 #[.string ⟨top.toArray⟩, .slice YA f.length yc]) zq) D zq → Mod (fun _ => False) zq zq' → (fun D zq => (D 8 = false → (fun Z => OrF Z base Ao cap os g #[.slice Ao os.length cap, .map (some bm), .slice none 0 0, .int .i64 0]) zq) ∧ (fun Z => Blk Z gy 90 #[.string ⟨top.toArray⟩, .slice YA f.length yc]) zq) (upd D zzi true) zq' from by intro D zzi zq zq' hi hh hm; refine ⟨fun hs => ?_, ?_⟩; (rw [upd_ne _ _ (Ne.symm hi)] at hs; have h := hh.1 hs; (exact h.pure hm)); (have h := hh.2; (exact h.modp hm)))
      refine wp_region_inv (by kernel_rfl) (by kernel_rfl) (InvF (R := Mod (fun _ => False)) [.is (.pointer (some ⟨g, 0, none⟩)),
        .is (.pointer (some ⟨g, 0, none⟩)),
        .is (.pointer (some ⟨g, 0, none⟩)),
        .is (.pointer (some ⟨g, 0, none⟩)),
        .is (.slice Ao os.length cap),
        .is (.pointer (some ⟨gy, 1, none⟩)),
        .is (.slice YA f.length yc),
        ⟨fun zv zw => ∃ (g_7 : Nat), zv = .slice (some ⟨g_7, 0, none⟩) 1 1 ∧ w8.heap.size ≤ g_7 ∧ Blk zw g_7 29 #[.slice YA f.length yc], (by rintro zv zw zx ⟨g_7, rfl, c0, q0⟩ hm; exact ⟨g_7, rfl, c0, (q0.modp hm)⟩), none, some 8⟩,
        ⟨fun zv zw => ∃ (g_8 : Nat) (c_8 : Nat) (A_8 : Option Addr) (d_8 : Nat), zv = .slice (some ⟨g_8, 0, none⟩) (os.length + 1) c_8 ∧ OrF zw base (some ⟨g_8, 0, none⟩) c_8 (os ++ [(.slice A_8 f.length d_8, f)]) g #[.slice Ao os.length cap, .map (some bm), .slice none 0 0, .int .i64 0], (by rintro zv zw zx ⟨g_8, c_8, A_8, d_8, rfl, q0⟩ hm; exact ⟨g_8, c_8, A_8, d_8, rfl, (q0.pure hm)⟩), none, some 11⟩,
        .is (.pointer (some ⟨g, 0, none⟩)),
        .is (.pointer (some ⟨g, 0, none⟩)),
        ⟨fun zv zw => ∃ (g_11 : Nat) (c_11 : Nat) (A_11 : Option Addr) (d_11 : Nat), zv = undef ∧ OrF zw base (some ⟨g_11, 0, none⟩) c_11 (os ++ [(.slice A_11 f.length d_11, f)]) g #[.slice (some ⟨g_11, 0, none⟩) (os.length + 1) c_11, .map (some bm), .slice none 0 0, .int .i64 0], (by rintro zv zw zx ⟨g_11, c_11, A_11, d_11, rfl, q0⟩ hm; exact ⟨g_11, c_11, A_11, d_11, rfl, (q0.pure hm)⟩), none, none⟩]
        (PB w2 (fun j => j = g) w8.heap.size (fun D zq => (D 8 = false → (fun Z => OrF Z base Ao cap os g #[.slice Ao os.length cap, .map (some bm), .slice none 0 0, .int .i64 0]) zq) ∧ (fun Z => Blk Z gy 90 #[.string ⟨top.toArray⟩, .slice YA f.length yc]) zq))) (InvF.start (PB.start HM8.out (Nat.le_refl _) (⟨fun _ => HOF8.out.pure ((Mod.refl _ _).drew), HYB8.out.drew⟩))) ?_ ?_
      ·refine .cons ?_ (.cons ?_ (.cons ?_ (.cons ?_ (.cons ?_ (.cons ?_ (.cons ?_ (.cons ?_ (.cons ?_ (.cons ?_ (.cons ?_ (.cons ?_ .nil)))))))))))
       ·intro D V zw1 a hR hI K hK;obtain ⟨hM1, hB1, hG1⟩ := hI.1;obtain ⟨hGK, hG1⟩ := hG1;have ze5 := hR.frame.other (t := 5) (by kernel_rfl) rfl;rw [if_pos (by rfl)];go_simp;exact hK (.pointer (some ⟨g, 0, none⟩)) _ (hI.next hR (by kernel_rfl) (Mod.refl _ _) (PB.quiet hI.1 (Mod.refl _ _) (HGs.out D 0 zw1 zw1 (by omega) (hI.1).g (Mod.refl _ _))) (upd_same V 0 _))
       ·intro D V zw1 a hR hI K hK;obtain ⟨hM1, hB1, hG1⟩ := hI.1;obtain ⟨hGK, hG1⟩ := hG1;have ze5 := hR.frame.other (t := 5) (by kernel_rfl) rfl;rw [if_pos (by rfl)];go_simp;exact hK (.pointer (some ⟨g, 0, none⟩)) _ (hI.next hR (by kernel_rfl) (Mod.refl _ _) (PB.quiet hI.1 (Mod.refl _ _) (HGs.out D 1 zw1 zw1 (by omega) (hI.1).g (Mod.refl _ _))) (upd_same V 1 _))
       ·intro D V zw1 a hR hI K hK;obtain ⟨hM1, hB1, hG1⟩ := hI.1;obtain ⟨hGK, hG1⟩ := hG1;have zd1 := hR.pred 1 (by kernel_rfl);have zf1 : V 1 = .pointer (some ⟨g, 0, none⟩) := hI.2 1 zd1 rfl;have ze50 := hR.frame.done (t := 50) (j := 1) (by kernel_rfl) hR.ok zd1;rw [if_pos (by rfl)];go_simp;exact hK (.pointer (some ⟨g, 0, none⟩)) _ (hI.next hR (by kernel_rfl) (Mod.refl _ _) (PB.quiet hI.1 (Mod.refl _ _) (HGs.out D 2 zw1 zw1 (by omega) (hI.1).g (Mod.refl _ _))) (upd_same V 2 _))
       ·intro D V zw1 a hR hI K hK;obtain ⟨hM1, hB1, hG1⟩ := hI.1;obtain ⟨hGK, hG1⟩ := hG1;have zd2 := hR.pred 2 (by kernel_rfl);have zf2 : V 2 = .pointer (some ⟨g, 0, none⟩) := hI.2 2 zd2 rfl;have ze51 := hR.frame.done (t := 51) (j := 2) (by kernel_rfl) hR.ok zd2;rw [if_pos (by rfl)];go_simp;exact hK (.pointer (some ⟨g, 0, none⟩)) _ (hI.next hR (by kernel_rfl) (Mod.refl _ _) (PB.quiet hI.1 (Mod.refl _ _) (HGs.out D 3 zw1 zw1 (by omega) (hI.1).g (Mod.refl _ _))) (upd_same V 3 _))
       ·intro D V zw1 a hR hI K hK;obtain ⟨hM1, hB1, hG1⟩ := hI.1;obtain ⟨hGK, hG1⟩ := hG1;have zd3 := hR.pred 3 (by kernel_rfl);have zf3 : V 3 = .pointer (some ⟨g, 0, none⟩) := hI.2 3 zd3 rfl;have ze52 := hR.frame.done (t := 52) (j := 3) (by kernel_rfl) hR.ok zd3;have zx0 := (hGK (hR.later 8 rfl (by kernel_rfl))).2.1.cell 0;simp at zx0;rw [if_pos (by rfl)];go_simp;exact hK (.slice Ao os.length cap) _ (hI.next hR (by kernel_rfl) (Mod.refl _ _) (PB.quiet hI.1 (Mod.refl _ _) (HGs.out D 4 zw1 zw1 (by omega) (hI.1).g (Mod.refl _ _))) (upd_same V 4 _))
       ·intro D V zw1 a hR hI K hK;obtain ⟨hM1, hB1, hG1⟩ := hI.1;obtain ⟨hGK, hG1⟩ := hG1;have ze10 := hR.frame.other (t := 10) (by kernel_rfl) rfl;rw [if_pos (by rfl)];go_simp;exact hK (.pointer (some ⟨gy, 1, none⟩)) _ (hI.next hR (by kernel_rfl) (Mod.refl _ _) (PB.quiet hI.1 (Mod.refl _ _) (HGs.out D 5 zw1 zw1 (by omega) (hI.1).g (Mod.refl _ _))) (upd_same V 5 _))
       ·intro D V zw1 a hR hI K hK;obtain ⟨hM1, hB1, hG1⟩ := hI.1;obtain ⟨hGK, hG1⟩ := hG1;have zd5 := hR.pred 5 (by kernel_rfl);have zf5 : V 5 = .pointer (some ⟨gy, 1, none⟩) := hI.2 5 zd5 rfl;have ze54 := hR.frame.done (t := 54) (j := 5) (by kernel_rfl) hR.ok zd5;have zx0 := hG1.cell 1;simp at zx0;rw [if_pos (by rfl)];go_simp;exact hK (.slice YA f.length yc) _ (hI.next hR (by kernel_rfl) (Mod.refl _ _) (PB.quiet hI.1 (Mod.refl _ _) (HGs.out D 6 zw1 zw1 (by omega) (hI.1).g (Mod.refl _ _))) (upd_same V 6 _))
       ·intro D V zw1 a hR hI K hK;obtain ⟨hM1, hB1, hG1⟩ := hI.1;obtain ⟨hGK, hG1⟩ := hG1;have zd6 := hR.pred 6 (by kernel_rfl);have zf6 : V 6 = .slice YA f.length yc := hI.2 6 zd6 rfl;have ze55 := hR.frame.done (t := 55) (j := 6) (by kernel_rfl) hR.ok zd6;rw [if_pos (by rfl)];go_simp;exact hK (_) _ (hI.next hR (by kernel_rfl) ((Mod.refl _ _).alloc _) (PB.quiet hI.1 (pure_alloc _ _) (HGs.out D 7 _ _ (by omega) (hI.1).g ((Mod.refl _ _).alloc _))) (⟨_, upd_same V 7 _, (by omega), (Blk.new _ _ _)⟩))
       ·intro D V zw1 a hR hI K hK;obtain ⟨hM1, hB1, hG1⟩ := hI.1;obtain ⟨hGK, hG1⟩ := hG1;have zd4 := hR.pred 4 (by kernel_rfl);have zf4 : V 4 = .slice Ao os.length cap := hI.2 4 zd4 rfl;have zd7 := hR.pred 7 (by kernel_rfl);have zF7 : ∃ (g_7 : Nat), V 7 = .slice (some ⟨g_7, 0, none⟩) 1 1 ∧ w8.heap.size ≤ g_7 ∧ Blk zw1 g_7 29 #[.slice YA f.length yc] := hI.2 7 zd7 (by show (!D 8) = true; rw [hR.not]; rfl);obtain ⟨g_7, zf7, c7_0, b7_0⟩ := zF7;have ze53 := hR.frame.done (t := 53) (j := 4) (by kernel_rfl) hR.ok zd4;have ze56 := hR.frame.done (t := 56) (j := 7) (by kernel_rfl) hR.ok zd7;rw [if_pos (by rfl)];have hown := (hGK hR.not).1;refine wp_append_lies _ (.tmp 53) (.tmp 56) 46 (by rfl) base 29 i0 _ 1 24 Tryz.underlying46 hi0 hz0 hz1 hz2 (by rfl) (by omega) (.slice Ao os.length cap) (os.length) (os.map (fun p => p.1)) ?_ hown ⟨g_7, 0, none⟩ 1 1 [.slice YA f.length yc] ?_ (by rfl) (World.news_of_block (cs := #[.slice YA f.length yc]) (t := 29) (fr := (0, 0)) b7_0) (by simp [Value.oneCell']) (by omega) (by simp [maxLen]; omega) (by omega) (by omega) zw1.heap.size rfl ?_
        ·show a.tmps.getD 53 undef = _; simp [ze53, zf4]
        ·show a.tmps.getD 56 undef = _; simp [ze56, zf7]
        intro g5 cap5 zw2 hown5 hgrow hat hlt5;have hT := mod_grown hgrow;have hTb : ∀ j, (.slice Ao os.length cap : Value).ownBlock = some j → base ≤ j := own_block hown;refine hK _ _ (InvF.last (PB.writes hI.1 (fun j hj hl => by have := hTb j hj; omega) hT ⟨fun hs => absurd hs (by rw [upd_same]; decide), (hG1.mod hT (fun h => by have := HLT.out _ h; omega))⟩) ⟨_, _, YA, yc, upd_same V 8 _, (hGK hR.not).app (.slice YA f.length yc, f) (HSM.out zw1 hM1) hT rfl hown5⟩ ?_);intro k hk hDk hlv;have hkl := hR.lt k hDk;have hv := hI.2 k hDk (liveB_of hlv)
        match k, hk, hDk, hlv, hkl, hv with
        | 0, _, _, _, _, hv => exact hv
        | 1, _, _, _, _, hv => exact hv
        | 2, _, _, _, _, hv => exact hv
        | 3, _, _, _, _, hv => exact hv
        | 4, _, _, _, _, hv => exact hv
        | 5, _, _, _, _, hv => exact hv
        | 6, _, _, _, _, hv => exact hv
        | 7, _, _, hlv, _, _ => exact absurd hlv (by show ¬ (!upd D 8 true 8) = true; rw [upd_same]; decide)
        | 8, hk, _, _, _, _ => exact absurd rfl hk
        | 9, _, _, _, _, hv => exact hv
        | 10, _, _, _, _, hv => exact hv
        | 11, _, hDk, _, _, _ => exact absurd hDk (by rw [hR.later 11 rfl (by kernel_rfl)]; decide)
        | k + 12, _, _, _, hkl, _ => exact absurd hkl (by simp)
       ·intro D V zw1 a hR hI K hK;obtain ⟨hM1, hB1, hG1⟩ := hI.1;obtain ⟨hGK, hG1⟩ := hG1;have zd0 := hR.pred 0 (by kernel_rfl);have zf0 : V 0 = .pointer (some ⟨g, 0, none⟩) := hI.2 0 zd0 rfl;have ze49 := hR.frame.done (t := 49) (j := 0) (by kernel_rfl) hR.ok zd0;rw [if_pos (by rfl)];go_simp;exact hK (.pointer (some ⟨g, 0, none⟩)) _ (hI.next hR (by kernel_rfl) (Mod.refl _ _) (PB.quiet hI.1 (Mod.refl _ _) (HGs.out D 9 zw1 zw1 (by omega) (hI.1).g (Mod.refl _ _))) (upd_same V 9 _))
       ·intro D V zw1 a hR hI K hK;obtain ⟨hM1, hB1, hG1⟩ := hI.1;obtain ⟨hGK, hG1⟩ := hG1;have zd9 := hR.pred 9 (by kernel_rfl);have zf9 : V 9 = .pointer (some ⟨g, 0, none⟩) := hI.2 9 zd9 rfl;have ze58 := hR.frame.done (t := 58) (j := 9) (by kernel_rfl) hR.ok zd9;rw [if_pos (by rfl)];go_simp;exact hK (.pointer (some ⟨g, 0, none⟩)) _ (hI.next hR (by kernel_rfl) (Mod.refl _ _) (PB.quiet hI.1 (Mod.refl _ _) (HGs.out D 10 zw1 zw1 (by omega) (hI.1).g (Mod.refl _ _))) (upd_same V 10 _))
       ·intro D V zw1 a hR hI K hK;obtain ⟨hM1, hB1, hG1⟩ := hI.1;obtain ⟨hGK, hG1⟩ := hG1;have zd10 := hR.pred 10 (by kernel_rfl);have zf10 : V 10 = .pointer (some ⟨g, 0, none⟩) := hI.2 10 zd10 rfl;have zd8 := hR.pred 8 (by kernel_rfl);have zF8 : ∃ (g_8 : Nat) (c_8 : Nat) (A_8 : Option Addr) (d_8 : Nat), V 8 = .slice (some ⟨g_8, 0, none⟩) (os.length + 1) c_8 ∧ OrF zw1 base (some ⟨g_8, 0, none⟩) c_8 (os ++ [(.slice A_8 f.length d_8, f)]) g #[.slice Ao os.length cap, .map (some bm), .slice none 0 0, .int .i64 0] := hI.2 8 zd8 (by show (!D 11) = true; rw [hR.not]; rfl);obtain ⟨g_8, c_8, A_8, d_8, zf8, b8_0⟩ := zF8;have ze59 := hR.frame.done (t := 59) (j := 10) (by kernel_rfl) hR.ok zd10;have ze57 := hR.frame.done (t := 57) (j := 8) (by kernel_rfl) hR.ok zd8;rw [if_pos (by rfl)];have zx2 := b8_0.2.1.cell 0;have zy2 := b8_0.2.1.frozen 0;simp at zx2 zy2;have hmS : Mod (· = g) zw1 (zw1.setCell ⟨g, 0, none⟩ (.slice (some ⟨g_8, 0, none⟩) (os.length + 1) c_8)) := (Mod.refl (· = g) zw1).setCell (.inl rfl) _;go_simp;refine hK undef _ (InvF.last ⟨hM1.trans' hmS (fun i hi hlt => hi), (by simpa using hB1), ⟨fun hs => absurd hs (by rw [upd_ne _ _ (by omega), hR.pred 8 (by kernel_rfl)]; decide), hG1.mod hmS (by omega)⟩⟩ ⟨g_8, c_8, A_8, d_8, upd_same _ 11 _, by have h := b8_0.store (q := 0) (.slice (some ⟨g_8, 0, none⟩) (os.length + 1) c_8); simpa using h⟩ ?_);intro k hk hDk hlv;have hkl := hR.lt k hDk;have hv := hI.2 k hDk (liveB_of hlv)
        match k, hk, hDk, hlv, hkl, hv with
        | 0, _, _, _, _, hv => exact hv
        | 1, _, _, _, _, hv => exact hv
        | 2, _, _, _, _, hv => exact hv
        | 3, _, _, _, _, hv => exact hv
        | 4, _, _, _, _, hv => exact hv
        | 5, _, _, _, _, hv => exact hv
        | 6, _, _, _, _, hv => exact hv
        | 7, _, _, hlv, _, _ => exact absurd hlv (by show ¬ (!upd D 11 true 8) = true; rw [upd_ne _ _ (by omega), hR.pred 8 (by kernel_rfl)]; decide)
        | 8, _, _, hlv, _, _ => exact absurd hlv (by show ¬ (!upd D 11 true 11) = true; rw [upd_same]; decide)
        | 9, _, _, _, _, hv => exact hv
        | 10, _, _, _, _, hv => exact hv
        | 11, hk, _, _, _, _ => exact absurd rfl hk
        | k + 12, _, _, _, hkl, _ => exact absurd hkl (by simp)
      ·intro D V w9 hD hI;obtain ⟨hM1, hB1, hG1⟩ := hI.1;have hMx := hM1;clear hM1;have hBx := hB1;clear hB1;have hGx := hG1.2;clear hG1;have zf0 : V 0 = .pointer (some ⟨g, 0, none⟩) := hI.2 0 (hD 0 (by decide)) rfl;have zf1 : V 1 = .pointer (some ⟨g, 0, none⟩) := hI.2 1 (hD 1 (by decide)) rfl;have zf2 : V 2 = .pointer (some ⟨g, 0, none⟩) := hI.2 2 (hD 2 (by decide)) rfl;have zf3 : V 3 = .pointer (some ⟨g, 0, none⟩) := hI.2 3 (hD 3 (by decide)) rfl;have zf4 : V 4 = .slice Ao os.length cap := hI.2 4 (hD 4 (by decide)) rfl;have zf5 : V 5 = .pointer (some ⟨gy, 1, none⟩) := hI.2 5 (hD 5 (by decide)) rfl;have zf6 : V 6 = .slice YA f.length yc := hI.2 6 (hD 6 (by decide)) rfl;have zf9 : V 9 = .pointer (some ⟨g, 0, none⟩) := hI.2 9 (hD 9 (by decide)) rfl;have zf10 : V 10 = .pointer (some ⟨g, 0, none⟩) := hI.2 10 (hD 10 (by decide)) rfl;have zF11 : ∃ (g_11 : Nat) (c_11 : Nat) (A_11 : Option Addr) (d_11 : Nat), V 11 = undef ∧ OrF w9 base (some ⟨g_11, 0, none⟩) c_11 (os ++ [(.slice A_11 f.length d_11, f)]) g #[.slice (some ⟨g_11, 0, none⟩) (os.length + 1) c_11, .map (some bm), .slice none 0 0, .int .i64 0] := hI.2 11 (hD 11 (by decide)) rfl;obtain ⟨g_11, c_11, A_11, d_11, zf11, b11_0⟩ := zF11;clear hI hD HGs;simp only [frAll, Act.put, List.setIfInBounds_toArray, List.set_cons_zero, List.set_cons_succ, Nat.zero_add, Nat.reduceAdd, zf0, zf1, zf2, zf3, zf4, zf5, zf6, zf9, zf10, zf11];clear zf0 zf1 zf2 zf3 zf4 zf5 zf6 zf9 zf10 zf11;generalize V 7 = u7;generalize V 8 = u8;clear V D;have HOF9 := Lib.hid b11_0;have HM9 := Lib.hid hMx
       have hs9 : base ≤ w9.heap.size := by have := hBx; omega
       clear b11_0 hMx hBx hGx HOF8 HM8 HYB8
       go_wp2_with fail
       go_roundg (fs.length - (k + 1))
       case measure => omega
       case rel => exact ⟨k + 1, c_11, some ⟨g_11, 0, none⟩, os ++ [(.slice A_11 f.length d_11, f)], rfl, by omega, by simp, by simpa using HOF9.out, by simp; omega, by rw [HTK2.out, List.map_append, List.map_append, HOM.out]; simp, HM9.out, hs9⟩
    ·obtain rfl : k = fs.length := by omega
     rw [List.take_length] at hom;have HOM9 := Lib.hid (show os.map (fun p => p.2) = newF (famsS its) order by rw [hom, ← HFE.out, newF_fm]);have HBM6 := Lib.hid (HBM.out w6 hm);have HI6 := Lib.hid (HIT.out w6 hm)
     have hgbm : g ≠ bm := by omega
     clear hof hom hm hlt HOM HFM HIT HOO HBM
     go_wp2_with fail
     go_loopg [63] its.length (fun gk i wr => ∃ (k n : Nat), its.length - k = gk ∧ k ≤ its.length ∧ i = .int .i64 (k : Int) ∧ n ≤ k ∧ MapS wr bm n (fun s => if s ∈ (its.take k).map (·.id) then some (.int .i64 0) else none) ∧ Mod (fun j => j = bm) w6 wr)
     case atStart => exact ⟨0, 0, by omega, by omega, rfl, by omega, by simpa using HBM6.out, Mod.refl _ _⟩
     case round =>
      obtain ⟨k, n, rfl, hk, rfl, hnk, hmp, hm⟩ := hrel
      have hcl : ∀ i arr t fr, w6.heap[i]? = some (.cells arr t fr) → ¬ i = bm := fun i arr t fr hi e => by
       obtain ⟨D, ⟨es, clock, hb, _⟩, _⟩ := HBM6.out;rw [e, hb] at hi
       cases hi
      obtain ⟨w7, hw7⟩ : ∃ W, W = wr := ⟨wr, rfl⟩;subst hw7
      by_cases hlt : k < its.length
      ·obtain ⟨_, _, _, e0, hic1, hic2, _, hir⟩ := HI6.out.mod hm (fun i arr fr hi => hcl i arr _ fr hi)
       cases e0
       obtain ⟨gi, oi, rfl, hrow⟩ := hir (by rw [itV_len] at *; omega);obtain ⟨q0, q1, q2, q3, q4, q5, q6⟩ := item_cells hrow hlt;have hxz := (HZ.out _ (List.getElem_mem hlt)).1;have HTT := Lib.hid (show (its.take (k + 1)).map (·.id) = (its.take k).map (·.id) ++ [its[k].id] by rw [List.take_succ_eq_append_getElem hlt, List.map_append]; rfl);have HMP := Lib.hid hmp;have HM7 := Lib.hid hm;have HD7 := Lib.hid (HOF.out.2.1.mod hm hgbm);clear hrow hir hmp hm hcl;generalize its[k] = x at *;obtain ⟨xid, xcust, xkind, xname, xtm, xpar, xtext⟩ := x;simp only at q0 q1 q2 q3 q4 q5 q6 hxz HTT;have hpa := pure_alloc w7 (.cells #[.string ⟨xid.toArray⟩, .string ⟨xcust.toArray⟩, .int .i64 xkind, .string ⟨xname.toArray⟩, .int .i64 xtm, .string ⟨xpar.toArray⟩, .string ⟨xtext.toArray⟩] 79);have HXB := Lib.hid (Blk.new w7 79 #[.string ⟨xid.toArray⟩, .string ⟨xcust.toArray⟩, .int .i64 xkind, .string ⟨xname.toArray⟩, .int .i64 xtm, .string ⟨xpar.toArray⟩, .string ⟨xtext.toArray⟩]);have HMP8 := Lib.hid (HMP.out.pure hpa);have HM8 := Lib.hid (HM7.out.trans (Mod.of_pure hpa));have HD8 := Lib.hid (HD7.out.modp hpa);have hbl := HMP.out.lt;have hgl := HD7.out.lt;clear hpa HMP HM7 HD7
       go_upto_region 17 with (fail)
       generalize (w7.alloc (.cells #[.string ⟨xid.toArray⟩, .string ⟨xcust.toArray⟩, .int .i64 xkind, .string ⟨xname.toArray⟩, .int .i64 xtm, .string ⟨xpar.toArray⟩, .string ⟨xtext.toArray⟩] 79)) = w8 at *;generalize w7.heap.size = gx at *;clear q0 q1 q2 q3 q4 q5 q6;have HGs := Lib.hid (show ∀ (D : Nat → Bool) (zzi : Nat) (zq zq' : World), zzi ≠ 6 → (fun D zq => (D 6 = false → (fun Z => MapS Z bm n (fun s => if s ∈ (its.take k).map (·.id) then some (.int .i64 0) else none)) zq) ∧ (fun Z => Blk Z g 50 #[.slice Ao os.length cap, .map (some bm), .slice none 0 0, .int .i64 0] ∧ Blk Z gx 79 #[.string ⟨xid.toArray⟩, .string ⟨xcust.toArray⟩, .int .i64 xkind, .string ⟨xname.toArray⟩, .int .i64 xtm, .string ⟨xpar.toArray⟩, .string ⟨xtext.toArray⟩]) zq) D zq → Mod (fun _ => False) zq zq' → (fun D zq => (D 6 = false → (fun Z => MapS Z bm n (fun s => if s ∈ (its.take k).map (·.id) then some (.int .i64 0) else none)) zq) ∧ (fun Z => Blk Z g 50 #[.slice Ao os.length cap, .map (some bm), .slice none 0 0, .int .i64 0] ∧ Blk Z gx 79 #[.string ⟨xid.toArray⟩, .string ⟨xcust.toArray⟩, .int .i64 xkind, .string ⟨xname.toArray⟩, .int .i64 xtm, .string ⟨xpar.toArray⟩, .string ⟨xtext.toArray⟩]) zq) (upd D zzi true) zq' from by intro D zzi zq zq' hi hh hm; refine ⟨fun hs => ?_, ?_⟩; (rw [upd_ne _ _ (Ne.symm hi)] at hs; have h := hh.1 hs; (exact h.pure hm)); (have h := hh.2; (exact ⟨h.1.modp hm, h.2.modp hm⟩)))
       refine wp_region_inv (by kernel_rfl) (by kernel_rfl) (InvF (R := Mod (fun _ => False)) [.is (.pointer (some ⟨g, 0, none⟩)),
         .is (.pointer (some ⟨g, 0, none⟩)),
         .is (.pointer (some ⟨g, 1, none⟩)),
         .is (.map (some bm)),
         .is (.pointer (some ⟨gx, 0, none⟩)),
         .is (.string ⟨xid.toArray⟩),
         ⟨fun zv zw => zv = undef ∧ MapS zw bm (n + 1) (fun q => if q = xid then some (.int .i64 0) else if q ∈ (its.take k).map (·.id) then some (.int .i64 0) else none), (by rintro zv zw zx ⟨rfl, q0⟩ hm; exact ⟨rfl, (q0.pure hm)⟩), none, none⟩]
         (PB w6 (fun j => j = bm) w8.heap.size (fun D zq => (D 6 = false → (fun Z => MapS Z bm n (fun s => if s ∈ (its.take k).map (·.id) then some (.int .i64 0) else none)) zq) ∧ (fun Z => Blk Z g 50 #[.slice Ao os.length cap, .map (some bm), .slice none 0 0, .int .i64 0] ∧ Blk Z gx 79 #[.string ⟨xid.toArray⟩, .string ⟨xcust.toArray⟩, .int .i64 xkind, .string ⟨xname.toArray⟩, .int .i64 xtm, .string ⟨xpar.toArray⟩, .string ⟨xtext.toArray⟩]) zq))) (InvF.start (PB.start HM8.out (Nat.le_refl _) (⟨fun _ => HMP8.out.pure ((Mod.refl _ _).drew), ⟨HD8.out.drew, HXB.out.drew⟩⟩))) ?_ ?_
       ·refine .cons ?_ (.cons ?_ (.cons ?_ (.cons ?_ (.cons ?_ (.cons ?_ (.cons ?_ .nil))))))
        ·intro D V zw1 a hR hI K hK;obtain ⟨hM1, hB1, hG1⟩ := hI.1;obtain ⟨hGK, hG1⟩ := hG1;have ze5 := hR.frame.other (t := 5) (by kernel_rfl) rfl;rw [if_pos (by rfl)];go_simp;exact hK (.pointer (some ⟨g, 0, none⟩)) _ (hI.next hR (by kernel_rfl) (Mod.refl _ _) (PB.quiet hI.1 (Mod.refl _ _) (HGs.out D 0 zw1 zw1 (by omega) (hI.1).g (Mod.refl _ _))) (upd_same V 0 _))
        ·intro D V zw1 a hR hI K hK;obtain ⟨hM1, hB1, hG1⟩ := hI.1;obtain ⟨hGK, hG1⟩ := hG1;have zd0 := hR.pred 0 (by kernel_rfl);have zf0 : V 0 = .pointer (some ⟨g, 0, none⟩) := hI.2 0 zd0 rfl;have ze67 := hR.frame.done (t := 67) (j := 0) (by kernel_rfl) hR.ok zd0;rw [if_pos (by rfl)];go_simp;exact hK (.pointer (some ⟨g, 0, none⟩)) _ (hI.next hR (by kernel_rfl) (Mod.refl _ _) (PB.quiet hI.1 (Mod.refl _ _) (HGs.out D 1 zw1 zw1 (by omega) (hI.1).g (Mod.refl _ _))) (upd_same V 1 _))
        ·intro D V zw1 a hR hI K hK;obtain ⟨hM1, hB1, hG1⟩ := hI.1;obtain ⟨hGK, hG1⟩ := hG1;have zd1 := hR.pred 1 (by kernel_rfl);have zf1 : V 1 = .pointer (some ⟨g, 0, none⟩) := hI.2 1 zd1 rfl;have ze68 := hR.frame.done (t := 68) (j := 1) (by kernel_rfl) hR.ok zd1;rw [if_pos (by rfl)];go_simp;exact hK (.pointer (some ⟨g, 1, none⟩)) _ (hI.next hR (by kernel_rfl) (Mod.refl _ _) (PB.quiet hI.1 (Mod.refl _ _) (HGs.out D 2 zw1 zw1 (by omega) (hI.1).g (Mod.refl _ _))) (upd_same V 2 _))
        ·intro D V zw1 a hR hI K hK;obtain ⟨hM1, hB1, hG1⟩ := hI.1;obtain ⟨hGK, hG1⟩ := hG1;have zd2 := hR.pred 2 (by kernel_rfl);have zf2 : V 2 = .pointer (some ⟨g, 1, none⟩) := hI.2 2 zd2 rfl;have ze69 := hR.frame.done (t := 69) (j := 2) (by kernel_rfl) hR.ok zd2;have zx0 := hG1.1.cell 1;simp at zx0;rw [if_pos (by rfl)];go_simp;exact hK (.map (some bm)) _ (hI.next hR (by kernel_rfl) (Mod.refl _ _) (PB.quiet hI.1 (Mod.refl _ _) (HGs.out D 3 zw1 zw1 (by omega) (hI.1).g (Mod.refl _ _))) (upd_same V 3 _))
        ·intro D V zw1 a hR hI K hK;obtain ⟨hM1, hB1, hG1⟩ := hI.1;obtain ⟨hGK, hG1⟩ := hG1;have ze12 := hR.frame.other (t := 12) (by kernel_rfl) rfl;rw [if_pos (by rfl)];go_simp;exact hK (.pointer (some ⟨gx, 0, none⟩)) _ (hI.next hR (by kernel_rfl) (Mod.refl _ _) (PB.quiet hI.1 (Mod.refl _ _) (HGs.out D 4 zw1 zw1 (by omega) (hI.1).g (Mod.refl _ _))) (upd_same V 4 _))
        ·intro D V zw1 a hR hI K hK;obtain ⟨hM1, hB1, hG1⟩ := hI.1;obtain ⟨hGK, hG1⟩ := hG1;have zd4 := hR.pred 4 (by kernel_rfl);have zf4 : V 4 = .pointer (some ⟨gx, 0, none⟩) := hI.2 4 zd4 rfl;have ze71 := hR.frame.done (t := 71) (j := 4) (by kernel_rfl) hR.ok zd4;have zx0 := hG1.2.cell 0;simp at zx0;rw [if_pos (by rfl)];go_simp;exact hK (.string ⟨xid.toArray⟩) _ (hI.next hR (by kernel_rfl) (Mod.refl _ _) (PB.quiet hI.1 (Mod.refl _ _) (HGs.out D 5 zw1 zw1 (by omega) (hI.1).g (Mod.refl _ _))) (upd_same V 5 _))
        ·intro D V zw1 a hR hI K hK;obtain ⟨hM1, hB1, hG1⟩ := hI.1;obtain ⟨hGK, hG1⟩ := hG1;have zd3 := hR.pred 3 (by kernel_rfl);have zf3 : V 3 = .map (some bm) := hI.2 3 zd3 rfl;have zd5 := hR.pred 5 (by kernel_rfl);have zf5 : V 5 = .string ⟨xid.toArray⟩ := hI.2 5 zd5 rfl;have ze70 := hR.frame.done (t := 70) (j := 3) (by kernel_rfl) hR.ok zd3;have ze72 := hR.frame.done (t := 72) (j := 5) (by kernel_rfl) hR.ok zd5;rw [if_pos (by rfl)];obtain ⟨w6', hrun6, hS6, hm6⟩ := (hGK hR.not).store (t := 47) (e := 3) Tryz.underlying47 (by omega) xid (by omega) (.int .i64 0);go_simp;refine hK undef _ (InvF.last ⟨hM1.trans' hm6 (fun i hi hlt => hi), (by have := hm6.size; omega), ⟨fun hs => absurd hs (by rw [upd_same]; decide), ⟨hG1.1.mod hm6 (by omega), hG1.2.mod hm6 (by omega)⟩⟩⟩ ⟨upd_same _ 6 _, hS6⟩ ?_);intro k hk hDk hlv;have hkl := hR.lt k hDk;have hv := hI.2 k hDk (liveB_of hlv)
         match k, hk, hDk, hlv, hkl, hv with
         | 0, _, _, _, _, hv => exact hv
         | 1, _, _, _, _, hv => exact hv
         | 2, _, _, _, _, hv => exact hv
         | 3, _, _, _, _, hv => exact hv
         | 4, _, _, _, _, hv => exact hv
         | 5, _, _, _, _, hv => exact hv
         | 6, hk, _, _, _, _ => exact absurd rfl hk
         | k + 7, _, _, _, hkl, _ => exact absurd hkl (by simp)
       ·intro D V w9 hD hI;obtain ⟨hM1, hB1, hG1⟩ := hI.1;have hMx := hM1;clear hM1;have hBx := hB1;clear hB1;have hGx := hG1.2;clear hG1;have zf0 : V 0 = .pointer (some ⟨g, 0, none⟩) := hI.2 0 (hD 0 (by decide)) rfl;have zf1 : V 1 = .pointer (some ⟨g, 0, none⟩) := hI.2 1 (hD 1 (by decide)) rfl;have zf2 : V 2 = .pointer (some ⟨g, 1, none⟩) := hI.2 2 (hD 2 (by decide)) rfl;have zf3 : V 3 = .map (some bm) := hI.2 3 (hD 3 (by decide)) rfl;have zf4 : V 4 = .pointer (some ⟨gx, 0, none⟩) := hI.2 4 (hD 4 (by decide)) rfl;have zf5 : V 5 = .string ⟨xid.toArray⟩ := hI.2 5 (hD 5 (by decide)) rfl;have zF6 : V 6 = undef ∧ MapS w9 bm (n + 1) (fun q => if q = xid then some (.int .i64 0) else if q ∈ (its.take k).map (·.id) then some (.int .i64 0) else none) := hI.2 6 (hD 6 (by decide)) rfl;obtain ⟨zf6, b6_0⟩ := zF6;clear hI hD HGs;simp only [frAll, Act.put, List.setIfInBounds_toArray, List.set_cons_zero, List.set_cons_succ, Nat.zero_add, Nat.reduceAdd, zf0, zf1, zf2, zf3, zf4, zf5, zf6];clear zf0 zf1 zf2 zf3 zf4 zf5 zf6;clear V D;have HMPA := Lib.hid b6_0;have HMA := Lib.hid hMx;clear b6_0 hMx hGx hBx HMP8 HM8 HD8 HXB
        go_wp2_with fail
        go_roundg (its.length - (k + 1))
        case measure => omega
        case rel =>
         refine ⟨k + 1, n + 1, rfl, by omega, by simp, by omega, ?_, HMA.out⟩
         have e : (fun s => if s ∈ (its.take (k + 1)).map (·.id) then some (Value.int .i64 0) else none) = (fun q => if q = xid then some (Value.int .i64 0) else if q ∈ (its.take k).map (·.id) then some (.int .i64 0) else none) := by
          funext q
          rw [HTT.out]
          by_cases e1 : q = xid
          ·subst e1; simp
          ·simp only [List.mem_append, List.mem_singleton, e1, or_false, if_false]
         rw [e];exact HMPA.out
      ·obtain rfl : k = its.length := by omega
       rw [List.take_length] at hmp;have HIN := Lib.hid (show (its.map (·.id)).Nodup from List.pairwise_map.2 HRR.out.distinct);have HST : Hid (StM w7 bm (fun x => x) (its.map (·.id)) (fun _ => 0)) := Lib.hid (hmp.exact HIN.out (fun s => by by_cases h : s ∈ its.map (·.id) <;> simp [h]));have HRO := Lib.hid (own_mod HOF.out.1 hm (fun j hj => by obtain ⟨arr, h⟩ := own_heap HOF.out.1 hj; exact hcl _ _ _ _ h));have HRS := Lib.hid (fun p hp => (HOF.out.2.2 p hp).mod hm (fun i arr fr hi => hcl i arr _ fr hi));have HD7 := Lib.hid (HOF.out.2.1.mod hm hgbm);have HPF := Lib.hid ((HP2.out.trans' HM.out (fun i hi hlt => by omega)).trans' hm (fun i hi hlt => by omega));clear hmp hm hcl
       go_wp2_with fail
       go_ret;obtain ⟨d1, d2, d3, d4⟩ := HDN.out;exact ⟨g, bm, rfl, by omega, by omega, ⟨Ao, cap, os, none, 0, [], by rw [d4]; exact HD7.out, ⟨Sl.of_own HRO.out, HRS.out⟩, by rw [HOM9.out, d1], by rw [d2]; exact HST.out, ⟨World.ownsRow_nil _ _ _ _, fun x h => absurd h (by simp), by rw [d3]; rfl⟩, rfl⟩, HPF.out⟩
end Go.Proofs.YtgfgggeeoeppjaaGreatDoor
/- Progress of the program and of the reference. -/
namespace Go.Proofs.YtgfgggeeoeppjaaGreatDoor
open Go.RowKit
def cntL (ids : List Str) (left : Str → Bool) (P : Str → Bool) : Nat := (ids.filter fun s => !left s && P s).length
theorem cntL_le (ids : List Str) (left P : Str → Bool) : cntL ids left P ≤ ids.length := List.length_filter_le _ _
theorem cntL_start (ids : List Str) {F : Str → Option Value} (P : Str → Bool) {v : Str → Value} (hF : F = fun s => if s ∈ ids then some (v s) else none) : cntL ids (fun s => (F s).isSome) P = 0 := by
 subst hF;unfold cntL;rw [List.length_eq_zero_iff, List.filter_eq_nil_iff];intro s hs;simp [hs]
theorem cntL_end {ids : List Str} {left : Str → Bool} (h : ∀ s, left s = false) (P : Str → Bool) : cntL ids left P = (ids.filter P).length := by
 unfold cntL
 congr 1
 apply List.filter_congr
 intro s _;rw [h s]
 rfl
theorem cntL_step : ∀ {ids : List Str} {left : Str → Bool} {s : Str}, ids.Nodup → s ∈ ids → left s = true → ∀ P : Str → Bool, cntL ids (fun x => left x && !decide (x = s)) P = cntL ids left P + (if P s = true then 1 else 0)
 | [], _, _, _, h, _, _ => absurd h (by simp)
 | a :: t, left, s, hn, hs, hl, P => by
  obtain ⟨h1, h2⟩ := List.nodup_cons.1 hn;unfold cntL;rw [List.filter_cons, List.filter_cons]
  by_cases e : a = s
  ·subst e
   have ht : (t.filter fun x => !(left x && !decide (x = a)) && P x) = t.filter fun x => !left x && P x := by
    apply List.filter_congr
    intro x hx;have : x ≠ a := fun h => h1 (h ▸ hx);simp [this]
   rw [ht]
   by_cases hp : P a = true
   ·simp [hl, hp]
   ·simp [hl, hp]
  ·have hs2 : s ∈ t := by
    rcases List.mem_cons.1 hs with h | h
    ·exact absurd h.symm e
    ·exact h
   have ih := cntL_step (left := left) h2 hs2 hl P;unfold cntL at ih
   by_cases hp : (!left a && P a) = true
   ·rw [if_pos hp, if_pos (by simpa [e] using hp), List.length_cons, List.length_cons, ih]
    omega
   ·rw [if_neg hp, if_neg (by simpa [e] using hp), ih]
def prgV (ids : List Str) (st : Str → Int) : Value := .agg #[.int .i64 (ids.length : Int), .int .i64 ((ids.filter fun s => decide (st s < 0)).length : Int), .int .i64 ((ids.filter fun s => decide (0 < st s)).length : Int), .int .i64 ((ids.filter fun s => decide (st s = 0)).length : Int)]
set_option maxHeartbeats 8000000 in
theorem pprogress_calls (w : World) (g bm : Nat) (bo : Option Nat) (ids : List Str) (d : DskR) (hD : DkP w g bm bo ids d) (hO : DkOk ids d) :
  Calls Tryz.prog 22 #[.pointer (some ⟨g, 0, none⟩)] w (fun e w' => e = .returned (prgV ids d.st) ∧ Pure w w') := by
 obtain ⟨FA, fc, fms, BA, bc, bts, hB, hF, hfe, hS, hBT, hbo⟩ := hD;have hnd := hO.nd;have hil := hO.il;have hp1 := pure_alloc w (.cells #[.int .i64 0, .int .i64 0, .int .i64 0, .int .i64 0] 55);have HB21 := Lib.hid (Blk.new w 55 #[.int .i64 0, .int .i64 0, .int .i64 0, .int .i64 0]);have hp2 := pure_alloc (w.alloc (.cells #[.int .i64 0, .int .i64 0, .int .i64 0, .int .i64 0] 55)) (.cells #[.int .i64 (ids.length : Int), .int .i64 0, .int .i64 0, .int .i64 0] 55);have HB22 := Lib.hid (HB21.out.modp hp2);have HB32 := Lib.hid (Blk.snd w (.cells #[.int .i64 0, .int .i64 0, .int .i64 0, .int .i64 0] 55) 55 #[.int .i64 (ids.length : Int), .int .i64 0, .int .i64 0, .int .i64 0]);have hB2 := (hB.modp hp1).modp hp2;have hS2 := (hS.pure hp1).pure hp2;have hlen := MapX.len (t := 47) (e := 3) (hS.pure hp1) Tryz.underlying47;have HM2 := Lib.hid (hp1.trans hp2);have hbmw := hS.lt;have hgw := hB.lt;have hB1 := hB.modp hp1;unfold prgV;clear hF hfe hBT hbo hO hp1 hp2 HB21 hS;have z0 := hB1.cell 0; have z1 := hB1.cell 1; have z2 := hB1.cell 2; have z3 := hB1.cell 3; simp at z0 z1 z2 z3;have x0 := hB2.cell 0; have x1 := hB2.cell 1; have x2 := hB2.cell 2; have x3 := hB2.cell 3; simp at x0 x1 x2 x3;clear hB hB1 hB2
 go_enter Tryz.func22, Tryz.ntmps22
 go_upto_region 2 with (fail)
 clear z0 z1 z2 z3 hlen;obtain ⟨w3, m, hrun, hrg, hmn, hp3, hs3⟩ := (MapX.s hS2).range (t := 47) (e := 3) Tryz.underlying47;generalize ((w.alloc (.cells #[.int .i64 0, .int .i64 0, .int .i64 0, .int .i64 0] 55)).alloc (.cells #[.int .i64 (ids.length : Int), .int .i64 0, .int .i64 0, .int .i64 0] 55)) = w2 at *;generalize hg3 : w.heap.size + 1 = g3 at *;generalize hg2 : w.heap.size = g2 at *;have hg3a := Nat.le_of_eq hg3;have hg3b := Nat.le_of_eq hg3.symm;have hg2a := Nat.le_of_eq hg2;have hg2b := Nat.le_of_eq hg2.symm;have HB23 := Lib.hid (HB22.out.modp hp3);have HB33 := Lib.hid (HB32.out.modp hp3);have HM3 := Lib.hid (HM2.out.trans hp3);have HRG := Lib.hid hrg;have hr2 : g3 < w2.heap.size := HB32.out.lt;have HST := Lib.hid (fun P => cntL_start ids (F := fun s => if s ∈ ids then some (.int .i64 (pst (d.st s))) else none) P rfl);generalize hr : w2.heap.size = r at *;clear hg3 hg2 hr hp3 hrg hS2 HM2 HB22 HB32 hs3
 go_wp2_with fail
 go_loopg [] m (fun gk wr => ∃ left : Str → Bool, MapRg wr bm r (fun s => if s ∈ ids then some (.int .i64 (pst (d.st s))) else none) left gk ∧ Blk wr g3 55 #[.int .i64 (ids.length : Int), .int .i64 (cntL ids left (fun s => decide (d.st s < 0)) : Int), .int .i64 (cntL ids left (fun s => decide (0 < d.st s)) : Int), .int .i64 (cntL ids left (fun s => decide (d.st s = 0)) : Int)] ∧ Blk wr g2 55 #[.int .i64 0, .int .i64 0, .int .i64 0, .int .i64 0] ∧ Pure w wr)
 case atStart => exact ⟨_, HRG.out, by rw [HST.out, HST.out, HST.out]; exact HB33.out, HB23.out, HM3.out⟩
 case round =>
  clear HRG HB33 HB23 HM3 HST hrun x0 x1 x2 x3;obtain ⟨left, hrg, hb3, hb2, hm⟩ := hrel
  rcases hrg.next with ⟨h0, hall, hnx⟩ | ⟨s, v, w4, cnt2, hls, hfs, hnx, hrg2, hlt2, hm2, hsz2, hen⟩
  ·subst h0;have HE := Lib.hid (fun P => cntL_end (ids := ids) (left := left) hall P);have HB2 := Lib.hid hb2;have HM := Lib.hid hm;have x0 := hb3.cell 0; have x1 := hb3.cell 1; have x2 := hb3.cell 2; have x3 := hb3.cell 3; simp at x0 x1 x2 x3;have t0 := hb2.cell 0; have tf0 := hb2.frozen 0; have t1 := hb2.cell 1; have tf1 := hb2.frozen 1; have t2 := hb2.cell 2; have tf2 := hb2.frozen 2; have t3 := hb2.cell 3; have tf3 := hb2.frozen 3; simp at t0 t1 t2 t3;clear hrg hall hb3 hb2 hm
   go_wp2_with fail
   have hB9 := HB2.out.set4 (x := .int .i64 (ids.length : Int)) (y := .int .i64 (cntL ids left (fun s => decide (d.st s < 0)) : Int)) (z := .int .i64 (cntL ids left (fun s => decide (0 < d.st s)) : Int)) (u := .int .i64 (cntL ids left (fun s => decide (d.st s = 0)) : Int));have u0 := hB9.cell 0; have u1 := hB9.cell 1; have u2 := hB9.cell 2; have u3 := hB9.cell 3; simp at u0 u1 u2 u3;refine bodyPost_ret (v := .agg #[.int .i64 (ids.length : Int), .int .i64 (cntL ids left (fun s => decide (d.st s < 0)) : Int), .int .i64 (cntL ids left (fun s => decide (0 < d.st s)) : Int), .int .i64 (cntL ids left (fun s => decide (d.st s = 0)) : Int)]) (by simp [results, Tryz.results22, go_sem, u0, u1, u2, u3]) rfl ?_;refine ⟨by rw [HE.out, HE.out, HE.out], (((HM.out.setCell (.inr (by show _ ≤ g2; omega)) _).setCell (.inr (by show _ ≤ g2; omega)) _).setCell (.inr (by show _ ≤ g2; omega)) _).setCell (.inr (by show _ ≤ g2; omega)) _⟩
  ·obtain ⟨hmem, rfl⟩ : s ∈ ids ∧ v = .int .i64 (pst (d.st s)) := by
    by_cases hmem : s ∈ ids
    ·simp only [if_pos hmem] at hfs;exact ⟨hmem, (Option.some.inj hfs).symm⟩
    ·simp only [if_neg hmem] at hfs
     cases hfs
   have HCS := Lib.hid (fun P => cntL_step hnd hmem hls P);have hb3' := hb3.mod hm2 (by have := hrg.iter.1; intro e; subst e; unfold Blk at hb3; exact this _ _ _ hb3);have hb2' := hb2.mod hm2 (by have := hrg.iter.1; intro e; subst e; unfold Blk at hb2; exact this _ _ _ hb2);have hmm : Pure w w4 := hm.trans' hm2 (fun k hk hl => by omega);have HM4 := Lib.hid hmm;have HRG4 := Lib.hid hrg2;have HB34 := Lib.hid hb3';have HB24 := Lib.hid hb2';have hcc := cntL_le ids left (fun s => decide (d.st s < 0));have hco := cntL_le ids left (fun s => decide (0 < d.st s));have hc0 := cntL_le ids left (fun s => decide (d.st s = 0));have hrb := hrg.iter;have hrl := hrg.lt;have x0 := hb3'.cell 0; have x1 := hb3'.cell 1; have x2 := hb3'.cell 2; have x3 := hb3'.cell 3; simp at x0 x1 x2 x3;have f1 := hb3'.frozen 1;have f2 := hb3'.frozen 2;have f3 := hb3'.frozen 3;have f0 := hb3'.frozen 0;clear hrg hrg2 hb3 hb2 hb3' hb2' hm hm2 hmm hfs hls hsz2
   rcases Int.lt_trichotomy (d.st s) 0 with hlt | heq | hgt
   ·have hx := hlt;have HX := Lib.hid hx
    have hv1 : pst (d.st s) = 2 := by unfold pst; rw [if_neg (by omega), if_pos hx]
    rw [hv1] at hnx hen;clear hv1;clear hx
    go_wp2_with fail
    go_roundg cnt2
    case measure => exact hlt2
    case rel =>
     have hx := HX.out;have hmS : Mod (· = g3) w4 (w4.setCell ⟨g3, 1, none⟩ (.int .i64 ((cntL ids left (fun s => decide (d.st s < 0)) : Int) + 1))) := (Mod.refl (· = g3) w4).setCell (.inl rfl) _;have hB := HB34.out.set 1 (.int .i64 ((cntL ids left (fun s => decide (d.st s < 0)) : Int) + 1));have HC0 := HCS.out (fun s => decide (d.st s = 0));have HC1 := HCS.out (fun s => decide (0 < d.st s));have HC2 := HCS.out (fun s => decide (d.st s < 0));rw [if_neg (by simp; omega)] at HC0;rw [if_neg (by simp; omega)] at HC1;rw [if_pos (by simpa using hx)] at HC2;refine ⟨_, HRG4.out.mod hmS (by omega) (fun e => by subst e; have h := HRG4.out.iter.1; have h2 := HB34.out; unfold Blk at h2; exact h _ _ _ h2), ?_, HB24.out.mod hmS (by omega), HM4.out.trans' hmS (fun i hi hl => by omega)⟩;rw [HC0, HC1, HC2]
     simpa using hB
   ·have hx := heq;have HX := Lib.hid hx
    have hv1 : pst (d.st s) = 0 := by unfold pst; rw [if_pos hx]
    rw [hv1] at hnx hen;clear hv1;clear hx
    go_wp2_with fail
    go_roundg cnt2
    case measure => exact hlt2
    case rel =>
     have hx := HX.out;have hmS : Mod (· = g3) w4 (w4.setCell ⟨g3, 3, none⟩ (.int .i64 ((cntL ids left (fun s => decide (d.st s = 0)) : Int) + 1))) := (Mod.refl (· = g3) w4).setCell (.inl rfl) _;have hB := HB34.out.set 3 (.int .i64 ((cntL ids left (fun s => decide (d.st s = 0)) : Int) + 1));have HC0 := HCS.out (fun s => decide (d.st s = 0));have HC1 := HCS.out (fun s => decide (0 < d.st s));have HC2 := HCS.out (fun s => decide (d.st s < 0));rw [if_pos (by simpa using hx)] at HC0;rw [if_neg (by simp; omega)] at HC1;rw [if_neg (by simp; omega)] at HC2;refine ⟨_, HRG4.out.mod hmS (by omega) (fun e => by subst e; have h := HRG4.out.iter.1; have h2 := HB34.out; unfold Blk at h2; exact h _ _ _ h2), ?_, HB24.out.mod hmS (by omega), HM4.out.trans' hmS (fun i hi hl => by omega)⟩;rw [HC0, HC1, HC2]
     simpa using hB
   ·have hx := hgt;have HX := Lib.hid hx
    have hv1 : pst (d.st s) = 1 := by unfold pst; rw [if_neg (by omega), if_neg (by omega)]
    rw [hv1] at hnx hen;clear hv1;clear hx
    go_wp2_with fail
    go_roundg cnt2
    case measure => exact hlt2
    case rel =>
     have hx := HX.out;have hmS : Mod (· = g3) w4 (w4.setCell ⟨g3, 2, none⟩ (.int .i64 ((cntL ids left (fun s => decide (0 < d.st s)) : Int) + 1))) := (Mod.refl (· = g3) w4).setCell (.inl rfl) _;have hB := HB34.out.set 2 (.int .i64 ((cntL ids left (fun s => decide (0 < d.st s)) : Int) + 1));have HC0 := HCS.out (fun s => decide (d.st s = 0));have HC1 := HCS.out (fun s => decide (0 < d.st s));have HC2 := HCS.out (fun s => decide (d.st s < 0));rw [if_neg (by simp; omega)] at HC0;rw [if_pos (by simpa using hx)] at HC1;rw [if_neg (by simp; omega)] at HC2;refine ⟨_, HRG4.out.mod hmS (by omega) (fun e => by subst e; have h := HRG4.out.iter.1; have h2 := HB34.out; unfold Blk at h2; exact h _ _ _ h2), ?_, HB24.out.mod hmS (by omega), HM4.out.trans' hmS (fun i hi hl => by omega)⟩;rw [HC0, HC1, HC2]
     simpa using hB
end Go.Proofs.YtgfgggeeoeppjaaGreatDoor
/- Progress of the reference. -/
namespace Go.Proofs.YtgfgggeeoeppjaaGreatDoor
open Go.RowKit
set_option maxHeartbeats 8000000 in
theorem rprogress_calls (w : World) (g bm : Nat) (bo : Option Nat) (ids : List Str) (d : DskR) (hD : DkR w g bm bo ids d) (hO : DkOk ids d) :
  Calls Tryz.prog 23 #[.pointer (some ⟨g, 0, none⟩)] w (fun e w' => e = .returned (prgV ids d.st) ∧ Pure w w') := by
 obtain ⟨FA, fc, fms, BA, bc, bts, hB, hF, hfe, hS, hBT, hbo⟩ := hD;have hnd := hO.nd;have hil := hO.il;have hp1 := pure_alloc w (.cells #[.int .i64 0, .int .i64 0, .int .i64 0, .int .i64 0] 55);have HB21 := Lib.hid (Blk.new w 55 #[.int .i64 0, .int .i64 0, .int .i64 0, .int .i64 0]);have hp2 := pure_alloc (w.alloc (.cells #[.int .i64 0, .int .i64 0, .int .i64 0, .int .i64 0] 55)) (.cells #[.int .i64 0, .int .i64 0, .int .i64 0, .int .i64 0] 55);have HB22 := Lib.hid (HB21.out.modp hp2);have HB32 := Lib.hid (Blk.snd w (.cells #[.int .i64 0, .int .i64 0, .int .i64 0, .int .i64 0] 55) 55 #[.int .i64 0, .int .i64 0, .int .i64 0, .int .i64 0]);have hB2 := (hB.modp hp1).modp hp2;have hS2 := (hS.pure hp1).pure hp2;have hlen := MapX.len (t := 47) (e := 3) (hS.pure hp1) Tryz.underlying47;have HM2 := Lib.hid (hp1.trans hp2);have hbmw := hS.lt;have hgw := hB.lt;have hB1 := hB.modp hp1;unfold prgV;clear hF hfe hBT hbo hO hp1 hp2 HB21 hS;have z0 := hB1.cell 0; have z1 := hB1.cell 1; have z2 := hB1.cell 2; have z3 := hB1.cell 3; simp at z0 z1 z2 z3;have x0 := hB2.cell 0; have x1 := hB2.cell 1; have x2 := hB2.cell 2; have x3 := hB2.cell 3; simp at x0 x1 x2 x3;clear hB hB1 hB2
 go_enter Tryz.func23, Tryz.ntmps23
 go_upto_region 2 with (fail)
 clear z0 z1 z2 z3 hlen;obtain ⟨w3, m, hrun, hrg, hmn, hp3, hs3⟩ := (MapX.s hS2).range (t := 47) (e := 3) Tryz.underlying47;generalize ((w.alloc (.cells #[.int .i64 0, .int .i64 0, .int .i64 0, .int .i64 0] 55)).alloc (.cells #[.int .i64 0, .int .i64 0, .int .i64 0, .int .i64 0] 55)) = w2 at *;generalize hg3 : w.heap.size + 1 = g3 at *;generalize hg2 : w.heap.size = g2 at *;have hg3a := Nat.le_of_eq hg3;have hg3b := Nat.le_of_eq hg3.symm;have hg2a := Nat.le_of_eq hg2;have hg2b := Nat.le_of_eq hg2.symm;have HB23 := Lib.hid (HB22.out.modp hp3);have HB33 := Lib.hid (HB32.out.modp hp3);have HM3 := Lib.hid (HM2.out.trans hp3);have HRG := Lib.hid hrg;have hr2 : g3 < w2.heap.size := HB32.out.lt;have HST := Lib.hid (fun P => cntL_start ids (F := fun s => if s ∈ ids then some (.int .i64 (d.st s)) else none) P rfl);generalize hr : w2.heap.size = r at *;clear hg3 hg2 hr hp3 hrg hS2 HM2 HB22 HB32 hs3
 go_wp2_with fail
 go_loopg [] m (fun gk wr => ∃ left : Str → Bool, MapRg wr bm r (fun s => if s ∈ ids then some (.int .i64 (d.st s)) else none) left gk ∧ Blk wr g3 55 #[.int .i64 (cntL ids left (fun _ => true) : Int), .int .i64 (cntL ids left (fun s => decide (d.st s < 0)) : Int), .int .i64 (cntL ids left (fun s => decide (0 < d.st s)) : Int), .int .i64 (cntL ids left (fun s => decide (d.st s = 0)) : Int)] ∧ Blk wr g2 55 #[.int .i64 0, .int .i64 0, .int .i64 0, .int .i64 0] ∧ Pure w wr)
 case atStart => exact ⟨_, HRG.out, by rw [HST.out, HST.out, HST.out, HST.out]; exact HB33.out, HB23.out, HM3.out⟩
 case round =>
  clear HRG HB33 HB23 HM3 HST hrun x0 x1 x2 x3;obtain ⟨left, hrg, hb3, hb2, hm⟩ := hrel
  rcases hrg.next with ⟨h0, hall, hnx⟩ | ⟨s, v, w4, cnt2, hls, hfs, hnx, hrg2, hlt2, hm2, hsz2, hen⟩
  ·subst h0;have HE := Lib.hid (fun P => cntL_end (ids := ids) (left := left) hall P);have HB2 := Lib.hid hb2;have HM := Lib.hid hm;have x0 := hb3.cell 0; have x1 := hb3.cell 1; have x2 := hb3.cell 2; have x3 := hb3.cell 3; simp at x0 x1 x2 x3;have t0 := hb2.cell 0; have tf0 := hb2.frozen 0; have t1 := hb2.cell 1; have tf1 := hb2.frozen 1; have t2 := hb2.cell 2; have tf2 := hb2.frozen 2; have t3 := hb2.cell 3; have tf3 := hb2.frozen 3; simp at t0 t1 t2 t3;clear hrg hall hb3 hb2 hm
   go_wp2_with fail
   have hB9 := HB2.out.set4 (x := .int .i64 (cntL ids left (fun _ => true) : Int)) (y := .int .i64 (cntL ids left (fun s => decide (d.st s < 0)) : Int)) (z := .int .i64 (cntL ids left (fun s => decide (0 < d.st s)) : Int)) (u := .int .i64 (cntL ids left (fun s => decide (d.st s = 0)) : Int));have u0 := hB9.cell 0; have u1 := hB9.cell 1; have u2 := hB9.cell 2; have u3 := hB9.cell 3; simp at u0 u1 u2 u3;refine bodyPost_ret (v := .agg #[.int .i64 (cntL ids left (fun _ => true) : Int), .int .i64 (cntL ids left (fun s => decide (d.st s < 0)) : Int), .int .i64 (cntL ids left (fun s => decide (0 < d.st s)) : Int), .int .i64 (cntL ids left (fun s => decide (d.st s = 0)) : Int)]) (by simp [results, Tryz.results23, go_sem, u0, u1, u2, u3]) rfl ?_;refine ⟨by rw [HE.out (fun _ => true), show ids.filter (fun _ => true) = ids from List.filter_eq_self.2 (fun _ _ => rfl), HE.out, HE.out, HE.out], (((HM.out.setCell (.inr (by show _ ≤ g2; omega)) _).setCell (.inr (by show _ ≤ g2; omega)) _).setCell (.inr (by show _ ≤ g2; omega)) _).setCell (.inr (by show _ ≤ g2; omega)) _⟩
  ·obtain ⟨hmem, rfl⟩ : s ∈ ids ∧ v = .int .i64 (d.st s) := by
    by_cases hmem : s ∈ ids
    ·simp only [if_pos hmem] at hfs;exact ⟨hmem, (Option.some.inj hfs).symm⟩
    ·simp only [if_neg hmem] at hfs
     cases hfs
   have HCS := Lib.hid (fun P => cntL_step hnd hmem hls P);have hb3' := hb3.mod hm2 (by have := hrg.iter.1; intro e; subst e; unfold Blk at hb3; exact this _ _ _ hb3);have hb2' := hb2.mod hm2 (by have := hrg.iter.1; intro e; subst e; unfold Blk at hb2; exact this _ _ _ hb2);have hmm : Pure w w4 := hm.trans' hm2 (fun k hk hl => by omega);have HM4 := Lib.hid hmm;have HRG4 := Lib.hid hrg2;have HB34 := Lib.hid hb3';have HB24 := Lib.hid hb2';have hcc := cntL_le ids left (fun s => decide (d.st s < 0));have hco := cntL_le ids left (fun s => decide (0 < d.st s));have hc0 := cntL_le ids left (fun s => decide (d.st s = 0));have hci := cntL_le ids left (fun _ => true);have hrb := hrg.iter;have hrl := hrg.lt;have x0 := hb3'.cell 0; have x1 := hb3'.cell 1; have x2 := hb3'.cell 2; have x3 := hb3'.cell 3; simp at x0 x1 x2 x3;have f1 := hb3'.frozen 1;have f2 := hb3'.frozen 2;have f3 := hb3'.frozen 3;have f0 := hb3'.frozen 0;clear hrg hrg2 hb3 hb2 hb3' hb2' hm hm2 hmm hfs hls hsz2
   rcases Int.lt_trichotomy (d.st s) 0 with hlt | heq | hgt
   ·have hx := hlt;have HX := Lib.hid hx
    have hv1 : decide (d.st s < 0) = true := by simpa using hx
    clear hx
    go_wp2_with fail
    go_roundg cnt2
    case measure => exact hlt2
    case rel =>
     have hx := HX.out;have hmS : Mod (· = g3) w4 ((w4.setCell ⟨g3, 0, none⟩ (.int .i64 ((cntL ids left (fun _ => true) : Int) + 1))).setCell ⟨g3, 1, none⟩ (.int .i64 ((cntL ids left (fun s => decide (d.st s < 0)) : Int) + 1))) := ((Mod.refl (· = g3) w4).setCell (.inl rfl) _).setCell (.inl rfl) _;have hB := (HB34.out.set 0 (.int .i64 ((cntL ids left (fun _ => true) : Int) + 1))).set 1 (.int .i64 ((cntL ids left (fun s => decide (d.st s < 0)) : Int) + 1));have HC0 := HCS.out (fun s => decide (d.st s = 0));have HC1 := HCS.out (fun s => decide (0 < d.st s));have HC2 := HCS.out (fun s => decide (d.st s < 0));rw [if_neg (by simp; omega)] at HC0;rw [if_neg (by simp; omega)] at HC1;rw [if_pos (by simpa using hx)] at HC2;have HCA := HCS.out (fun _ => true);rw [if_pos rfl] at HCA;refine ⟨_, HRG4.out.mod hmS (by omega) (fun e => by subst e; have h := HRG4.out.iter.1; have h2 := HB34.out; unfold Blk at h2; exact h _ _ _ h2), ?_, HB24.out.mod hmS (by omega), HM4.out.trans' hmS (fun i hi hl => by omega)⟩;rw [HC0, HC1, HC2, HCA]
     simpa using hB
   ·have hx := heq;have HX := Lib.hid hx;have hv1 : d.st s = 0 := hx;rw [hv1] at hnx hen;clear hv1;clear hx
    go_wp2_with fail
    go_roundg cnt2
    case measure => exact hlt2
    case rel =>
     have hx := HX.out;have hmS : Mod (· = g3) w4 ((w4.setCell ⟨g3, 0, none⟩ (.int .i64 ((cntL ids left (fun _ => true) : Int) + 1))).setCell ⟨g3, 3, none⟩ (.int .i64 ((cntL ids left (fun s => decide (d.st s = 0)) : Int) + 1))) := ((Mod.refl (· = g3) w4).setCell (.inl rfl) _).setCell (.inl rfl) _;have hB := (HB34.out.set 0 (.int .i64 ((cntL ids left (fun _ => true) : Int) + 1))).set 3 (.int .i64 ((cntL ids left (fun s => decide (d.st s = 0)) : Int) + 1));have HC0 := HCS.out (fun s => decide (d.st s = 0));have HC1 := HCS.out (fun s => decide (0 < d.st s));have HC2 := HCS.out (fun s => decide (d.st s < 0));rw [if_pos (by simpa using hx)] at HC0;rw [if_neg (by simp; omega)] at HC1;rw [if_neg (by simp; omega)] at HC2;have HCA := HCS.out (fun _ => true);rw [if_pos rfl] at HCA;refine ⟨_, HRG4.out.mod hmS (by omega) (fun e => by subst e; have h := HRG4.out.iter.1; have h2 := HB34.out; unfold Blk at h2; exact h _ _ _ h2), ?_, HB24.out.mod hmS (by omega), HM4.out.trans' hmS (fun i hi hl => by omega)⟩;rw [HC0, HC1, HC2, HCA]
     simpa using hB
   ·have hx := hgt;have HX := Lib.hid hx
    have hv1 : ¬ d.st s < 0 := by omega
    have hv2 : decide (0 < d.st s) = true := by simpa using hx
    clear hx
    go_wp2_with fail
    go_roundg cnt2
    case measure => exact hlt2
    case rel =>
     have hx := HX.out;have hmS : Mod (· = g3) w4 ((w4.setCell ⟨g3, 0, none⟩ (.int .i64 ((cntL ids left (fun _ => true) : Int) + 1))).setCell ⟨g3, 2, none⟩ (.int .i64 ((cntL ids left (fun s => decide (0 < d.st s)) : Int) + 1))) := ((Mod.refl (· = g3) w4).setCell (.inl rfl) _).setCell (.inl rfl) _;have hB := (HB34.out.set 0 (.int .i64 ((cntL ids left (fun _ => true) : Int) + 1))).set 2 (.int .i64 ((cntL ids left (fun s => decide (0 < d.st s)) : Int) + 1));have HC0 := HCS.out (fun s => decide (d.st s = 0));have HC1 := HCS.out (fun s => decide (0 < d.st s));have HC2 := HCS.out (fun s => decide (d.st s < 0));rw [if_neg (by simp; omega)] at HC0;rw [if_pos (by simpa using hx)] at HC1;rw [if_neg (by simp; omega)] at HC2;have HCA := HCS.out (fun _ => true);rw [if_pos rfl] at HCA;refine ⟨_, HRG4.out.mod hmS (by omega) (fun e => by subst e; have h := HRG4.out.iter.1; have h2 := HB34.out; unfold Blk at h2; exact h _ _ _ h2), ?_, HB24.out.mod hmS (by omega), HM4.out.trans' hmS (fun i hi hl => by omega)⟩;rw [HC0, HC1, HC2, HCA]
     simpa using hB
end Go.Proofs.YtgfgggeeoeppjaaGreatDoor
