/- Texts of the proof of CodingLatest, put together: LatA. -/
import Derived.Test.YtkkndblcejmmjaaGreatDoorCodingLatestZ20
import Derived.Test.YtkkndblcejmmjaaGreatDoorCodingLatestZ26
import Derived.Test.YtkkndblcejmmjaaGreatDoorCodingLatestZ27
import Derived.Test.YtkkndblcejmmjaaGreatDoorCodingLatestZ40
/- The latest decisions on items: latest of the program. -/
namespace Go.Proofs.YtkkndblcejmmjaaGreatDoor
set_option linter.unusedVariables false
set_option linter.unusedSimpArgs false
open Go.RowKit

theorem zero_dec (W : World) : (zeroValue 40).run Tryz.prog W = .ok (DecVal decN) W := by kernel_rfl
theorem MapS.al {w : World} {b n : Nat} {f : Str → Option Value} (h : MapS w b n f) (o : Obj) : MapS (w.alloc o) b n f := h.pure (pure_alloc _ _)
/-- Whether a decision takes the place of the latest one so far. -/
def condL (al : List AskR) (at_ : Int) (o : Option DecR) (x : DecR) : Bool := decide (x.at_ ≤ at_) && (!o.isSome || decide (0 < laterP al x (o.getD decN)))
theorem lat_step (al : List AskR) (at_ : Int) (ds : List DecR) (x : DecR) (s : Str) : latO al (prI s at_) (ds ++ [x]) = if condL al at_ (latO al (prI x.item at_) ds) x = true then (if s = x.item then some x else latO al (prI s at_) ds) else latO al (prI s at_) ds := by
  rw [latO_snoc]
  unfold latF prI
  by_cases hs : x.item = s
  · subst hs
    unfold condL
    by_cases ha : x.at_ ≤ at_
    · simp only [ha, decide_true, Bool.and_self, Bool.true_and, if_true]
      generalize latO al (fun y => decide (y.item = x.item) && decide (y.at_ ≤ at_)) ds = o
      cases o with
      | none => simp
      | some y =>
        simp only [laterS, sgI_pos, Option.isSome_some, Bool.not_true, Bool.false_or, Option.getD_some, decide_eq_true_eq]
    · simp [ha]
  · have h2 : ¬ s = x.item := fun e => hs e.symm
    simp [hs, h2]
/-- What the map of latest decisions leads to. -/
def latM (al : List AskR) (at_ : Int) (ds : List DecR) (s : Str) : Option Value := (latO al (prI s at_) ds).map DecVal
theorem latM_yes {al : List AskR} {at_ : Int} {ds : List DecR} {x : DecR} (h : condL al at_ (latO al (prI x.item at_) ds) x = true) : (fun s => if s = x.item then some (DecVal x) else latM al at_ ds s) = latM al at_ (ds ++ [x]) := by
  funext s
  unfold latM
  rw [lat_step, if_pos h]
  by_cases hs : s = x.item
  · rw [if_pos hs, if_pos hs]; rfl
  · rw [if_neg hs, if_neg hs]
theorem latM_no {al : List AskR} {at_ : Int} {ds : List DecR} {x : DecR} (h : condL al at_ (latO al (prI x.item at_) ds) x = false) : latM al at_ ds = latM al at_ (ds ++ [x]) := by
  funext s
  unfold latM
  rw [lat_step, if_neg (by simp [h])]
def LtPost (w : World) (al : List AskR) (at_ : Int) (ds : List DecR) (e : Ending) (w' : World) : Prop := ∃ b n, e = .returned (.map (some b)) ∧ MapS w' b n (latM al at_ ds) ∧ n ≤ ds.length ∧ Pure w w'
def LtRel (w : World) (b g3 : Nat) (lay : Array Value) (al : List AskR) (at_ : Int) (ds : List DecR) (gk : Nat) (i : Value) (wr : World) : Prop :=
  ∃ k n : Nat, ds.length - k = gk ∧ k ≤ ds.length ∧ i = .int .i64 (k : Int) ∧ MapS wr b n (latM al at_ (ds.take k)) ∧ n ≤ k ∧ Blk wr g3 29 lay ∧ Pure w wr

set_option maxRecDepth 100000 in
set_option maxHeartbeats 8000000 in
theorem latest_calls (w : World) (vl : Value) (L : LayR) (A3 : Option Addr) (n3 c3 : Nat) (ds : List DecR) (at_ : Int) (hL : LayV w L vl) (hLB : LayB L) (hD : Decs w (.slice A3 n3 c3) ds) (hz : ∀ d ∈ ds, DecB d) (hn : ds.length ≤ 4000) (hk : ∀ d ∈ ds, ∀ z ∈ d.vals, 0 ≤ kIx L.asks z.field) :
    Calls Tryz.prog 97 #[vl, .slice A3 n3 c3, .int .i64 at_] w (LtPost w L.asks at_ ds) := by
  have HLT := Lib.hid (fun W (h : Pure w W) (x y : DecR) (hx : x ∈ ds) (hy : y ∈ ds) => later_calls W vl L x y (hL.pure h) hLB ((hD.2 x hx).pure h) ((hD.2 y hy).pure h) (hz x hx) (hz y hy) (hk x hx))
  have hl := hD.len
  subst hl
  have HD := Lib.hid hD
  have HZ := Lib.hid hz
  obtain ⟨A, n, c, A2, n2, c2, rfl, _, _⟩ := hL
  have HB0 := Lib.hid (Blk.new w 29 #[.slice A n c, .slice A2 n2 c2])
  have HP0 := Lib.hid (pure_alloc w (.cells #[.slice A n c, .slice A2 n2 c2] 29))
  clear hLB hD hz hk
  have hmm := @run_makeMap Tryz.prog
  go_enter Tryz.func97, Tryz.ntmps97
  go_upto_region 1 with (fail)
  generalize (w.alloc (.cells #[.slice A n c, .slice A2 n2 c2] 29)) = w1 at *
  generalize w.heap.size = g3 at *
  have HM0 := Lib.hid (MapS.made w1)
  have HP1 := Lib.hid (HP0.out.trans (pure_alloc w1 (.map #[] 0)))
  have HB1 := Lib.hid (HB0.out.alloc (.map #[] 0))
  have hws := HP0.out.size
  go_upto_region 2 with (fail)
  generalize hbm : w1.heap.size = b at *
  have hwb : w.heap.size ≤ b := by omega
  generalize w1.alloc (.map #[] 0) = w2 at *
  clear hbm hws HP0 HB0 hmm
  go_wp2_with fail
  go_loopg [15] ds.length (fun gk i wr => LtRel w b g3 #[.slice A n c, .slice A2 n2 c2] L.asks at_ ds gk i wr)
  case atStart => exact ⟨0, 0, by omega, by omega, rfl, HM0.out, by omega, HB1.out, HP1.out⟩
  case round =>
    clear HM0 HP1 HB1
    obtain ⟨k, nn, rfl, hk, rfl, hM, hnk, hB, hm⟩ := hrel
    by_cases hlt : k < ds.length
    · obtain ⟨g, off, rfl, q0, q1, q2, q3, q4, q5⟩ := (HD.out.pure hm).cells hlt
      have hxz := HZ.out _ (List.getElem_mem hlt)
      have HXM := Lib.hid (List.getElem_mem hlt)
      have HTK := Lib.hid (List.take_succ_eq_append_getElem hlt)
      have HTM : Hid (∀ y, latO L.asks (prI (ds[k]).item at_) (ds.take k) = some y → y ∈ ds) := Lib.hid (fun y hy => List.mem_of_mem_take (latO_mem _ _ _ hy).1)
      have hbw := hM.lt
      have hgw := hB.lt
      generalize hdk : ds[k] = x at *
      have hmo1 := HTM
      clear hdk
      obtain ⟨o, ho⟩ : ∃ o, o = latO L.asks (prI x.item at_) (ds.take k) := ⟨_, rfl⟩
      have hlook := (hM.al (.cells (decC x).toArray 40)).look_ok (e := 40) Tryz.underlying138 zero_dec x.item (by have := hxz.2.2.2.2.2.1; unfold StB at this; omega)
      have hgd : (latM L.asks at_ (ds.take k) x.item).getD (DecVal decN) = DecVal (o.getD decN) ∧ (latM L.asks at_ (ds.take k) x.item).isSome = o.isSome := by
        unfold latM
        rw [← ho]
        cases o <;> exact ⟨rfl, rfl⟩
      rw [hgd.1, hgd.2] at hlook
      have HO := Lib.hid ho
      have HM1 := Lib.hid hM
      have HB1 := Lib.hid hB
      have HP1 := Lib.hid hm
      have HXZ := Lib.hid hxz
      have HLY : Hid (∀ W, Pure wr W → ∀ y, o = some y → Calls Tryz.prog 148 #[.agg #[.slice A n c, .slice A2 n2 c2], DecVal x, DecVal y] W (IntD W (laterP L.asks x y))) := Lib.hid (fun W h y hy => HLT.out W (hm.trans h) x y HXM.out (HTM.out y (ho ▸ hy)))
      clear hgd ho hM hB hm hxz
      generalize hy : o.getD decN = y at *
      have HY := Lib.hid hy
      clear hy
      obtain ⟨xno, xat, xrev, xitem, xsec, xA, xc, xv⟩ := x
      obtain ⟨yno, yat, yrev, yitem, ysec, yA, yc, yv⟩ := y
      simp only [decC, DecVal.eq] at *
      go_upto_region 5 with (fail)
      have HBX := Lib.hid (Blk.new wr 40 #[.int .i64 xno, .int .i64 xat, .string ⟨xrev.toArray⟩, .string ⟨xitem.toArray⟩, .bool xsec, .slice xA xv.length xc])
      have HM2 := Lib.hid (HM1.out.al (.cells #[.int .i64 xno, .int .i64 xat, .string ⟨xrev.toArray⟩, .string ⟨xitem.toArray⟩, .bool xsec, .slice xA xv.length xc] 40))
      have HB2 := Lib.hid (HB1.out.alloc (.cells #[.int .i64 xno, .int .i64 xat, .string ⟨xrev.toArray⟩, .string ⟨xitem.toArray⟩, .bool xsec, .slice xA xv.length xc] 40))
      have HPA : Hid (Pure wr (wr.alloc (.cells #[.int .i64 xno, .int .i64 xat, .string ⟨xrev.toArray⟩, .string ⟨xitem.toArray⟩, .bool xsec, .slice xA xv.length xc] 40))) := Lib.hid (pure_alloc _ _)
      clear q0 q1 q2 q3 q4 q5
      generalize (wr.alloc (.cells #[.int .i64 xno, .int .i64 xat, .string ⟨xrev.toArray⟩, .string ⟨xitem.toArray⟩, .bool xsec, .slice xA xv.length xc] 40)) = wa at *
      generalize wr.heap.size = g9 at *
      have hX := HBX.out
      have d0 := hX.cell 0; have d1 := hX.cell 1; have d2 := hX.cell 2; have d3 := hX.cell 3; have d4 := hX.cell 4; have d5 := hX.cell 5; simp at d0 d1 d2 d3 d4 d5
      clear hX
      go_upto_region 6 with (fail)
      have HBX2 := Lib.hid (HBX.out.alloc (.cells #[.int .i64 yno, .int .i64 yat, .string ⟨yrev.toArray⟩, .string ⟨yitem.toArray⟩, .bool ysec, .slice yA yv.length yc] 40))
      have HBY2 := Lib.hid (Blk.new wa 40 #[.int .i64 yno, .int .i64 yat, .string ⟨yrev.toArray⟩, .string ⟨yitem.toArray⟩, .bool ysec, .slice yA yv.length yc])
      have HM3 := Lib.hid (HM2.out.al (.cells #[.int .i64 yno, .int .i64 yat, .string ⟨yrev.toArray⟩, .string ⟨yitem.toArray⟩, .bool ysec, .slice yA yv.length yc] 40))
      have HB3 := Lib.hid (HB2.out.alloc (.cells #[.int .i64 yno, .int .i64 yat, .string ⟨yrev.toArray⟩, .string ⟨yitem.toArray⟩, .bool ysec, .slice yA yv.length yc] 40))
      have HPB : Hid (Pure wr (wa.alloc (.cells #[.int .i64 yno, .int .i64 yat, .string ⟨yrev.toArray⟩, .string ⟨yitem.toArray⟩, .bool ysec, .slice yA yv.length yc] 40))) := Lib.hid (HPA.out.trans (pure_alloc _ _))
      clear d0 d1 d2 d3 d4 d5 hlook HBX HM2 HB2 HPA HM1 HB1
      generalize (wa.alloc (.cells #[.int .i64 yno, .int .i64 yat, .string ⟨yrev.toArray⟩, .string ⟨yitem.toArray⟩, .bool ysec, .slice yA yv.length yc] 40)) = wb at *
      generalize wa.heap.size = g10 at *
      have HCD : Hid (condL L.asks at_ o ⟨xno, xat, xrev, xitem, xsec, xA, xc, xv⟩ = (decide (xat ≤ at_) && (!o.isSome || decide (0 < laterP L.asks ⟨xno, xat, xrev, xitem, xsec, xA, xc, xv⟩ ⟨yno, yat, yrev, yitem, ysec, yA, yc, yv⟩)))) := Lib.hid (by unfold condL; rw [HY.out])
      have HLZ : Hid (o.isSome = true → ∀ W, Pure wr W → Calls Tryz.prog 148 #[.agg #[.slice A n c, .slice A2 n2 c2], .agg #[.int .i64 xno, .int .i64 xat, .string ⟨xrev.toArray⟩, .string ⟨xitem.toArray⟩, .bool xsec, .slice xA xv.length xc], .agg #[.int .i64 yno, .int .i64 yat, .string ⟨yrev.toArray⟩, .string ⟨yitem.toArray⟩, .bool ysec, .slice yA yv.length yc]] W (IntD W (laterP L.asks ⟨xno, xat, xrev, xitem, xsec, xA, xc, xv⟩ ⟨yno, yat, yrev, yitem, ysec, yA, yc, yv⟩))) := Lib.hid (fun ho W h => by
        cases o with
        | none => cases ho
        | some z =>
          have hz : z = ⟨yno, yat, yrev, yitem, ysec, yA, yc, yv⟩ := HY.out
          have := HLY.out W h z rfl
          rw [hz] at this
          exact this)
      generalize hcd : condL L.asks at_ o ⟨xno, xat, xrev, xitem, xsec, xA, xc, xv⟩ = cd at *
      have HCE := Lib.hid hcd
      clear hcd
      generalize laterP L.asks ⟨xno, xat, xrev, xitem, xsec, xA, xc, xv⟩ ⟨yno, yat, yrev, yitem, ysec, yA, yc, yv⟩ = lp at *
      go_cut [40] (fun p wx => p = .bool cd ∧ Pure wb wx)
      case first =>
        have hX := HBX2.out
        have hY := HBY2.out
        have hB := HB3.out
        have d0 := hX.cell 0; have d1 := hX.cell 1; have d2 := hX.cell 2; have d3 := hX.cell 3; have d4 := hX.cell 4; have d5 := hX.cell 5; simp at d0 d1 d2 d3 d4 d5
        have e0 := hY.cell 0; have e1 := hY.cell 1; have e2 := hY.cell 2; have e3 := hY.cell 3; have e4 := hY.cell 4; have e5 := hY.cell 5; simp at e0 e1 e2 e3 e4 e5
        have l0 := hB.cell 0; have l1 := hB.cell 1; simp at l0 l1
        clear hX hY hB
        generalize o.isSome = os at *
        by_cases h1 : xat ≤ at_
        · cases os
          · have HZC : Hid (cd = true) := Lib.hid (by rw [HCD.out]; simp [h1])
            clear HCD HLZ
            go_wp2_with fail
            go_meet
            exact ⟨by rw [HZC.out], Mod.refl _ _⟩
          · have HLW := Lib.hid (HLZ.out rfl wb HPB.out)
            clear HLZ
            have HZC : Hid (cd = decide (0 < lp)) := Lib.hid (by rw [HCD.out]; simp [h1])
            clear HCD
            go_wp2_with fail
            refine HLW.out.mono ?_
            rintro e w7 ⟨rfl, hm7⟩
            have HM7 := Lib.hid hm7.1
            clear hm7
            go_wp2_with fail
            go_meet
            exact ⟨by rw [HZC.out], HM7.out⟩
        · have HZC : Hid (cd = false) := Lib.hid (by rw [HCD.out]; simp [h1])
          clear HCD HLZ
          go_wp2_with fail
          go_meet
          exact ⟨by rw [HZC.out], Mod.refl _ _⟩
      case rest =>
        obtain ⟨rfl, hmx⟩ := hcut
        have HM4 := Lib.hid (HM3.out.pure hmx)
        have HB4 := Lib.hid (HB3.out.modp hmx)
        have HPC := Lib.hid (HPB.out.trans hmx)
        have hX := HBX2.out.modp hmx
        have HCF : Hid (condL L.asks at_ (latO L.asks (prI (⟨xno, xat, xrev, xitem, xsec, xA, xc, xv⟩ : DecR).item at_) (ds.take k)) ⟨xno, xat, xrev, xitem, xsec, xA, xc, xv⟩ = cd) := Lib.hid (by rw [← HCE.out, HO.out])
        clear hmx HM3 HB3 HPB HBX2 HBY2 HCD HLZ HLY HY HO HCE
        have d0 := hX.cell 0; have d1 := hX.cell 1; have d2 := hX.cell 2; have d3 := hX.cell 3; have d4 := hX.cell 4; have d5 := hX.cell 5; simp at d0 d1 d2 d3 d4 d5
        clear hX
        cases cd
        · go_wp2_with fail
          go_roundg (ds.length - (k + 1))
          case measure => omega
          case rel => exact ⟨k + 1, nn, rfl, by omega, by simp, by rw [HTK.out, ← latM_no HCF.out]; exact HM4.out, by omega, HB4.out, HP1.out.trans HPC.out⟩
        · obtain ⟨w9, hrun, hM9, hm9⟩ := HM4.out.store Tryz.underlying138 (by omega) xitem (by have := HXZ.out.2.2.2.2.2.1; unfold StB at this; simp only at this; omega) (DecVal ⟨xno, xat, xrev, xitem, xsec, xA, xc, xv⟩)
          have HM9 : Hid (MapS w9 b (nn + 1) (latM L.asks at_ (ds.take k ++ [⟨xno, xat, xrev, xitem, xsec, xA, xc, xv⟩]))) := Lib.hid (by rw [← latM_yes HCF.out]; exact hM9)
          rw [DecVal.eq] at hrun
          have HP9 := Lib.hid ((HP1.out.trans HPC.out).trans' hm9 (fun i hi hl => by omega))
          have HB9 := Lib.hid (HB4.out.mod hm9 (fun h => by
            obtain ⟨D0, hown, _⟩ := HM4.out
            obtain ⟨es, clock, hbb, _⟩ := hown
            have h2 := HB4.out
            unfold Blk at h2
            rw [h, hbb] at h2
            cases h2))
          clear hM9 hm9 HM4 HB4 HPC
          go_wp2_with fail
          go_roundg (ds.length - (k + 1))
          case measure => omega
          case rel => exact ⟨k + 1, nn + 1, rfl, by omega, by simp, by rw [HTK.out]; exact HM9.out, by omega, HB9.out, HP9.out⟩
    · have HTZ : Hid (ds.take k = ds) := Lib.hid (List.take_of_length_le (by omega))
      have hke : k = ds.length := by omega
      have HM1 := Lib.hid hM
      have HP1 := Lib.hid hm
      clear hM hB hm
      go_wp2_with fail
      go_ret
      exact ⟨b, nn, rfl, by rw [← HTZ.out]; exact HM1.out, by omega, HP1.out⟩

end Go.Proofs.YtkkndblcejmmjaaGreatDoor
