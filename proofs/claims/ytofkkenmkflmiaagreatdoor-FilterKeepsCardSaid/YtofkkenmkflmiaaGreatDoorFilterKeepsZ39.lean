/- Texts of the proof of FilterKeeps, put together: ItmI, ItmJ. -/
import Derived.Test.YtofkkenmkflmiaaGreatDoorFilterKeepsZ28
import Derived.Test.YtofkkenmkflmiaaGreatDoorFilterKeepsZ37
/- Items of the reference: returns, treeFault, ItemsFault. -/
namespace Go.Proofs.YtofkkenmkflmiaaGreatDoor
set_option linter.unusedVariables false
set_option linter.unusedSimpArgs false
open Go.RowKit


set_option maxRecDepth 100000 in
set_option maxHeartbeats 1000000 in
theorem indexN_calls (w : World) (v : Value) (xs : List Nat) (y : Nat) (hv : Sl w 3 1 v (natsV xs)) : Calls Tryz.prog 171 #[v, .int .i64 (y : Int)] w (IntPost w (idxQ (fun x => y == x) xs 0)) := by
  obtain ⟨A, n, c, rfl, hc1, hc2, hl, hr⟩ := hv
  have hln : xs.length = n := by rw [natsV_len] at hl; omega
  subst hln
  have HR := Lib.hid hr
  clear hl hr
  go_enter Tryz.func171, Tryz.ntmps171
  go_wp2_with fail
  go_loopg [8] xs.length (fun gk i wr => ∃ k : Nat, xs.length - k = gk ∧ k ≤ xs.length ∧ i = .int .i64 (k : Int) ∧ idxQ (fun x => y == x) xs 0 = idxQ (fun x => y == x) (xs.drop k) (k : Int) ∧ w = wr)
  case atStart => exact ⟨0, by omega, by omega, rfl, rfl, rfl⟩
  case round =>
    obtain ⟨k, rfl, hk, rfl, hix, rfl⟩ := hrel
    have HIX := Lib.hid hix
    clear hix
    by_cases hlt : k < xs.length
    · obtain ⟨g, off, rfl, hrow⟩ := HR.out (by omega)
      have hq := hrow.cell (natsV_get xs k hlt)
      have hd : xs.drop k = xs[k] :: xs.drop (k + 1) := List.drop_eq_getElem_cons hlt
      have hi2 : idxQ (fun x => y == x) xs 0 = if (fun x => y == x) xs[k] then (k : Int) else idxQ (fun x => y == x) (xs.drop (k + 1)) ((k : Int) + 1) := by rw [HIX.out, hd]; rfl
      have HI2 := Lib.hid hi2
      clear hd hi2 hrow HIX
      generalize xs[k] = x at *
      have heq : ((y : Int) == (x : Int)) = (y == x) := by first | rfl | (exact Bool.eq_iff_iff.2 (by simp; try omega))
      cases hp : (y == x)
      · have hp2 := heq.trans hp
        have HP := Lib.hid hp
        clear hp heq
        go_wp2_with fail
        go_roundg (xs.length - (k + 1))
        case measure => omega
        case rel => exact ⟨k + 1, rfl, hlt, by simp, by rw [HI2.out]; simp only [HP.out]; simp, rfl⟩
      · have hp2 := heq.trans hp
        have HP := Lib.hid hp
        clear hp heq
        go_wp2_with fail
        go_ret
        exact IntPost.of (by rw [HI2.out]; simp only [HP.out]; simp) (Mod.refl _ _)
    · have hke : k = xs.length := by omega
      subst hke
      go_wp2_with fail
      go_ret
      exact IntPost.of (by rw [HIX.out, List.drop_of_length_le (Nat.le_refl _)]; rfl) (Mod.refl _ _)


set_option maxRecDepth 100000 in
set_option maxHeartbeats 1000000 in
theorem containsN_calls (w : World) (v : Value) (xs : List Nat) (y : Nat) (hv : Sl w 3 1 v (natsV xs)) : Calls Tryz.prog 114 #[v, .int .i64 (y : Int)] w (BoolPost w (xs.any (fun x => y == x))) := by
  have HC := Lib.hid (indexN_calls w v xs y hv)
  have HI := Lib.hid (idxQ_any (fun x => y == x) xs 0 (by omega))
  obtain ⟨A, n, c, rfl⟩ := hv.form
  clear hv
  go_enter Tryz.func114, Tryz.ntmps114
  go_wp2_with fail
  refine HC.out.mono ?_
  rintro e w1 ⟨rfl, hm1⟩
  generalize idxQ (fun x => y == x) xs 0 = r at *
  go_wp2_with fail
  go_ret
  exact BoolPost.of HI.out.symm hm1


theorem any_contains (l : List Nat) (i : Nat) : (l.any fun x => i == x) = l.contains i := by
  rw [List.contains_eq_any_beq]

set_option maxRecDepth 100000 in
set_option maxHeartbeats 1000000 in
theorem returns_calls (w : World) (v : Value) (l : List Itm) (x : Itm) (i : Nat) (hx : l[i]? = some x) (hv : Its w v l) (hl : l.length ≤ 100000) : Calls Tryz.prog 108 #[v, .int .i64 (i : Int)] w (BoolPost w (lpB l i)) := by
  have HA := Lib.hid (rabove_calls w v l x i hx hv hl)
  have HL : Hid (((chn l (l.length + 1) i).any fun x => i == x) = lpB l i) := Lib.hid ((any_contains _ _).trans (lpB_more l i))
  obtain ⟨A, n, c, rfl⟩ := Sl.form hv
  clear hv hx
  go_enter Tryz.func108, Tryz.ntmps108
  go_wp2_with fail
  refine HA.out.mono ?_
  rintro e w1 ⟨A1, cap, bl, rfl, hown, hm⟩
  have HC := Lib.hid (containsN_calls w1 _ _ i (Sl.of_own hown))
  rw [HL.out] at HC
  clear hown HA HL
  generalize (chn l (l.length + 1) i).length = k at *
  go_wp2_with fail
  refine HC.out.mono ?_
  rintro e w2 ⟨rfl, m2⟩
  go_wp2_with fail
  go_ret
  exact BoolPost.of rfl (hm.trans m2)

def Tr1 (w : World) (xs : List Itm) (gk : Nat) (i : Value) (wr : World) : Prop := ∃ k : Nat, xs.length - k = gk ∧ k ≤ xs.length ∧ i = .int .i64 (k : Int) ∧ (∀ j, j < k → lpB xs j = false) ∧ Pure w wr
def Tr2 (w : World) (xs : List Itm) (gk : Nat) (i : Value) (wr : World) : Prop := ∃ k : Nat, xs.length - k = gk ∧ k ≤ xs.length ∧ i = .int .i64 (k : Int) ∧ firstE (depE xs) k (xs.length - k) = firstE (depE xs) 0 xs.length ∧ Pure w wr

set_option maxRecDepth 100000 in
set_option maxHeartbeats 4000000 in
theorem treeFault_calls (w : World) (v : Value) (xs : List Itm) (hv : Its w v xs) (hl : xs.length ≤ 100000) : Calls Tryz.prog 43 #[v] w (IntPost w (treeE xs)) := by
  obtain ⟨A, n, c, rfl, hc1, hc2, hl2, hr⟩ := hv
  have hln : xs.length = n := by rw [itV_len] at hl2; omega
  subst hln
  have HRET := Lib.hid (fun W (h : Pure w W) i x hx => returns_calls W (.slice A xs.length c) xs x i hx (Its.pure ⟨A, xs.length, c, rfl, hc1, hc2, hl2, hr⟩ h) hl)
  have HAB := Lib.hid (fun W (h : Pure w W) i x hx => rabove_calls W (.slice A xs.length c) xs x i hx (Its.pure ⟨A, xs.length, c, rfl, hc1, hc2, hl2, hr⟩ h) hl)
  have HPL := Lib.hid (fun W (h : Pure w W) s => place_calls W (.slice A xs.length c) xs s (Its.pure ⟨A, xs.length, c, rfl, hc1, hc2, hl2, hr⟩ h))
  have HR := Lib.hid hr
  have m0 : Pure w w := Mod.refl _ _
  clear hl2 hr
  go_enter Tryz.func43, Tryz.ntmps43
  go_wp2_with fail
  go_loopg [10] xs.length (fun gk i wr => Tr1 w xs gk i wr)
  case atStart => exact ⟨0, by omega, by omega, rfl, fun j h => absurd h (by omega), m0⟩
  case round =>
    clear m0
    obtain ⟨k, rfl, hk, rfl, hno, hm⟩ := hrel
    by_cases hlt : k < xs.length
    · have HNO := Lib.hid hno
      have HC := Lib.hid (HRET.out wr hm k xs[k] (List.getElem?_eq_getElem hlt))
      have HAT : Hid (lpB xs k = true → treeE xs = 14) := Lib.hid (fun h => by
        unfold treeE
        rw [if_pos (List.any_eq_true.2 ⟨k, List.mem_range.2 hlt, h⟩)])
      clear hno
      cases hlp : lpB xs k
      · rw [hlp] at HC
        have HN : Hid (∀ j, j < k + 1 → lpB xs j = false) := Lib.hid (fun j hj => by
          rcases Nat.lt_or_ge j k with h | h
          · exact HNO.out j h
          · obtain rfl : j = k := by omega
            exact hlp)
        clear HAT HNO hlp
        go_wp2_with fail
        refine HC.out.mono ?_
        rintro e w1 ⟨rfl, m1⟩
        go_wp2_with fail
        go_roundg (xs.length - (k + 1))
        case measure => omega
        case rel => exact ⟨k + 1, rfl, by omega, by simp, HN.out, hm.trans m1⟩
      · rw [hlp] at HC
        have HF := Lib.hid (HAT.out hlp)
        clear HAT HNO hlp
        go_wp2_with fail
        refine HC.out.mono ?_
        rintro e w1 ⟨rfl, m1⟩
        go_wp2_with fail
        go_ret
        exact IntPost.of HF.out (hm.trans m1)
    · obtain rfl : k = xs.length := by omega
      have HIE : Hid (treeE xs = firstE (depE xs) 0 xs.length) := Lib.hid (by
        unfold treeE
        rw [if_neg]
        intro h
        rw [List.any_eq_true] at h
        obtain ⟨j, hj, h⟩ := h
        rw [hno j (List.mem_range.1 hj)] at h
        cases h)
      have HNO := Lib.hid hno
      clear hno hlt hk HRET
      go_wp2_with fail
      go_loopg [19] xs.length (fun gk i wr => Tr2 w xs gk i wr)
      case atStart => exact ⟨0, by omega, by omega, rfl, rfl, hm⟩
      case round =>
        clear hm
        obtain ⟨k, rfl, hk, rfl, hfe, hm⟩ := hrel
        by_cases hlt : k < xs.length
        · obtain ⟨g, off, rfl, hrow⟩ := HR.out (by omega)
          have HROW := Lib.hid hrow
          have q5 := (item_cells (hrow.mod hm id) hlt).2.2.2.2.2.1
          have HX : Hid (xs[k]? = some xs[k]) := Lib.hid (List.getElem?_eq_getElem hlt)
          have HQ5 := Lib.hid (fun W (h : Pure w W) => (item_cells (hrow.mod h id) hlt).2.2.2.2.2.1)
          have HCH := Lib.hid (chn_noloop xs HNO.out k hlt)
          have HDE : Hid (depE xs k = if ruleB xs xs[k] then 16 else if 4 < (chn xs xs.length k).length then 2 else 0) := Lib.hid (by unfold depE; rw [HX.out])
          rw [firstE_step _ hlt] at hfe
          have HFE := Lib.hid hfe
          have HRU : Hid (ruleB xs xs[k] = (decide (xs[k].par ≠ []) && match plc xs xs[k].par with
            | none => false
            | some k => match xs[k]? with
              | none => false
              | some p => decide (p.kind ≠ 1) && decide (p.kind ≠ 3))) := Lib.hid rfl
          have HPK := Lib.hid (HPL.out wr hm xs[k].par)
          have HABK := Lib.hid (fun W h => HAB.out W h k xs[k] HX.out)
          have i1 : (0 : Int) ≤ (k : Int) := by omega
          have i2 : (k : Int) < (xs.length : Int) := by omega
          clear hrow hfe
          generalize hxk : xs[k] = x at *
          clear hxk
          generalize hrb : ruleB xs x = rb at *
          clear hrb
          rw [show decide (x.par ≠ []) = !x.par.isEmpty by cases x.par <;> simp] at HRU
          -- the part behind the rule
          have FIN : Hid (∀ n : Nat, n = (chn xs (xs.length + 1) k).length → rb = false → depE xs k = if 4 < n then 2 else 0) := Lib.hid (fun n hn h => by rw [HDE.out, h, hn, HCH.out]; rfl)
          have FIN2 : Hid (rb = true → depE xs k = 16) := Lib.hid (fun h => by rw [HDE.out, h]; rfl)
          clear HDE HCH HX
          generalize depE xs k = de at *
          obtain ⟨z, hzz⟩ : ∃ z, plcZ xs x.par = z := ⟨_, rfl⟩
          rw [hzz] at HPK
          have HZZ := Lib.hid hzz
          clear hzz
          go_wp2_with fail
          refine HPK.out.mono ?_
          rintro e w1 ⟨rfl, m1⟩
          have m1 := hm.trans m1
          have q5 := HQ5.out w1 m1
          clear hm HPK HPL
          go_upto_region 11 with (fail)
          go_cut [54] (fun p wx => p = .bool rb ∧ w1 = wx)
          case first =>
            clear HABK FIN FIN2 HFE HIE HNO
            cases he : x.par.isEmpty
            · rw [he] at HRU
              cases hp : plc xs x.par with
              | none =>
                have hrb : rb = false := by rw [HRU.out, hp]; rfl
                have hz : z = -1 := by rw [← HZZ.out]; unfold plcZ; rw [hp]
                have HRB := Lib.hid hrb
                clear hrb hp HRU HZZ
                subst hz
                go_wp2_with fail
                go_meet
                exact ⟨by rw [HRB.out], rfl⟩
              | some j =>
                have hjl := (plc_lt _ _ _ hp).1
                have hz : z = (j : Int) := by rw [← HZZ.out]; unfold plcZ; rw [hp]
                have q2 := (item_cells (HROW.out.mod m1 id) hjl).2.2.1
                have hrb : rb = (decide (xs[j].kind ≠ 1) && decide (xs[j].kind ≠ 3)) := by
                  rw [HRU.out, hp]
                  simp only [List.getElem?_eq_getElem hjl]
                  rfl
                have j1 : (0 : Int) ≤ (j : Int) := by omega
                have j2 : (j : Int) < (xs.length : Int) := by omega
                clear hp HRU HZZ
                subst hz
                generalize xs[j].kind = kd at *
                by_cases h1 : kd = 1
                · have h1' : (kd != 1) = false := by simpa using h1
                  have hrb2 : rb = false := by rw [hrb, h1]; rfl
                  have HRB := Lib.hid hrb2
                  clear hrb hrb2 h1
                  go_wp2_with fail
                  go_meet
                  exact ⟨by rw [HRB.out], rfl⟩
                · have h1' : (kd != 1) = true := by simpa using h1
                  by_cases h3 : kd = 3
                  · have h3' : (kd != 3) = false := by simpa using h3
                    have hrb2 : rb = false := by rw [hrb, h3]; rfl
                    have HRB := Lib.hid hrb2
                    clear hrb hrb2 h1 h3
                    go_wp2_with fail
                    go_meet
                    exact ⟨by rw [HRB.out], rfl⟩
                  · have h3' : (kd != 3) = true := by simpa using h3
                    have hrb2 : rb = true := by rw [hrb]; simp [h1, h3]
                    have HRB := Lib.hid hrb2
                    clear hrb hrb2 h1 h3
                    go_wp2_with fail
                    go_meet
                    exact ⟨by rw [HRB.out], rfl⟩
            · have hrb : rb = false := by rw [HRU.out, he]; rfl
              have HRB := Lib.hid hrb
              clear hrb HRU
              go_wp2_with fail
              go_meet
              exact ⟨by rw [HRB.out], rfl⟩
          case rest =>
            obtain ⟨rfl, rfl⟩ := hcut
            clear HRU q5 HQ5 HROW
            cases rb
            · have HAW := Lib.hid (HABK.out _ m1)
              clear FIN2 HABK
              go_wp2_with fail
              refine HAW.out.mono ?_
              rintro e w2 ⟨A1, cap, bl, rfl, _, m2⟩
              have m3 := m1.trans m2
              have HFN := Lib.hid (FIN.out _ rfl (by simp))
              clear HAW FIN m1 m2
              generalize (chn xs (xs.length + 1) k).length = n at *
              by_cases h4 : 4 < n
              · have h4' : (4 : Int) < (n : Int) := by omega
                have hd : de = 2 := by rw [HFN.out, if_pos h4]
                have HF : Hid (treeE xs = 2) := Lib.hid (by
                  rw [HIE.out, ← HFE.out, hd]
                  rfl)
                clear HFE HFN hd h4
                go_wp2_with fail
                go_ret
                exact IntPost.of HF.out m3
              · have h4' : ¬ ((4 : Int) < (n : Int)) := by omega
                have hd : de = 0 := by rw [HFN.out, if_neg h4]
                have HN : Hid (firstE (depE xs) (k + 1) (xs.length - (k + 1)) = firstE (depE xs) 0 xs.length) := Lib.hid (by
                  have := HFE.out
                  rwa [if_neg (by simpa using hd)] at this)
                clear HFE HFN hd h4
                go_wp2_with fail
                go_roundg (xs.length - (k + 1))
                case measure => omega
                case rel => exact ⟨k + 1, rfl, by omega, by simp, HN.out, m3⟩
            · have hd : de = 16 := FIN2.out (by simp)
              have HF : Hid (treeE xs = 16) := Lib.hid (by
                rw [HIE.out, ← HFE.out, hd]
                rfl)
              clear HFE FIN FIN2 HABK hd
              go_wp2_with fail
              go_ret
              exact IntPost.of HF.out m1
        · obtain rfl : k = xs.length := by omega
          have HF : Hid (treeE xs = 0) := Lib.hid (by rw [HIE.out, ← hfe, Nat.sub_self]; rfl)
          clear hfe
          go_wp2_with fail
          go_ret
          exact IntPost.of HF.out hm

end Go.Proofs.YtofkkenmkflmiaaGreatDoor

/- Items of the reference: ItemsFault. -/
namespace Go.Proofs.YtofkkenmkflmiaaGreatDoor
set_option linter.unusedVariables false
set_option linter.unusedSimpArgs false
open Go.RowKit

def Jf1 (w : World) (xs : List Itm) (gk : Nat) (lv i : Value) (wr : World) : Prop := ∃ k : Nat, xs.length - k = gk ∧ k ≤ xs.length ∧ lv = .string ⟨(pid xs k).toArray⟩ ∧ i = .int .i64 (k : Int) ∧ ordE itemE (pid xs k) (xs.drop k) = ordE itemE [] xs ∧ Pure w wr
def Jf2 (w : World) (xs : List Itm) (gk : Nat) (i : Value) (wr : World) : Prop := ∃ k : Nat, xs.length - k = gk ∧ k ≤ xs.length ∧ i = .int .i64 (k : Int) ∧ (xs.take k).any (missB xs) = false ∧ Pure w wr
theorem missB_plcZ (l : List Itm) (x : Itm) : missB l x = (!x.par.isEmpty && decide (plcZ l x.par < 0)) := by
  unfold missB plcZ
  rw [show decide (x.par ≠ []) = !x.par.isEmpty by cases x.par <;> simp]
  cases plc l x.par with
  | none => rfl
  | some k =>
    rw [show decide (((k : Nat) : Int) < 0) = false by simp]
    rfl

set_option maxRecDepth 100000 in
set_option maxHeartbeats 8000000 in
theorem itemsFault_calls (w : World) (v : Value) (xs : List Itm) (hv : Its w v xs) (hz : ∀ x ∈ xs, ItB x) (hl : xs.length ≤ 2000) (hE : Env w) : Calls Tryz.prog 9 #[v] w (IntPost w (itsE itemE xs)) := by
  obtain ⟨A, n, c, rfl, hc1, hc2, hl2, hr⟩ := hv
  have hln : xs.length = n := by rw [itV_len] at hl2; omega
  subst hln
  have HTF := Lib.hid (fun W (h : Pure w W) => treeFault_calls W (.slice A xs.length c) xs (Its.pure ⟨A, xs.length, c, rfl, hc1, hc2, hl2, hr⟩ h) (by omega))
  have HPL := Lib.hid (fun W (h : Pure w W) s => place_calls W (.slice A xs.length c) xs s (Its.pure ⟨A, xs.length, c, rfl, hc1, hc2, hl2, hr⟩ h))
  have HR := Lib.hid hr
  have HZ := Lib.hid hz
  have HE := Lib.hid hE
  have HIE : Hid (itsE itemE xs = if ordE itemE [] xs ≠ 0 then ordE itemE [] xs else if xs.any (missB xs) then 8 else treeE xs) := Lib.hid (by unfold itsE; rw [if_neg (by omega)])
  have n1 : ¬ ((2000 : Int) < (xs.length : Int)) := by omega
  have m0 : Pure w w := Mod.refl _ _
  clear hl2 hr hz hE
  go_enter Tryz.func9, Tryz.ntmps9
  go_wp2_with fail
  go_loopg [3, 14] xs.length (fun gk lv i wr => Jf1 w xs gk lv i wr)
  case atStart => exact ⟨0, by omega, by omega, rfl, rfl, rfl, m0⟩
  case round =>
    clear m0
    obtain ⟨k, rfl, hk, rfl, rfl, hord, hm⟩ := hrel
    by_cases hlt : k < xs.length
    · obtain ⟨g, off, rfl, hrow⟩ := HR.out (by omega)
      obtain ⟨q0, q1, q2, q3, q4, q5, q6⟩ := item_cells (hrow.mod hm id) hlt
      have HST := Lib.hid (ordE_step (E := itemE) hlt (pid xs k))
      rw [hord] at HST
      have HPI := Lib.hid (pid_succ hlt)
      have HIF := Lib.hid (itemFault_calls (wr.alloc (.cells (itQ xs[k]) 71)) xs[k] (HZ.out _ (List.getElem_mem hlt)) (HE.out.pure (hm.alloc _)))
      have HB0 := Lib.hid (Blk.new wr 71 (itQ xs[k]))
      have Hm0 := Lib.hid (hm.alloc (.cells (itQ xs[k]) 71))
      obtain ⟨p, hp⟩ : ∃ p, pid xs k = p := ⟨_, rfl⟩
      rw [hp] at HST ⊢
      clear hrow hord hm hp
      generalize xs[k] = x at *
      obtain ⟨e1, he1⟩ : ∃ e1, itemE x = e1 := ⟨_, rfl⟩
      rw [he1] at HST HIF
      clear he1
      unfold itA at HIF
      unfold itQ at HIF HB0 Hm0
      go_wp2_with fail
      refine HIF.out.mono ?_
      rintro e w1 ⟨rfl, m1⟩
      have B1 := HB0.out.mod m1 id
      have m2 := Hm0.out.trans m1
      clear HIF HB0 Hm0 m1 q0 q1 q2 q3 q4 q5 q6
      generalize wr.heap.size = gs at *
      by_cases he0 : e1 = 0
      · subst he0
        have c0 := B1.cell 0; have c1 := B1.cell 1; have c2 := B1.cell 2; have c3 := B1.cell 3; have c4 := B1.cell 4; have c5 := B1.cell 5; have c6 := B1.cell 6; simp at c0 c1 c2 c3 c4 c5 c6
        clear B1
        cases hle : leS x.id p
        · have hle2 : (Op.bytesLess x.id p || x.id == p) = false := hle
          have HS1 : Hid (ordE itemE [] xs = ordE itemE x.id (xs.drop (k + 1))) := Lib.hid (by
            rw [HST.out, if_neg (by simp), if_neg]
            intro h
            rw [leS_iff.2 h] at hle
            cases hle)
          clear HST hle
          go_wp2_with fail
          go_roundg (xs.length - (k + 1))
          case measure => omega
          case rel => exact ⟨k + 1, rfl, by omega, by rw [HPI.out], by simp, by rw [HPI.out, HS1.out], m2⟩
        · have hle2 : (Op.bytesLess x.id p || x.id == p) = true := hle
          have HF : Hid (itsE itemE xs = 7) := Lib.hid (by
            have : ordE itemE [] xs = 7 := by rw [HST.out, if_neg (by simp), if_pos (leS_iff.1 hle)]
            rw [HIE.out, this]
            rfl)
          clear HST hle HIE
          go_wp2_with fail
          go_ret
          exact IntPost.of HF.out m2
      · have he0' : (e1 != 0) = true := by simpa using he0
        have HF : Hid (itsE itemE xs = e1) := Lib.hid (by
          have : ordE itemE [] xs = e1 := by rw [HST.out, if_pos he0]
          rw [HIE.out, this, if_pos he0])
        clear HST HIE B1
        go_wp2_with fail
        go_ret
        exact IntPost.of HF.out m2
    · have hke : k = xs.length := by omega
      have ho : ordE itemE [] xs = 0 := by
        rw [← hord, hke, List.drop_of_length_le (Nat.le_refl _)]
        rfl
      have HIE2 : Hid (itsE itemE xs = if xs.any (missB xs) then 8 else treeE xs) := Lib.hid (by rw [HIE.out, ho]; rfl)
      clear ho HIE hord hke
      go_wp2_with fail
      go_loopg [32] xs.length (fun gk i wr => Jf2 w xs gk i wr)
      case atStart => exact ⟨0, by omega, by omega, rfl, rfl, hm⟩
      case round =>
        clear hm hlt hk
        obtain ⟨k, rfl, hk, rfl, hno, hm⟩ := hrel
        by_cases hlt : k < xs.length
        · obtain ⟨g, off, rfl, hrow⟩ := HR.out (by omega)
          obtain ⟨q0, q1, q2, q3, q4, q5, q6⟩ := item_cells (hrow.mod hm id) hlt
          have HTK := Lib.hid (any_take_snoc (missB xs) xs k hlt)
          rw [hno] at HTK
          have HAT := Lib.hid (fun h => any_of_at (p := missB xs) hlt h)
          have HMF := Lib.hid (missB_plcZ xs xs[k])
          have HPK := Lib.hid (HPL.out (wr.alloc (.cells (itQ xs[k]) 71)) (hm.alloc _) xs[k].par)
          have Hm0 := Lib.hid (hm.alloc (.cells (itQ xs[k]) 71))
          clear hrow hno hm
          generalize xs[k] = x at *
          obtain ⟨z, hz⟩ : ∃ z, plcZ xs x.par = z := ⟨_, rfl⟩
          rw [hz] at HMF HPK
          clear hz
          unfold itQ at HPK Hm0
          cases he : x.par.isEmpty
          · rw [he] at HMF
            by_cases hz0 : z < 0
            · have HF : Hid (itsE itemE xs = 8) := Lib.hid (by rw [HIE2.out, HAT.out (by rw [HMF.out, decide_eq_true hz0]; rfl)]; rfl)
              clear HTK HAT HMF
              go_wp2_with fail
              refine HPK.out.mono ?_
              rintro e w1 ⟨rfl, m1⟩
              have m2 := Hm0.out.trans m1
              clear HPK
              go_wp2_with fail
              go_ret
              exact IntPost.of HF.out m2
            · have HN : Hid ((xs.take (k + 1)).any (missB xs) = false) := Lib.hid (by rw [HTK.out, HMF.out, decide_eq_false hz0]; rfl)
              clear HTK HAT HMF
              go_wp2_with fail
              refine HPK.out.mono ?_
              rintro e w1 ⟨rfl, m1⟩
              have m2 := Hm0.out.trans m1
              clear HPK
              go_wp2_with fail
              go_roundg (xs.length - (k + 1))
              case measure => omega
              case rel => exact ⟨k + 1, rfl, by omega, by simp, HN.out, m2⟩
          · rw [he] at HMF
            have HN : Hid ((xs.take (k + 1)).any (missB xs) = false) := Lib.hid (by rw [HTK.out, HMF.out]; rfl)
            clear HTK HAT HMF HPK
            go_wp2_with fail
            go_roundg (xs.length - (k + 1))
            case measure => omega
            case rel => exact ⟨k + 1, rfl, by omega, by simp, HN.out, Hm0.out⟩
        · obtain rfl : k = xs.length := by omega
          rw [List.take_length] at hno
          have HF : Hid (itsE itemE xs = treeE xs) := Lib.hid (by rw [HIE2.out, hno]; rfl)
          have HT := Lib.hid (HTF.out _ hm)
          rw [← HF.out] at HT
          clear HIE2 hno HTF HPL
          go_wp2_with fail
          refine HT.out.mono ?_
          rintro e w1 ⟨rfl, m1⟩
          go_wp2_with fail
          go_ret
          exact IntPost.of rfl (hm.trans m1)

end Go.Proofs.YtofkkenmkflmiaaGreatDoor
