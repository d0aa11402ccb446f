/- Stops. -/
import Derived.Test.YtpacmdiodnnofaaStops
import Derived.Test.YtpacmdiodnnofaaMostB
namespace Go.Proofs.Ytpacmdiodnnofaa
set_option linter.unusedVariables false
set_option linter.unusedSimpArgs false
open Go.RowKit
attribute [local go_sem ↓] Go.wp_at_zero Go.wp_at_succ

set_option maxRecDepth 100000 in
set_option maxHeartbeats 1000000 in
theorem Stops_big (w : World) (v : Value) (bss : List (List Bool)) (r n d : Int) (hv : SlS w v bss) (hbl : bss.length ≤ 2000) (hbig : anyBig bss = true) : Calls Try.prog 60 #[v, rule3 r n d] w (ErrPost w (.int .i64 0) 2) := by
  obtain ⟨A, c, rfl, hc1, hc2⟩ := hv.form
  have HB := Lib.hid hbig
  have HV := Lib.hid (hv.pure (pure_alloc w (.cells #[.int .i64 r, .int .i64 n, .int .i64 d] 83)))
  clear hbig hv
  go_enter Try.func60, Try.ntmps60
  go_wp2_with fail
  refine (containsFuncS_calls _ _ bss 96 HV.out (fun _ _ => rfl) (fun A n c W h => stops1_calls A n c W h)).mono ?_
  rintro e w1 ⟨rfl, hm1⟩
  rw [HB.out]
  go_wp2_with fail
  go_ret2
  exact ⟨rfl, ((Mod.refl _ _).alloc _).trans hm1⟩

set_option maxRecDepth 100000 in
set_option maxHeartbeats 1000000 in
theorem Stops_bad (w : World) (v : Value) (bss : List (List Bool)) (r n d : Int) (hv : SlS w v bss) (hbl : bss.length ≤ 2000) (hbig : anyBig bss = false) (hb : ¬ (1 ≤ r ∧ r ≤ 2000) ∨ shareErr n d ≠ 0) : Calls Try.prog 60 #[v, rule3 r n d] w (ErrPost w (.int .i64 0) 1) := by
  obtain ⟨A, c, rfl, hc1, hc2⟩ := hv.form
  have HB := Lib.hid hbig
  have HV := Lib.hid (hv.pure (pure_alloc w (.cells #[.int .i64 r, .int .i64 n, .int .i64 d] 83)))
  have HBB := Lib.hid hb
  clear hbig hv hb
  go_enter Try.func60, Try.ntmps60
  go_wp2_with fail
  refine (containsFuncS_calls _ _ bss 96 HV.out (fun _ _ => rfl) (fun A n c W h => stops1_calls A n c W h)).mono ?_
  rintro e w1 ⟨rfl, hm1⟩
  rw [HB.out]
  have s1 := (Blk.new w 83 #[.int .i64 r, .int .i64 n, .int .i64 d]).modp hm1
  have m1 : Pure w w1 := ((Mod.refl _ _).alloc _).trans hm1
  have q0 := s1.cell 0; have q1 := s1.cell 1; have q2 := s1.cell 2; simp at q0 q1 q2
  clear hm1
  go_wp2_with fail
  refine (in_calls _ _ _ _).mono ?_
  rintro e w' ⟨rfl, rfl⟩
  cases h1 : inB r 1 2000
  · go_wp2_with fail
    go_ret2
    exact ⟨rfl, m1⟩
  · have h1' := inB_true h1
    have hse : shareErr n d ≠ 0 := by
      rcases HBB.out with h | h
      · exact absurd h1' h
      · exact h
    have hb : (shareErr n d != 0) = true := by simpa using hse
    clear h1 hse
    go_wp2_with fail
    refine (shareError_calls _ n d).mono ?_
    rintro e w2 ⟨rfl, hm2⟩
    go_wp2_with fail
    go_ret2
    exact ⟨rfl, m1.trans hm2⟩

def StopsPost (w : World) (o : Option Nat) (e : Ending) (w' : World) : Prop := e = .returned (.tuple #[.int .i64 ((o.getD 0 : Nat) : Int), .int .i64 (if o.isSome then 0 else 8)]) ∧ Pure w w'
def StRel (W : World) (bss : List (List Bool)) (r : Nat) (n d : Int) (gk : Nat) (y t i : Value) (wr : World) : Prop :=
  ∃ k : Nat, bss.length - k = gk ∧ k ≤ bss.length ∧ i = .int .i64 (k : Int) ∧ y = .int .i64 ((cY bss k : Int) - (cY bss (k - r) : Int)) ∧ t = .int .i64 ((cI bss k : Int) - (cI bss (k - r) : Int)) ∧ stV bss r n d = findO (stQ bss r n d) (k + 1) (bss.length - k) ∧ Pure W wr

set_option maxRecDepth 100000 in
set_option maxHeartbeats 4000000 in
theorem Stops_ok (w : World) (v : Value) (bss : List (List Bool)) (r : Nat) (n d : Int) (hv : SlS w v bss) (hbl : bss.length ≤ 2000) (hl : lens bss ≤ 10000000) (hbig : anyBig bss = false) (hr : 1 ≤ r ∧ r ≤ 2000) (hse : shareErr n d = 0) (hn : 0 ≤ n ∧ n ≤ 1000000) (hd : 0 ≤ d ∧ d ≤ 1000000) : Calls Try.prog 60 #[v, rule3 r n d] w (StopsPost w (stV bss r n d)) := by
  obtain ⟨A, c, rfl, hc1, hc2⟩ := hv.form
  have HB := Lib.hid hbig
  have HSE := Lib.hid hse
  have HV := Lib.hid (hv.pure (pure_alloc w (.cells #[.int .i64 (r : Int), .int .i64 n, .int .i64 d] 83)))
  clear hbig hv hse
  go_enter Try.func60, Try.ntmps60
  go_wp2_with fail
  refine (containsFuncS_calls _ _ bss 96 HV.out (fun _ _ => rfl) (fun A n c W h => stops1_calls A n c W h)).mono ?_
  rintro e w1 ⟨rfl, hm1⟩
  rw [HB.out]
  have s1 := (Blk.new w 83 #[.int .i64 (r : Int), .int .i64 n, .int .i64 d]).modp hm1
  have m1 : Pure w w1 := ((Mod.refl _ _).alloc _).trans hm1
  have hv1 := HV.out.pure hm1
  have q0 := s1.cell 0; have q1 := s1.cell 1; have q2 := s1.cell 2; simp at q0 q1 q2
  clear hm1 HV
  go_wp2_with fail
  refine (in_calls _ _ _ _).mono ?_
  rintro e w' ⟨rfl, rfl⟩
  rw [show inB (r : Int) 1 2000 = true by unfold inB; rw [decide_eq_true (by omega)]]
  go_wp2_with fail
  refine (shareError_calls _ n d).mono ?_
  rintro e w2 ⟨rfl, hm2⟩
  rw [HSE.out]
  have s2 := s1.modp hm2
  have m2 : Pure w w2 := m1.trans hm2
  have HV := Lib.hid (hv1.pure hm2)
  clear s1 m1 hv1 hm2 q0 q1 q2
  generalize w.heap.size = g3 at *
  go_wp2_with fail
  go_loopg [6, 7, 29] bss.length (fun gk y t i wr => StRel w2 bss r n d gk y t i wr)
  case atStart => exact ⟨0, by omega, by omega, rfl, by simp [cY], by simp [cI], rfl, Mod.refl _ _⟩
  case round =>
    obtain ⟨k, rfl, hk, rfl, rfl, rfl, hix, hm⟩ := hrel
    have HIX := Lib.hid hix
    have s3 := s2.modp hm
    have q0 := s3.cell 0; have q1 := s3.cell 1; have q2 := s3.cell 2; simp at q0 q1 q2
    clear hix
    by_cases hlt : k < bss.length
    · obtain ⟨⟨b1, b2⟩, ⟨b3, b4⟩, _, _⟩ := st_bounds bss r k hl hn hd
      obtain ⟨⟨e1, e2⟩, ⟨e3, e4⟩, ⟨e5, e6⟩, e7, e8⟩ := st_bounds bss r (k + 1) hl hn hd
      have HP : Hid (stP bss r n d (k + 1) = decide (((cY bss (k + 1) : Int) - (cY bss (k + 1 - r) : Int)) * d ≤ n * ((cI bss (k + 1) : Int) - (cI bss (k + 1 - r) : Int)))) := rfl
      have HFO : Hid (findO (stQ bss r n d) (k + 1) (bss.length - k) = if stQ bss r n d (k + 1) then some (k + 1) else findO (stQ bss r n d) (k + 1 + 1) (bss.length - (k + 1))) := by
        show findO (stQ bss r n d) (k + 1) (bss.length - k) = _
        rw [show bss.length - k = (bss.length - (k + 1)) + 1 by omega]
        rfl
      have hY := cY_succ bss k hlt
      have hI := cI_succ bss k hlt
      have hle := cI_le bss (k + 1)
      have hyi := cY_le_cI bss (k + 1)
      obtain ⟨g, off, A2, c2, rfl, hq, hs, _⟩ := (HV.out.pure hm).at hlt
      obtain ⟨-, hl2, hl3⟩ := hs.len
      have hcb := cnt_le bss[k]
      by_cases hrk : r ≤ k
      · have hlt2 : k - r < bss.length := by omega
        obtain ⟨g', off', A3, c3, he, hq3, hs3, _⟩ := (HV.out.pure hm).at hlt2
        injection he with he
        injection he with he1 he2 _
        subst he1 he2
        obtain ⟨-, hl4, hl5⟩ := hs3.len
        have hY2 := cY_succ bss (k - r) hlt2
        have hI2 := cI_succ bss (k - r) hlt2
        rw [show k - r + 1 = k + 1 - r by omega] at hY2 hI2
        have hcb2 := cnt_le bss[k - r]
        have hsub : (k : Int) - (r : Int) = ((k - r : Nat) : Int) := by omega
        have hmo := cY_mono bss (show k - r ≤ k by omega)
        have hmo2 := cI_mono bss (show k - r ≤ k by omega)
        have HQ : Hid (stQ bss r n d (k + 1) = stP bss r n d (k + 1)) := by
          show stQ bss r n d (k + 1) = _
          unfold stQ
          rw [decide_eq_true (by omega), Bool.true_and]
        have j1 : ((cY bss k : Int) - (cY bss (k - r) : Int)) + (cnt bss[k] : Int) - (cnt bss[k - r] : Int) = (cY bss (k + 1) : Int) - (cY bss (k + 1 - r) : Int) := by omega
        have j2 : ((cI bss k : Int) - (cI bss (k - r) : Int)) + (bss[k].length : Int) - (bss[k - r].length : Int) = (cI bss (k + 1) : Int) - (cI bss (k + 1 - r) : Int) := by omega
        have J1 := Lib.hid j1
        have J2 := Lib.hid j2
        have HS := Lib.hid hs
        have HS3 := Lib.hid hs3
        rw [hsub] at *
        generalize hy1 : (cY bss (k + 1) : Int) - (cY bss (k + 1 - r) : Int) = y1 at *
        generalize hi1 : (cI bss (k + 1) : Int) - (cI bss (k + 1 - r) : Int) = i1 at *
        have HY1 := Lib.hid hy1
        have HI1 := Lib.hid hi1
        have c1 : 0 ≤ (cY bss k : Int) - (cY bss (k - r) : Int) + (cnt bss[k] : Int) ∧ (cY bss k : Int) - (cY bss (k - r) : Int) + (cnt bss[k] : Int) ≤ 20000000 := by omega
        have c2' : 0 ≤ (cI bss k : Int) - (cI bss (k - r) : Int) + (bss[k].length : Int) ∧ (cI bss k : Int) - (cI bss (k - r) : Int) + (bss[k].length : Int) ≤ 20000000 := by omega
        generalize (cY bss k : Int) - (cY bss (k - r) : Int) = y0 at *
        generalize (cI bss k : Int) - (cI bss (k - r) : Int) = t0 at *
        have klt : ((k - r : Nat) : Int) < (bss.length : Int) := by omega
        have kge : (0 : Int) ≤ ((k - r : Nat) : Int) := by omega
        clear hs hs3 hY hI hY2 hI2 hmo hmo2 hle hyi hy1 hi1 j1 j2
        generalize bss[k] = bk at *
        generalize bss[k - r] = bk2 at *
        have hsub2 : (k : Int) - (r : Int) = ((k - r : Nat) : Int) := by omega
        generalize hkr : k - r = kr at *
        clear hkr hsub
        go_wp2_with fail
        refine (all_calls _ _ bk HS.out).mono ?_
        rintro e w4 ⟨rfl, hm4⟩
        have s4 := s3.modp hm4
        have hq4 := hm4.keep hq3 id
        have HS4 := Lib.hid (HS3.out.pure hm4)
        have mm4 : Pure w2 w4 := hm.trans hm4
        clear s3 q0 q1 q2 hq hq3 HS HS3 hm hm4
        have q0 := s4.cell 0; have q1 := s4.cell 1; have q2 := s4.cell 2; simp at q0 q1 q2
        go_wp2_with fail
        refine (all_calls _ _ bk2 HS4.out).mono ?_
        rintro e w5 ⟨rfl, hm5⟩
        have s5 := s4.modp hm5
        have hq5 := hm5.keep hq4 id
        have mm5 : Pure w2 w5 := mm4.trans hm5
        clear s4 q0 q1 q2 hq4 HS4 mm4 hm5
        have q0 := s5.cell 0; have q1 := s5.cell 1; have q2 := s5.cell 2; simp at q0 q1 q2
        have J1' := J1.out
        have J2' := J2.out
        clear J1 J2
        by_cases hc : y1 * d ≤ n * i1
        · have hp : Hid (stQ bss r n d (k + 1) = true) := by
            show stQ bss r n d (k + 1) = true
            rw [HQ.out, HP.out, decide_eq_true hc]
          have HS2 : Hid (stV bss r n d = some (k + 1)) := by
            show stV bss r n d = some (k + 1)
            rw [HIX.out, HFO.out, hp.out]
            rfl
          go_wp2_with fail
          go_ret2
          exact ⟨by rw [HS2.out]; simp, m2.trans mm5⟩
        · have hp : Hid (stQ bss r n d (k + 1) = false) := by
            show stQ bss r n d (k + 1) = false
            rw [HQ.out, HP.out, decide_eq_false hc]
          have hc2 : n * i1 < y1 * d := by omega
          clear hc
          go_wp2_with fail
          go_roundg (bss.length - (k + 1))
          case measure => omega
          case rel => exact ⟨k + 1, rfl, by omega, by simp, by rw [HY1.out], by rw [HI1.out], by rw [HIX.out, HFO.out, hp.out]; rfl, mm5⟩
      · have hkr : k - r = 0 := by omega
        have j1 : ((cY bss k : Int) - (cY bss (k - r) : Int)) + (cnt bss[k] : Int) = (cY bss (k + 1) : Int) - (cY bss (k + 1 - r) : Int) := by
          rw [hkr, show k + 1 - r = 0 by omega]
          omega
        have j2 : ((cI bss k : Int) - (cI bss (k - r) : Int)) + (bss[k].length : Int) = (cI bss (k + 1) : Int) - (cI bss (k + 1 - r) : Int) := by
          rw [hkr, show k + 1 - r = 0 by omega]
          omega
        have J1 := Lib.hid j1
        have J2 := Lib.hid j2
        have HS := Lib.hid hs
        generalize hy1 : (cY bss (k + 1) : Int) - (cY bss (k + 1 - r) : Int) = y1 at *
        generalize hi1 : (cI bss (k + 1) : Int) - (cI bss (k + 1 - r) : Int) = i1 at *
        have HY1 := Lib.hid hy1
        have HI1 := Lib.hid hi1
        generalize (cY bss k : Int) - (cY bss (k - r) : Int) = y0 at *
        generalize (cI bss k : Int) - (cI bss (k - r) : Int) = t0 at *
        clear hs hY hI hle hyi hy1 hi1 j1 j2 hkr
        generalize bss[k] = bk at *
        go_wp2_with fail
        refine (all_calls _ _ bk HS.out).mono ?_
        rintro e w4 ⟨rfl, hm4⟩
        have s4 := s3.modp hm4
        have mm4 : Pure w2 w4 := hm.trans hm4
        clear s3 q0 q1 q2 hq HS hm hm4
        have q0 := s4.cell 0; have q1 := s4.cell 1; have q2 := s4.cell 2; simp at q0 q1 q2
        have J1' := J1.out
        have J2' := J2.out
        clear J1 J2
        by_cases hr1 : r ≤ k + 1
        · have HQ : Hid (stQ bss r n d (k + 1) = stP bss r n d (k + 1)) := by
            show stQ bss r n d (k + 1) = _
            unfold stQ
            rw [decide_eq_true hr1, Bool.true_and]
          have hr2 : (r : Int) ≤ (k : Int) + 1 := by omega
          by_cases hc : y1 * d ≤ n * i1
          · have hp : Hid (stQ bss r n d (k + 1) = true) := by
              show stQ bss r n d (k + 1) = true
              rw [HQ.out, HP.out, decide_eq_true hc]
            have HS2 : Hid (stV bss r n d = some (k + 1)) := by
              show stV bss r n d = some (k + 1)
              rw [HIX.out, HFO.out, hp.out]
              rfl
            go_wp2_with fail
            go_ret2
            exact ⟨by rw [HS2.out]; simp, m2.trans mm4⟩
          · have hp : Hid (stQ bss r n d (k + 1) = false) := by
              show stQ bss r n d (k + 1) = false
              rw [HQ.out, HP.out, decide_eq_false hc]
            have hc2 : n * i1 < y1 * d := by omega
            clear hc
            go_wp2_with fail
            go_roundg (bss.length - (k + 1))
            case measure => omega
            case rel => exact ⟨k + 1, rfl, by omega, by simp, by rw [HY1.out], by rw [HI1.out], by rw [HIX.out, HFO.out, hp.out]; rfl, mm4⟩
        · have hp : Hid (stQ bss r n d (k + 1) = false) := by
            show stQ bss r n d (k + 1) = false
            unfold stQ
            rw [decide_eq_false hr1]
            rfl
          have hr2 : (k : Int) + 1 < (r : Int) := by omega
          go_wp2_with fail
          go_roundg (bss.length - (k + 1))
          case measure => omega
          case rel => exact ⟨k + 1, rfl, by omega, by simp, by rw [HY1.out], by rw [HI1.out], by rw [HIX.out, HFO.out, hp.out]; rfl, mm4⟩
    · have hke : k = bss.length := by omega
      have HS2 : Hid (stV bss r n d = none) := by
        show stV bss r n d = none
        rw [HIX.out, hke, Nat.sub_self]
        rfl
      subst hke
      go_wp2_with fail
      go_ret2
      exact ⟨by rw [HS2.out]; rfl, m2.trans hm⟩

end Go.Proofs.Ytpacmdiodnnofaa
