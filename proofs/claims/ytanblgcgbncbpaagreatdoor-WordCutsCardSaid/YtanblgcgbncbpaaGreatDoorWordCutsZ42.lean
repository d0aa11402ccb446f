/- Texts of the proof of WordCuts, put together: QrD, QrE, RunJ, RunK, RunL, QrQ, QrR, QrS, QrT, QrV, QrX, LayAny, RunM, LayK, EqI, EqW, UnqB, QuoS, Chg. -/
import Derived.Test.YtanblgcgbncbpaaGreatDoorWordCutsZ10
import Derived.Test.YtanblgcgbncbpaaGreatDoorWordCutsZ16
import Derived.Test.YtanblgcgbncbpaaGreatDoorWordCutsZ23
import Derived.Test.YtanblgcgbncbpaaGreatDoorWordCutsZ31
import Derived.Test.YtanblgcgbncbpaaGreatDoorWordCutsZ39
import Derived.Test.YtanblgcgbncbpaaGreatDoorWordCutsZ40
import Derived.Test.YtanblgcgbncbpaaGreatDoorWordCutsZ41
import Derived.Ground.NamesProg
import Derived.Shelf.Strings.IndexAnyAll
import Derived.Test.YtanblgcgbncbpaaGreatDoorProg
import Derived.Shelf.SlGeneric
import Derived.Shelf.Small.Bits
import Derived.Shelf.SlicesQ.Equal
import Derived.Shelf.Small.Strs
import Derived.Laws.StructEq
/- What is wrong with a search: the program. -/
namespace Go.Proofs.YtanblgcgbncbpaaGreatDoor
set_option linter.unusedVariables false
set_option linter.unusedSimpArgs false
open Go.RowKit

section
variable {k n : Int} {must : Bool} {ws : List Str} {xs : List Qry} {M : Nat}
theorem headE_is (h : isK k = true) : ¬ ¬ (1 ≤ k ∧ k ≤ 13) := not_not_intro (of_decide_eq_true h)
theorem flt_4 (h : isK k = false) : fltQ M must (.mk k ws n xs) = 4 := by
 have e : headE M must k ws n xs.length = 4 := by unfold headE; rw [if_pos (of_decide_eq_false h)]
 rw [fltQ, e, if_pos (by decide)]
theorem flt_10 (h : isK k = true) (h1 : (must && !byWK k) = true) : fltQ M must (.mk k ws n xs) = 10 := by
 have e : headE M must k ws n xs.length = 10 := by
  unfold headE
  rw [if_neg (headE_is h), if_pos (by simpa using h1)]
 rw [fltQ, e, if_pos (by decide)]
theorem flt_3 (h : isK k = true) (h1 : (must && !byWK k) = false) (h2 : formB M k ws.length n xs.length = false) : fltQ M must (.mk k ws n xs) = 3 := by
 have e : headE M must k ws n xs.length = 3 := by
  unfold headE
  rw [if_neg (headE_is h), if_neg (by intro hh; rw [hh.1, hh.2] at h1; cases h1), if_pos h2]
 rw [fltQ, e, if_pos (by decide)]
theorem flt_5 (h : isK k = true) (h1 : (must && !byWK k) = false) (h2 : formB M k ws.length n xs.length = true) (h3 : ws.any (wordBad k) = true) : fltQ M must (.mk k ws n xs) = 5 := by
 have e : headE M must k ws n xs.length = 5 := by
  unfold headE
  rw [if_neg (headE_is h), if_neg (by intro hh; rw [hh.1, hh.2] at h1; cases h1), if_neg (by rw [h2]; decide), if_pos h3]
 rw [fltQ, e, if_pos (by decide)]
theorem head_n (h : isK k = true) (h1 : (must && !byWK k) = false) (h2 : formB M k ws.length n xs.length = true) (h3 : ws.any (wordBad k) = false) : headE M must k ws n xs.length = numE k n := by
 unfold headE
 rw [if_neg (headE_is h), if_neg (by intro hh; rw [hh.1, hh.2] at h1; cases h1), if_neg (by rw [h2]; decide), if_neg (by rw [h3]; decide)]
theorem flt_n (h : isK k = true) (h1 : (must && !byWK k) = false) (h2 : formB M k ws.length n xs.length = true) (h3 : ws.any (wordBad k) = false) (h4 : numE k n ≠ 0) : fltQ M must (.mk k ws n xs) = numE k n := by
 rw [fltQ, head_n h h1 h2 h3, if_pos h4]
theorem flt_0 (h : isK k = true) (h1 : (must && !byWK k) = false) (h2 : formB M k ws.length n xs.length = true) (h3 : ws.any (wordBad k) = false) (h4 : numE k n = 0) : fltQ M must (.mk k ws n xs) = fstE (xs.map (fltQ M (mustQ must k))) := by
 rw [fltQ, head_n h h1 h2 h3, if_neg (not_not_intro h4)]
end
theorem kwQ_nil (n : Int) : (kwQ n == []) = !decide (1 ≤ n ∧ n ≤ 4) := by
 by_cases h : 1 ≤ n ∧ n ≤ 4
 ·obtain rfl | rfl | rfl | rfl : n = 1 ∨ n = 2 ∨ n = 3 ∨ n = 4 := by omega
  all_goals rfl
 ·rw [decide_eq_false h]
  unfold kwQ
  rw [if_neg (by omega), if_neg (by omega), if_neg (by omega), if_neg (by omega)]
  rfl
theorem inB_eq (n a b : Int) : inB n a b = decide (a ≤ n ∧ n ≤ b) := by
 cases h : inB n a b
 ·have := inB_false h
  exact (decide_eq_false (by omega)).symm
 ·have := inB_true h
  exact (decide_eq_true (by omega)).symm

set_option maxRecDepth 100000 in
set_option maxHeartbeats 8000000 in
theorem inner_calls : ∀ (qr : QR) (w : World) (must : Bool), QS w qr → QB 1000 qr.key → Calls Tryz.prog 54 #[qA qr, .bool must] w (IntPost w (fltQ 100 must qr.key)) := by
 refine QR.ind (fun k A c ws n B dd xs ih => ?_)
 intro w must hQ hB
 have HIH := Lib.hid ih
 rw [QR.key_mk] at hB ⊢
 have HQ := Lib.hid hQ
 have hql := hB.xsH
 have hwl := hB.wsH.1
 have HWL := Lib.hid hB.wsH.2
 have HQB := Lib.hid hB.allH
 rw [List.length_map] at hql
 have HQX := Lib.hid hQ.xsH
 have HQW := Lib.hid hQ.wsH
 have hB0 := Blk.new w 44 #[.int .i64 k, .slice A ws.length c, .int .i64 n, .slice B xs.length dd]
 have hP0 := pure_alloc w (.cells #[.int .i64 k, .slice A ws.length c, .int .i64 n, .slice B xs.length dd] 44)
 have HNK := Lib.hid (fun W => nears_calls W k n A B ws.length c xs.length dd)
 have HBW := Lib.hid (fun W => byWords_calls W k n A B ws.length c xs.length dd)
 obtain ⟨fl, hfl⟩ : ∃ fl, fltQ 100 must (.mk k ws n (xs.map QR.key)) = fl := ⟨_, rfl⟩
 rw [hfl]
 have F4 := Lib.hid (fun h => (flt_4 (M := 100) (must := must) (ws := ws) (n := n) (xs := xs.map QR.key) (k := k) h).symm.trans hfl)
 have F10 := Lib.hid (fun h h1 => (flt_10 (M := 100) (must := must) (ws := ws) (n := n) (xs := xs.map QR.key) (k := k) h h1).symm.trans hfl)
 have F3 := Lib.hid (fun h h1 h2 => (flt_3 (M := 100) (must := must) (ws := ws) (n := n) (xs := xs.map QR.key) (k := k) h h1 h2).symm.trans hfl)
 have F5 := Lib.hid (fun h h1 h2 h3 => (flt_5 (M := 100) (must := must) (ws := ws) (n := n) (xs := xs.map QR.key) (k := k) h h1 h2 h3).symm.trans hfl)
 have FN := Lib.hid (fun h h1 h2 h3 h4 => (flt_n (M := 100) (must := must) (ws := ws) (n := n) (xs := xs.map QR.key) (k := k) h h1 h2 h3 h4).symm.trans hfl)
 have F0 := Lib.hid (fun h h1 h2 h3 h4 => (flt_0 (M := 100) (must := must) (ws := ws) (n := n) (xs := xs.map QR.key) (k := k) h h1 h2 h3 h4).symm.trans hfl)
 rw [List.length_map] at F3 F5 FN F0
 have HUS := Lib.hid (fun W => uses_calls W k)
 show Calls Tryz.prog 54 #[.agg #[.int .i64 k, .slice A ws.length c, .int .i64 n, .slice B xs.length dd], .bool must] w (IntPost w fl)
 clear hQ hB ih hfl
 go_enter Tryz.func54, Tryz.ntmps54
 go_upto_region 1 with (fail)
 generalize (w.alloc (.cells #[.int .i64 k, .slice A ws.length c, .int .i64 n, .slice B xs.length dd] 44)) = w1 at *
 generalize hg0 : w.heap.size = g0 at *
 have hwg : w.heap.size ≤ g0 := Nat.le_of_eq hg0
 clear hg0
 have HB1 := Lib.hid hB0
 have HP1 : Hid (Pure w w1) := Lib.hid hP0
 have x0 := hB0.cell 0; have x1 := hB0.cell 1; have x2 := hB0.cell 2; have x3 := hB0.cell 3; simp at x0 x1 x2 x3
 clear hB0 hP0
 go_wp2_with fail
 refine (HUS.out w1).mono ?_
 rintro e w2 ⟨rfl, hm⟩
 have HFM : Hid (formB 100 k ws.length n xs.length = (((useQ 100 k).nb || decide (n = 0)) && (decide ((useQ 100 k).w0 ≤ ws.length ∧ ws.length ≤ (useQ 100 k).w1) && decide ((useQ 100 k).a0 ≤ xs.length ∧ xs.length ≤ (useQ 100 k).a1)))) := Lib.hid rfl
 have hB2 := HB1.out.modp hm
 have hP2 := HP1.out.trans hm
 obtain ⟨is, his⟩ : ∃ is, isK k = is := ⟨_, rfl⟩
 rw [his]
 have HIS := Lib.hid his
 generalize useQ 100 k = U at *
 obtain ⟨u0, u1, u2, u3, nb⟩ := U
 simp only at HFM ⊢
 have hb5 := (Blk.new w2 127 #[.int .i64 (u0 : Int), .int .i64 (u1 : Int)]).alloc (.cells #[.int .i64 (u2 : Int), .int .i64 (u3 : Int)] 127)
 have hb6 := Blk.snd w2 (.cells #[.int .i64 (u0 : Int), .int .i64 (u1 : Int)] 127) 127 #[.int .i64 (u2 : Int), .int .i64 (u3 : Int)]
 have hB3 := (hB2.alloc (.cells #[.int .i64 (u0 : Int), .int .i64 (u1 : Int)] 127)).alloc (.cells #[.int .i64 (u2 : Int), .int .i64 (u3 : Int)] 127)
 have hP3 := (hP2.alloc (.cells #[.int .i64 (u0 : Int), .int .i64 (u1 : Int)] 127)).alloc (.cells #[.int .i64 (u2 : Int), .int .i64 (u3 : Int)] 127)
 clear hm HUS his hB2 hP2 HB1 HP1 x0 x1 x2 x3
 go_upto_region 2 with (fail)
 generalize ((w2.alloc (.cells #[.int .i64 (u0 : Int), .int .i64 (u1 : Int)] 127)).alloc (.cells #[.int .i64 (u2 : Int), .int .i64 (u3 : Int)] 127)) = w3 at *
 generalize w2.heap.size = g5 at *
 have H5 := Lib.hid hb5
 have H6 := Lib.hid hb6
 have HB3 := Lib.hid hB3
 have HP3 : Hid (Pure w w3) := Lib.hid hP3
 clear hb5 hb6 hB3 hP3
 cases is with
 | false =>
  have HR := Lib.hid (F4.out HIS.out)
  clear F4 F10 F3 F5 FN F0 HIH HQ HQB HQX HQW HWL HFM
  go_wp2_with fail
  try simp only [Exit.inBlock, Exit.then]
  refine bodyPost_ret (v := .int .i64 4) (by simp [results, Tryz.results54, go_sem]) rfl ?_
  rw [← HR.out]
  exact ⟨rfl, HP3.out⟩
 | true =>
  have his := HIS.out
  clear F4 HIS
  obtain ⟨c1, hc1⟩ : ∃ c1, (must && !byWK k) = c1 := ⟨_, rfl⟩
  rw [hc1] at F10 F3 F5 FN F0
  have hb3 := HB3.out
  have x0 := hb3.cell 0; have x1 := hb3.cell 1; have x2 := hb3.cell 2; have x3 := hb3.cell 3; simp at x0 x1 x2 x3
  clear hb3
  go_upto_region 4 with (fail)
  go_cut [29] from 24 to 28 (fun p wx => p = .bool c1 ∧ Pure w3 wx)
  case first =>
   clear F10 F3 F5 FN F0 HIH HQ HQB HQX HQW HWL HFM
   cases must with
   | false =>
    obtain rfl : false = c1 := hc1
    go_wp2_with fail
    go_meet
    exact ⟨rfl, Mod.refl _ _⟩
   | true =>
    obtain ⟨bw, hbw⟩ : ∃ bw, byWK k = bw := ⟨_, rfl⟩
    rw [hbw] at HBW hc1
    obtain rfl : (!bw) = c1 := hc1
    clear hbw
    go_wp2_with fail
    refine (HBW.out w3).mono ?_
    rintro e w4 ⟨rfl, hm⟩
    have HM := Lib.hid hm
    clear hm
    go_wp2_with fail
    go_meet
    exact ⟨by first | rfl | simp, HM.out⟩
  case rest =>
   obtain ⟨rfl, hpc⟩ := hcut
   have HB4 := Lib.hid (HB3.out.modp hpc)
   have K5 := Lib.hid (H5.out.modp hpc)
   have K6 := Lib.hid (H6.out.modp hpc)
   have HP4 : Hid (Pure w wc) := Lib.hid (HP3.out.trans hpc)
   clear hpc x0 x1 x2 x3 HB3 H5 H6 HP3 HBW
   generalize wc = w4 at *
   cases c1 with
   | true =>
    have HR := Lib.hid (F10.out his rfl)
    clear F10 F3 F5 FN F0 HIH HQ HQB HQX HQW HWL HFM hc1
    go_wp2_with fail
    try simp only [Exit.inBlock, Exit.then]
    refine bodyPost_ret (v := .int .i64 10) (by simp [results, Tryz.results54, go_sem]) rfl ?_
    rw [← HR.out]
    exact ⟨rfl, HP4.out⟩
   | false =>
    clear F10 hc1
    obtain ⟨fm, hfm⟩ : ∃ fm, formB 100 k ws.length n xs.length = fm := ⟨_, rfl⟩
    rw [hfm] at F3 F5 FN F0 HFM
    clear hfm
    have hb4 := HB4.out
    have k5 := K5.out
    have k6 := K6.out
    have x0 := hb4.cell 0; have x1 := hb4.cell 1; have x2 := hb4.cell 2; have x3 := hb4.cell 3; simp at x0 x1 x2 x3
    have y0 := k5.cell 0; have y1 := k5.cell 1; simp at y0 y1
    have z0 := k6.cell 0; have z1 := k6.cell 1; simp at z0 z1
    clear hb4 k5 k6
    go_upto_region 6 with (fail)
    go_cut [58] from 30 to 57 (fun p wx => p = .bool (!fm) ∧ w4 = wx)
    case first =>
     have e := HFM.out
     clear F3 F5 FN F0 HIH HQ HQB HQX HQW HWL HFM
     have i1 : ∀ W, Calls Tryz.prog 43 #[.int .i64 (ws.length : Int), .int .i64 (u0 : Int), .int .i64 (u1 : Int)] W (BoolSame W (decide (u0 ≤ ws.length ∧ ws.length ≤ u1))) := fun W => (in_calls _ _ _ W).mono (fun e w' h => ⟨by rw [h.1, inB_eq]; congr 2; simp only [decide_eq_decide]; omega, h.2⟩)
     have i2 : ∀ W, Calls Tryz.prog 43 #[.int .i64 (xs.length : Int), .int .i64 (u2 : Int), .int .i64 (u3 : Int)] W (BoolSame W (decide (u2 ≤ xs.length ∧ xs.length ≤ u3))) := fun W => (in_calls _ _ _ W).mono (fun e w' h => ⟨by rw [h.1, inB_eq]; congr 2; simp only [decide_eq_decide]; omega, h.2⟩)
     have I1 := Lib.hid i1
     have I2 := Lib.hid i2
     clear i1 i2
     generalize decide (u0 ≤ ws.length ∧ ws.length ≤ u1) = b1 at *
     generalize decide (u2 ≤ xs.length ∧ xs.length ≤ u3) = b2 at *
     by_cases hnn : nb = false ∧ n ≠ 0
     ·obtain ⟨rfl, hn0⟩ := hnn
      rw [decide_eq_false hn0, Bool.or_false, Bool.false_and] at e
      subst e
      have hni : (n != 0) = true := by simpa using hn0
      go_wp2_with fail
      go_meet
      exact ⟨rfl, rfl⟩
     ·have en : (nb || decide (n = 0)) = true := by
       cases nb
       ·simp at hnn
        rw [decide_eq_true hnn]; rfl
       ·rfl
      rw [en, Bool.true_and] at e
      have hnb : nb = true ∨ (nb = false ∧ n = 0) := by
       cases nb
       ·exact .inr ⟨rfl, by simpa using hnn⟩
       ·exact .inl rfl
      clear en hnn
      rcases hnb with rfl | ⟨rfl, rfl⟩
      all_goals
       go_wp2_with fail
       refine (I1.out w4).mono ?_
       rintro e2 w5 ⟨rfl, rfl⟩
       cases b1
       ·rw [Bool.false_and] at e
        subst e
        go_wp2_with fail
        go_meet
        exact ⟨rfl, rfl⟩
       ·rw [Bool.true_and] at e
        subst e
        go_wp2_with fail
        refine (I2.out w4).mono ?_
        rintro e2 w5 ⟨rfl, rfl⟩
        go_wp2_with fail
        go_meet
        exact ⟨by first | rfl | simp, rfl⟩
    case rest =>
     obtain ⟨rfl, rfl⟩ := hcut
     clear HFM K5 K6 y0 y1 z0 z1
     cases fm with
     | false =>
      have HR := Lib.hid (F3.out his rfl rfl)
      clear F3 F5 FN F0 HIH HQ HQB HQX HQW HWL
      go_wp2_with fail
      try simp only [Exit.inBlock, Exit.then]
      refine bodyPost_ret (v := .int .i64 3) (by simp [results, Tryz.results54, go_sem]) rfl ?_
      rw [← HR.out]
      exact ⟨rfl, HP4.out⟩
     | true =>
      clear F3
      go_wp2_with fail
      go_loopg [62] ws.length (fun gk i wr => ∃ j : Nat, ws.length - j = gk ∧ j ≤ ws.length ∧ i = .int .i64 (j : Int) ∧ (ws.take j).any (wordBad k) = false ∧ w4 = wr)
      case atStart => exact ⟨0, by omega, by omega, rfl, by simp, rfl⟩
      case round =>
       obtain ⟨j, rfl, hj, rfl, hany, rfl⟩ := hrel
       by_cases hlt : j < ws.length
       ·obtain ⟨gW, oW, rfl, hrow⟩ := (HQW.out.pure HP4.out).rowS (by omega)
        have hq := hrow.cell (strsV_get ws j hlt)
        have hwl1 := HWL.out ws[j] (List.getElem_mem hlt)
        have HBAD : Hid (wordBad k ws[j] = true → ws.any (wordBad k) = true) := Lib.hid (fun h => List.any_eq_true.2 ⟨_, List.getElem_mem hlt, h⟩)
        have HGOOD : Hid (wordBad k ws[j] = false → (ws.take (j + 1)).any (wordBad k) = false) := Lib.hid (fun h => by
         rw [List.take_succ_eq_append_getElem hlt, List.any_append, hany]
         simp [h])
        have HKY := Lib.hid (fun W => key_calls W ⟨ws[j].toArray⟩ (by have : (⟨ws[j].toArray⟩ : ByteArray).size = ws[j].length := rfl; omega))
        have HPT := Lib.hid (fun W => isPattern_calls W ws[j] (by omega))
        have HRV := Lib.hid (fun W => reserved_calls W ws[j])
        have HWB : Hid (wordBad k ws[j] = if k = 9 then !keyB ws[j] else !patB ws[j] || (decide (k = 2) && resvB ws[j])) := Lib.hid rfl
        rw [show keyB (⟨ws[j].toArray⟩ : ByteArray).data.toList = keyB ws[j] from rfl] at HKY
        generalize wordBad k ws[j] = wb at *
        generalize keyB ws[j] = kb at *
        generalize patB ws[j] = pb at *
        generalize resvB ws[j] = rb at *
        generalize ws[j] = sx at *
        have hji : ((j : Nat) : Int) < (ws.length : Int) := by omega
        clear hrow hany
        go_upto_region 11 with (fail)
        go_cut [92] from 66 to 91 (fun p wx => p = .bool wb ∧ w4 = wx)
        case first =>
         have e := HWB.out
         clear F5 FN F0 HIH HQ HQB HQX HQW HWL HBAD HGOOD
         by_cases h9 : k = 9
         ·rw [if_pos h9] at e
          subst h9
          go_wp2_with fail
          refine (HKY.out w4).mono ?_
          rintro e2 w5 ⟨rfl, rfl⟩
          cases kb
          ·obtain rfl : wb = true := e
           go_wp2_with fail
           go_meet
           exact ⟨rfl, rfl⟩
          ·obtain rfl : wb = false := e
           go_wp2_with fail
           go_meet
           exact ⟨rfl, rfl⟩
         ·rw [if_neg h9] at e
          have h9i : (k == 9) = false := by simpa using h9
          have h9n : (k != 9) = true := by simpa using h9
          go_wp2_with fail
          refine (HPT.out w4).mono ?_
          rintro e2 w5 ⟨rfl, rfl⟩
          cases pb
          ·obtain rfl : wb = true := e
           go_wp2_with fail
           go_meet
           exact ⟨rfl, rfl⟩
          ·by_cases h2 : k = 2
           ·rw [decide_eq_true h2, Bool.true_and, Bool.not_true, Bool.false_or] at e
            subst h2
            subst e
            go_wp2_with fail
            refine (HRV.out w4).mono ?_
            rintro e2 w5 ⟨rfl, rfl⟩
            go_wp2_with fail
            go_meet
            exact ⟨by first | rfl | simp, rfl⟩
           ·rw [decide_eq_false h2, Bool.false_and, Bool.not_true, Bool.false_or] at e
            have h2i : (k == 2) = false := by simpa using h2
            subst e
            go_wp2_with fail
            go_meet
            exact ⟨rfl, rfl⟩
        case rest =>
         obtain ⟨rfl, rfl⟩ := hcut
         clear HKY HPT HRV HWB
         cases wb with
         | true =>
          have HR := Lib.hid (F5.out his trivial trivial (HBAD.out rfl))
          clear F5 FN F0 HIH HQ HQB HQX HQW HWL HBAD HGOOD
          go_wp2_with fail
          try simp only [Exit.inBlock, Exit.then]
          refine bodyPost_ret (v := .int .i64 5) (by simp [results, Tryz.results54, go_sem]) rfl ?_
          rw [← HR.out]
          exact ⟨rfl, HP4.out⟩
         | false =>
          have HG := Lib.hid (HGOOD.out rfl)
          clear HBAD HGOOD
          go_wp2_with fail
          go_roundg (ws.length - (j + 1))
          case measure => omega
          case rel => exact ⟨j + 1, rfl, by omega, by simp, HG.out, rfl⟩
       ·obtain rfl : j = ws.length := by omega
        rw [List.take_length] at hany
        have FN2 := Lib.hid (fun h4 => FN.out his trivial trivial hany h4)
        have F02 := Lib.hid (fun h4 => F0.out his trivial trivial hany h4)
        have hjj : ¬ ((ws.length : Nat) : Int) < (ws.length : Int) := by omega
        clear F5 FN F0 hany HQW HWL
        obtain ⟨b1, hb1⟩ : ∃ b1, decide ((nearK k = true ∧ ¬ (0 ≤ n ∧ n ≤ 20)) ∨ ((k = 12 ∨ k = 13) ∧ ¬ (0 ≤ n ∧ n ≤ 4000))) = b1 := ⟨_, rfl⟩
        obtain ⟨b2, hb2⟩ : ∃ b2, decide (k = 10 ∧ ¬ (1 ≤ n ∧ n ≤ 4)) = b2 := ⟨_, rfl⟩
        have HNE : Hid (numE k n = if b1 = true then 1 else if b2 = true then 4 else 0) := Lib.hid (by
         unfold numE
         rw [← hb1, ← hb2]
         simp only [decide_eq_true_eq])
        have HB1 := Lib.hid hb1
        have HB2 := Lib.hid hb2
        obtain ⟨nk, hnk⟩ : ∃ nk, nearK k = nk := ⟨_, rfl⟩
        rw [hnk] at HNK HB1
        have HKN := Lib.hid hnk
        clear hb1 hb2 hnk
        go_upto_region 14 with (fail)
        go_cut [94] from 95 to 118 (fun p wx => p = .bool b1 ∧ Pure w4 wx)
        case first =>
         have e := HB1.out
         have i1 : ∀ W, Calls Tryz.prog 43 #[.int .i64 n, .int .i64 0, .int .i64 20] W (BoolSame W (decide (0 ≤ n ∧ n ≤ 20))) := fun W => (in_calls _ _ _ W).mono (fun e w' h => ⟨by rw [h.1, inB_eq], h.2⟩)
         have i2 : ∀ W, Calls Tryz.prog 43 #[.int .i64 n, .int .i64 0, .int .i64 4000] W (BoolSame W (decide (0 ≤ n ∧ n ≤ 4000))) := fun W => (in_calls _ _ _ W).mono (fun e w' h => ⟨by rw [h.1, inB_eq], h.2⟩)
         have I1 := Lib.hid i1
         have I2 := Lib.hid i2
         clear i1 i2 FN2 F02 HIH HQ HQB HQX HNE HB2
         go_wp2_with fail
         refine (HNK.out w4).mono ?_
         rintro e2 w5 ⟨rfl, hm⟩
         have HM : Hid (Pure w4 w5) := Lib.hid hm
         have hb5 := HB4.out.modp hm
         clear x0 x1 x2 x3 hm HB4 HNK
         have x0 := hb5.cell 0; have x1 := hb5.cell 1; have x2 := hb5.cell 2; have x3 := hb5.cell 3; simp at x0 x1 x2 x3
         clear hb5
         cases nk with
         | true =>
          have hk45 : k = 4 ∨ k = 5 := by simpa [nearK] using HKN.out
          have h12 : ¬ (k = 12 ∨ k = 13) := by omega
          obtain ⟨q1, hq1⟩ : ∃ q1, decide (0 ≤ n ∧ n ≤ 20) = q1 := ⟨_, rfl⟩
          rw [hq1] at I1
          have e1 : (!q1) = b1 := by
           rw [← e, ← hq1]
           by_cases h : 0 ≤ n ∧ n ≤ 20
           ·rw [decide_eq_true h, decide_eq_false (by intro hh; rcases hh with hh | hh; exact hh.2 h; exact h12 hh.1)]; rfl
           ·rw [decide_eq_false h, decide_eq_true (.inl ⟨rfl, h⟩)]; rfl
          clear e hq1 HKN
          go_wp2_with fail
          refine (I1.out w5).mono ?_
          rintro e2 w6 ⟨rfl, rfl⟩
          cases q1
          ·obtain rfl : true = b1 := e1
           go_wp2_with fail
           go_meet
           exact ⟨rfl, HM.out⟩
          ·obtain rfl : false = b1 := e1
           rcases hk45 with rfl | rfl
           all_goals
            go_wp2_with fail
            go_meet
            exact ⟨rfl, HM.out⟩
         | false =>
          by_cases h12 : k = 12 ∨ k = 13
          ·obtain ⟨q2, hq2⟩ : ∃ q2, decide (0 ≤ n ∧ n ≤ 4000) = q2 := ⟨_, rfl⟩
           rw [hq2] at I2
           have e1 : (!q2) = b1 := by
            rw [← e, ← hq2]
            by_cases h : 0 ≤ n ∧ n ≤ 4000
            ·rw [decide_eq_true h, decide_eq_false (by intro hh; rcases hh with hh | hh; exact absurd hh.1 (by decide); exact hh.2 h)]; rfl
            ·rw [decide_eq_false h, decide_eq_true (.inr ⟨h12, h⟩)]; rfl
           clear e hq2 HKN
           rcases h12 with rfl | rfl
           all_goals
            go_wp2_with fail
            refine (I2.out w5).mono ?_
            rintro e2 w6 ⟨rfl, rfl⟩
            go_wp2_with fail
            go_meet
            exact ⟨by rw [← e1], HM.out⟩
          ·have e1 : false = b1 := by
            rw [← e, decide_eq_false (by intro hh; rcases hh with hh | hh; exact absurd hh.1 (by decide); exact h12 hh.1)]
           subst e1
           have n12 : (k == 12) = false := by simp; omega
           have n13 : (k == 13) = false := by simp; omega
           clear e HKN h12
           go_wp2_with fail
           go_meet
           exact ⟨rfl, HM.out⟩
        case rest =>
         obtain ⟨rfl, hpc⟩ := hcut
         have HB5 := Lib.hid (HB4.out.modp hpc)
         have HP5 : Hid (Pure w wc) := Lib.hid (HP4.out.trans hpc)
         clear hpc x0 x1 x2 x3 HB4 HP4 HB1
         generalize wc = w5 at *
         cases b1 with
         | true =>
          have hne : numE k n = 1 := HNE.out.trans (if_pos rfl)
          have HR := Lib.hid ((FN2.out (by rw [hne]; decide)).symm.trans hne)
          clear FN2 F02 HIH HQ HQB HQX HNE hne HB2
          go_wp2_with fail
          try simp only [Exit.inBlock, Exit.then]
          refine bodyPost_ret (v := .int .i64 1) (by simp [results, Tryz.results54, go_sem]) rfl ?_
          rw [HR.out]
          exact ⟨rfl, HP5.out⟩
         | false =>
          have hne : numE k n = if b2 = true then 4 else 0 := HNE.out.trans (if_neg (by decide))
          have hb5 := HB5.out
          have x0 := hb5.cell 0; have x1 := hb5.cell 1; have x2 := hb5.cell 2; have x3 := hb5.cell 3; simp at x0 x1 x2 x3
          clear hb5
          have HNE2 := Lib.hid hne
          clear HNE hne
          go_upto_region 16 with (fail)
          go_cut [119] from 120 to 128 (fun p wx => p = .bool b2 ∧ w5 = wx)
          case first =>
           have e := HB2.out
           have HKW := Lib.hid (kindWordQ_calls w5 n)
           have hkn := kwQ_nil n
           clear FN2 F02 HIH HQ HQB HQX HNE2 HNK
           by_cases h10 : k = 10
           ·have e1 : (kwQ n == []) = b2 := by
             rw [hkn, ← e]
             by_cases h : 1 ≤ n ∧ n ≤ 4
             ·rw [decide_eq_true h, decide_eq_false (fun hh => hh.2 h)]; rfl
             ·rw [decide_eq_false h, decide_eq_true ⟨h10, h⟩]; rfl
            subst h10
            clear e hkn
            generalize kwQ n = kw at *
            go_wp2_with fail
            refine HKW.out.mono ?_
            rintro e2 w6 ⟨rfl, rfl⟩
            go_wp2_with fail
            go_meet
            exact ⟨by first | rfl | (rw [← e1]; rfl) | (rw [← e1]; simp), rfl⟩
           ·have h10i : (k == 10) = false := by simpa using h10
            obtain rfl : false = b2 := by rw [← e, decide_eq_false (fun hh => h10 hh.1)]
            clear e h10 hkn HKW
            go_wp2_with fail
            go_meet
            exact ⟨rfl, rfl⟩
          case rest =>
           obtain ⟨rfl, rfl⟩ := hcut
           cases b2 with
           | true =>
            have hne : numE k n = 4 := HNE2.out.trans (if_pos rfl)
            have HR := Lib.hid ((FN2.out (by rw [hne]; decide)).symm.trans hne)
            clear FN2 F02 HIH HQ HQB HQX HNE2 hne HB2
            go_wp2_with fail
            try simp only [Exit.inBlock, Exit.then]
            refine bodyPost_ret (v := .int .i64 4) (by simp [results, Tryz.results54, go_sem]) rfl ?_
            rw [HR.out]
            exact ⟨rfl, HP5.out⟩
           | false =>
            have HFL : Hid (fl = fstE ((xs.map QR.key).map (fltQ 100 (mustQ must k)))) := Lib.hid (F02.out (HNE2.out.trans (if_neg (by decide)))).symm
            clear FN2 F02 HNE2 HB2
            have HMQ : Hid (mustQ must k = (nk || (must && decide (k = 7)))) := Lib.hid (by unfold mustQ; rw [HKN.out])
            obtain ⟨mq, hmq⟩ : ∃ mq, mustQ must k = mq := ⟨_, rfl⟩
            rw [hmq] at HFL HMQ
            clear hmq HKN
            go_wp2_with fail
            go_loopg [132] xs.length (fun gk i wr => ∃ j : Nat, xs.length - j = gk ∧ j ≤ xs.length ∧ i = .int .i64 (j : Int) ∧ fstE (((xs.map QR.key).map (fltQ 100 mq)).take j) = 0 ∧ Pure w5 wr)
            case atStart => exact ⟨0, by omega, by omega, rfl, by simp [fstE], Mod.refl _ _⟩
            case round =>
             obtain ⟨j, rfl, hj, rfl, hfs, hm⟩ := hrel
             have HM : Hid (Pure w wr) := Lib.hid (HP5.out.trans hm)
             have HMR : Hid (Pure w5 wr) := Lib.hid hm
             have HB6' := Lib.hid (HB5.out.modp hm)
             have HFS := Lib.hid hfs
             clear hm hfs
             by_cases hlt : j < xs.length
             ·obtain ⟨k', A', c', ws', n', B', dd', xs', hq⟩ := QR.ex xs[j]
              have hxs := HQX.out.pure HM.out
              obtain ⟨g, off, hA, q0, q1, q2, q3⟩ := qcells hxs hlt hq
              obtain rfl := hA
              have hji : ((j : Nat) : Int) < (xs.length : Int) := by omega
              have HQJ : Hid (QS wr (.mk k' A' c' ws' n' B' dd' xs')) := Lib.hid (by rw [← hq]; exact (HQ.out.allH _ (List.getElem_mem hlt)).pure HM.out)
              have HQK : Hid (QB 1000 (QR.mk k' A' c' ws' n' B' dd' xs').key) := Lib.hid (by rw [← hq]; exact HQB.out _ (List.mem_map.2 ⟨_, List.getElem_mem hlt, rfl⟩))
              have HMEM : Hid (QR.mk k' A' c' ws' n' B' dd' xs' ∈ xs) := Lib.hid (by rw [← hq]; exact List.getElem_mem hlt)
              obtain ⟨er, her⟩ : ∃ er, fltQ 100 mq (QR.mk k' A' c' ws' n' B' dd' xs').key = er := ⟨_, rfl⟩
              have hjl : j < ((xs.map QR.key).map (fltQ 100 mq)).length := by simpa using hlt
              have hat := fstE_at hjl HFS.out
              have hge : ((xs.map QR.key).map (fltQ 100 mq))[j] = er := by rw [List.getElem_map, List.getElem_map, hq, her]
              rw [hge] at hat
              have HAT := Lib.hid hat
              have HPA := Lib.hid (pure_alloc wr (.cells #[.int .i64 k', .slice A' ws'.length c', .int .i64 n', .slice B' xs'.length dd'] 44))
              have hX6 := Blk.new wr 44 #[.int .i64 k', .slice A' ws'.length c', .int .i64 n', .slice B' xs'.length dd']
              have hB6 := HB6'.out.alloc (.cells #[.int .i64 k', .slice A' ws'.length c', .int .i64 n', .slice B' xs'.length dd'] 44)
              clear hat hge hjl hxs hq HB6'
              go_upto_region 21 with (fail)
              have HI : Hid (∀ W, Pure (wr.alloc (.cells #[.int .i64 k', .slice A' ws'.length c', .int .i64 n', .slice B' xs'.length dd'] 44)) W → Calls Tryz.prog 54 #[.agg #[.int .i64 k', .slice A' ws'.length c', .int .i64 n', .slice B' xs'.length dd'], .bool mq] W (IntPost W er)) := Lib.hid (fun W h => by
               have h2 := HIH.out _ HMEM.out W mq ((HQJ.out.pure HPA.out).pure h) HQK.out
               rw [her] at h2
               exact h2)
              have HP6 : Hid (Pure w (wr.alloc (.cells #[.int .i64 k', .slice A' ws'.length c', .int .i64 n', .slice B' xs'.length dd'] 44))) := Lib.hid (HM.out.trans HPA.out)
              have HM5 : Hid (Pure w5 (wr.alloc (.cells #[.int .i64 k', .slice A' ws'.length c', .int .i64 n', .slice B' xs'.length dd'] 44))) := Lib.hid (HMR.out.trans HPA.out)
              generalize (wr.alloc (.cells #[.int .i64 k', .slice A' ws'.length c', .int .i64 n', .slice B' xs'.length dd'] 44)) = w6 at *
              generalize wr.heap.size = g12 at *
              have HX6 := Lib.hid hX6
              have HB6 := Lib.hid hB6
              have emq := HMQ.out
              clear hX6 hB6 HQJ HQK HMEM HPA HIH her q0 q1 q2 q3 HM HMR
              cases nk with
              | true =>
               rw [Bool.true_or] at emq
               subst emq
               have HGs := Lib.hid (show ∀ (D : Nat → Bool) (zzi : Nat) (zq zq' : World), (fun _ zq => (fun Z => Blk Z g0 44 #[.int .i64 k, .slice A ws.length c, .int .i64 n, .slice (some ⟨g, off, none⟩) xs.length dd] ∧ Blk Z g12 44 #[.int .i64 k', .slice A' ws'.length c', .int .i64 n', .slice B' xs'.length dd']) zq) D zq → Mod (fun _ => False) zq zq' → (fun _ zq => (fun Z => Blk Z g0 44 #[.int .i64 k, .slice A ws.length c, .int .i64 n, .slice (some ⟨g, off, none⟩) xs.length dd] ∧ Blk Z g12 44 #[.int .i64 k', .slice A' ws'.length c', .int .i64 n', .slice B' xs'.length dd']) zq) (upd D zzi true) zq' from by intro D zzi zq zq' h hm; (exact ⟨h.1.modp hm, h.2.modp hm⟩))
               refine wp_region_inv (by kernel_rfl) (by kernel_rfl) (InvF (R := Mod (fun _ => False)) [.is (.agg #[.int .i64 k', .slice A' ws'.length c', .int .i64 n', .slice B' xs'.length dd']),
                 .is (.agg #[.int .i64 k, .slice A ws.length c, .int .i64 n, .slice (some ⟨g, off, none⟩) xs.length dd]),
                 .is (.bool true),
                 .is (.bool true),
                 .is (undef),
                 .is (undef),
                 .is (undef),
                 .is (undef),
                 .is (undef),
                 .is (undef),
                 .is (.bool true),
                 .is (.int .i64 er),
                 .is (.int .i64 er)]
                 (PB w6 (fun _ => False) w6.heap.size (fun _ zq => (fun Z => Blk Z g0 44 #[.int .i64 k, .slice A ws.length c, .int .i64 n, .slice (some ⟨g, off, none⟩) xs.length dd] ∧ Blk Z g12 44 #[.int .i64 k', .slice A' ws'.length c', .int .i64 n', .slice B' xs'.length dd']) zq))) (InvF.start (PB.start (Mod.refl _ _) (Nat.le_refl _) (⟨HB6.out, HX6.out⟩))) ?_ ?_
               ·refine .cons ?_ (.cons ?_ (.cons ?_ (.cons ?_ (.cons ?_ (.cons ?_ (.cons ?_ (.cons ?_ (.cons ?_ (.cons ?_ (.cons ?_ (.cons ?_ (.cons ?_ .nil))))))))))))
                ·intro D V zw1 a hR hI K hK
                 obtain ⟨hM1, hB1, hG1⟩ := hI.1
                 have ze12 := hR.frame.other (t := 12) (by kernel_rfl) rfl
                 have zx0 := hG1.2.cell 0; have zx1 := hG1.2.cell 1; have zx2 := hG1.2.cell 2; have zx3 := hG1.2.cell 3
                 simp at zx0 zx1 zx2 zx3
                 rw [if_pos (by rfl)]
                 go_simp
                 exact hK (.agg #[.int .i64 k', .slice A' ws'.length c', .int .i64 n', .slice B' xs'.length dd']) _ (hI.next hR (by kernel_rfl) (Mod.refl _ _) (PB.quiet hI.1 (Mod.refl _ _) (HGs.out D 0 zw1 zw1 (hI.1).g (Mod.refl _ _))) (upd_same V 0 _))
                ·intro D V zw1 a hR hI K hK
                 obtain ⟨hM1, hB1, hG1⟩ := hI.1
                 have ze2 := hR.frame.other (t := 2) (by kernel_rfl) rfl
                 have zx0 := hG1.1.cell 0; have zx1 := hG1.1.cell 1; have zx2 := hG1.1.cell 2; have zx3 := hG1.1.cell 3
                 simp at zx0 zx1 zx2 zx3
                 rw [if_pos (by rfl)]
                 go_simp
                 exact hK (.agg #[.int .i64 k, .slice A ws.length c, .int .i64 n, .slice (some ⟨g, off, none⟩) xs.length dd]) _ (hI.next hR (by kernel_rfl) (Mod.refl _ _) (PB.quiet hI.1 (Mod.refl _ _) (HGs.out D 1 zw1 zw1 (hI.1).g (Mod.refl _ _))) (upd_same V 1 _))
                ·intro D V zw1 a hR hI K hK
                 obtain ⟨hM1, hB1, hG1⟩ := hI.1
                 have zd1 := hR.pred 1 (by kernel_rfl)
                 have zF1 : V 1 = .agg #[.int .i64 k, .slice A ws.length c, .int .i64 n, .slice (some ⟨g, off, none⟩) xs.length dd] := hI.2 1 zd1 rfl
                 have zf1 := zF1; clear zF1
                 have ze137 := hR.frame.done (t := 137) (j := 1) (by kernel_rfl) hR.ok zd1
                 rw [if_pos (by rfl)]
                 go_simp
                 refine (HNK.out zw1).mono ?_
                 rintro e zw2 ⟨rfl, hm2⟩
                 exact hK (.bool true) _ (hI.next hR (by kernel_rfl) hm2 (PB.quiet hI.1 hm2 (HGs.out D 2 _ _ (hI.1).g hm2)) (upd_same V 2 _))
                ·intro D V zw1 a hR hI K hK
                 obtain ⟨hM1, hB1, hG1⟩ := hI.1
                 have zd2 := hR.pred 2 (by kernel_rfl)
                 have zF2 : V 2 = .bool true := hI.2 2 zd2 rfl
                 have zf2 := zF2; clear zF2
                 have ze138 := hR.frame.done (t := 138) (j := 2) (by kernel_rfl) hR.ok zd2
                 rw [if_pos (by rfl)]
                 go_simp
                 exact hK (.bool true) _ (hI.next hR (by kernel_rfl) (Mod.refl _ _) (PB.quiet hI.1 (Mod.refl _ _) (HGs.out D 3 zw1 zw1 (hI.1).g (Mod.refl _ _))) (upd_same V 3 _))
                ·intro D V zw1 a hR hI K hK
                 obtain ⟨hM1, hB1, hG1⟩ := hI.1
                 have zd3 := hR.pred 3 (by kernel_rfl)
                 have zF3 : V 3 = .bool true := hI.2 3 zd3 rfl
                 have zf3 := zF3; clear zF3
                 have ze139 := hR.frame.done (t := 139) (j := 3) (by kernel_rfl) hR.ok zd3
                 rw [if_neg (by simp [Region.wanted, yielded, ze139, zf3])]
                 exact hK undef _ (hI.next hR (by kernel_rfl) (Mod.refl _ _) (PB.quiet hI.1 (Mod.refl _ _) (HGs.out D 4 zw1 zw1 (hI.1).g (Mod.refl _ _))) (upd_same V 4 _))
                ·intro D V zw1 a hR hI K hK
                 obtain ⟨hM1, hB1, hG1⟩ := hI.1
                 have zd3 := hR.pred 3 (by kernel_rfl)
                 have zF3 : V 3 = .bool true := hI.2 3 zd3 rfl
                 have zf3 := zF3; clear zF3
                 have ze139 := hR.frame.done (t := 139) (j := 3) (by kernel_rfl) hR.ok zd3
                 rw [if_neg (by simp [Region.wanted, yielded, ze139, zf3])]
                 exact hK undef _ (hI.next hR (by kernel_rfl) (Mod.refl _ _) (PB.quiet hI.1 (Mod.refl _ _) (HGs.out D 5 zw1 zw1 (hI.1).g (Mod.refl _ _))) (upd_same V 5 _))
                ·intro D V zw1 a hR hI K hK
                 obtain ⟨hM1, hB1, hG1⟩ := hI.1
                 have zd5 := hR.pred 5 (by kernel_rfl)
                 have zF5 : V 5 = undef := hI.2 5 zd5 rfl
                 have zf5 := zF5; clear zF5
                 have ze141 := hR.frame.done (t := 141) (j := 5) (by kernel_rfl) hR.ok zd5
                 rw [if_neg (by simp [Region.wanted, yielded, ze141, zf5, undef])]
                 exact hK undef _ (hI.next hR (by kernel_rfl) (Mod.refl _ _) (PB.quiet hI.1 (Mod.refl _ _) (HGs.out D 6 zw1 zw1 (hI.1).g (Mod.refl _ _))) (upd_same V 6 _))
                ·intro D V zw1 a hR hI K hK
                 obtain ⟨hM1, hB1, hG1⟩ := hI.1
                 have zd5 := hR.pred 5 (by kernel_rfl)
                 have zF5 : V 5 = undef := hI.2 5 zd5 rfl
                 have zf5 := zF5; clear zF5
                 have ze141 := hR.frame.done (t := 141) (j := 5) (by kernel_rfl) hR.ok zd5
                 rw [if_neg (by simp [Region.wanted, yielded, ze141, zf5, undef])]
                 exact hK undef _ (hI.next hR (by kernel_rfl) (Mod.refl _ _) (PB.quiet hI.1 (Mod.refl _ _) (HGs.out D 7 zw1 zw1 (hI.1).g (Mod.refl _ _))) (upd_same V 7 _))
                ·intro D V zw1 a hR hI K hK
                 obtain ⟨hM1, hB1, hG1⟩ := hI.1
                 have zd5 := hR.pred 5 (by kernel_rfl)
                 have zF5 : V 5 = undef := hI.2 5 zd5 rfl
                 have zf5 := zF5; clear zF5
                 have ze141 := hR.frame.done (t := 141) (j := 5) (by kernel_rfl) hR.ok zd5
                 rw [if_neg (by simp [Region.wanted, yielded, ze141, zf5, undef])]
                 exact hK undef _ (hI.next hR (by kernel_rfl) (Mod.refl _ _) (PB.quiet hI.1 (Mod.refl _ _) (HGs.out D 8 zw1 zw1 (hI.1).g (Mod.refl _ _))) (upd_same V 8 _))
                ·intro D V zw1 a hR hI K hK
                 obtain ⟨hM1, hB1, hG1⟩ := hI.1
                 have zd3 := hR.pred 3 (by kernel_rfl)
                 have zF3 : V 3 = .bool true := hI.2 3 zd3 rfl
                 have zf3 := zF3; clear zF3
                 have ze139 := hR.frame.done (t := 139) (j := 3) (by kernel_rfl) hR.ok zd3
                 rw [if_neg (by simp [Region.wanted, yielded, ze139, zf3])]
                 exact hK undef _ (hI.next hR (by kernel_rfl) (Mod.refl _ _) (PB.quiet hI.1 (Mod.refl _ _) (HGs.out D 9 zw1 zw1 (hI.1).g (Mod.refl _ _))) (upd_same V 9 _))
                ·intro D V zw1 a hR hI K hK
                 obtain ⟨hM1, hB1, hG1⟩ := hI.1
                 have zd3 := hR.pred 3 (by kernel_rfl)
                 have zF3 : V 3 = .bool true := hI.2 3 zd3 rfl
                 have zf3 := zF3; clear zF3
                 have zd9 := hR.pred 9 (by kernel_rfl)
                 have zF9 : V 9 = undef := hI.2 9 zd9 rfl
                 have zf9 := zF9; clear zF9
                 have ze139 := hR.frame.done (t := 139) (j := 3) (by kernel_rfl) hR.ok zd3
                 have ze145 := hR.frame.done (t := 145) (j := 9) (by kernel_rfl) hR.ok zd9
                 rw [if_pos (by rfl)]
                 go_simp
                 exact hK (.bool true) _ (hI.next hR (by kernel_rfl) (Mod.refl _ _) (PB.quiet hI.1 (Mod.refl _ _) (HGs.out D 10 zw1 zw1 (hI.1).g (Mod.refl _ _))) (upd_same V 10 _))
                ·intro D V zw1 a hR hI K hK
                 obtain ⟨hM1, hB1, hG1⟩ := hI.1
                 have zd0 := hR.pred 0 (by kernel_rfl)
                 have zF0 : V 0 = .agg #[.int .i64 k', .slice A' ws'.length c', .int .i64 n', .slice B' xs'.length dd'] := hI.2 0 zd0 rfl
                 have zf0 := zF0; clear zF0
                 have zd10 := hR.pred 10 (by kernel_rfl)
                 have zF10 : V 10 = .bool true := hI.2 10 zd10 rfl
                 have zf10 := zF10; clear zF10
                 have ze136 := hR.frame.done (t := 136) (j := 0) (by kernel_rfl) hR.ok zd0
                 have ze146 := hR.frame.done (t := 146) (j := 10) (by kernel_rfl) hR.ok zd10
                 rw [if_pos (by rfl)]
                 go_simp
                 refine (HI.out zw1 hM1).mono ?_
                 rintro e zw2 ⟨rfl, hm2⟩
                 exact hK (.int .i64 er) _ (hI.next hR (by kernel_rfl) hm2 (PB.quiet hI.1 hm2 (HGs.out D 11 _ _ (hI.1).g hm2)) (upd_same V 11 _))
                ·intro D V zw1 a hR hI K hK
                 obtain ⟨hM1, hB1, hG1⟩ := hI.1
                 have zd11 := hR.pred 11 (by kernel_rfl)
                 have zF11 : V 11 = .int .i64 er := hI.2 11 zd11 rfl
                 have zf11 := zF11; clear zF11
                 have ze147 := hR.frame.done (t := 147) (j := 11) (by kernel_rfl) hR.ok zd11
                 rw [if_pos (by rfl)]
                 go_simp
                 exact hK (.int .i64 er) _ (hI.next hR (by kernel_rfl) (Mod.refl _ _) (PB.quiet hI.1 (Mod.refl _ _) (HGs.out D 12 zw1 zw1 (hI.1).g (Mod.refl _ _))) (upd_same V 12 _))
               ·intro D V w9 hD hI
                obtain ⟨hM1, hB1, hG1⟩ := hI.1
                have hMx := hM1
                clear hM1
                have hBx := hB1
                clear hB1
                have hGx := hG1
                clear hG1
                have zF0 : V 0 = .agg #[.int .i64 k', .slice A' ws'.length c', .int .i64 n', .slice B' xs'.length dd'] := hI.2 0 (hD 0 (by decide)) rfl
                have zf0 := zF0; clear zF0
                have zF1 : V 1 = .agg #[.int .i64 k, .slice A ws.length c, .int .i64 n, .slice (some ⟨g, off, none⟩) xs.length dd] := hI.2 1 (hD 1 (by decide)) rfl
                have zf1 := zF1; clear zF1
                have zF2 : V 2 = .bool true := hI.2 2 (hD 2 (by decide)) rfl
                have zf2 := zF2; clear zF2
                have zF3 : V 3 = .bool true := hI.2 3 (hD 3 (by decide)) rfl
                have zf3 := zF3; clear zF3
                have zF4 : V 4 = undef := hI.2 4 (hD 4 (by decide)) rfl
                have zf4 := zF4; clear zF4
                have zF5 : V 5 = undef := hI.2 5 (hD 5 (by decide)) rfl
                have zf5 := zF5; clear zF5
                have zF6 : V 6 = undef := hI.2 6 (hD 6 (by decide)) rfl
                have zf6 := zF6; clear zF6
                have zF7 : V 7 = undef := hI.2 7 (hD 7 (by decide)) rfl
                have zf7 := zF7; clear zF7
                have zF8 : V 8 = undef := hI.2 8 (hD 8 (by decide)) rfl
                have zf8 := zF8; clear zF8
                have zF9 : V 9 = undef := hI.2 9 (hD 9 (by decide)) rfl
                have zf9 := zF9; clear zF9
                have zF10 : V 10 = .bool true := hI.2 10 (hD 10 (by decide)) rfl
                have zf10 := zF10; clear zF10
                have zF11 : V 11 = .int .i64 er := hI.2 11 (hD 11 (by decide)) rfl
                have zf11 := zF11; clear zF11
                have zF12 : V 12 = .int .i64 er := hI.2 12 (hD 12 (by decide)) rfl
                have zf12 := zF12; clear zF12
                clear hI hD HGs
                simp only [frAll, Act.put, List.setIfInBounds_toArray, List.set_cons_zero, List.set_cons_succ, Nat.zero_add, Nat.reduceAdd, zf0, zf1, zf2, zf3, zf4, zf5, zf6, zf7, zf8, zf9, zf10, zf11, zf12]
                clear zf0 zf1 zf2 zf3 zf4 zf5 zf6 zf7 zf8 zf9 zf10 zf11 zf12
                clear V D
                have HP9 : Hid (Pure w w9) := Lib.hid (HP6.out.trans hMx)
                have HM9 : Hid (Pure w5 w9) := Lib.hid ((HM5.out).trans hMx)
                clear hGx hMx hBx HI HX6 HB6 HP6 HM5
                by_cases he0 : er = 0
                ·subst he0
                 have HS := Lib.hid (HAT.out.2 rfl)
                 clear HAT HFS
                 go_wp2_with fail
                 go_roundg (xs.length - (j + 1))
                 case measure => omega
                 case rel => exact ⟨j + 1, rfl, by omega, by simp, HS.out, HM9.out⟩
                ·have hen : (er != 0) = true := by simpa using he0
                 have HR : Hid (fl = er) := Lib.hid (HFL.out.trans (HAT.out.1 he0))
                 clear HAT HFS HFL HQ HQB HQX he0
                 go_wp2_with fail
                 try simp only [Exit.inBlock, Exit.then]
                 refine bodyPost_ret (v := .int .i64 er) (by simp [results, Tryz.results54, go_sem]) rfl ?_
                 rw [HR.out]
                 exact ⟨rfl, HP9.out⟩
              | false =>
               rw [Bool.false_or] at emq
               cases must with
               | false =>
                rw [Bool.false_and] at emq
                subst emq
                have HGs := Lib.hid (show ∀ (D : Nat → Bool) (zzi : Nat) (zq zq' : World), (fun _ zq => (fun Z => Blk Z g0 44 #[.int .i64 k, .slice A ws.length c, .int .i64 n, .slice (some ⟨g, off, none⟩) xs.length dd] ∧ Blk Z g12 44 #[.int .i64 k', .slice A' ws'.length c', .int .i64 n', .slice B' xs'.length dd']) zq) D zq → Mod (fun _ => False) zq zq' → (fun _ zq => (fun Z => Blk Z g0 44 #[.int .i64 k, .slice A ws.length c, .int .i64 n, .slice (some ⟨g, off, none⟩) xs.length dd] ∧ Blk Z g12 44 #[.int .i64 k', .slice A' ws'.length c', .int .i64 n', .slice B' xs'.length dd']) zq) (upd D zzi true) zq' from by intro D zzi zq zq' h hm; (exact ⟨h.1.modp hm, h.2.modp hm⟩))
                refine wp_region_inv (by kernel_rfl) (by kernel_rfl) (InvF (R := Mod (fun _ => False)) [.is (.agg #[.int .i64 k', .slice A' ws'.length c', .int .i64 n', .slice B' xs'.length dd']),
                  .is (.agg #[.int .i64 k, .slice A ws.length c, .int .i64 n, .slice (some ⟨g, off, none⟩) xs.length dd]),
                  .is (.bool false),
                  .is (.bool false),
                  .is (.bool false),
                  .is (.bool false),
                  .is (undef),
                  .is (undef),
                  .is (undef),
                  .is (.bool false),
                  .is (.bool false),
                  .is (.int .i64 er),
                  .is (.int .i64 er)]
                  (PB w6 (fun _ => False) w6.heap.size (fun _ zq => (fun Z => Blk Z g0 44 #[.int .i64 k, .slice A ws.length c, .int .i64 n, .slice (some ⟨g, off, none⟩) xs.length dd] ∧ Blk Z g12 44 #[.int .i64 k', .slice A' ws'.length c', .int .i64 n', .slice B' xs'.length dd']) zq))) (InvF.start (PB.start (Mod.refl _ _) (Nat.le_refl _) (⟨HB6.out, HX6.out⟩))) ?_ ?_
                ·refine .cons ?_ (.cons ?_ (.cons ?_ (.cons ?_ (.cons ?_ (.cons ?_ (.cons ?_ (.cons ?_ (.cons ?_ (.cons ?_ (.cons ?_ (.cons ?_ (.cons ?_ .nil))))))))))))
                 ·intro D V zw1 a hR hI K hK
                  obtain ⟨hM1, hB1, hG1⟩ := hI.1
                  have ze12 := hR.frame.other (t := 12) (by kernel_rfl) rfl
                  have zx0 := hG1.2.cell 0; have zx1 := hG1.2.cell 1; have zx2 := hG1.2.cell 2; have zx3 := hG1.2.cell 3
                  simp at zx0 zx1 zx2 zx3
                  rw [if_pos (by rfl)]
                  go_simp
                  exact hK (.agg #[.int .i64 k', .slice A' ws'.length c', .int .i64 n', .slice B' xs'.length dd']) _ (hI.next hR (by kernel_rfl) (Mod.refl _ _) (PB.quiet hI.1 (Mod.refl _ _) (HGs.out D 0 zw1 zw1 (hI.1).g (Mod.refl _ _))) (upd_same V 0 _))
                 ·intro D V zw1 a hR hI K hK
                  obtain ⟨hM1, hB1, hG1⟩ := hI.1
                  have ze2 := hR.frame.other (t := 2) (by kernel_rfl) rfl
                  have zx0 := hG1.1.cell 0; have zx1 := hG1.1.cell 1; have zx2 := hG1.1.cell 2; have zx3 := hG1.1.cell 3
                  simp at zx0 zx1 zx2 zx3
                  rw [if_pos (by rfl)]
                  go_simp
                  exact hK (.agg #[.int .i64 k, .slice A ws.length c, .int .i64 n, .slice (some ⟨g, off, none⟩) xs.length dd]) _ (hI.next hR (by kernel_rfl) (Mod.refl _ _) (PB.quiet hI.1 (Mod.refl _ _) (HGs.out D 1 zw1 zw1 (hI.1).g (Mod.refl _ _))) (upd_same V 1 _))
                 ·intro D V zw1 a hR hI K hK
                  obtain ⟨hM1, hB1, hG1⟩ := hI.1
                  have zd1 := hR.pred 1 (by kernel_rfl)
                  have zF1 : V 1 = .agg #[.int .i64 k, .slice A ws.length c, .int .i64 n, .slice (some ⟨g, off, none⟩) xs.length dd] := hI.2 1 zd1 rfl
                  have zf1 := zF1; clear zF1
                  have ze137 := hR.frame.done (t := 137) (j := 1) (by kernel_rfl) hR.ok zd1
                  rw [if_pos (by rfl)]
                  go_simp
                  refine (HNK.out zw1).mono ?_
                  rintro e zw2 ⟨rfl, hm2⟩
                  exact hK (.bool false) _ (hI.next hR (by kernel_rfl) hm2 (PB.quiet hI.1 hm2 (HGs.out D 2 _ _ (hI.1).g hm2)) (upd_same V 2 _))
                 ·intro D V zw1 a hR hI K hK
                  obtain ⟨hM1, hB1, hG1⟩ := hI.1
                  have zd2 := hR.pred 2 (by kernel_rfl)
                  have zF2 : V 2 = .bool false := hI.2 2 zd2 rfl
                  have zf2 := zF2; clear zF2
                  have ze138 := hR.frame.done (t := 138) (j := 2) (by kernel_rfl) hR.ok zd2
                  rw [if_pos (by rfl)]
                  go_simp
                  exact hK (.bool false) _ (hI.next hR (by kernel_rfl) (Mod.refl _ _) (PB.quiet hI.1 (Mod.refl _ _) (HGs.out D 3 zw1 zw1 (hI.1).g (Mod.refl _ _))) (upd_same V 3 _))
                 ·intro D V zw1 a hR hI K hK
                  obtain ⟨hM1, hB1, hG1⟩ := hI.1
                  have zd3 := hR.pred 3 (by kernel_rfl)
                  have zF3 : V 3 = .bool false := hI.2 3 zd3 rfl
                  have zf3 := zF3; clear zF3
                  have ze1 := hR.frame.other (t := 1) (by kernel_rfl) rfl
                  have ze139 := hR.frame.done (t := 139) (j := 3) (by kernel_rfl) hR.ok zd3
                  rw [if_pos (by simp [Region.wanted, yielded, ze139, zf3])]
                  go_simp
                  exact hK (.bool false) _ (hI.next hR (by kernel_rfl) (Mod.refl _ _) (PB.quiet hI.1 (Mod.refl _ _) (HGs.out D 4 zw1 zw1 (hI.1).g (Mod.refl _ _))) (upd_same V 4 _))
                 ·intro D V zw1 a hR hI K hK
                  obtain ⟨hM1, hB1, hG1⟩ := hI.1
                  have zd4 := hR.pred 4 (by kernel_rfl)
                  have zF4 : V 4 = .bool false := hI.2 4 zd4 rfl
                  have zf4 := zF4; clear zF4
                  have zd3 := hR.pred 3 (by kernel_rfl)
                  have zF3 : V 3 = .bool false := hI.2 3 zd3 rfl
                  have zf3 := zF3; clear zF3
                  have ze140 := hR.frame.done (t := 140) (j := 4) (by kernel_rfl) hR.ok zd4
                  have ze139 := hR.frame.done (t := 139) (j := 3) (by kernel_rfl) hR.ok zd3
                  rw [if_pos (by simp [Region.wanted, yielded, ze139, zf3])]
                  go_simp
                  exact hK (.bool false) _ (hI.next hR (by kernel_rfl) (Mod.refl _ _) (PB.quiet hI.1 (Mod.refl _ _) (HGs.out D 5 zw1 zw1 (hI.1).g (Mod.refl _ _))) (upd_same V 5 _))
                 ·intro D V zw1 a hR hI K hK
                  obtain ⟨hM1, hB1, hG1⟩ := hI.1
                  have zd5 := hR.pred 5 (by kernel_rfl)
                  have zF5 : V 5 = .bool false := hI.2 5 zd5 rfl
                  have zf5 := zF5; clear zF5
                  have ze141 := hR.frame.done (t := 141) (j := 5) (by kernel_rfl) hR.ok zd5
                  rw [if_neg (by simp [Region.wanted, yielded, ze141, zf5])]
                  exact hK undef _ (hI.next hR (by kernel_rfl) (Mod.refl _ _) (PB.quiet hI.1 (Mod.refl _ _) (HGs.out D 6 zw1 zw1 (hI.1).g (Mod.refl _ _))) (upd_same V 6 _))
                 ·intro D V zw1 a hR hI K hK
                  obtain ⟨hM1, hB1, hG1⟩ := hI.1
                  have zd5 := hR.pred 5 (by kernel_rfl)
                  have zF5 : V 5 = .bool false := hI.2 5 zd5 rfl
                  have zf5 := zF5; clear zF5
                  have ze141 := hR.frame.done (t := 141) (j := 5) (by kernel_rfl) hR.ok zd5
                  rw [if_neg (by simp [Region.wanted, yielded, ze141, zf5])]
                  exact hK undef _ (hI.next hR (by kernel_rfl) (Mod.refl _ _) (PB.quiet hI.1 (Mod.refl _ _) (HGs.out D 7 zw1 zw1 (hI.1).g (Mod.refl _ _))) (upd_same V 7 _))
                 ·intro D V zw1 a hR hI K hK
                  obtain ⟨hM1, hB1, hG1⟩ := hI.1
                  have zd5 := hR.pred 5 (by kernel_rfl)
                  have zF5 : V 5 = .bool false := hI.2 5 zd5 rfl
                  have zf5 := zF5; clear zF5
                  have ze141 := hR.frame.done (t := 141) (j := 5) (by kernel_rfl) hR.ok zd5
                  rw [if_neg (by simp [Region.wanted, yielded, ze141, zf5])]
                  exact hK undef _ (hI.next hR (by kernel_rfl) (Mod.refl _ _) (PB.quiet hI.1 (Mod.refl _ _) (HGs.out D 8 zw1 zw1 (hI.1).g (Mod.refl _ _))) (upd_same V 8 _))
                 ·intro D V zw1 a hR hI K hK
                  obtain ⟨hM1, hB1, hG1⟩ := hI.1
                  have zd5 := hR.pred 5 (by kernel_rfl)
                  have zF5 : V 5 = .bool false := hI.2 5 zd5 rfl
                  have zf5 := zF5; clear zF5
                  have zd8 := hR.pred 8 (by kernel_rfl)
                  have zF8 : V 8 = undef := hI.2 8 zd8 rfl
                  have zf8 := zF8; clear zF8
                  have zd3 := hR.pred 3 (by kernel_rfl)
                  have zF3 : V 3 = .bool false := hI.2 3 zd3 rfl
                  have zf3 := zF3; clear zF3
                  have ze141 := hR.frame.done (t := 141) (j := 5) (by kernel_rfl) hR.ok zd5
                  have ze144 := hR.frame.done (t := 144) (j := 8) (by kernel_rfl) hR.ok zd8
                  have ze139 := hR.frame.done (t := 139) (j := 3) (by kernel_rfl) hR.ok zd3
                  rw [if_pos (by simp [Region.wanted, yielded, ze139, zf3])]
                  go_simp
                  exact hK (.bool false) _ (hI.next hR (by kernel_rfl) (Mod.refl _ _) (PB.quiet hI.1 (Mod.refl _ _) (HGs.out D 9 zw1 zw1 (hI.1).g (Mod.refl _ _))) (upd_same V 9 _))
                 ·intro D V zw1 a hR hI K hK
                  obtain ⟨hM1, hB1, hG1⟩ := hI.1
                  have zd3 := hR.pred 3 (by kernel_rfl)
                  have zF3 : V 3 = .bool false := hI.2 3 zd3 rfl
                  have zf3 := zF3; clear zF3
                  have zd9 := hR.pred 9 (by kernel_rfl)
                  have zF9 : V 9 = .bool false := hI.2 9 zd9 rfl
                  have zf9 := zF9; clear zF9
                  have ze139 := hR.frame.done (t := 139) (j := 3) (by kernel_rfl) hR.ok zd3
                  have ze145 := hR.frame.done (t := 145) (j := 9) (by kernel_rfl) hR.ok zd9
                  rw [if_pos (by rfl)]
                  go_simp
                  exact hK (.bool false) _ (hI.next hR (by kernel_rfl) (Mod.refl _ _) (PB.quiet hI.1 (Mod.refl _ _) (HGs.out D 10 zw1 zw1 (hI.1).g (Mod.refl _ _))) (upd_same V 10 _))
                 ·intro D V zw1 a hR hI K hK
                  obtain ⟨hM1, hB1, hG1⟩ := hI.1
                  have zd0 := hR.pred 0 (by kernel_rfl)
                  have zF0 : V 0 = .agg #[.int .i64 k', .slice A' ws'.length c', .int .i64 n', .slice B' xs'.length dd'] := hI.2 0 zd0 rfl
                  have zf0 := zF0; clear zF0
                  have zd10 := hR.pred 10 (by kernel_rfl)
                  have zF10 : V 10 = .bool false := hI.2 10 zd10 rfl
                  have zf10 := zF10; clear zF10
                  have ze136 := hR.frame.done (t := 136) (j := 0) (by kernel_rfl) hR.ok zd0
                  have ze146 := hR.frame.done (t := 146) (j := 10) (by kernel_rfl) hR.ok zd10
                  rw [if_pos (by rfl)]
                  go_simp
                  refine (HI.out zw1 hM1).mono ?_
                  rintro e zw2 ⟨rfl, hm2⟩
                  exact hK (.int .i64 er) _ (hI.next hR (by kernel_rfl) hm2 (PB.quiet hI.1 hm2 (HGs.out D 11 _ _ (hI.1).g hm2)) (upd_same V 11 _))
                 ·intro D V zw1 a hR hI K hK
                  obtain ⟨hM1, hB1, hG1⟩ := hI.1
                  have zd11 := hR.pred 11 (by kernel_rfl)
                  have zF11 : V 11 = .int .i64 er := hI.2 11 zd11 rfl
                  have zf11 := zF11; clear zF11
                  have ze147 := hR.frame.done (t := 147) (j := 11) (by kernel_rfl) hR.ok zd11
                  rw [if_pos (by rfl)]
                  go_simp
                  exact hK (.int .i64 er) _ (hI.next hR (by kernel_rfl) (Mod.refl _ _) (PB.quiet hI.1 (Mod.refl _ _) (HGs.out D 12 zw1 zw1 (hI.1).g (Mod.refl _ _))) (upd_same V 12 _))
                ·intro D V w9 hD hI
                 obtain ⟨hM1, hB1, hG1⟩ := hI.1
                 have hMx := hM1
                 clear hM1
                 have hBx := hB1
                 clear hB1
                 have hGx := hG1
                 clear hG1
                 have zF0 : V 0 = .agg #[.int .i64 k', .slice A' ws'.length c', .int .i64 n', .slice B' xs'.length dd'] := hI.2 0 (hD 0 (by decide)) rfl
                 have zf0 := zF0; clear zF0
                 have zF1 : V 1 = .agg #[.int .i64 k, .slice A ws.length c, .int .i64 n, .slice (some ⟨g, off, none⟩) xs.length dd] := hI.2 1 (hD 1 (by decide)) rfl
                 have zf1 := zF1; clear zF1
                 have zF2 : V 2 = .bool false := hI.2 2 (hD 2 (by decide)) rfl
                 have zf2 := zF2; clear zF2
                 have zF3 : V 3 = .bool false := hI.2 3 (hD 3 (by decide)) rfl
                 have zf3 := zF3; clear zF3
                 have zF4 : V 4 = .bool false := hI.2 4 (hD 4 (by decide)) rfl
                 have zf4 := zF4; clear zF4
                 have zF5 : V 5 = .bool false := hI.2 5 (hD 5 (by decide)) rfl
                 have zf5 := zF5; clear zF5
                 have zF6 : V 6 = undef := hI.2 6 (hD 6 (by decide)) rfl
                 have zf6 := zF6; clear zF6
                 have zF7 : V 7 = undef := hI.2 7 (hD 7 (by decide)) rfl
                 have zf7 := zF7; clear zF7
                 have zF8 : V 8 = undef := hI.2 8 (hD 8 (by decide)) rfl
                 have zf8 := zF8; clear zF8
                 have zF9 : V 9 = .bool false := hI.2 9 (hD 9 (by decide)) rfl
                 have zf9 := zF9; clear zF9
                 have zF10 : V 10 = .bool false := hI.2 10 (hD 10 (by decide)) rfl
                 have zf10 := zF10; clear zF10
                 have zF11 : V 11 = .int .i64 er := hI.2 11 (hD 11 (by decide)) rfl
                 have zf11 := zF11; clear zF11
                 have zF12 : V 12 = .int .i64 er := hI.2 12 (hD 12 (by decide)) rfl
                 have zf12 := zF12; clear zF12
                 clear hI hD HGs
                 simp only [frAll, Act.put, List.setIfInBounds_toArray, List.set_cons_zero, List.set_cons_succ, Nat.zero_add, Nat.reduceAdd, zf0, zf1, zf2, zf3, zf4, zf5, zf6, zf7, zf8, zf9, zf10, zf11, zf12]
                 clear zf0 zf1 zf2 zf3 zf4 zf5 zf6 zf7 zf8 zf9 zf10 zf11 zf12
                 clear V D
                 have HP9 : Hid (Pure w w9) := Lib.hid (HP6.out.trans hMx)
                 have HM9 : Hid (Pure w5 w9) := Lib.hid ((HM5.out).trans hMx)
                 clear hGx hMx hBx HI HX6 HB6 HP6 HM5
                 by_cases he0 : er = 0
                 ·subst he0
                  have HS := Lib.hid (HAT.out.2 rfl)
                  clear HAT HFS
                  go_wp2_with fail
                  go_roundg (xs.length - (j + 1))
                  case measure => omega
                  case rel => exact ⟨j + 1, rfl, by omega, by simp, HS.out, HM9.out⟩
                 ·have hen : (er != 0) = true := by simpa using he0
                  have HR : Hid (fl = er) := Lib.hid (HFL.out.trans (HAT.out.1 he0))
                  clear HAT HFS HFL HQ HQB HQX he0
                  go_wp2_with fail
                  try simp only [Exit.inBlock, Exit.then]
                  refine bodyPost_ret (v := .int .i64 er) (by simp [results, Tryz.results54, go_sem]) rfl ?_
                  rw [HR.out]
                  exact ⟨rfl, HP9.out⟩
               | true =>
                rw [Bool.true_and] at emq
                have hk7 : (k == 7) = mq := by rw [emq]; exact Bool.beq_eq_decide_eq _ _
                clear emq HMQ
                have HGs := Lib.hid (show ∀ (D : Nat → Bool) (zzi : Nat) (zq zq' : World), (fun _ zq => (fun Z => Blk Z g0 44 #[.int .i64 k, .slice A ws.length c, .int .i64 n, .slice (some ⟨g, off, none⟩) xs.length dd] ∧ Blk Z g12 44 #[.int .i64 k', .slice A' ws'.length c', .int .i64 n', .slice B' xs'.length dd']) zq) D zq → Mod (fun _ => False) zq zq' → (fun _ zq => (fun Z => Blk Z g0 44 #[.int .i64 k, .slice A ws.length c, .int .i64 n, .slice (some ⟨g, off, none⟩) xs.length dd] ∧ Blk Z g12 44 #[.int .i64 k', .slice A' ws'.length c', .int .i64 n', .slice B' xs'.length dd']) zq) (upd D zzi true) zq' from by intro D zzi zq zq' h hm; (exact ⟨h.1.modp hm, h.2.modp hm⟩))
                refine wp_region_inv (by kernel_rfl) (by kernel_rfl) (InvF (R := Mod (fun _ => False)) [.is (.agg #[.int .i64 k', .slice A' ws'.length c', .int .i64 n', .slice B' xs'.length dd']),
                  .is (.agg #[.int .i64 k, .slice A ws.length c, .int .i64 n, .slice (some ⟨g, off, none⟩) xs.length dd]),
                  .is (.bool false),
                  .is (.bool false),
                  .is (.bool true),
                  .is (.bool true),
                  .is (.pointer (some ⟨g0, 0, none⟩)),
                  .is (.int .i64 k),
                  .is (.bool mq),
                  .is (.bool mq),
                  .is (.bool mq),
                  .is (.int .i64 er),
                  .is (.int .i64 er)]
                  (PB w6 (fun _ => False) w6.heap.size (fun _ zq => (fun Z => Blk Z g0 44 #[.int .i64 k, .slice A ws.length c, .int .i64 n, .slice (some ⟨g, off, none⟩) xs.length dd] ∧ Blk Z g12 44 #[.int .i64 k', .slice A' ws'.length c', .int .i64 n', .slice B' xs'.length dd']) zq))) (InvF.start (PB.start (Mod.refl _ _) (Nat.le_refl _) (⟨HB6.out, HX6.out⟩))) ?_ ?_
                ·refine .cons ?_ (.cons ?_ (.cons ?_ (.cons ?_ (.cons ?_ (.cons ?_ (.cons ?_ (.cons ?_ (.cons ?_ (.cons ?_ (.cons ?_ (.cons ?_ (.cons ?_ .nil))))))))))))
                 ·intro D V zw1 a hR hI K hK
                  obtain ⟨hM1, hB1, hG1⟩ := hI.1
                  have ze12 := hR.frame.other (t := 12) (by kernel_rfl) rfl
                  have zx0 := hG1.2.cell 0; have zx1 := hG1.2.cell 1; have zx2 := hG1.2.cell 2; have zx3 := hG1.2.cell 3
                  simp at zx0 zx1 zx2 zx3
                  rw [if_pos (by rfl)]
                  go_simp
                  exact hK (.agg #[.int .i64 k', .slice A' ws'.length c', .int .i64 n', .slice B' xs'.length dd']) _ (hI.next hR (by kernel_rfl) (Mod.refl _ _) (PB.quiet hI.1 (Mod.refl _ _) (HGs.out D 0 zw1 zw1 (hI.1).g (Mod.refl _ _))) (upd_same V 0 _))
                 ·intro D V zw1 a hR hI K hK
                  obtain ⟨hM1, hB1, hG1⟩ := hI.1
                  have ze2 := hR.frame.other (t := 2) (by kernel_rfl) rfl
                  have zx0 := hG1.1.cell 0; have zx1 := hG1.1.cell 1; have zx2 := hG1.1.cell 2; have zx3 := hG1.1.cell 3
                  simp at zx0 zx1 zx2 zx3
                  rw [if_pos (by rfl)]
                  go_simp
                  exact hK (.agg #[.int .i64 k, .slice A ws.length c, .int .i64 n, .slice (some ⟨g, off, none⟩) xs.length dd]) _ (hI.next hR (by kernel_rfl) (Mod.refl _ _) (PB.quiet hI.1 (Mod.refl _ _) (HGs.out D 1 zw1 zw1 (hI.1).g (Mod.refl _ _))) (upd_same V 1 _))
                 ·intro D V zw1 a hR hI K hK
                  obtain ⟨hM1, hB1, hG1⟩ := hI.1
                  have zd1 := hR.pred 1 (by kernel_rfl)
                  have zF1 : V 1 = .agg #[.int .i64 k, .slice A ws.length c, .int .i64 n, .slice (some ⟨g, off, none⟩) xs.length dd] := hI.2 1 zd1 rfl
                  have zf1 := zF1; clear zF1
                  have ze137 := hR.frame.done (t := 137) (j := 1) (by kernel_rfl) hR.ok zd1
                  rw [if_pos (by rfl)]
                  go_simp
                  refine (HNK.out zw1).mono ?_
                  rintro e zw2 ⟨rfl, hm2⟩
                  exact hK (.bool false) _ (hI.next hR (by kernel_rfl) hm2 (PB.quiet hI.1 hm2 (HGs.out D 2 _ _ (hI.1).g hm2)) (upd_same V 2 _))
                 ·intro D V zw1 a hR hI K hK
                  obtain ⟨hM1, hB1, hG1⟩ := hI.1
                  have zd2 := hR.pred 2 (by kernel_rfl)
                  have zF2 : V 2 = .bool false := hI.2 2 zd2 rfl
                  have zf2 := zF2; clear zF2
                  have ze138 := hR.frame.done (t := 138) (j := 2) (by kernel_rfl) hR.ok zd2
                  rw [if_pos (by rfl)]
                  go_simp
                  exact hK (.bool false) _ (hI.next hR (by kernel_rfl) (Mod.refl _ _) (PB.quiet hI.1 (Mod.refl _ _) (HGs.out D 3 zw1 zw1 (hI.1).g (Mod.refl _ _))) (upd_same V 3 _))
                 ·intro D V zw1 a hR hI K hK
                  obtain ⟨hM1, hB1, hG1⟩ := hI.1
                  have zd3 := hR.pred 3 (by kernel_rfl)
                  have zF3 : V 3 = .bool false := hI.2 3 zd3 rfl
                  have zf3 := zF3; clear zF3
                  have ze1 := hR.frame.other (t := 1) (by kernel_rfl) rfl
                  have ze139 := hR.frame.done (t := 139) (j := 3) (by kernel_rfl) hR.ok zd3
                  rw [if_pos (by simp [Region.wanted, yielded, ze139, zf3])]
                  go_simp
                  exact hK (.bool true) _ (hI.next hR (by kernel_rfl) (Mod.refl _ _) (PB.quiet hI.1 (Mod.refl _ _) (HGs.out D 4 zw1 zw1 (hI.1).g (Mod.refl _ _))) (upd_same V 4 _))
                 ·intro D V zw1 a hR hI K hK
                  obtain ⟨hM1, hB1, hG1⟩ := hI.1
                  have zd4 := hR.pred 4 (by kernel_rfl)
                  have zF4 : V 4 = .bool true := hI.2 4 zd4 rfl
                  have zf4 := zF4; clear zF4
                  have zd3 := hR.pred 3 (by kernel_rfl)
                  have zF3 : V 3 = .bool false := hI.2 3 zd3 rfl
                  have zf3 := zF3; clear zF3
                  have ze140 := hR.frame.done (t := 140) (j := 4) (by kernel_rfl) hR.ok zd4
                  have ze139 := hR.frame.done (t := 139) (j := 3) (by kernel_rfl) hR.ok zd3
                  rw [if_pos (by simp [Region.wanted, yielded, ze139, zf3])]
                  go_simp
                  exact hK (.bool true) _ (hI.next hR (by kernel_rfl) (Mod.refl _ _) (PB.quiet hI.1 (Mod.refl _ _) (HGs.out D 5 zw1 zw1 (hI.1).g (Mod.refl _ _))) (upd_same V 5 _))
                 ·intro D V zw1 a hR hI K hK
                  obtain ⟨hM1, hB1, hG1⟩ := hI.1
                  have zd5 := hR.pred 5 (by kernel_rfl)
                  have zF5 : V 5 = .bool true := hI.2 5 zd5 rfl
                  have zf5 := zF5; clear zF5
                  have ze2 := hR.frame.other (t := 2) (by kernel_rfl) rfl
                  have ze141 := hR.frame.done (t := 141) (j := 5) (by kernel_rfl) hR.ok zd5
                  rw [if_pos (by simp [Region.wanted, yielded, ze141, zf5])]
                  go_simp
                  exact hK (.pointer (some ⟨g0, 0, none⟩)) _ (hI.next hR (by kernel_rfl) (Mod.refl _ _) (PB.quiet hI.1 (Mod.refl _ _) (HGs.out D 6 zw1 zw1 (hI.1).g (Mod.refl _ _))) (upd_same V 6 _))
                 ·intro D V zw1 a hR hI K hK
                  obtain ⟨hM1, hB1, hG1⟩ := hI.1
                  have zd6 := hR.pred 6 (by kernel_rfl)
                  have zF6 : V 6 = .pointer (some ⟨g0, 0, none⟩) := hI.2 6 zd6 rfl
                  have zf6 := zF6; clear zF6
                  have zd5 := hR.pred 5 (by kernel_rfl)
                  have zF5 : V 5 = .bool true := hI.2 5 zd5 rfl
                  have zf5 := zF5; clear zF5
                  have ze142 := hR.frame.done (t := 142) (j := 6) (by kernel_rfl) hR.ok zd6
                  have zx0 := hG1.1.cell 0; have zx1 := hG1.1.cell 1; have zx2 := hG1.1.cell 2; have zx3 := hG1.1.cell 3
                  simp at zx0 zx1 zx2 zx3
                  have ze141 := hR.frame.done (t := 141) (j := 5) (by kernel_rfl) hR.ok zd5
                  rw [if_pos (by simp [Region.wanted, yielded, ze141, zf5])]
                  go_simp
                  exact hK (.int .i64 k) _ (hI.next hR (by kernel_rfl) (Mod.refl _ _) (PB.quiet hI.1 (Mod.refl _ _) (HGs.out D 7 zw1 zw1 (hI.1).g (Mod.refl _ _))) (upd_same V 7 _))
                 ·intro D V zw1 a hR hI K hK
                  obtain ⟨hM1, hB1, hG1⟩ := hI.1
                  have zd7 := hR.pred 7 (by kernel_rfl)
                  have zF7 : V 7 = .int .i64 k := hI.2 7 zd7 rfl
                  have zf7 := zF7; clear zF7
                  have zd5 := hR.pred 5 (by kernel_rfl)
                  have zF5 : V 5 = .bool true := hI.2 5 zd5 rfl
                  have zf5 := zF5; clear zF5
                  have ze143 := hR.frame.done (t := 143) (j := 7) (by kernel_rfl) hR.ok zd7
                  have ze141 := hR.frame.done (t := 141) (j := 5) (by kernel_rfl) hR.ok zd5
                  rw [if_pos (by simp [Region.wanted, yielded, ze141, zf5])]
                  go_simp
                  exact hK (.bool mq) _ (hI.next hR (by kernel_rfl) (Mod.refl _ _) (PB.quiet hI.1 (Mod.refl _ _) (HGs.out D 8 zw1 zw1 (hI.1).g (Mod.refl _ _))) (upd_same V 8 _))
                 ·intro D V zw1 a hR hI K hK
                  obtain ⟨hM1, hB1, hG1⟩ := hI.1
                  have zd5 := hR.pred 5 (by kernel_rfl)
                  have zF5 : V 5 = .bool true := hI.2 5 zd5 rfl
                  have zf5 := zF5; clear zF5
                  have zd8 := hR.pred 8 (by kernel_rfl)
                  have zF8 : V 8 = .bool mq := hI.2 8 zd8 rfl
                  have zf8 := zF8; clear zF8
                  have zd3 := hR.pred 3 (by kernel_rfl)
                  have zF3 : V 3 = .bool false := hI.2 3 zd3 rfl
                  have zf3 := zF3; clear zF3
                  have ze141 := hR.frame.done (t := 141) (j := 5) (by kernel_rfl) hR.ok zd5
                  have ze144 := hR.frame.done (t := 144) (j := 8) (by kernel_rfl) hR.ok zd8
                  have ze139 := hR.frame.done (t := 139) (j := 3) (by kernel_rfl) hR.ok zd3
                  rw [if_pos (by simp [Region.wanted, yielded, ze139, zf3])]
                  go_simp
                  exact hK (.bool mq) _ (hI.next hR (by kernel_rfl) (Mod.refl _ _) (PB.quiet hI.1 (Mod.refl _ _) (HGs.out D 9 zw1 zw1 (hI.1).g (Mod.refl _ _))) (upd_same V 9 _))
                 ·intro D V zw1 a hR hI K hK
                  obtain ⟨hM1, hB1, hG1⟩ := hI.1
                  have zd3 := hR.pred 3 (by kernel_rfl)
                  have zF3 : V 3 = .bool false := hI.2 3 zd3 rfl
                  have zf3 := zF3; clear zF3
                  have zd9 := hR.pred 9 (by kernel_rfl)
                  have zF9 : V 9 = .bool mq := hI.2 9 zd9 rfl
                  have zf9 := zF9; clear zF9
                  have ze139 := hR.frame.done (t := 139) (j := 3) (by kernel_rfl) hR.ok zd3
                  have ze145 := hR.frame.done (t := 145) (j := 9) (by kernel_rfl) hR.ok zd9
                  rw [if_pos (by rfl)]
                  go_simp
                  exact hK (.bool mq) _ (hI.next hR (by kernel_rfl) (Mod.refl _ _) (PB.quiet hI.1 (Mod.refl _ _) (HGs.out D 10 zw1 zw1 (hI.1).g (Mod.refl _ _))) (upd_same V 10 _))
                 ·intro D V zw1 a hR hI K hK
                  obtain ⟨hM1, hB1, hG1⟩ := hI.1
                  have zd0 := hR.pred 0 (by kernel_rfl)
                  have zF0 : V 0 = .agg #[.int .i64 k', .slice A' ws'.length c', .int .i64 n', .slice B' xs'.length dd'] := hI.2 0 zd0 rfl
                  have zf0 := zF0; clear zF0
                  have zd10 := hR.pred 10 (by kernel_rfl)
                  have zF10 : V 10 = .bool mq := hI.2 10 zd10 rfl
                  have zf10 := zF10; clear zF10
                  have ze136 := hR.frame.done (t := 136) (j := 0) (by kernel_rfl) hR.ok zd0
                  have ze146 := hR.frame.done (t := 146) (j := 10) (by kernel_rfl) hR.ok zd10
                  rw [if_pos (by rfl)]
                  go_simp
                  refine (HI.out zw1 hM1).mono ?_
                  rintro e zw2 ⟨rfl, hm2⟩
                  exact hK (.int .i64 er) _ (hI.next hR (by kernel_rfl) hm2 (PB.quiet hI.1 hm2 (HGs.out D 11 _ _ (hI.1).g hm2)) (upd_same V 11 _))
                 ·intro D V zw1 a hR hI K hK
                  obtain ⟨hM1, hB1, hG1⟩ := hI.1
                  have zd11 := hR.pred 11 (by kernel_rfl)
                  have zF11 : V 11 = .int .i64 er := hI.2 11 zd11 rfl
                  have zf11 := zF11; clear zF11
                  have ze147 := hR.frame.done (t := 147) (j := 11) (by kernel_rfl) hR.ok zd11
                  rw [if_pos (by rfl)]
                  go_simp
                  exact hK (.int .i64 er) _ (hI.next hR (by kernel_rfl) (Mod.refl _ _) (PB.quiet hI.1 (Mod.refl _ _) (HGs.out D 12 zw1 zw1 (hI.1).g (Mod.refl _ _))) (upd_same V 12 _))
                ·intro D V w9 hD hI
                 obtain ⟨hM1, hB1, hG1⟩ := hI.1
                 have hMx := hM1
                 clear hM1
                 have hBx := hB1
                 clear hB1
                 have hGx := hG1
                 clear hG1
                 have zF0 : V 0 = .agg #[.int .i64 k', .slice A' ws'.length c', .int .i64 n', .slice B' xs'.length dd'] := hI.2 0 (hD 0 (by decide)) rfl
                 have zf0 := zF0; clear zF0
                 have zF1 : V 1 = .agg #[.int .i64 k, .slice A ws.length c, .int .i64 n, .slice (some ⟨g, off, none⟩) xs.length dd] := hI.2 1 (hD 1 (by decide)) rfl
                 have zf1 := zF1; clear zF1
                 have zF2 : V 2 = .bool false := hI.2 2 (hD 2 (by decide)) rfl
                 have zf2 := zF2; clear zF2
                 have zF3 : V 3 = .bool false := hI.2 3 (hD 3 (by decide)) rfl
                 have zf3 := zF3; clear zF3
                 have zF4 : V 4 = .bool true := hI.2 4 (hD 4 (by decide)) rfl
                 have zf4 := zF4; clear zF4
                 have zF5 : V 5 = .bool true := hI.2 5 (hD 5 (by decide)) rfl
                 have zf5 := zF5; clear zF5
                 have zF6 : V 6 = .pointer (some ⟨g0, 0, none⟩) := hI.2 6 (hD 6 (by decide)) rfl
                 have zf6 := zF6; clear zF6
                 have zF7 : V 7 = .int .i64 k := hI.2 7 (hD 7 (by decide)) rfl
                 have zf7 := zF7; clear zF7
                 have zF8 : V 8 = .bool mq := hI.2 8 (hD 8 (by decide)) rfl
                 have zf8 := zF8; clear zF8
                 have zF9 : V 9 = .bool mq := hI.2 9 (hD 9 (by decide)) rfl
                 have zf9 := zF9; clear zF9
                 have zF10 : V 10 = .bool mq := hI.2 10 (hD 10 (by decide)) rfl
                 have zf10 := zF10; clear zF10
                 have zF11 : V 11 = .int .i64 er := hI.2 11 (hD 11 (by decide)) rfl
                 have zf11 := zF11; clear zF11
                 have zF12 : V 12 = .int .i64 er := hI.2 12 (hD 12 (by decide)) rfl
                 have zf12 := zF12; clear zF12
                 clear hI hD HGs
                 simp only [frAll, Act.put, List.setIfInBounds_toArray, List.set_cons_zero, List.set_cons_succ, Nat.zero_add, Nat.reduceAdd, zf0, zf1, zf2, zf3, zf4, zf5, zf6, zf7, zf8, zf9, zf10, zf11, zf12]
                 clear zf0 zf1 zf2 zf3 zf4 zf5 zf6 zf7 zf8 zf9 zf10 zf11 zf12
                 clear V D
                 have HP9 : Hid (Pure w w9) := Lib.hid (HP6.out.trans hMx)
                 have HM9 : Hid (Pure w5 w9) := Lib.hid ((HM5.out).trans hMx)
                 clear hGx hMx hBx HI HX6 HB6 HP6 HM5
                 by_cases he0 : er = 0
                 ·subst he0
                  have HS := Lib.hid (HAT.out.2 rfl)
                  clear HAT HFS
                  go_wp2_with fail
                  go_roundg (xs.length - (j + 1))
                  case measure => omega
                  case rel => exact ⟨j + 1, rfl, by omega, by simp, HS.out, HM9.out⟩
                 ·have hen : (er != 0) = true := by simpa using he0
                  have HR : Hid (fl = er) := Lib.hid (HFL.out.trans (HAT.out.1 he0))
                  clear HAT HFS HFL HQ HQB HQX he0
                  go_wp2_with fail
                  try simp only [Exit.inBlock, Exit.then]
                  refine bodyPost_ret (v := .int .i64 er) (by simp [results, Tryz.results54, go_sem]) rfl ?_
                  rw [HR.out]
                  exact ⟨rfl, HP9.out⟩
             ·obtain rfl : j = xs.length := by omega
              have e := HFS.out
              rw [List.take_of_length_le (by simp)] at e
              have HR : Hid (fl = 0) := Lib.hid (HFL.out.trans e)
              have hjj2 : ¬ ((xs.length : Nat) : Int) < (xs.length : Int) := by omega
              clear e HFS HFL HQ HQB HQX HIH HNK HMQ
              go_wp2_with fail
              try simp only [Exit.inBlock, Exit.then]
              refine bodyPost_ret (v := .int .i64 0) (by simp [results, Tryz.results54, go_sem]) rfl ?_
              rw [HR.out]
              exact ⟨rfl, HM.out⟩

end Go.Proofs.YtanblgcgbncbpaaGreatDoor

/- Check of searches: the program. -/
namespace Go.Proofs.YtanblgcgbncbpaaGreatDoor
set_option linter.unusedVariables false
set_option linter.unusedSimpArgs false
open Go.RowKit

set_option maxRecDepth 100000 in
set_option maxHeartbeats 8000000 in
theorem qcheck_calls (w : World) (qr : QR) (hQ : QS w qr) (hB : QB 1000 qr.key) : Calls Tryz.prog 25 #[qA qr] w (IntPost w (checkQ qr.key)) := by
 have HSZ := Lib.hid (fun W (h : Pure w W) => qsize_calls W qr (hQ.pure h) hB)
 have HIN := Lib.hid (fun W (h : Pure w W) => inner_calls qr W false (hQ.pure h) hB)
 have HCK : Hid (checkQ qr.key = if qFit qr.key 0 0 0 = true then fltQ 100 false qr.key else 2) := Lib.hid rfl
 generalize checkQ qr.key = er at *
 generalize fltQ 100 false qr.key = fl at *
 generalize qFit qr.key 0 0 0 = fit at *
 obtain ⟨k, A, c, ws, n, B, dd, xs, rfl⟩ := qr.ex
 rw [show qA (QR.mk k A c ws n B dd xs) = .agg #[.int .i64 k, .slice A ws.length c, .int .i64 n, .slice B xs.length dd] from rfl] at HSZ HIN ⊢
 have hB0 := Blk.new w 44 #[.int .i64 k, .slice A ws.length c, .int .i64 n, .slice B xs.length dd]
 have HP0 := Lib.hid (pure_alloc w (.cells #[.int .i64 k, .slice A ws.length c, .int .i64 n, .slice B xs.length dd] 44))
 clear hQ hB
 go_enter Tryz.func25, Tryz.ntmps25
 go_upto_region 1 with (fail)
 generalize (w.alloc (.cells #[.int .i64 k, .slice A ws.length c, .int .i64 n, .slice B xs.length dd] 44)) = w1 at *
 generalize w.heap.size = g0 at *
 have HB0 := Lib.hid hB0
 have x0 := hB0.cell 0; have x1 := hB0.cell 1; have x2 := hB0.cell 2; have x3 := hB0.cell 3; simp at x0 x1 x2 x3
 clear hB0
 cases fit with
 | false =>
  obtain rfl : (2 : Int) = er := HCK.out.symm
  go_wp2_with fail
  refine (HSZ.out w1 HP0.out).mono ?_
  rintro e w2 ⟨rfl, hm⟩
  have HP2 : Hid (Pure w w2) := Lib.hid (HP0.out.trans hm)
  clear x0 x1 x2 x3 HSZ HIN HP0 HB0 hm
  go_wp2_with fail
  try simp only [Exit.inBlock, Exit.then]
  refine bodyPost_ret (v := .int .i64 2) (by simp [results, Tryz.results25, go_sem]) rfl ?_
  exact ⟨rfl, HP2.out⟩
 | true =>
  obtain rfl : fl = er := HCK.out.symm
  go_wp2_with fail
  refine (HSZ.out w1 HP0.out).mono ?_
  rintro e w2 ⟨rfl, hm⟩
  have HP2 : Hid (Pure w w2) := Lib.hid (HP0.out.trans hm)
  have hb2 := HB0.out.modp hm
  clear x0 x1 x2 x3 HSZ HP0 HB0 hm
  have x0 := hb2.cell 0; have x1 := hb2.cell 1; have x2 := hb2.cell 2; have x3 := hb2.cell 3; simp at x0 x1 x2 x3
  clear hb2
  go_wp2_with fail
  refine (HIN.out w2 HP2.out).mono ?_
  rintro e w3 ⟨rfl, hm⟩
  have HP3 : Hid (Pure w w3) := Lib.hid (HP2.out.trans hm)
  go_wp2_with fail
  go_ret
  exact ⟨rfl, HP3.out⟩

end Go.Proofs.YtanblgcgbncbpaaGreatDoor

/- Matches of a search of two patterns near to each other (package query). -/
namespace Go.Proofs.YtanblgcgbncbpaaGreatDoor
set_option linter.unusedVariables false
set_option linter.unusedSimpArgs false
open Go.RowKit
abbrev SlcT := Option Addr × Nat × Nat
def slcV (l : List SlcT) : List Value := l.map fun x => .slice x.1 x.2.1 x.2.2
theorem slcV_get (l : List SlcT) (i : Nat) (h : i < l.length) : (slcV l)[i]? = some (.slice l[i].1 l[i].2.1 l[i].2.2) := by simp [slcV, h]
def decS : Value → SlcT
 | .slice A n c => (A, n, c)
 | _ => (none, 0, 0)
theorem slc_of {w : World} {v : Value} {rs : List (List Nat)} (h : SlI w v rs) : ∃ xs : List SlcT, Sl w 22 1 v (slcV xs) ∧ xs.map (·.2.1) = rs.map List.length := by
 obtain ⟨us, h1, h2, h3⟩ := h
 refine ⟨us.map decS, ?_, ?_⟩
 ·have e : slcV (us.map decS) = us := by
   refine List.ext_getElem (by simp [slcV]) fun i a b => ?_
   obtain ⟨u, hu, hs, _⟩ := h3 i (by omega)
   obtain ⟨A, n, c, rfl⟩ := hs.form
   rw [List.getElem?_eq_getElem b] at hu
   injection hu with hu
   simp only [slcV, List.getElem_map, hu, decS]
  rw [e]
  exact h1
 ·refine List.ext_getElem (by simp [h2]) fun i a b => ?_
  have hi : i < rs.length := by simpa using b
  obtain ⟨u, hu, hs, _⟩ := h3 i hi
  obtain ⟨A, n, c, rfl⟩ := hs.form
  have hl := hs.lenI.1
  rw [nvQ_len] at hl
  rw [List.getElem?_eq_getElem (by omega)] at hu
  injection hu with hu
  simp only [List.getElem_map, hu, decS]
  exact hl

set_option maxRecDepth 100000 in
set_option maxHeartbeats 1000000 in
theorem indexRn_calls (w : World) (v : Value) (xs : List SlcT) (F : Nat) (P : SlcT → Bool) (hv : Sl w 22 1 v (slcV xs))
  (hcf : ∀ (x : SlcT) (W : World), Sem.run Tryz.prog (callFunc F #[.slice x.1 x.2.1 x.2.2]) W = .ok (.enter F #[.slice x.1 x.2.1 x.2.2]) W)
  (hF : ∀ (x : SlcT) (W : World), x ∈ xs → Pure w W → Calls Tryz.prog F #[.slice x.1 x.2.1 x.2.2] W (BoolPost W (P x))) :
  Calls Tryz.prog 192 #[v, .func (.func F) #[] #[]] w (IntPost w (idxQ P xs 0)) := by
 have HF := Lib.hid hF
 obtain ⟨A, n, c, rfl, hc1, hc2, hl, hr⟩ := hv
 have hln : xs.length = n := by simpa [slcV] using hl
 subst hln
 have HR := Lib.hid hr
 clear hF hl hr
 go_enter Tryz.func192, Tryz.ntmps192
 go_wp2_with fail
 go_loopg [8] xs.length (fun gk i wr => ∃ k : Nat, xs.length - k = gk ∧ k ≤ xs.length ∧ i = .int .i64 (k : Int) ∧ idxQ P xs 0 = idxQ P (xs.drop k) (k : Int) ∧ Pure w wr)
 case atStart => exact ⟨0, by omega, by omega, rfl, rfl, Mod.refl _ _⟩
 case round =>
  obtain ⟨k, rfl, hk, rfl, hix, hm⟩ := hrel
  have HIX := Lib.hid hix
  clear hix
  by_cases hlt : k < xs.length
  ·obtain ⟨g, off, rfl, hrow⟩ := HR.out (by omega)
   have hq := (hrow.mod hm id).cell (slcV_get xs k hlt)
   have hd : xs.drop k = xs[k] :: xs.drop (k + 1) := List.drop_eq_getElem_cons hlt
   have hcall := HF.out xs[k] wr (List.getElem_mem hlt) hm
   have hi2 : idxQ P xs 0 = if P xs[k] then (k : Int) else idxQ P (xs.drop (k + 1)) ((k : Int) + 1) := by rw [HIX.out, hd]; rfl
   have HI2 := Lib.hid hi2
   have HC := Lib.hid hcall
   clear hd hi2 hcall hrow HIX
   generalize xs[k] = x at *
   go_wp2_with fail
   refine HC.out.mono ?_
   rintro e w1 ⟨rfl, hm1⟩
   cases hp : P x
   ·go_wp2_with fail
    go_roundg (xs.length - (k + 1))
    case measure => omega
    case rel => exact ⟨k + 1, rfl, hlt, by simp, by rw [HI2.out, hp]; simp, hm.trans hm1⟩
   ·go_wp2_with fail
    go_ret
    exact IntPost.of (by rw [HI2.out, hp]; rfl) (hm.trans hm1)
  ·have hke : k = xs.length := by omega
   subst hke
   go_wp2_with fail
   go_ret
   exact IntPost.of (by rw [HIX.out, List.drop_of_length_le (Nat.le_refl _)]; rfl) hm


set_option maxRecDepth 100000 in
set_option maxHeartbeats 1000000 in
theorem containsRn_calls (w : World) (v : Value) (xs : List SlcT) (F : Nat) (P : SlcT → Bool) (hv : Sl w 22 1 v (slcV xs))
  (hcf : ∀ (x : SlcT) (W : World), Sem.run Tryz.prog (callFunc F #[.slice x.1 x.2.1 x.2.2]) W = .ok (.enter F #[.slice x.1 x.2.1 x.2.2]) W)
  (hF : ∀ (x : SlcT) (W : World), x ∈ xs → Pure w W → Calls Tryz.prog F #[.slice x.1 x.2.1 x.2.2] W (BoolPost W (P x))) :
  Calls Tryz.prog 167 #[v, .func (.func F) #[] #[]] w (BoolPost w (xs.any P)) := by
 have HC := Lib.hid (indexRn_calls w v xs F  P hv hcf hF)
 have HI := Lib.hid (idxQ_any P xs 0 (by omega))
 clear hcf hF
 obtain ⟨A, n, c, rfl⟩ := hv.form
 clear hv
 go_enter Tryz.func167, Tryz.ntmps167
 go_wp2_with fail
 refine HC.out.mono ?_
 rintro e w1 ⟨rfl, hm1⟩
 generalize idxQ P xs 0 = r at *
 go_wp2_with fail
 go_ret
 exact BoolPost.of HI.out.symm hm1


end Go.Proofs.YtanblgcgbncbpaaGreatDoor

/- What is found (package query): for a search of two patterns near to each other. -/
namespace Go.Proofs.YtanblgcgbncbpaaGreatDoor
set_option linter.unusedVariables false
set_option linter.unusedSimpArgs false
open Go.RowKit
set_option maxRecDepth 100000 in
set_option maxHeartbeats 1000000 in
theorem some1_calls (x : SlcT) (W : World) : Calls Tryz.prog 169 #[.slice x.1 x.2.1 x.2.2] W (BoolPost W (decide (0 < x.2.1))) := by
 obtain ⟨A, n, c⟩ := x
 go_enter Tryz.func169, Tryz.ntmps169
 go_wp2_with fail
 go_ret
 exact BoolPost.of (by simp) (Mod.refl _ _)
/-- A target: an item, and its words. -/
def tgL (x : Itm) (vw : Value) : List Value := [.string ⟨x.id.toArray⟩, .string ⟨x.cust.toArray⟩, .int .i64 x.kind, .string ⟨x.name.toArray⟩, .int .i64 x.tm, .string ⟨x.par.toArray⟩, .string ⟨x.text.toArray⟩, vw]
def tgA (x : Itm) (vw : Value) : Value := .agg (tgL x vw).toArray
set_option maxRecDepth 100000 in
set_option maxHeartbeats 4000000 in
theorem somewhere_calls (w : World) (x : Itm) (A : Option Addr) (n c : Nat) (qr : QR) (W : Nat) (F : Nat → Nat → Bool) (hW : W ≤ 1000000) (hP : ∀ W', Pure w W' → Calls Tryz.prog 168 #[qA qr, .slice A n c] W' (RnP W' W F)) :
  Calls Tryz.prog 131 #[tgA x (.slice A n c), qA qr] w (BoolPost w (somePl F W)) := by
 have HP := Lib.hid hP
 clear hP
 obtain ⟨k, Aq, cq, ws, nq, Bq, dq, xs⟩ := qr
 unfold tgA tgL
 simp only [qA_mk] at HP ⊢
 obtain ⟨w1, hw1⟩ : ∃ w1, w1 = w.alloc (.cells #[.string ⟨x.id.toArray⟩, .string ⟨x.cust.toArray⟩, .int .i64 x.kind, .string ⟨x.name.toArray⟩, .int .i64 x.tm, .string ⟨x.par.toArray⟩, .string ⟨x.text.toArray⟩, .slice A n c] 114) := ⟨_, rfl⟩
 have hb1 := (Blk.new w 114 #[.string ⟨x.id.toArray⟩, .string ⟨x.cust.toArray⟩, .int .i64 x.kind, .string ⟨x.name.toArray⟩, .int .i64 x.tm, .string ⟨x.par.toArray⟩, .string ⟨x.text.toArray⟩, .slice A n c]).alloc (.cells #[.int .i64 k, .slice Aq ws.length cq, .int .i64 nq, .slice Bq xs.length dq] 44)
 have hb2 := Blk.snd w (.cells #[.string ⟨x.id.toArray⟩, .string ⟨x.cust.toArray⟩, .int .i64 x.kind, .string ⟨x.name.toArray⟩, .int .i64 x.tm, .string ⟨x.par.toArray⟩, .string ⟨x.text.toArray⟩, .slice A n c] 114) 44 #[.int .i64 k, .slice Aq ws.length cq, .int .i64 nq, .slice Bq xs.length dq]
 have HM : Hid (Pure w ((w.alloc (.cells #[.string ⟨x.id.toArray⟩, .string ⟨x.cust.toArray⟩, .int .i64 x.kind, .string ⟨x.name.toArray⟩, .int .i64 x.tm, .string ⟨x.par.toArray⟩, .string ⟨x.text.toArray⟩, .slice A n c] 114)).alloc (.cells #[.int .i64 k, .slice Aq ws.length cq, .int .i64 nq, .slice Bq xs.length dq] 44))) := Lib.hid (((Mod.refl _ _).alloc _).alloc _)
 have HPX := Lib.hid (HP.out _ HM.out)
 have x0 := hb1.cell 0; have x1 := hb1.cell 1; have x2 := hb1.cell 2; have x3 := hb1.cell 3; have x4 := hb1.cell 4; have x5 := hb1.cell 5; have x6 := hb1.cell 6; have x7 := hb1.cell 7; simp at x0 x1 x2 x3 x4 x5 x6 x7
 have y0 := hb2.cell 0; have y1 := hb2.cell 1; have y2 := hb2.cell 2; have y3 := hb2.cell 3; simp at y0 y1 y2 y3
 clear hw1 w1 hb1 hb2
 go_enter Tryz.func131, Tryz.ntmps131
 go_wp2_with fail
 refine HPX.out.mono ?_
 rintro e w2 ⟨v, rfl, hs, hm⟩
 obtain ⟨zs, hz1, hz2⟩ := slc_of hs
 have hany : zs.any (fun x => decide (0 < x.2.1)) = somePl F W := by
  rw [somePl_rows]
  have h1 : zs.any (fun x => decide (0 < x.2.1)) = (zs.map (·.2.1)).any (fun n => decide (0 < n)) := by rw [List.any_map]; rfl
  have h2 : (rowsQ W F).any (fun l => decide (0 < l.length)) = ((rowsQ W F).map List.length).any (fun n => decide (0 < n)) := by rw [List.any_map]; rfl
  rw [h1, h2, hz2]
 have HC := Lib.hid (containsRn_calls w2 v zs 169 (fun x => decide (0 < x.2.1)) hz1 (fun x W => rfl) (fun x W _ _ => some1_calls x W))
 rw [hany] at HC
 have HM2 := Lib.hid (HM.out.trans hm)
 clear hs hm hz1 hz2 hany HPX
 go_wp2_with fail
 refine HC.out.mono ?_
 rintro e w3 ⟨rfl, hm3⟩
 go_wp2_with fail
 go_ret
 exact ⟨rfl, HM2.out.trans hm3⟩
set_option maxRecDepth 100000 in
set_option maxHeartbeats 4000000 in
theorem found4_calls (w : World) (x : Itm) (A : Option Addr) (n c : Nat) (Aq Bq : Option Addr) (cq dq : Nat) (nq : Int) (ws : List Str) (xs : List QR) (W : Nat) (F : Nat → Nat → Bool) (hW : W ≤ 1000000) (hP : ∀ W', Pure w W' → Calls Tryz.prog 168 #[qA (.mk 4 Aq cq ws nq Bq dq xs), .slice A n c] W' (RnP W' W F)) :
  Calls Tryz.prog 83 #[tgA x (.slice A n c), qA (.mk 4 Aq cq ws nq Bq dq xs)] w (BoolPost w (somePl F W)) := by
 have HP := Lib.hid hP
 clear hP
 have hb1 := (Blk.new w 114 #[.string ⟨x.id.toArray⟩, .string ⟨x.cust.toArray⟩, .int .i64 x.kind, .string ⟨x.name.toArray⟩, .int .i64 x.tm, .string ⟨x.par.toArray⟩, .string ⟨x.text.toArray⟩, .slice A n c]).alloc (.cells #[.int .i64 4, .slice Aq ws.length cq, .int .i64 nq, .slice Bq xs.length dq] 44)
 have hb2 := Blk.snd w (.cells #[.string ⟨x.id.toArray⟩, .string ⟨x.cust.toArray⟩, .int .i64 x.kind, .string ⟨x.name.toArray⟩, .int .i64 x.tm, .string ⟨x.par.toArray⟩, .string ⟨x.text.toArray⟩, .slice A n c] 114) 44 #[.int .i64 4, .slice Aq ws.length cq, .int .i64 nq, .slice Bq xs.length dq]
 have HM : Hid (Pure w ((w.alloc (.cells #[.string ⟨x.id.toArray⟩, .string ⟨x.cust.toArray⟩, .int .i64 x.kind, .string ⟨x.name.toArray⟩, .int .i64 x.tm, .string ⟨x.par.toArray⟩, .string ⟨x.text.toArray⟩, .slice A n c] 114)).alloc (.cells #[.int .i64 4, .slice Aq ws.length cq, .int .i64 nq, .slice Bq xs.length dq] 44))) := Lib.hid (((Mod.refl _ _).alloc _).alloc _)
 have HS := Lib.hid (somewhere_calls _ x A n c (.mk 4 Aq cq ws nq Bq dq xs) W F hW (fun W' h => HP.out W' (HM.out.trans h)))
 unfold tgA tgL at *
 rw [qA_mk] at HS ⊢
 have x0 := hb1.cell 0; have x1 := hb1.cell 1; have x2 := hb1.cell 2; have x3 := hb1.cell 3; have x4 := hb1.cell 4; have x5 := hb1.cell 5; have x6 := hb1.cell 6; have x7 := hb1.cell 7; simp at x0 x1 x2 x3 x4 x5 x6 x7
 have y0 := hb2.cell 0; have y1 := hb2.cell 1; have y2 := hb2.cell 2; have y3 := hb2.cell 3; simp at y0 y1 y2 y3
 clear hb1 hb2
 go_enter Tryz.func83, Tryz.ntmps83
 go_wp2_with fail
 refine HS.out.mono ?_
 rintro e w3 ⟨rfl, hm3⟩
 go_wp2_with fail
 go_ret
 exact ⟨rfl, HM.out.trans hm3⟩

end Go.Proofs.YtanblgcgbncbpaaGreatDoor

/- Matches (package query), for a right search of two patterns near to each other and a right item. -/
namespace Go.Proofs.YtanblgcgbncbpaaGreatDoor
set_option linter.unusedVariables false
set_option linter.unusedSimpArgs false
open Go.RowKit
def NtP (w : World) (x : Itm) (e : Ending) (w' : World) : Prop := ∃ A n c, e = .returned (tgA x (.slice A n c)) ∧ Wds w' (.slice A n c) (wordsQ x.text) ∧ Pure w w'
set_option maxRecDepth 100000 in
set_option maxHeartbeats 4000000 in
theorem newTarget_calls (w : World) (x : Itm) (ht : x.text.length ≤ 1000000) : Calls Tryz.prog 82 #[itA x] w (NtP w x) := by
 have hb1 := (Blk.new w 78 #[.string ⟨x.id.toArray⟩, .string ⟨x.cust.toArray⟩, .int .i64 x.kind, .string ⟨x.name.toArray⟩, .int .i64 x.tm, .string ⟨x.par.toArray⟩, .string ⟨x.text.toArray⟩]).alloc (.cells #[.string ⟨#[]⟩, .string ⟨#[]⟩, .int .i64 0, .string ⟨#[]⟩, .int .i64 0, .string ⟨#[]⟩, .string ⟨#[]⟩, .slice none 0 0] 114)
 have hb2 := Blk.snd w (.cells #[.string ⟨x.id.toArray⟩, .string ⟨x.cust.toArray⟩, .int .i64 x.kind, .string ⟨x.name.toArray⟩, .int .i64 x.tm, .string ⟨x.par.toArray⟩, .string ⟨x.text.toArray⟩] 78) 114 #[.string ⟨#[]⟩, .string ⟨#[]⟩, .int .i64 0, .string ⟨#[]⟩, .int .i64 0, .string ⟨#[]⟩, .string ⟨#[]⟩, .slice none 0 0]
 have HM : Hid (Pure w ((w.alloc (.cells #[.string ⟨x.id.toArray⟩, .string ⟨x.cust.toArray⟩, .int .i64 x.kind, .string ⟨x.name.toArray⟩, .int .i64 x.tm, .string ⟨x.par.toArray⟩, .string ⟨x.text.toArray⟩] 78)).alloc (.cells #[.string ⟨#[]⟩, .string ⟨#[]⟩, .int .i64 0, .string ⟨#[]⟩, .int .i64 0, .string ⟨#[]⟩, .string ⟨#[]⟩, .slice none 0 0] 114))) := Lib.hid (((Mod.refl _ _).alloc _).alloc _)
 have HB1 := Lib.hid hb1
 have HB2 := Lib.hid hb2
 have hbu : w.heap.size + 1 ≤ w.heap.size + 1 := Nat.le_refl _
 clear hb1 hb2
 unfold itA
 go_enter Tryz.func82, Tryz.ntmps82
 go_upto_region 1 with (fail)
 generalize ((w.alloc (.cells #[.string ⟨x.id.toArray⟩, .string ⟨x.cust.toArray⟩, .int .i64 x.kind, .string ⟨x.name.toArray⟩, .int .i64 x.tm, .string ⟨x.par.toArray⟩, .string ⟨x.text.toArray⟩] 78)).alloc (.cells #[.string ⟨#[]⟩, .string ⟨#[]⟩, .int .i64 0, .string ⟨#[]⟩, .int .i64 0, .string ⟨#[]⟩, .string ⟨#[]⟩, .slice none 0 0] 114)) = w1 at *
 obtain ⟨b1, hb1⟩ : ∃ b, w.heap.size = b := ⟨_, rfl⟩
 rw [hb1] at HB1 HB2
 simp only [hb1]
 obtain ⟨b2, hb2⟩ : ∃ b, b1 + 1 = b := ⟨_, rfl⟩
 rw [hb2] at HB2
 simp only [hb2]
 have hbl : w.heap.size ≤ b2 := by omega
 clear hb1 hb2 hbu
 have h1 := HB1.out
 have u0 := h1.cell 0; have u1 := h1.cell 1; have u2 := h1.cell 2; have u3 := h1.cell 3; have u4 := h1.cell 4; have u5 := h1.cell 5; have u6 := h1.cell 6; simp at u0 u1 u2 u3 u4 u5 u6
 clear h1
 have HWD := Lib.hid (fun W => words_calls W x.text ht)
 go_region_with (go_at_call 13; (refine (HWD.out _).mono ?_); rintro e w5 ⟨v, rfl, hq, hm5⟩; obtain ⟨A, n, c, rfl⟩ := (Sl.of_own hq).form; have hP5 := ((Mod.refl (fun _ => False) w1).drew).trans hm5; have hc2 := HB2.out.modp hP5; have hc1 := HB1.out.modp hP5; have q0 := hc2.cell 0; have qf0 := hc2.frozen 0; have q1 := hc2.cell 1; have qf1 := hc2.frozen 1; have q2 := hc2.cell 2; have qf2 := hc2.frozen 2; have q3 := hc2.cell 3; have qf3 := hc2.frozen 3; have q4 := hc2.cell 4; have qf4 := hc2.frozen 4; have q5 := hc2.cell 5; have qf5 := hc2.frozen 5; have q6 := hc2.cell 6; have qf6 := hc2.frozen 6; have q7 := hc2.cell 7; have qf7 := hc2.frozen 7; simp at q0 q1 q2 q3 q4 q5 q6 q7; have r0 := hc1.cell 0; have r1 := hc1.cell 1; have r2 := hc1.cell 2; have r3 := hc1.cell 3; have r4 := hc1.cell 4; have r5 := hc1.cell 5; have r6 := hc1.cell 6; simp at r0 r1 r2 r3 r4 r5 r6)
 all_goals
  have HS := Lib.hid (show Wds w5 (.slice A n c) (wordsQ x.text) from Sl.of_own hq)
  have HP5 := Lib.hid hP5
  have HC2 := Lib.hid hc2
  clear hq hm5 hP5 hc1 hc2
  try simp only [Exit.inBlock, Exit.then]
  have h9 := (((((((HC2.out.set 0 (.string ⟨x.id.toArray⟩)).set 1 (.string ⟨x.cust.toArray⟩)).set 2 (.int .i64 x.kind)).set 3 (.string ⟨x.name.toArray⟩)).set 4 (.int .i64 x.tm)).set 5 (.string ⟨x.par.toArray⟩)).set 6 (.string ⟨x.text.toArray⟩)).set 7 (.slice A n c)
  simp at h9
  have hm9 := mod_set (mod_set (mod_set (mod_set (mod_set (mod_set (mod_set (mod_set (Mod.refl (· = b2) w5) 0 (.string ⟨x.id.toArray⟩)) 1 (.string ⟨x.cust.toArray⟩)) 2 (.int .i64 x.kind)) 3 (.string ⟨x.name.toArray⟩)) 4 (.int .i64 x.tm)) 5 (.string ⟨x.par.toArray⟩)) 6 (.string ⟨x.text.toArray⟩)) 7 (.slice A n c)
  have HS9 := Lib.hid (Sl.mod HS.out hm9 (fun g arr fr hg he => by subst he; have h := HC2.out; unfold Blk at h; rw [h] at hg; injection hg with hg; injection hg with _ hg; exact absurd hg (by decide)))
  have HM9 := Lib.hid ((HM.out.trans HP5.out).trans' hm9 (fun i hi hlt => by omega))
  have z0 := h9.cell 0; have z1 := h9.cell 1; have z2 := h9.cell 2; have z3 := h9.cell 3; have z4 := h9.cell 4; have z5 := h9.cell 5; have z6 := h9.cell 6; have z7 := h9.cell 7; simp at z0 z1 z2 z3 z4 z5 z6 z7
  clear hm9 h9
  go_wp2_with fail
  try simp only [Exit.inBlock, Exit.then]
  refine bodyPost_ret (v := .agg #[.string ⟨x.id.toArray⟩, .string ⟨x.cust.toArray⟩, .int .i64 x.kind, .string ⟨x.name.toArray⟩, .int .i64 x.tm, .string ⟨x.par.toArray⟩, .string ⟨x.text.toArray⟩, .slice A n c]) (by simp [results, Tryz.results82, go_sem, z0, z1, z2, z3, z4, z5, z6, z7]) rfl ?_
  exact ⟨A, n, c, rfl, HS9.out, HM9.out⟩
set_option maxRecDepth 100000 in
set_option maxHeartbeats 4000000 in
theorem matches4_calls (w : World) (x : Itm) (Aq Bq : Option Addr) (cq dq : Nat) (nq : Int) (ws : List Str) (xs : List QR) (F : Nat → Nat → Bool) (hx : ItL x) (hE : Env w) (hie : itemE x = 0) (hQ : QS w (.mk 4 Aq cq ws nq Bq dq xs)) (hB : QB 1000 (QR.mk 4 Aq cq ws nq Bq dq xs).key) (hc : checkQ (QR.mk 4 Aq cq ws nq Bq dq xs).key = 0) (hW : (wordsQ x.text).length ≤ 1000000)
  (hP : ∀ W' A n c, Pure w W' → Wds W' (.slice A n c) (wordsQ x.text) → Calls Tryz.prog 168 #[qA (.mk 4 Aq cq ws nq Bq dq xs), .slice A n c] W' (RnP W' (wordsQ x.text).length F)) :
  Calls Tryz.prog 47 #[qA (.mk 4 Aq cq ws nq Bq dq xs), itA x] w (fun e w' => e = .returned (.tuple #[.bool (somePl F (wordsQ x.text).length), .int .i64 0]) ∧ Pure w w') := by
 have hxt : x.text.length ≤ 1000000 := by have := hx.2.2.2.2; omega
 have HCK := Lib.hid (fun W (h : QS W (QR.mk 4 Aq cq ws nq Bq dq xs)) => by have h2 := qcheck_calls W (.mk 4 Aq cq ws nq Bq dq xs) h hB; rw [hc] at h2; exact h2)
 have HIC := Lib.hid (fun W (h : Pure w W) => by have h2 := checkItemL_calls W x hx (hE.pure h); rw [hie] at h2; exact h2)
 have HNT := Lib.hid (fun W => newTarget_calls W x hxt)
 have HFD := Lib.hid (fun W A n c (h : Pure w W) (hw : Wds W (.slice A n c) (wordsQ x.text)) => found4_calls W x A n c Aq Bq cq dq nq ws xs (wordsQ x.text).length F hW (fun W' h' => hP W' A n c (h.trans h') (hw.pure h')))
 have HQ := Lib.hid hQ
 have hb1 := (Blk.new w 44 #[.int .i64 4, .slice Aq ws.length cq, .int .i64 nq, .slice Bq xs.length dq]).alloc (.cells #[.string ⟨x.id.toArray⟩, .string ⟨x.cust.toArray⟩, .int .i64 x.kind, .string ⟨x.name.toArray⟩, .int .i64 x.tm, .string ⟨x.par.toArray⟩, .string ⟨x.text.toArray⟩] 78)
 have hb2 := Blk.snd w (.cells #[.int .i64 4, .slice Aq ws.length cq, .int .i64 nq, .slice Bq xs.length dq] 44) 78 #[.string ⟨x.id.toArray⟩, .string ⟨x.cust.toArray⟩, .int .i64 x.kind, .string ⟨x.name.toArray⟩, .int .i64 x.tm, .string ⟨x.par.toArray⟩, .string ⟨x.text.toArray⟩]
 have HM : Hid (Pure w ((w.alloc (.cells #[.int .i64 4, .slice Aq ws.length cq, .int .i64 nq, .slice Bq xs.length dq] 44)).alloc (.cells #[.string ⟨x.id.toArray⟩, .string ⟨x.cust.toArray⟩, .int .i64 x.kind, .string ⟨x.name.toArray⟩, .int .i64 x.tm, .string ⟨x.par.toArray⟩, .string ⟨x.text.toArray⟩] 78))) := Lib.hid (((Mod.refl _ _).alloc _).alloc _)
 have HB1 := Lib.hid hb1
 have HB2 := Lib.hid hb2
 clear hb1 hb2 hx hE hie hQ hB hc hP hxt
 simp only [qA_mk] at HCK HFD ⊢
 unfold itA at HIC HNT ⊢
 generalize somePl F (wordsQ x.text).length = ans at *
 go_enter Tryz.func47, Tryz.ntmps47
 go_upto_region 1 with (fail)
 generalize ((w.alloc (.cells #[.int .i64 4, .slice Aq ws.length cq, .int .i64 nq, .slice Bq xs.length dq] 44)).alloc (.cells #[.string ⟨x.id.toArray⟩, .string ⟨x.cust.toArray⟩, .int .i64 x.kind, .string ⟨x.name.toArray⟩, .int .i64 x.tm, .string ⟨x.par.toArray⟩, .string ⟨x.text.toArray⟩] 78)) = w1 at *
 obtain ⟨b1, hb1⟩ : ∃ b, w.heap.size = b := ⟨_, rfl⟩
 rw [hb1] at HB1 HB2
 simp only [hb1]
 obtain ⟨b2, hb2⟩ : ∃ b, b1 + 1 = b := ⟨_, rfl⟩
 rw [hb2] at HB2
 simp only [hb2]
 clear hb1 hb2
 have HGs := Lib.hid (show ∀ (D : Nat → Bool) (zzi : Nat) (zq zq' : World), (fun _ zq => (fun Z => Blk Z b1 44 #[.int .i64 4, .slice Aq ws.length cq, .int .i64 nq, .slice Bq xs.length dq] ∧ Blk Z b2 78 #[.string ⟨x.id.toArray⟩, .string ⟨x.cust.toArray⟩, .int .i64 x.kind, .string ⟨x.name.toArray⟩, .int .i64 x.tm, .string ⟨x.par.toArray⟩, .string ⟨x.text.toArray⟩]) zq) D zq → Mod (fun _ => False) zq zq' → (fun _ zq => (fun Z => Blk Z b1 44 #[.int .i64 4, .slice Aq ws.length cq, .int .i64 nq, .slice Bq xs.length dq] ∧ Blk Z b2 78 #[.string ⟨x.id.toArray⟩, .string ⟨x.cust.toArray⟩, .int .i64 x.kind, .string ⟨x.name.toArray⟩, .int .i64 x.tm, .string ⟨x.par.toArray⟩, .string ⟨x.text.toArray⟩]) zq) (upd D zzi true) zq' from by intro D zzi zq zq' h hm; (exact ⟨h.1.modp hm, h.2.modp hm⟩))
 refine wp_region_inv (by kernel_rfl) (by kernel_rfl) (InvF (R := Mod (fun _ => False)) [.is (.agg #[.int .i64 4, .slice Aq ws.length cq, .int .i64 nq, .slice Bq xs.length dq]),
   .is (.int .i64 0),
   .is (.agg #[.string ⟨x.id.toArray⟩, .string ⟨x.cust.toArray⟩, .int .i64 x.kind, .string ⟨x.name.toArray⟩, .int .i64 x.tm, .string ⟨x.par.toArray⟩, .string ⟨x.text.toArray⟩]),
   .is (.int .i64 0),
   ⟨fun zv zw => ∃ (g_4 : Nat), zv = .slice (some ⟨g_4, 0, none⟩) 2 2 ∧ w1.heap.size ≤ g_4 ∧ Blk zw g_4 45 #[.int .i64 0, .int .i64 0], (by rintro zv zw zx ⟨g_4, rfl, c0, q0⟩ hm; exact ⟨g_4, rfl, c0, (q0.modp hm)⟩), none, some 5⟩,
   .is (.int .i64 0),
   .is (.int .i64 0)]
   (PB w1 (fun _ => False) w1.heap.size (fun _ zq => (fun Z => Blk Z b1 44 #[.int .i64 4, .slice Aq ws.length cq, .int .i64 nq, .slice Bq xs.length dq] ∧ Blk Z b2 78 #[.string ⟨x.id.toArray⟩, .string ⟨x.cust.toArray⟩, .int .i64 x.kind, .string ⟨x.name.toArray⟩, .int .i64 x.tm, .string ⟨x.par.toArray⟩, .string ⟨x.text.toArray⟩]) zq))) (InvF.start (PB.start (Mod.refl _ _) (Nat.le_refl _) (⟨HB1.out.drew, HB2.out.drew⟩))) ?_ ?_
 ·refine .cons ?_ (.cons ?_ (.cons ?_ (.cons ?_ (.cons ?_ (.cons ?_ (.cons ?_ .nil))))))
  ·intro D V zw1 a hR hI K hK
   obtain ⟨hM1, hB1, hG1⟩ := hI.1
   obtain ⟨hG1b, hG1c⟩ := hG1
   have ze2 := hR.frame.other (t := 2) (by kernel_rfl) rfl
   have zx0 := (hG1b).cell 0; have zy0 := (hG1b).frozen 0; simp at zx0
   have zx1 := (hG1b).cell 1; have zy1 := (hG1b).frozen 1; simp at zx1
   have zx2 := (hG1b).cell 2; have zy2 := (hG1b).frozen 2; simp at zx2
   have zx3 := (hG1b).cell 3; have zy3 := (hG1b).frozen 3; simp at zx3
   rw [if_pos (by rfl)]
   go_simp
   exact hK (.agg #[.int .i64 4, .slice Aq ws.length cq, .int .i64 nq, .slice Bq xs.length dq]) _ (hI.next hR (by kernel_rfl) (Mod.refl _ _) (PB.quiet hI.1 (Mod.refl _ _) (HGs.out D 0 zw1 zw1 (hI.1).g (Mod.refl _ _))) (upd_same V 0 _))
  ·intro D V zw1 a hR hI K hK
   obtain ⟨hM1, hB1, hG1⟩ := hI.1
   obtain ⟨hG1b, hG1c⟩ := hG1
   have zd0 := hR.pred 0 (by kernel_rfl)
   have zF0 : V 0 = .agg #[.int .i64 4, .slice Aq ws.length cq, .int .i64 nq, .slice Bq xs.length dq] := hI.2 0 zd0 rfl
   have zf0 := zF0; clear zF0
   have ze7 := hR.frame.done (t := 7) (j := 0) (by kernel_rfl) hR.ok zd0
   rw [if_pos (by rfl)]
   go_simp
   refine (HCK.out zw1 (HQ.out.pure (HM.out.trans hM1))).mono ?_
   rintro e zw2 ⟨rfl, hm2⟩
   exact hK (.int .i64 0) _ (hI.next hR (by kernel_rfl) hm2 (PB.quiet hI.1 hm2 (HGs.out D 1 _ _ (hI.1).g hm2)) (upd_same V 1 _))
  ·intro D V zw1 a hR hI K hK
   obtain ⟨hM1, hB1, hG1⟩ := hI.1
   obtain ⟨hG1b, hG1c⟩ := hG1
   have ze3 := hR.frame.other (t := 3) (by kernel_rfl) rfl
   have zx0 := (hG1c).cell 0; have zy0 := (hG1c).frozen 0; simp at zx0
   have zx1 := (hG1c).cell 1; have zy1 := (hG1c).frozen 1; simp at zx1
   have zx2 := (hG1c).cell 2; have zy2 := (hG1c).frozen 2; simp at zx2
   have zx3 := (hG1c).cell 3; have zy3 := (hG1c).frozen 3; simp at zx3
   have zx4 := (hG1c).cell 4; have zy4 := (hG1c).frozen 4; simp at zx4
   have zx5 := (hG1c).cell 5; have zy5 := (hG1c).frozen 5; simp at zx5
   have zx6 := (hG1c).cell 6; have zy6 := (hG1c).frozen 6; simp at zx6
   rw [if_pos (by rfl)]
   go_simp
   exact hK (.agg #[.string ⟨x.id.toArray⟩, .string ⟨x.cust.toArray⟩, .int .i64 x.kind, .string ⟨x.name.toArray⟩, .int .i64 x.tm, .string ⟨x.par.toArray⟩, .string ⟨x.text.toArray⟩]) _ (hI.next hR (by kernel_rfl) (Mod.refl _ _) (PB.quiet hI.1 (Mod.refl _ _) (HGs.out D 2 zw1 zw1 (hI.1).g (Mod.refl _ _))) (upd_same V 2 _))
  ·intro D V zw1 a hR hI K hK
   obtain ⟨hM1, hB1, hG1⟩ := hI.1
   obtain ⟨hG1b, hG1c⟩ := hG1
   have zd2 := hR.pred 2 (by kernel_rfl)
   have zF2 : V 2 = .agg #[.string ⟨x.id.toArray⟩, .string ⟨x.cust.toArray⟩, .int .i64 x.kind, .string ⟨x.name.toArray⟩, .int .i64 x.tm, .string ⟨x.par.toArray⟩, .string ⟨x.text.toArray⟩] := hI.2 2 zd2 rfl
   have zf2 := zF2; clear zF2
   have ze9 := hR.frame.done (t := 9) (j := 2) (by kernel_rfl) hR.ok zd2
   rw [if_pos (by rfl)]
   go_simp
   refine (HIC.out zw1 (HM.out.trans hM1)).mono ?_
   rintro e zw2 ⟨rfl, hm2⟩
   exact hK (.int .i64 0) _ (hI.next hR (by kernel_rfl) hm2 (PB.quiet hI.1 hm2 (HGs.out D 3 _ _ (hI.1).g hm2)) (upd_same V 3 _))
  ·intro D V zw1 a hR hI K hK
   obtain ⟨hM1, hB1, hG1⟩ := hI.1
   obtain ⟨hG1b, hG1c⟩ := hG1
   have zd1 := hR.pred 1 (by kernel_rfl)
   have zF1 : V 1 = .int .i64 0 := hI.2 1 zd1 rfl
   have zf1 := zF1; clear zF1
   have zd3 := hR.pred 3 (by kernel_rfl)
   have zF3 : V 3 = .int .i64 0 := hI.2 3 zd3 rfl
   have zf3 := zF3; clear zF3
   have ze8 := hR.frame.done (t := 8) (j := 1) (by kernel_rfl) hR.ok zd1
   have ze10 := hR.frame.done (t := 10) (j := 3) (by kernel_rfl) hR.ok zd3
   rw [if_pos (by rfl)]
   go_simp
   exact hK (_) _ (hI.next hR (by kernel_rfl) ((Mod.refl _ _).alloc _) (PB.quiet hI.1 (pure_alloc _ _) (HGs.out D 4 _ _ (hI.1).g ((Mod.refl _ _).alloc _))) (⟨_, upd_same V 4 _, (by omega), (Blk.new _ _ _)⟩))
  ·intro D V zw1 a hR hI K hK
   obtain ⟨hM1, hB1, hG1⟩ := hI.1
   obtain ⟨hG1b, hG1c⟩ := hG1
   have zd4 := hR.pred 4 (by kernel_rfl)
   have zF4 : ∃ (g_4 : Nat), V 4 = .slice (some ⟨g_4, 0, none⟩) 2 2 ∧ w1.heap.size ≤ g_4 ∧ Blk zw1 g_4 45 #[.int .i64 0, .int .i64 0] := hI.2 4 zd4 (by show (!D 5) = true; rw [hR.not]; rfl)
   obtain ⟨g_4, zf4, c4_0, b4_0⟩ := zF4
   have ze11 := hR.frame.done (t := 11) (j := 4) (by kernel_rfl) hR.ok zd4
   rw [if_pos (by rfl)]
   go_simp
   refine (firstE_calls zw1 g_4 2 [0, 0] b4_0.row0 (by simp)).mono ?_
   rintro e zw2 ⟨rfl, hm2⟩
   exact hK (.int .i64 0) _ (hI.next hR (by kernel_rfl) hm2 (PB.quiet hI.1 hm2 (HGs.out D 5 _ _ (hI.1).g hm2)) (upd_same V 5 _))
  ·intro D V zw1 a hR hI K hK
   obtain ⟨hM1, hB1, hG1⟩ := hI.1
   obtain ⟨hG1b, hG1c⟩ := hG1
   have zd5 := hR.pred 5 (by kernel_rfl)
   have zF5 : V 5 = .int .i64 0 := hI.2 5 zd5 rfl
   have zf5 := zF5; clear zF5
   have ze12 := hR.frame.done (t := 12) (j := 5) (by kernel_rfl) hR.ok zd5
   rw [if_pos (by rfl)]
   go_simp
   exact hK (.int .i64 0) _ (hI.next hR (by kernel_rfl) (Mod.refl _ _) (PB.quiet hI.1 (Mod.refl _ _) (HGs.out D 6 zw1 zw1 (hI.1).g (Mod.refl _ _))) (upd_same V 6 _))
 ·intro D V w2 hD hI
  obtain ⟨hM1, hB1, hG1⟩ := hI.1
  have hMx := hM1
  clear hM1
  have hBx := hB1
  clear hB1
  have hGx := hG1
  clear hG1
  have zF0 : V 0 = .agg #[.int .i64 4, .slice Aq ws.length cq, .int .i64 nq, .slice Bq xs.length dq] := hI.2 0 (hD 0 (by decide)) rfl
  have zf0 := zF0; clear zF0
  have zF1 : V 1 = .int .i64 0 := hI.2 1 (hD 1 (by decide)) rfl
  have zf1 := zF1; clear zF1
  have zF2 : V 2 = .agg #[.string ⟨x.id.toArray⟩, .string ⟨x.cust.toArray⟩, .int .i64 x.kind, .string ⟨x.name.toArray⟩, .int .i64 x.tm, .string ⟨x.par.toArray⟩, .string ⟨x.text.toArray⟩] := hI.2 2 (hD 2 (by decide)) rfl
  have zf2 := zF2; clear zF2
  have zF3 : V 3 = .int .i64 0 := hI.2 3 (hD 3 (by decide)) rfl
  have zf3 := zF3; clear zF3
  have zF5 : V 5 = .int .i64 0 := hI.2 5 (hD 5 (by decide)) rfl
  have zf5 := zF5; clear zF5
  have zF6 : V 6 = .int .i64 0 := hI.2 6 (hD 6 (by decide)) rfl
  have zf6 := zF6; clear zF6
  clear hI hD HGs
  simp only [frAll, Act.put, List.setIfInBounds_toArray, List.set_cons_zero, List.set_cons_succ, Nat.zero_add, Nat.reduceAdd, zf0, zf1, zf2, zf3, zf5, zf6]
  clear zf0 zf1 zf2 zf3 zf5 zf6
  generalize V 4 = u4
  clear V D
  have HB1' := Lib.hid hGx.1
  have HB2' := Lib.hid hGx.2
  have HM2 := Lib.hid (HM.out.trans hMx)
  clear hGx hMx HB1 HB2 HM
  go_upto_region 4 with (fail)
  have HGs := Lib.hid (show ∀ (D : Nat → Bool) (zzi : Nat) (zq zq' : World), (fun _ zq => (fun Z => Blk Z b1 44 #[.int .i64 4, .slice Aq ws.length cq, .int .i64 nq, .slice Bq xs.length dq] ∧ Blk Z b2 78 #[.string ⟨x.id.toArray⟩, .string ⟨x.cust.toArray⟩, .int .i64 x.kind, .string ⟨x.name.toArray⟩, .int .i64 x.tm, .string ⟨x.par.toArray⟩, .string ⟨x.text.toArray⟩]) zq) D zq → Mod (fun _ => False) zq zq' → (fun _ zq => (fun Z => Blk Z b1 44 #[.int .i64 4, .slice Aq ws.length cq, .int .i64 nq, .slice Bq xs.length dq] ∧ Blk Z b2 78 #[.string ⟨x.id.toArray⟩, .string ⟨x.cust.toArray⟩, .int .i64 x.kind, .string ⟨x.name.toArray⟩, .int .i64 x.tm, .string ⟨x.par.toArray⟩, .string ⟨x.text.toArray⟩]) zq) (upd D zzi true) zq' from by intro D zzi zq zq' h hm; (exact ⟨h.1.modp hm, h.2.modp hm⟩))
  refine wp_region_inv (by kernel_rfl) (by kernel_rfl) (InvF (R := Mod (fun _ => False)) [.is (.agg #[.string ⟨x.id.toArray⟩, .string ⟨x.cust.toArray⟩, .int .i64 x.kind, .string ⟨x.name.toArray⟩, .int .i64 x.tm, .string ⟨x.par.toArray⟩, .string ⟨x.text.toArray⟩]),
    ⟨fun zv zw => ∃ (A_1 : Option Addr) (n_1 : Nat) (c_1 : Nat), zv = tgA x (.slice A_1 n_1 c_1) ∧ Wds zw (.slice A_1 n_1 c_1) (wordsQ x.text), (by rintro zv zw zx ⟨A_1, n_1, c_1, rfl, q0⟩ hm; exact ⟨A_1, n_1, c_1, rfl, (q0.pure hm)⟩), none, none⟩,
    .is (.agg #[.int .i64 4, .slice Aq ws.length cq, .int .i64 nq, .slice Bq xs.length dq]),
    .is (.bool ans),
    .is (.bool ans),
    .is ((.int .i64 0))]
    (PB w2 (fun _ => False) w2.heap.size (fun _ zq => (fun Z => Blk Z b1 44 #[.int .i64 4, .slice Aq ws.length cq, .int .i64 nq, .slice Bq xs.length dq] ∧ Blk Z b2 78 #[.string ⟨x.id.toArray⟩, .string ⟨x.cust.toArray⟩, .int .i64 x.kind, .string ⟨x.name.toArray⟩, .int .i64 x.tm, .string ⟨x.par.toArray⟩, .string ⟨x.text.toArray⟩]) zq))) (InvF.start (PB.start (Mod.refl _ _) (Nat.le_refl _) (⟨HB1'.out.drew, HB2'.out.drew⟩))) ?_ ?_
  ·refine .cons ?_ (.cons ?_ (.cons ?_ (.cons ?_ (.cons ?_ (.cons ?_ .nil)))))
   ·intro D V zw1 a hR hI K hK
    obtain ⟨hM1, hB1, hG1⟩ := hI.1
    obtain ⟨hG1b, hG1c⟩ := hG1
    have ze3 := hR.frame.other (t := 3) (by kernel_rfl) rfl
    have zx0 := (hG1c).cell 0; have zy0 := (hG1c).frozen 0; simp at zx0
    have zx1 := (hG1c).cell 1; have zy1 := (hG1c).frozen 1; simp at zx1
    have zx2 := (hG1c).cell 2; have zy2 := (hG1c).frozen 2; simp at zx2
    have zx3 := (hG1c).cell 3; have zy3 := (hG1c).frozen 3; simp at zx3
    have zx4 := (hG1c).cell 4; have zy4 := (hG1c).frozen 4; simp at zx4
    have zx5 := (hG1c).cell 5; have zy5 := (hG1c).frozen 5; simp at zx5
    have zx6 := (hG1c).cell 6; have zy6 := (hG1c).frozen 6; simp at zx6
    rw [if_pos (by rfl)]
    go_simp
    exact hK (.agg #[.string ⟨x.id.toArray⟩, .string ⟨x.cust.toArray⟩, .int .i64 x.kind, .string ⟨x.name.toArray⟩, .int .i64 x.tm, .string ⟨x.par.toArray⟩, .string ⟨x.text.toArray⟩]) _ (hI.next hR (by kernel_rfl) (Mod.refl _ _) (PB.quiet hI.1 (Mod.refl _ _) (HGs.out D 0 zw1 zw1 (hI.1).g (Mod.refl _ _))) (upd_same V 0 _))
   ·intro D V zw1 a hR hI K hK
    obtain ⟨hM1, hB1, hG1⟩ := hI.1
    obtain ⟨hG1b, hG1c⟩ := hG1
    have zd0 := hR.pred 0 (by kernel_rfl)
    have zF0 : V 0 = .agg #[.string ⟨x.id.toArray⟩, .string ⟨x.cust.toArray⟩, .int .i64 x.kind, .string ⟨x.name.toArray⟩, .int .i64 x.tm, .string ⟨x.par.toArray⟩, .string ⟨x.text.toArray⟩] := hI.2 0 zd0 rfl
    have zf0 := zF0; clear zF0
    have ze16 := hR.frame.done (t := 16) (j := 0) (by kernel_rfl) hR.ok zd0
    rw [if_pos (by rfl)]
    go_simp
    refine (HNT.out zw1).mono ?_
    rintro e zw2 ⟨A_0, n_0, c_0, rfl, hq, hm2⟩
    exact hK (tgA x (.slice A_0 n_0 c_0)) _ (hI.next hR (by kernel_rfl) hm2 (PB.quiet hI.1 hm2 (HGs.out D 1 _ _ (hI.1).g hm2)) (⟨A_0, n_0, c_0, upd_same V 1 _, hq⟩))
   ·intro D V zw1 a hR hI K hK
    obtain ⟨hM1, hB1, hG1⟩ := hI.1
    obtain ⟨hG1b, hG1c⟩ := hG1
    have ze2 := hR.frame.other (t := 2) (by kernel_rfl) rfl
    have zx0 := (hG1b).cell 0; have zy0 := (hG1b).frozen 0; simp at zx0
    have zx1 := (hG1b).cell 1; have zy1 := (hG1b).frozen 1; simp at zx1
    have zx2 := (hG1b).cell 2; have zy2 := (hG1b).frozen 2; simp at zx2
    have zx3 := (hG1b).cell 3; have zy3 := (hG1b).frozen 3; simp at zx3
    rw [if_pos (by rfl)]
    go_simp
    exact hK (.agg #[.int .i64 4, .slice Aq ws.length cq, .int .i64 nq, .slice Bq xs.length dq]) _ (hI.next hR (by kernel_rfl) (Mod.refl _ _) (PB.quiet hI.1 (Mod.refl _ _) (HGs.out D 2 zw1 zw1 (hI.1).g (Mod.refl _ _))) (upd_same V 2 _))
   ·intro D V zw1 a hR hI K hK
    obtain ⟨hM1, hB1, hG1⟩ := hI.1
    obtain ⟨hG1b, hG1c⟩ := hG1
    have zd1 := hR.pred 1 (by kernel_rfl)
    have zF1 : ∃ (A_1 : Option Addr) (n_1 : Nat) (c_1 : Nat), V 1 = tgA x (.slice A_1 n_1 c_1) ∧ Wds zw1 (.slice A_1 n_1 c_1) (wordsQ x.text) := hI.2 1 zd1 rfl
    obtain ⟨A_1, n_1, c_1, zf1, b1_0⟩ := zF1
    have zd2 := hR.pred 2 (by kernel_rfl)
    have zF2 : V 2 = .agg #[.int .i64 4, .slice Aq ws.length cq, .int .i64 nq, .slice Bq xs.length dq] := hI.2 2 zd2 rfl
    have zf2 := zF2; clear zF2
    have ze17 := hR.frame.done (t := 17) (j := 1) (by kernel_rfl) hR.ok zd1
    have ze18 := hR.frame.done (t := 18) (j := 2) (by kernel_rfl) hR.ok zd2
    rw [if_pos (by rfl)]
    go_simp
    refine (HFD.out zw1 A_1 n_1 c_1 (HM2.out.trans hM1) b1_0).mono ?_
    rintro e zw2 ⟨rfl, hm2⟩
    exact hK (.bool ans) _ (hI.next hR (by kernel_rfl) hm2 (PB.quiet hI.1 hm2 (HGs.out D 3 _ _ (hI.1).g hm2)) (upd_same V 3 _))
   ·intro D V zw1 a hR hI K hK
    obtain ⟨hM1, hB1, hG1⟩ := hI.1
    obtain ⟨hG1b, hG1c⟩ := hG1
    have zd3 := hR.pred 3 (by kernel_rfl)
    have zF3 : V 3 = .bool ans := hI.2 3 zd3 rfl
    have zf3 := zF3; clear zF3
    have ze19 := hR.frame.done (t := 19) (j := 3) (by kernel_rfl) hR.ok zd3
    rw [if_pos (by rfl)]
    go_simp
    exact hK (.bool ans) _ (hI.next hR (by kernel_rfl) (Mod.refl _ _) (PB.quiet hI.1 (Mod.refl _ _) (HGs.out D 4 zw1 zw1 (hI.1).g (Mod.refl _ _))) (upd_same V 4 _))
   ·intro D V zw1 a hR hI K hK
    obtain ⟨hM1, hB1, hG1⟩ := hI.1
    obtain ⟨hG1b, hG1c⟩ := hG1
    rw [if_pos (by rfl)]
    go_simp
    exact hK ((.int .i64 0)) _ (hI.next hR (by kernel_rfl) (Mod.refl _ _) (PB.quiet hI.1 (Mod.refl _ _) (HGs.out D 5 zw1 zw1 (hI.1).g (Mod.refl _ _))) (upd_same V 5 _))
  ·intro D V w3 hD hI
   obtain ⟨hM1, hB1, hG1⟩ := hI.1
   have hMx := hM1
   clear hM1
   have hBx := hB1
   clear hB1
   have hGx := hG1
   clear hG1
   have zF0 : V 0 = .agg #[.string ⟨x.id.toArray⟩, .string ⟨x.cust.toArray⟩, .int .i64 x.kind, .string ⟨x.name.toArray⟩, .int .i64 x.tm, .string ⟨x.par.toArray⟩, .string ⟨x.text.toArray⟩] := hI.2 0 (hD 0 (by decide)) rfl
   have zf0 := zF0; clear zF0
   have zF1 : ∃ (A_1 : Option Addr) (n_1 : Nat) (c_1 : Nat), V 1 = tgA x (.slice A_1 n_1 c_1) ∧ Wds w3 (.slice A_1 n_1 c_1) (wordsQ x.text) := hI.2 1 (hD 1 (by decide)) rfl
   obtain ⟨A_1, n_1, c_1, zf1, b1_0⟩ := zF1
   have zF2 : V 2 = .agg #[.int .i64 4, .slice Aq ws.length cq, .int .i64 nq, .slice Bq xs.length dq] := hI.2 2 (hD 2 (by decide)) rfl
   have zf2 := zF2; clear zF2
   have zF3 : V 3 = .bool ans := hI.2 3 (hD 3 (by decide)) rfl
   have zf3 := zF3; clear zF3
   have zF4 : V 4 = .bool ans := hI.2 4 (hD 4 (by decide)) rfl
   have zf4 := zF4; clear zF4
   have zF5 : V 5 = (.int .i64 0) := hI.2 5 (hD 5 (by decide)) rfl
   have zf5 := zF5; clear zF5
   clear hI hD HGs
   simp only [frAll, Act.put, List.setIfInBounds_toArray, List.set_cons_zero, List.set_cons_succ, Nat.zero_add, Nat.reduceAdd, zf0, zf1, zf2, zf3, zf4, zf5]
   clear zf0 zf1 zf2 zf3 zf4 zf5
   clear V D
   have HM3 := Lib.hid (HM2.out.trans hMx)
   clear hGx hMx b1_0
   go_wp2_with fail
   try simp only [Exit.inBlock, Exit.then]
   refine bodyPost_ret (v := .tuple #[.bool ans, .int .i64 0]) (by simp [results, Tryz.results47, go_sem]) rfl ?_
   exact ⟨rfl, HM3.out⟩

end Go.Proofs.YtanblgcgbncbpaaGreatDoor

/- A part of a search: (*reader).part. -/
namespace Go.Proofs.YtanblgcgbncbpaaGreatDoor
set_option linter.unusedVariables false
set_option linter.unusedSimpArgs false
open Go.RowKit
/-- next, in every later world; or, for at most so many tokens. -/
def NxC (w0 : World) (g : Nat) (s : Str) : Prop := ∀ W L, Mod (· = g) w0 W → RdrS W g s L → kdL L ≠ 0 → kdL L ≠ 8 → Calls Tryz.prog 79 #[.pointer (some ⟨g, 0, none⟩)] W (NrP W g s L.tail)
def OrC (w0 : World) (g : Nat) (s : Str) (f : Nat) : Prop := ∀ W L, Mod (· = g) w0 W → RdrS W g s L → L.length + 1 ≤ f → Calls Tryz.prog 80 #[.pointer (some ⟨g, 0, none⟩)] W (PrP W g s (pOr f L))
theorem nxC_of {w0 : World} {g : Nat} {s : Str} (hs : s.length ≤ 200000) (hM : ∀ W, Mod (· = g) w0 W → MlnS W) (hI : IxA g w0 s) : NxC w0 g s := by
 intro W L hW hR h0 h8
 obtain ⟨p, qr, t, l, rfl, hB, hp, hQ, hk, ha, h7, hl⟩ := hR
 obtain rfl := hl h0 h8
 obtain ⟨k, A, c, ws, n, B, d, xs⟩ := qr
 exact (nextR_calls W s p t.kind t.pos k n (.slice A ws.length c) (.slice B xs.length d) g hs hp (fun W' h => hM W' (hW.trans h)) (fun W' a h => hI W' a (hW.trans h)) hB).mono fun e w' h => h.rds hp
/-- A search is stored into the box of the result, and handed back. -/
theorem pr_ret {w X : World} {g b2 : Nat} {s : Str} {l : List Tk} {r : PR} {bt : Bool} {k n : Int} {A B : Option Addr} {c d : Nat} {ws : List Str} {xs : List QR} {x0 x1 x2 x3 : Value} (hm : Mod (· = g) w X) (hR : RdrS X g s l) (hB : Blk X b2 44 #[x0, x1, x2, x3]) (hb : w.heap.size ≤ b2) (hg : g < w.heap.size)
  (h0 : bt = false → r = .inl l) (h1 : bt = true → r = .inr ((QR.mk k A c ws n B d xs).key, l) ∧ QS X (.mk k A c ws n B d xs) ∧ QN (· = b2) (.mk k A c ws n B d xs) ∧ QFr w.heap.size (.mk k A c ws n B d xs)) :
  PrP w g s r (.returned (.tuple #[.agg #[.int .i64 k, .slice A ws.length c, .int .i64 n, .slice B xs.length d], .bool bt])) ((((X.setCell ⟨b2, 0, none⟩ (.int .i64 k)).setCell ⟨b2, 1, none⟩ (.slice A ws.length c)).setCell ⟨b2, 2, none⟩ (.int .i64 n)).setCell ⟨b2, 3, none⟩ (.slice B xs.length d)) := by
 have hst : Mod (· = b2) X ((((X.setCell ⟨b2, 0, none⟩ (.int .i64 k)).setCell ⟨b2, 1, none⟩ (.slice A ws.length c)).setCell ⟨b2, 2, none⟩ (.int .i64 n)).setCell ⟨b2, 3, none⟩ (.slice B xs.length d)) := st4_mod
 have hty : ∀ k' arr fr, X.heap[k']? = some (.cells arr 9 fr) → ¬ k' = b2 := by
  intro k' arr fr hk e
  subst e
  unfold Blk at hB
  rw [hB] at hk
  injection hk with hk
  injection hk with _ hk
  exact absurd hk (by decide)
 refine ⟨.mk k A c ws n B d xs, bt, l, rfl, hR.mod hst (by omega) hty, hm.trans' hst (fun i hi hlt => by omega), h0, fun h => ?_⟩
 obtain ⟨a1, a2, a3, a4⟩ := h1 h
 exact ⟨a1, a2.modN a3 hst hty, a4⟩
set_option maxRecDepth 100000 in
set_option maxHeartbeats 8000000 in
theorem part_calls (w0 : World) (g : Nat) (s : Str) (f : Nat) (hN : NxC w0 g s) (hO : OrC w0 g s f) (w : World) (L : List Tk) (hW : Mod (· = g) w0 w) (hR : RdrS w g s L) (hL : L.length ≤ f) : Calls Tryz.prog 188 #[.pointer (some ⟨g, 0, none⟩)] w (PrP w g s (pPart (pOr f) L)) := by
 have HN := Lib.hid hN
 have HO := Lib.hid hO
 have HW := Lib.hid hW
 have HR := Lib.hid hR
 clear hN hO hW
 obtain ⟨p, qr, t, l, rfl, hB, hp, hQ, hk, ha, h7, hl⟩ := hR
 obtain ⟨k, A, c, ws, n, B, d, xs⟩ := qr
 have HQ := Lib.hid hQ
 have HKY := Lib.hid hk
 have HAR := Lib.hid ha
 clear hl h7 ha hQ hk
 obtain ⟨kd, pos, q⟩ := t
 simp only at *
 have HPP : Hid (pPart (pOr f) (⟨kd, pos, q⟩ :: l) = if kd = 3 then .inr (q, l) else if kd = 1 then closeP (pOr f l) else .inl (⟨kd, pos, q⟩ :: l)) := Lib.hid rfl
 generalize pPart (pOr f) (⟨kd, pos, q⟩ :: l) = r at *
 have hBa := hB.alloc (.cells #[.int .i64 0, .slice none 0 0, .int .i64 0, .slice none 0 0] 44)
 unfold rdC at hBa
 simp [qC] at hBa
 have x0 := hBa.cell 0; have xf0 := hBa.frozen 0; have x1 := hBa.cell 1; have xf1 := hBa.frozen 1; have x2 := hBa.cell 2; have xf2 := hBa.frozen 2; have x3 := hBa.cell 3; have xf3 := hBa.frozen 3; have x4 := hBa.cell 4; have xf4 := hBa.frozen 4; have x5 := hBa.cell 5; have xf5 := hBa.frozen 5; have x6 := hBa.cell 6; have xf6 := hBa.frozen 6; have x7 := hBa.cell 7; have xf7 := hBa.frozen 7; simp at x0 x1 x2 x3 x4 x5 x6 x7
 go_enter Tryz.func188, Tryz.ntmps188
 by_cases h3 : kd = 3
 ·subst h3
  have HP : Hid (r = .inr (q, l)) := HPP.out
  have HB2 := Lib.hid ((Blk.new w 44 #[.int .i64 0, .slice none 0 0, .int .i64 0, .slice none 0 0]).alloc (.cells #[.int .i64 k, .slice A ws.length c, .int .i64 n, .slice B xs.length d] 44))
  have HB4 := Lib.hid (Blk.snd w (.cells #[.int .i64 0, .slice none 0 0, .int .i64 0, .slice none 0 0] 44) 44 #[.int .i64 k, .slice A ws.length c, .int .i64 n, .slice B xs.length d])
  have hm2 : Pure w ((w.alloc (.cells #[.int .i64 0, .slice none 0 0, .int .i64 0, .slice none 0 0] 44)).alloc (.cells #[.int .i64 k, .slice A ws.length c, .int .i64 n, .slice B xs.length d] 44)) := ((Mod.refl _ _).alloc _).alloc _
  have HR2 := Lib.hid (HR.out.pure hm2)
  have HQ2 := Lib.hid (HQ.out.pure hm2)
  have HM2 : Hid (Mod (· = g) w _) := Lib.hid (Mod.of_pure hm2)
  go_upto_region 4 with (fail)
  generalize ((w.alloc (.cells #[.int .i64 0, .slice none 0 0, .int .i64 0, .slice none 0 0] 44)).alloc (.cells #[.int .i64 k, .slice A ws.length c, .int .i64 n, .slice B xs.length d] 44)) = w2 at *
  have hg0 := HR.out.lt
  have hb2 : w.heap.size ≤ w.heap.size := Nat.le_refl _
  obtain ⟨b2, hb2e⟩ : ∃ b2, w.heap.size = b2 := ⟨_, rfl⟩
  rw [hb2e] at HB2 HB4
  simp only [hb2e]
  clear x0 x1 x2 x3 x4 x5 x6 x7 xf0 xf1 xf2 xf3 xf4 xf5 xf6 xf7 hm2
  have HNX := Lib.hid (HN.out w2 (⟨3, pos, q⟩ :: l) (HW.out.trans HM2.out) HR2.out (show (3 : Int) ≠ 0 by decide) (show (3 : Int) ≠ 8 by decide))
  go_wp2_with fail
  refine HNX.out.mono ?_
  rintro e w3 ⟨rfl, hR3, hm3⟩
  obtain ⟨cs, hcs⟩ := HR2.out.blk
  have HQ3 := Lib.hid (HQ2.out.rd hcs hm3)
  have hB2 := HB2.out.modb hm3 (by omega)
  have hB4 := HB4.out.modb hm3 (by omega)
  have HB3 := Lib.hid hB2
  have HR3 := Lib.hid hR3
  have HM3 := Lib.hid (HM2.out.trans hm3)
  have x0 := hB2.cell 0; have xf0 := hB2.frozen 0; have x1 := hB2.cell 1; have xf1 := hB2.frozen 1; have x2 := hB2.cell 2; have xf2 := hB2.frozen 2; have x3 := hB2.cell 3; have xf3 := hB2.frozen 3; simp at x0 x1 x2 x3
  have y0 := hB4.cell 0; have y1 := hB4.cell 1; have y2 := hB4.cell 2; have y3 := hB4.cell 3; simp at y0 y1 y2 y3
  clear hB2 hB4 hR3 hm3 hcs
  go_wp2_with fail
  have h4F := st4_blk HB3.out (a := .int .i64 k) (b := .slice A ws.length c) (c := .int .i64 n) (d := .slice B xs.length d)
  have z0 := h4F.cell 0; have z1 := h4F.cell 1; have z2 := h4F.cell 2; have z3 := h4F.cell 3; simp at z0 z1 z2 z3
  try simp only [Exit.inBlock, Exit.then]
  refine bodyPost_ret (v := .tuple #[.agg #[.int .i64 k, .slice A ws.length c, .int .i64 n, .slice B xs.length d], .bool true]) (by simp [results, Tryz.results188, go_sem, z0, z1, z2, z3]) rfl ?_
  refine pr_ret HM3.out HR3.out HB3.out (by omega) (by omega) (fun h => by cases h) (fun _ => ⟨?_, HQ3.out, QN.leaf (by rw [HKY.out]; exact HAR.out), QFr.leaf (by rw [HKY.out]; exact HAR.out)⟩)
  rw [HP.out, HKY.out]
  rfl
 ·have HPP2 : Hid (r = if kd = 1 then closeP (pOr f l) else .inl (⟨kd, pos, q⟩ :: l)) := Lib.hid (HPP.out.trans (if_neg h3))
  have h3i : (kd == 3) = false := by rw [← Bool.not_eq_true, beq_iff_eq]; exact h3
  have HB2 := Lib.hid (Blk.new w 44 #[.int .i64 0, .slice none 0 0, .int .i64 0, .slice none 0 0])
  have hm2 : Pure w (w.alloc (.cells #[.int .i64 0, .slice none 0 0, .int .i64 0, .slice none 0 0] 44)) := (Mod.refl _ _).alloc _
  have HR2 := Lib.hid (HR.out.pure hm2)
  have HM2 : Hid (Mod (· = g) w (w.alloc (.cells #[.int .i64 0, .slice none 0 0, .int .i64 0, .slice none 0 0] 44))) := Lib.hid (Mod.of_pure hm2)
  have hg0 := HR.out.lt
  obtain ⟨b2, hb2e⟩ : ∃ b2, w.heap.size = b2 := ⟨_, rfl⟩
  by_cases h1 : kd = 1
  ·subst h1
   have HP : Hid (r = closeP (pOr f l)) := Lib.hid (HPP2.out.trans (if_pos rfl))
   clear HPP HPP2 hm2
   go_upto_region 7 with (fail)
   generalize (w.alloc (.cells #[.int .i64 0, .slice none 0 0, .int .i64 0, .slice none 0 0] 44)) = w2 at *
   rw [hb2e] at HB2
   try simp only [hb2e]
   have hb2l : w.heap.size ≤ b2 := by omega
   have hb2u : b2 ≤ w.heap.size := by omega
   clear hb2e
   clear x0 x1 x2 x3 x4 x5 x6 x7 xf0 xf1 xf2 xf3 xf4 xf5 xf6 xf7
   have HNX := Lib.hid (HN.out w2 (⟨1, pos, q⟩ :: l) (HW.out.trans HM2.out) HR2.out (show (1 : Int) ≠ 0 by decide) (show (1 : Int) ≠ 8 by decide))
   go_wp2_with fail
   refine HNX.out.mono ?_
   rintro e w3 ⟨rfl, hR3, hm3⟩
   have HB3 := Lib.hid (HB2.out.modb hm3 (by omega))
   have HM3 := Lib.hid (HM2.out.trans hm3)
   have HOX := Lib.hid (HO.out w3 l (HW.out.trans HM3.out) hR3 (by simp at hL; omega))
   clear hR3 hm3 HNX HB2 HM2
   go_wp2_with fail
   refine HOX.out.mono ?_
   rintro e w4 ⟨qr2, bt, l2, rfl, hR4, hm4, h0, h1⟩
   obtain ⟨k2, A2, c2, ws2, n2, B2, d2, xs2⟩ := qr2
   simp only [qA_mk]
   have H0 := Lib.hid h0
   have H1 := Lib.hid h1
   have HB4 := Lib.hid (HB3.out.modb hm4 (by omega))
   have HM4 := Lib.hid (HM3.out.trans hm4)
   have HR4 := Lib.hid hR4
   have hsz4 := HM4.out.size
   have hsz3 := HM3.out.size
   have hb23 := HB3.out.lt
   clear h0 h1 hm4 hR4 HB3 HOX
   have hmA : Pure w4 (w4.alloc (.cells #[.int .i64 k2, .slice A2 ws2.length c2, .int .i64 n2, .slice B2 xs2.length d2] 44)) := (Mod.refl _ _).alloc _
   have HB5 := Lib.hid (HB4.out.alloc (.cells #[.int .i64 k2, .slice A2 ws2.length c2, .int .i64 n2, .slice B2 xs2.length d2] 44))
   have HB6 := Lib.hid (Blk.new w4 44 #[.int .i64 k2, .slice A2 ws2.length c2, .int .i64 n2, .slice B2 xs2.length d2])
   have HR5 := Lib.hid (HR4.out.pure hmA)
   have HM5 := Lib.hid (HM4.out.transp hmA)
   have HQA := Lib.hid hmA
   clear hmA
   go_upto_region 9 with (fail)
   generalize (w4.alloc (.cells #[.int .i64 k2, .slice A2 ws2.length c2, .int .i64 n2, .slice B2 xs2.length d2] 44)) = w5 at *
   obtain ⟨b5, hb5⟩ : ∃ b5, w4.heap.size = b5 := ⟨_, rfl⟩
   rw [hb5] at HB6
   try simp only [hb5]
   have hb5l : w4.heap.size ≤ b5 := by omega
   clear hb5
   cases bt
   ·have HI : Hid (r = .inl l2) := Lib.hid (by rw [HP.out, H0.out rfl]; rfl)
    have h5 := HB5.out
    have h6 := HB6.out
    have x0 := h5.cell 0; have xf0 := h5.frozen 0; have x1 := h5.cell 1; have xf1 := h5.frozen 1; have x2 := h5.cell 2; have xf2 := h5.frozen 2; have x3 := h5.cell 3; have xf3 := h5.frozen 3; simp at x0 x1 x2 x3
    have y0 := h6.cell 0; have y1 := h6.cell 1; have y2 := h6.cell 2; have y3 := h6.cell 3; simp at y0 y1 y2 y3
    clear h5 h6 H0 H1
    go_wp2_with fail
    have h4F := st4_blk HB5.out (a := .int .i64 k2) (b := .slice A2 ws2.length c2) (c := .int .i64 n2) (d := .slice B2 xs2.length d2)
    have z0 := h4F.cell 0; have z1 := h4F.cell 1; have z2 := h4F.cell 2; have z3 := h4F.cell 3; simp at z0 z1 z2 z3
    try simp only [Exit.inBlock, Exit.then]
    refine bodyPost_ret (v := .tuple #[.agg #[.int .i64 k2, .slice A2 ws2.length c2, .int .i64 n2, .slice B2 xs2.length d2], .bool false]) (by simp [results, Tryz.results188, go_sem, z0, z1, z2, z3]) rfl ?_
    exact pr_ret HM5.out HR5.out HB5.out (by omega) (by omega) (fun _ => HI.out) (fun h => by cases h)
   ·obtain ⟨hq1, hq2, hq3⟩ := H1.out rfl
    have HQ1 := Lib.hid hq1
    have HQ2 := Lib.hid (hq2.pure HQA.out)
    have HQ3 := Lib.hid hq3
    clear hq1 hq2 hq3 H0 H1
    obtain ⟨p5, qr5, t5, l5, rfl, hB7, hp5, hQ5, hk5, ha5, _, _⟩ := HR5.out
    obtain ⟨k5, A5, c5, ws5, n5, B5, d5, xs5⟩ := qr5
    have hBr := hB7
    unfold rdC at hBr
    simp [qC] at hBr
    have u0 := hBr.cell 0; have u1 := hBr.cell 1; have u2 := hBr.cell 2; have u3 := hBr.cell 3; have u4 := hBr.cell 4; have u5 := hBr.cell 5; have u6 := hBr.cell 6; have u7 := hBr.cell 7; simp at u0 u1 u2 u3 u4 u5 u6 u7
    have h5 := HB5.out
    have h6 := HB6.out
    have x0 := h5.cell 0; have xf0 := h5.frozen 0; have x1 := h5.cell 1; have xf1 := h5.frozen 1; have x2 := h5.cell 2; have xf2 := h5.frozen 2; have x3 := h5.cell 3; have xf3 := h5.frozen 3; simp at x0 x1 x2 x3
    have y0 := h6.cell 0; have y1 := h6.cell 1; have y2 := h6.cell 2; have y3 := h6.cell 3; simp at y0 y1 y2 y3
    clear hBr hQ5 hk5 ha5 h5 h6 hB7
    by_cases hk2 : t5.kind = 2
    ·have HI : Hid (r = .inr ((QR.mk k2 A2 c2 ws2 n2 B2 d2 xs2).key, l5)) := Lib.hid (by
      rw [HP.out, HQ1.out]
      show (if t5.kind = 2 then (Sum.inr (_, l5) : PR) else Sum.inl (t5 :: l5)) = _
      exact if_pos hk2)
     have HNY := Lib.hid (HN.out w5 (t5 :: l5) (HW.out.trans HM5.out) HR5.out (show t5.kind ≠ 0 by omega) (show t5.kind ≠ 8 by omega))
     clear HQ1
     rw [hk2] at u2
     clear hk2
     go_wp2_with fail
     refine HNY.out.mono ?_
     rintro e w6 ⟨rfl, hR6, hm6⟩
     obtain ⟨cs, hcs⟩ := HR5.out.blk
     have HQ6 := Lib.hid (HQ2.out.rd hcs hm6)
     have HB7 := Lib.hid (HB5.out.modb hm6 (by omega))
     have h8 := HB6.out.modb hm6 (by omega)
     have HR6 := Lib.hid hR6
     have HM6 := Lib.hid (HM5.out.trans hm6)
     have h7 := HB7.out
     clear x0 x1 x2 x3 xf0 xf1 xf2 xf3 y0 y1 y2 y3 u0 u1 u2 u3 u4 u5 u6 u7
     have x0 := h7.cell 0; have xf0 := h7.frozen 0; have x1 := h7.cell 1; have xf1 := h7.frozen 1; have x2 := h7.cell 2; have xf2 := h7.frozen 2; have x3 := h7.cell 3; have xf3 := h7.frozen 3; simp at x0 x1 x2 x3
     have y0 := h8.cell 0; have y1 := h8.cell 1; have y2 := h8.cell 2; have y3 := h8.cell 3; simp at y0 y1 y2 y3
     clear h7 h8 hR6 hm6 hcs HNY
     go_wp2_with fail
     have h4F := st4_blk HB7.out (a := .int .i64 k2) (b := .slice A2 ws2.length c2) (c := .int .i64 n2) (d := .slice B2 xs2.length d2)
     have z0 := h4F.cell 0; have z1 := h4F.cell 1; have z2 := h4F.cell 2; have z3 := h4F.cell 3; simp at z0 z1 z2 z3
     try simp only [Exit.inBlock, Exit.then]
     refine bodyPost_ret (v := .tuple #[.agg #[.int .i64 k2, .slice A2 ws2.length c2, .int .i64 n2, .slice B2 xs2.length d2], .bool true]) (by simp [results, Tryz.results188, go_sem, z0, z1, z2, z3]) rfl ?_
     exact pr_ret HM6.out HR6.out HB7.out (by omega) (by omega) (fun h => by cases h) (fun _ => ⟨HI.out, HQ6.out, QN.old HQ3.out (fun k hk => by omega), by have h := HQ3.out; exact h.up (by omega)⟩)
    ·have HI : Hid (r = .inl (t5 :: l5)) := Lib.hid (by
      rw [HP.out, HQ1.out]
      show (if t5.kind = 2 then (Sum.inr (_, l5) : PR) else Sum.inl (t5 :: l5)) = _
      exact if_neg hk2)
     have hk2i : (t5.kind == 2) = false := by rw [← Bool.not_eq_true, beq_iff_eq]; exact hk2
     clear hk2
     go_wp2_with fail
     have h4F := st4_blk HB5.out (a := .int .i64 k2) (b := .slice A2 ws2.length c2) (c := .int .i64 n2) (d := .slice B2 xs2.length d2)
     have z0 := h4F.cell 0; have z1 := h4F.cell 1; have z2 := h4F.cell 2; have z3 := h4F.cell 3; simp at z0 z1 z2 z3
     try simp only [Exit.inBlock, Exit.then]
     refine bodyPost_ret (v := .tuple #[.agg #[.int .i64 k2, .slice A2 ws2.length c2, .int .i64 n2, .slice B2 xs2.length d2], .bool false]) (by simp [results, Tryz.results188, go_sem, z0, z1, z2, z3]) rfl ?_
     exact pr_ret HM5.out HR5.out HB5.out (by omega) (by omega) (fun _ => HI.out) (fun h => by cases h)
  ·have HI : Hid (r = .inl (⟨kd, pos, q⟩ :: l)) := Lib.hid (HPP2.out.trans (if_neg h1))
   have h1i : (kd == 1) = false := by rw [← Bool.not_eq_true, beq_iff_eq]; exact h1
   subst hb2e
   have h5 := HB2.out
   have z0 := h5.cell 0; have z1 := h5.cell 1; have z2 := h5.cell 2; have z3 := h5.cell 3; simp at z0 z1 z2 z3
   clear h5 h1 h3 HPP HPP2 hm2
   go_wp2_with fail
   try simp only [Exit.inBlock, Exit.then]
   refine bodyPost_ret (v := .tuple #[.agg #[.int .i64 0, .slice none 0 0, .int .i64 0, .slice none 0 0], .bool false]) (by simp [results, Tryz.results188, go_sem, z0, z1, z2, z3]) rfl ?_
   exact ⟨.mk 0 none 0 [] 0 none 0 [], false, _, rfl, HR2.out, HM2.out, fun _ => HI.out, fun h => by cases h⟩
end Go.Proofs.YtanblgcgbncbpaaGreatDoor

/- Searches that are near to each other: (*reader).near. -/
namespace Go.Proofs.YtanblgcgbncbpaaGreatDoor
set_option linter.unusedVariables false
set_option linter.unusedSimpArgs false
open Go.RowKit
theorem box_str {X : World} {b : Nat} {cs : Array Value} (hB : Blk X b 44 cs) : ∀ k' arr fr, X.heap[k']? = some (.cells arr 9 fr) → ¬ k' = b := by
 intro k' arr fr hk e
 subst e
 unfold Blk at hB
 rw [hB] at hk
 injection hk with hk
 injection hk with _ hk
 exact absurd hk (by decide)
theorem QN.mono {S T : Nat → Prop} {q : QR} (h : QN T q) (hST : ∀ k, S k → T k) : QN S q := by
 induction h with
 | mk hb hs ih => exact .mk (fun hx g off he hg => hb hx g off he (hST _ hg)) ih
/-- Searches in a box: as they were, where another box is written. -/
theorem QS.box {X X' : World} {b : Nat} {cs : Array Value} {q : QR} (h : QS X q) (hB : Blk X b 44 cs) (hn : QN (· = b) q) (hm : Mod (· = b) X X') : QS X' q := h.modN hn hm (box_str hB)
theorem RdrS.box {X X' : World} {g b : Nat} {s : Str} {L : List Tk} {cs : Array Value} (h : RdrS X g s L) (hB : Blk X b 44 cs) (hm : Mod (· = b) X X') (hg : g ≠ b) : RdrS X' g s L := h.mod hm hg (box_str hB)
def PtC (w0 : World) (g : Nat) (s : Str) (f : Nat) : Prop := ∀ W L, Mod (· = g) w0 W → RdrS W g s L → L.length ≤ f → Calls Tryz.prog 188 #[.pointer (some ⟨g, 0, none⟩)] W (PrP W g s (pPart (pOr f) L))
/-- What the loop over the words between keeps. -/
def NearR (w : World) (g : Nat) (s : Str) (f b2 b4 : Nat) (r : PR) (gk : Nat) (t : Value) (wr : World) : Prop :=
 ∃ (qr : QR) (bt : Bool) (l : List Tk), (if bt = true then l.length + 1 else 0) = gk ∧ t = .bool bt ∧ RdrS wr g s l ∧ Blk wr b2 44 #[.int .i64 0, .slice none 0 0, .int .i64 0, .slice none 0 0] ∧ Blk wr b4 44 (qC qr).toArray ∧ Mod (· = g) w wr ∧ (bt = false → r = .inl l) ∧
  (bt = true → ∃ f', l.length + 1 ≤ f' ∧ f' ≤ f ∧ pNearL (pOr f) f' qr.key l = r ∧ QS wr qr ∧ QN (· = b2) qr ∧ QN (· = b4) qr ∧ QFr w.heap.size qr)
theorem near_start {f : Nat} {L l : List Tk} {q : Qry} (h : pPart (pOr f) L = .inr (q, l)) : pNear (pOr f) f L = pNearL (pOr f) f q l := by unfold pNear; rw [h]
theorem near_fail {f : Nat} {L l : List Tk} (h : pPart (pOr f) L = .inl l) : pNear (pOr f) f L = .inl l := by unfold pNear; rw [h]
set_option maxRecDepth 100000 in
set_option maxHeartbeats 8000000 in
theorem near_calls (w0 : World) (g : Nat) (s : Str) (f : Nat) (hN : NxC w0 g s) (hP : PtC w0 g s f) (w : World) (L : List Tk) (hW : Mod (· = g) w0 w) (hR : RdrS w g s L) (hL : L.length ≤ f) : Calls Tryz.prog 159 #[.pointer (some ⟨g, 0, none⟩)] w (PrP w g s (pNear (pOr f) f L)) := by
 have HN := Lib.hid hN
 have HP := Lib.hid hP
 have HW := Lib.hid hW
 have hg0 := hR.lt
 have hmz : Pure w (w.alloc (.cells #[.int .i64 0, .slice none 0 0, .int .i64 0, .slice none 0 0] 44)) := (Mod.refl _ _).alloc _
 have HB2 := Lib.hid (Blk.new w 44 #[.int .i64 0, .slice none 0 0, .int .i64 0, .slice none 0 0])
 have HM2 : Hid (Mod (· = g) w (w.alloc (.cells #[.int .i64 0, .slice none 0 0, .int .i64 0, .slice none 0 0] 44))) := Lib.hid (Mod.of_pure hmz)
 have HPX := Lib.hid (hP (w.alloc (.cells #[.int .i64 0, .slice none 0 0, .int .i64 0, .slice none 0 0] 44)) L (hW.trans HM2.out) (hR.pure hmz) hL)
 have HLE := Lib.hid (pPart_len (pOr_len f))
 have HS1 : Hid (∀ q l, pPart (pOr f) L = .inr (q, l) → pNear (pOr f) f L = pNearL (pOr f) f q l) := Lib.hid (fun q l h => near_start h)
 have HS2 : Hid (∀ l, pPart (pOr f) L = .inl l → pNear (pOr f) f L = .inl l) := Lib.hid (fun l h => near_fail h)
 clear hN hP hW hmz hR
 generalize pNear (pOr f) f L = r at *
 obtain ⟨b2, hb2e⟩ : ∃ b2, w.heap.size = b2 := ⟨_, rfl⟩
 have hb2l : w.heap.size ≤ b2 := by omega
 go_enter Tryz.func159, Tryz.ntmps159
 go_wp2_with fail
 generalize (w.alloc (.cells #[.int .i64 0, .slice none 0 0, .int .i64 0, .slice none 0 0] 44)) = w2 at *
 rw [hb2e] at HB2
 try simp only [hb2e]
 clear hb2e
 refine HPX.out.mono ?_
 rintro e w3 ⟨qr2, bt, l2, rfl, hR3, hm3, h0, h1⟩
 obtain ⟨k2, A2, c2, ws2, n2, B2, d2, xs2⟩ := qr2
 simp only [qA_mk]
 have H0 := Lib.hid h0
 have H1 := Lib.hid h1
 have HB3 := Lib.hid (HB2.out.modb hm3 (by omega))
 have HM3 := Lib.hid (HM2.out.trans hm3)
 have HR3 := Lib.hid hR3
 have hsz3 := HM2.out.size
 have hsz4 := hm3.size
 have hb2lt := HB2.out.lt
 clear h0 h1 hm3 hR3 HB2 HM2 HPX
 have hmA : Pure w3 (w3.alloc (.cells #[.int .i64 k2, .slice A2 ws2.length c2, .int .i64 n2, .slice B2 xs2.length d2] 44)) := (Mod.refl _ _).alloc _
 have HB5 := Lib.hid (HB3.out.alloc (.cells #[.int .i64 k2, .slice A2 ws2.length c2, .int .i64 n2, .slice B2 xs2.length d2] 44))
 have HB6 := Lib.hid (Blk.new w3 44 #[.int .i64 k2, .slice A2 ws2.length c2, .int .i64 n2, .slice B2 xs2.length d2])
 have HR5 := Lib.hid (HR3.out.pure hmA)
 have HM5 := Lib.hid (HM3.out.transp hmA)
 have HQA := Lib.hid hmA
 clear hmA
 go_wp2_with fail
 generalize (w3.alloc (.cells #[.int .i64 k2, .slice A2 ws2.length c2, .int .i64 n2, .slice B2 xs2.length d2] 44)) = w5 at *
 obtain ⟨b4, hb4⟩ : ∃ b4, w3.heap.size = b4 := ⟨_, rfl⟩
 rw [hb4] at HB6
 try simp only [hb4]
 have hb4l : w3.heap.size ≤ b4 := by omega
 have hb4u : b4 ≤ w3.heap.size := by omega
 clear hb4
 go_loopg [5] (if bt = true then l2.length + 1 else 0) (fun gk t wr => NearR w g s f b2 b4 r gk t wr)
 case atStart =>
  refine ⟨.mk k2 A2 c2 ws2 n2 B2 d2 xs2, bt, l2, rfl, rfl, HR5.out, HB5.out, HB6.out, HM5.out, fun h => HS2.out _ (H0.out h), fun h => ?_⟩
  obtain ⟨a1, a2, a3⟩ := H1.out h
  have a4 := HLE.out _ _ _ a1
  exact ⟨f, by omega, Nat.le_refl _, (HS1.out _ _ a1).symm, a2.pure HQA.out, QN.old a3 (fun k hk => by omega), QN.new a2 (fun k hk => by omega), a3.up (by omega)⟩
 case round =>
  clear HB3 HM3 HB5 HB6 HR3 HR5 HM5 HQA H0 H1 HS1 HS2
  obtain ⟨qr, bt2, l, rfl, rfl, hR, hB2, hB4, hM, h0, h1⟩ := hrel
  obtain ⟨k, A, c, ws, n, B, d, xs⟩ := qr
  have HR := Lib.hid hR
  have HB2 := Lib.hid hB2
  have HB4 := Lib.hid hB4
  have HM := Lib.hid hM
  have H0 := Lib.hid h0
  have H1 := Lib.hid h1
  have hszr := hM.size
  clear hR hB2 hB4 hM h0 h1
  have h2 := HB2.out
  have h4 := HB4.out
  simp only [qC] at h4
  have x0 := h2.cell 0; have xf0 := h2.frozen 0; have x1 := h2.cell 1; have xf1 := h2.frozen 1; have x2 := h2.cell 2; have xf2 := h2.frozen 2; have x3 := h2.cell 3; have xf3 := h2.frozen 3; simp at x0 x1 x2 x3
  have y0 := h4.cell 0; have yf0 := h4.frozen 0; have y1 := h4.cell 1; have yf1 := h4.frozen 1; have y2 := h4.cell 2; have yf2 := h4.frozen 2; have y3 := h4.cell 3; have yf3 := h4.frozen 3; simp at y0 y1 y2 y3
  clear h2 h4
  cases bt2
  ·have HI := Lib.hid (H0.out rfl)
   clear H0 H1
   go_wp2_with fail
   have h4F := st4_blk HB2.out (a := .int .i64 k) (b := .slice A ws.length c) (c := .int .i64 n) (d := .slice B xs.length d)
   have z0 := h4F.cell 0; have z1 := h4F.cell 1; have z2 := h4F.cell 2; have z3 := h4F.cell 3; simp at z0 z1 z2 z3
   try simp only [Exit.inBlock, Exit.then]
   refine bodyPost_ret (v := .tuple #[.agg #[.int .i64 k, .slice A ws.length c, .int .i64 n, .slice B xs.length d], .bool false]) (by simp [results, Tryz.results159, go_sem, z0, z1, z2, z3]) rfl ?_
   exact pr_ret HM.out HR.out HB2.out (by omega) (by omega) (fun _ => HI.out) (fun h => by cases h)
  ·obtain ⟨f2, hf2, hff, hpn, hQ, hQ2, hQ4, hQF⟩ := H1.out rfl
   have HPN := Lib.hid hpn
   have HQ := Lib.hid hQ
   have HQ2 := Lib.hid hQ2
   have HQ4 := Lib.hid hQ4
   have HQF := Lib.hid hQF
   clear hpn hQ hQ2 hQ4 hQF H0 H1
   obtain ⟨p5, qr5, t5, l5, rfl, hB5, hp5, hQ5, hk5, ha5, h75, _⟩ := HR.out
   obtain ⟨k5, A5, c5, ws5, n5, B5, d5, xs5⟩ := qr5
   have hBr := hB5
   unfold rdC at hBr
   simp [qC] at hBr
   have u0 := hBr.cell 0; have u1 := hBr.cell 1; have u2 := hBr.cell 2; have u3 := hBr.cell 3; have u4 := hBr.cell 4; have u5 := hBr.cell 5; have u6 := hBr.cell 6; have u7 := hBr.cell 7; simp at u0 u1 u2 u3 u4 u5 u6 u7
   have HQ5 := Lib.hid hQ5
   have HK5 := Lib.hid hk5
   have HA5 := Lib.hid ha5
   have H75 := Lib.hid h75
   clear hBr hQ5 hk5 ha5 h75 hB5
   cases f2 with
   | zero => exact absurd hf2 (by simp)
   | succ f2 =>
    by_cases hk7 : t5.kind = 7
    ·have HPQ : Hid ((match pPart (pOr f) l5 with | .inl l => .inl l | .inr (b, l) => pNearL (pOr f) f2 (.mk t5.q.kind [] t5.q.num [(QR.mk k A c ws n B d xs).key, b]) l) = r) := Lib.hid (by
      have h := HPN.out
      unfold pNearL at h
      rw [if_pos (show kdL (t5 :: l5) = 7 from hk7)] at h
      exact h)
     have HWE := Lib.hid (H75.out hk7)
     rw [hk7] at u2
     have hgw := HR.out.lt
     have hb4r := HB4.out.lt
     have hb2r := HB2.out.lt
     have hmA : Pure wr (wr.alloc (.cells #[.int .i64 k5, .slice A5 ws5.length c5, .int .i64 n5, .slice B5 xs5.length d5] 44)) := (Mod.refl _ _).alloc _
     have HBA2 := Lib.hid (HB2.out.alloc (.cells #[.int .i64 k5, .slice A5 ws5.length c5, .int .i64 n5, .slice B5 xs5.length d5] 44))
     have HBA4 := Lib.hid (HB4.out.alloc (.cells #[.int .i64 k5, .slice A5 ws5.length c5, .int .i64 n5, .slice B5 xs5.length d5] 44))
     have HBA6 := Lib.hid (Blk.new wr 44 #[.int .i64 k5, .slice A5 ws5.length c5, .int .i64 n5, .slice B5 xs5.length d5])
     have HRA := Lib.hid (HR.out.pure hmA)
     have HMA := Lib.hid (HM.out.transp hmA)
     have HQA := Lib.hid (HQ.out.pure hmA)
     have HQA5 := Lib.hid (HQ5.out.pure hmA)
     have HQ6n : Hid (QN (· = wr.heap.size) (QR.mk k A c ws n B d xs)) := Lib.hid (QN.new HQ.out (fun k hk => by omega))
     have hk0 : kdL (t5 :: l5) ≠ 0 := (show t5.kind ≠ 0 by omega)
     have hk8 : kdL (t5 :: l5) ≠ 8 := (show t5.kind ≠ 8 by omega)
     have HK0 := Lib.hid hk0
     have HK8 := Lib.hid hk8
     clear hmA hk7 HPN H75 hk0 hk8
     go_upto_region 4 with (fail)
     generalize (wr.alloc (.cells #[.int .i64 k5, .slice A5 ws5.length c5, .int .i64 n5, .slice B5 xs5.length d5] 44)) = w3 at *
     obtain ⟨b6, hb6⟩ : ∃ b6, wr.heap.size = b6 := ⟨_, rfl⟩
     rw [hb6] at HBA6 HQ6n
     try simp only [hb6]
     have hb6l : wr.heap.size ≤ b6 := by omega
     clear hb6 x0 x1 x2 x3 xf0 xf1 xf2 xf3 y0 y1 y2 y3 yf0 yf1 yf2 yf3 u0 u1 u2 u3 u4 u5 u6 u7
     have HNX := Lib.hid (HN.out w3 (t5 :: l5) (HW.out.trans HMA.out) HRA.out HK0.out HK8.out)
     go_wp2_with fail
     refine HNX.out.mono ?_
     rintro e w4 ⟨rfl, hR4, hm4⟩
     obtain ⟨cs, hcs⟩ := HRA.out.blk
     have hb6r := HBA6.out.lt
     have hsz4 := hm4.size
     have hZ : Pure w4 (w4.alloc (.cells #[.int .i64 0, .slice none 0 0, .int .i64 0, .slice none 0 0] 44)) := (Mod.refl _ _).alloc _
     have HQB := Lib.hid ((HQA.out.rd hcs hm4).pure hZ)
     have HQB5 := Lib.hid ((HQA5.out.rd hcs hm4).pure hZ)
     have HBB2 := Lib.hid ((HBA2.out.modb hm4 (by omega)).alloc (.cells #[.int .i64 0, .slice none 0 0, .int .i64 0, .slice none 0 0] 44))
     have HBB4 := Lib.hid ((HBA4.out.modb hm4 (by omega)).alloc (.cells #[.int .i64 0, .slice none 0 0, .int .i64 0, .slice none 0 0] 44))
     have HBB6 := Lib.hid ((HBA6.out.modb hm4 (by omega)).alloc (.cells #[.int .i64 0, .slice none 0 0, .int .i64 0, .slice none 0 0] 44))
     have HBB7 := Lib.hid (Blk.new w4 44 #[.int .i64 0, .slice none 0 0, .int .i64 0, .slice none 0 0])
     have HRB := Lib.hid (RdrS.pure hR4 hZ)
     have HMB := Lib.hid ((HMA.out.trans hm4).transp hZ)
     have HQ7n : Hid (QN (· = w4.heap.size) (QR.mk k A c ws n B d xs)) := Lib.hid (QN.new (HQA.out.rd hcs hm4) (fun k hk => by omega))
     clear hcs hm4 hR4 hZ HNX HQA HQA5 HBA2 HBA4 HBA6 HRA HMA
     go_upto_region 6 with (fail)
     generalize (w4.alloc (.cells #[.int .i64 0, .slice none 0 0, .int .i64 0, .slice none 0 0] 44)) = w5 at *
     obtain ⟨b7, hb7⟩ : ∃ b7, w4.heap.size = b7 := ⟨_, rfl⟩
     rw [hb7] at HBB7 HQ7n
     try simp only [hb7]
     have hb7l : w4.heap.size ≤ b7 := by omega
     clear hb7
     have hb7r := HBB7.out.lt
     have hgB := HRB.out.lt
     have HPX := Lib.hid (HP.out w5 l5 (HW.out.trans HMB.out) HRB.out (by simp at hf2; omega))
     go_wp2_with fail
     refine HPX.out.mono ?_
     rintro e w6 ⟨qr6, bt, l6, rfl, hR6, hm6, h0, h1⟩
     obtain ⟨k6, A6, c6, ws6, n6, B6, d6, xs6⟩ := qr6
     simp only [qA_mk]
     obtain ⟨cs, hcs⟩ := HRB.out.blk
     have H0 := Lib.hid h0
     have H1 := Lib.hid h1
     have HQC := Lib.hid (HQB.out.rd hcs hm6)
     have HQC5 := Lib.hid (HQB5.out.rd hcs hm6)
     have hC2 := HBB2.out.modb hm6 (by omega)
     have hC4 := HBB4.out.modb hm6 (by omega)
     have hC6 := HBB6.out.modb hm6 (by omega)
     have hC7 := HBB7.out.modb hm6 (by omega)
     have HMC := Lib.hid (HMB.out.trans hm6)
     have hst : Mod (· = b7) w6 ((((w6.setCell ⟨b7, 0, none⟩ (.int .i64 k6)).setCell ⟨b7, 1, none⟩ (.slice A6 ws6.length c6)).setCell ⟨b7, 2, none⟩ (.int .i64 n6)).setCell ⟨b7, 3, none⟩ (.slice B6 xs6.length d6)) := st4_mod
     have HD2 := Lib.hid (hC2.mod hst (by omega))
     have HD4 := Lib.hid (hC4.mod hst (by omega))
     have HD6 := Lib.hid (hC6.mod hst (by omega))
     have HD7 := Lib.hid (st4_blk (a := .int .i64 k6) (b := .slice A6 ws6.length c6) (c := .int .i64 n6) (d := .slice B6 xs6.length d6) hC7)
     have HRD := Lib.hid (RdrS.box hR6 hC7 hst (by omega))
     have HMD : Hid (Mod (· = g) w ((((w6.setCell ⟨b7, 0, none⟩ (.int .i64 k6)).setCell ⟨b7, 1, none⟩ (.slice A6 ws6.length c6)).setCell ⟨b7, 2, none⟩ (.int .i64 n6)).setCell ⟨b7, 3, none⟩ (.slice B6 xs6.length d6))) := Lib.hid (HMC.out.trans' hst (fun i hi hlt => by omega))
     have HQD := Lib.hid (HQC.out.box hC7 HQ7n.out hst)
     have HQD5 := Lib.hid (HQC5.out.box hC7 (QN.leaf (by rw [HK5.out]; exact HA5.out)) hst)
     have HQD6 : Hid (bt = true → QS ((((w6.setCell ⟨b7, 0, none⟩ (.int .i64 k6)).setCell ⟨b7, 1, none⟩ (.slice A6 ws6.length c6)).setCell ⟨b7, 2, none⟩ (.int .i64 n6)).setCell ⟨b7, 3, none⟩ (.slice B6 xs6.length d6)) (.mk k6 A6 c6 ws6 n6 B6 d6 xs6)) := Lib.hid (fun h => by
      obtain ⟨a1, a2, a3⟩ := h1 h
      exact a2.box hC7 (QN.old a3 (fun k hk => by omega)) hst)
     have HSTW := Lib.hid hst
     have hsz6 := hm6.size
     have hs76 := hst.size
     have z0 := hC7.cell 0; have zf0 := hC7.frozen 0; have z1 := hC7.cell 1; have zf1 := hC7.frozen 1; have z2 := hC7.cell 2; have zf2 := hC7.frozen 2; have z3 := hC7.cell 3; have zf3 := hC7.frozen 3; simp at z0 z1 z2 z3
     clear hcs hm6 hR6 h0 h1 hst hC2 hC4 hC6 hC7 HQB HQB5 HBB2 HBB4 HBB6 HBB7 HRB HMB HPX HQ7n HQC HQC5
     go_upto_region 7 with (fail)
     generalize ((((w6.setCell ⟨b7, 0, none⟩ (.int .i64 k6)).setCell ⟨b7, 1, none⟩ (.slice A6 ws6.length c6)).setCell ⟨b7, 2, none⟩ (.int .i64 n6)).setCell ⟨b7, 3, none⟩ (.slice B6 xs6.length d6)) = w7 at *
     clear z0 z1 z2 z3 zf0 zf1 zf2 zf3
     have h4 := HD4.out
     have h6 := HD6.out
     have h7 := HD7.out
     simp only [qC] at h4
     have y0 := h4.cell 0; have y1 := h4.cell 1; have y2 := h4.cell 2; have y3 := h4.cell 3; simp at y0 y1 y2 y3
     have u0 := h6.cell 0; have uf0 := h6.frozen 0; have u1 := h6.cell 1; have uf1 := h6.frozen 1; have u2 := h6.cell 2; have uf2 := h6.frozen 2; have u3 := h6.cell 3; have uf3 := h6.frozen 3; simp at u0 u1 u2 u3
     have v0 := h7.cell 0; have v1 := h7.cell 1; have v2 := h7.cell 2; have v3 := h7.cell 3; simp at v0 v1 v2 v3
     clear h4 h6 h7
     have xa := fun o => (HD6.out.alloc o).cell 3
     have xb := fun o => (HD6.out.alloc o).frozen 3
     simp at xa
     have hg7 := HRD.out.lt
     have h6r := HD6.out.lt
     have h4r := HD4.out.lt
     have h2r := HD2.out.lt
     have hst : Mod (· = b6) w7 (w7.setCell ⟨b6, 3, none⟩ (.slice (some ⟨w7.heap.size, 0, none⟩) 2 2)) := mod_set (Mod.refl _ _) 3 _
     have hA : Pure (w7.setCell ⟨b6, 3, none⟩ (.slice (some ⟨w7.heap.size, 0, none⟩) 2 2)) ((w7.setCell ⟨b6, 3, none⟩ (.slice (some ⟨w7.heap.size, 0, none⟩) 2 2)).alloc (.cells #[.int .i64 k, .slice A ws.length c, .int .i64 n, .slice B xs.length d, .int .i64 k6, .slice A6 ws6.length c6, .int .i64 n6, .slice B6 xs6.length d6] 44)) := (Mod.refl _ _).alloc _
     have hQ6 : QN (· = b6) (QR.mk k A c ws n B d xs) := HQ6n.out
     have HE2 := Lib.hid ((HD2.out.mod hst (by omega)).modp hA)
     have HE4 := Lib.hid ((HD4.out.mod hst (by omega)).modp hA)
     have HE6 := Lib.hid ((HD6.out.set 3 (.slice (some ⟨w7.heap.size, 0, none⟩) 2 2)).modp hA)
     have HES : Hid (Blk ((w7.setCell ⟨b6, 3, none⟩ (.slice (some ⟨w7.heap.size, 0, none⟩) 2 2)).alloc (.cells #[.int .i64 k, .slice A ws.length c, .int .i64 n, .slice B xs.length d, .int .i64 k6, .slice A6 ws6.length c6, .int .i64 n6, .slice B6 xs6.length d6] 44)) w7.heap.size 44 #[.int .i64 k, .slice A ws.length c, .int .i64 n, .slice B xs.length d, .int .i64 k6, .slice A6 ws6.length c6, .int .i64 n6, .slice B6 xs6.length d6]) := Lib.hid (Blk.new' (by simp))
     have HRE := Lib.hid ((HRD.out.box HD6.out hst (by omega)).pure hA)
     have HME : Hid (Mod (· = g) w ((w7.setCell ⟨b6, 3, none⟩ (.slice (some ⟨w7.heap.size, 0, none⟩) 2 2)).alloc (.cells #[.int .i64 k, .slice A ws.length c, .int .i64 n, .slice B xs.length d, .int .i64 k6, .slice A6 ws6.length c6, .int .i64 n6, .slice B6 xs6.length d6] 44))) := Lib.hid ((HMD.out.trans' hst (fun i hi hlt => by omega)).transp hA)
     have HQE := Lib.hid ((HQD.out.box HD6.out hQ6 hst).pure hA)
     have HQE5 := Lib.hid ((HQD5.out.box HD6.out (QN.leaf (by rw [HK5.out]; exact HA5.out)) hst).pure hA)
     have HQE6 : Hid (bt = true → QS ((w7.setCell ⟨b6, 3, none⟩ (.slice (some ⟨w7.heap.size, 0, none⟩) 2 2)).alloc (.cells #[.int .i64 k, .slice A ws.length c, .int .i64 n, .slice B xs.length d, .int .i64 k6, .slice A6 ws6.length c6, .int .i64 n6, .slice B6 xs6.length d6] 44)) (.mk k6 A6 c6 ws6 n6 B6 d6 xs6)) := Lib.hid (fun h => by
      obtain ⟨a1, a2, a3⟩ := H1.out h
      exact ((HQD6.out h).box HD6.out (QN.old a3 (fun k hk => by omega)) hst).pure hA)
     have hgS : w7.heap.size ≤ w7.heap.size := Nat.le_refl _
     clear hA hst hQ6 HD2 HD4 HD6 HD7 HRD HMD HQD HQD5 HQD6 HSTW
     go_upto_region 8 with (fail)
     obtain ⟨gS, hgSe⟩ : ∃ gS, w7.heap.size = gS := ⟨_, rfl⟩
     rw [hgSe] at HE2 HE4 HE6 HES HRE HME HQE HQE5 HQE6
     try simp only [hgSe]
     have hgSl : w7.heap.size ≤ gS := by omega
     clear hgSe hgS xa xb y0 y1 y2 y3 u0 u1 u2 u3 uf0 uf1 uf2 uf3 v0 v1 v2 v3
     generalize ((w7.setCell ⟨b6, 3, none⟩ (.slice (some ⟨gS, 0, none⟩) 2 2)).alloc (.cells #[.int .i64 k, .slice A ws.length c, .int .i64 n, .slice B xs.length d, .int .i64 k6, .slice A6 ws6.length c6, .int .i64 n6, .slice B6 xs6.length d6] 44)) = w8 at *
     have h4 := HE4.out
     have h6 := HE6.out
     simp at h6
     simp only [qC] at h4
     have y0 := h4.cell 0; have yf0 := h4.frozen 0; have y1 := h4.cell 1; have yf1 := h4.frozen 1; have y2 := h4.cell 2; have yf2 := h4.frozen 2; have y3 := h4.cell 3; have yf3 := h4.frozen 3; simp at y0 y1 y2 y3
     have u0 := h6.cell 0; have u1 := h6.cell 1; have u2 := h6.cell 2; have u3 := h6.cell 3; simp at u0 u1 u2 u3
     clear h4 h6
     go_wp2_with fail
     go_roundg (if bt = true then l6.length + 1 else 0)
     case measure =>
      show (if bt = true then l6.length + 1 else 0) < (t5 :: l5).length + 1
      cases bt
      ·exact Nat.succ_pos _
      ·have h := HLE.out _ _ _ (H1.out rfl).1
       simp
       omega
     case rel =>
      have hws : ws5 = [] := by
       have h := HWE.out
       rw [← HK5.out, QR.key_mk] at h
       exact h
      subst hws
      have hke : ∀ q6 : QR, (QR.mk k5 A5 c5 [] n5 (some ⟨gS, 0, none⟩) 2 [.mk k A c ws n B d xs, q6]).key = .mk t5.q.kind [] t5.q.num [(QR.mk k A c ws n B d xs).key, q6.key] := by
       intro q6
       rw [← HK5.out, QR.key_mk, QR.key_mk (ws := [])]
       rfl
      have hst : Mod (· = b4) w8 ((((w8.setCell ⟨b4, 0, none⟩ (.int .i64 k5)).setCell ⟨b4, 1, none⟩ (.slice A5 0 c5)).setCell ⟨b4, 2, none⟩ (.int .i64 n5)).setCell ⟨b4, 3, none⟩ (.slice (some ⟨gS, 0, none⟩) 2 2)) := st4_mod
      have hw8 := HE4.out.lt
      have hg8 := HRE.out.lt
      refine ⟨.mk k5 A5 c5 [] n5 (some ⟨gS, 0, none⟩) 2 [.mk k A c ws n B d xs, .mk k6 A6 c6 ws6 n6 B6 d6 xs6], bt, l6, rfl, rfl, HRE.out.box HE4.out hst (by omega), HE2.out.mod hst (by omega), ?_, HME.out.trans' hst (fun i hi hlt => by omega), fun h => ?_, fun h => ?_⟩
      ·have h4 := HE4.out
       simp only [qC] at h4
       exact st4_blk (a := .int .i64 k5) (b := .slice A5 0 c5) (c := .int .i64 n5) (d := .slice (some ⟨gS, 0, none⟩) 2 2) h4
      ·have h9 := HPQ.out
       rw [H0.out h] at h9
       exact h9.symm
      ·obtain ⟨a1, a2, a3⟩ := H1.out h
       have h9 := HPQ.out
       rw [a1] at h9
       have hl6 := HLE.out _ _ _ a1
       have hb4n : QN (· = b4) (QR.mk k6 A6 c6 ws6 n6 B6 d6 xs6) := QN.old a3 (fun k hk => by omega)
       have hb2n : QN (· = b2) (QR.mk k6 A6 c6 ws6 n6 B6 d6 xs6) := QN.old a3 (fun k hk => by omega)
       have hqr := HQE.out.box HE4.out HQ4.out hst
       have hqr6 := (HQE6.out h).box HE4.out hb4n hst
       refine ⟨f2, by simp at hf2; omega, by omega, ?_, .mk ?_ ?_ ?_, .mk ?_ ?_, .mk ?_ ?_, .mk ?_ ?_⟩
       ·rw [hke]; exact h9
       ·exact Sl.mod HQE5.out.wsH hst (box_str HE4.out)
       ·have hE := HES.out.mod hst (by omega)
        exact ⟨_, _, _, rfl, Nat.le_refl _, by omega, rfl, fun _ => ⟨gS, 0, rfl, hE.row fun i u hi => by simpa [qV, qC] using hi⟩⟩
       ·intro a ha
        simp at ha
        rcases ha with rfl | rfl
        ·exact hqr
        ·exact hqr6
       ·intro _ g9 off he hb
        injection he with he
        injection he with he
        omega
       ·intro a ha
        simp at ha
        rcases ha with rfl | rfl
        ·exact HQ2.out
        ·exact hb2n
       ·intro _ g9 off he hb
        injection he with he
        injection he with he
        omega
       ·intro a ha
        simp at ha
        rcases ha with rfl | rfl
        ·exact HQ4.out
        ·exact hb4n
       ·exact fun _ => ⟨gS, 0, rfl, by omega⟩
       ·intro a ha
        simp at ha
        rcases ha with rfl | rfl
        ·exact HQF.out
        ·exact a3.up (by omega)
    ·have HI : Hid (r = .inr ((QR.mk k A c ws n B d xs).key, t5 :: l5)) := Lib.hid (by
      have h := HPN.out
      unfold pNearL at h
      rw [if_neg (show ¬ kdL (t5 :: l5) = 7 from hk7)] at h
      exact h.symm)
     have hk7i : (t5.kind == 7) = false := by rw [← Bool.not_eq_true, beq_iff_eq]; exact hk7
     clear hk7 HPN
     go_wp2_with fail
     have h4F := st4_blk HB2.out (a := .int .i64 k) (b := .slice A ws.length c) (c := .int .i64 n) (d := .slice B xs.length d)
     have z0 := h4F.cell 0; have z1 := h4F.cell 1; have z2 := h4F.cell 2; have z3 := h4F.cell 3; simp at z0 z1 z2 z3
     try simp only [Exit.inBlock, Exit.then]
     refine bodyPost_ret (v := .tuple #[.agg #[.int .i64 k, .slice A ws.length c, .int .i64 n, .slice B xs.length d], .bool true]) (by simp [results, Tryz.results159, go_sem, z0, z1, z2, z3]) rfl ?_
     exact pr_ret HM.out HR.out HB2.out (by omega) (by omega) (fun h => by cases h) (fun _ => ⟨HI.out, HQ.out, HQ2.out, HQF.out⟩)
end Go.Proofs.YtanblgcgbncbpaaGreatDoor

/- Searches with the word not ahead of them: query.not, (*reader).not. -/
namespace Go.Proofs.YtanblgcgbncbpaaGreatDoor
set_option linter.unusedVariables false
set_option linter.unusedSimpArgs false
open Go.RowKit
def NotP (w : World) (qr : QR) (e : Ending) (w' : World) : Prop := ∃ gS : Nat, w.heap.size ≤ gS ∧ e = .returned (qA (.mk 8 none 0 [] 0 (some ⟨gS, 0, none⟩) 1 [qr])) ∧ QS w' (.mk 8 none 0 [] 0 (some ⟨gS, 0, none⟩) 1 [qr]) ∧ Pure w w'
theorem qs_one {w : World} {g : Nat} {k n : Int} {q1 : QR} (h : Blk w g 44 (qC q1).toArray) (h1 : QS w q1) : QS w (.mk k none 0 [] n (some ⟨g, 0, none⟩) 1 [q1]) := by
 refine .mk Sl.nil_ ⟨_, _, _, rfl, Nat.le_refl _, by omega, ?_, fun _ => ⟨g, 0, rfl, ?_⟩⟩ ?_
 ·simp [qV, qC_len]
 ·have e : qV [q1] = qC q1 := by simp [qV]
  rw [e]
  exact h.row0
 ·intro a ha
  rw [List.mem_singleton.1 ha]
  exact h1
set_option maxRecDepth 100000 in
set_option maxHeartbeats 4000000 in
theorem notQ_calls (w : World) (qr : QR) (hQ : QS w qr) : Calls Tryz.prog 160 #[qA qr] w (NotP w qr) := by
 obtain ⟨k, A, c, ws, n, B, d, xs⟩ := qr
 have HQ := Lib.hid hQ
 clear hQ
 rw [qA_mk]
 have hR2 := (Blk.snd w (.cells #[.int .i64 k, .slice A ws.length c, .int .i64 n, .slice B xs.length d] 44) 44 #[.int .i64 8, .slice none 0 0, .int .i64 0, .slice (some ⟨w.heap.size + 1 + 1, 0, none⟩) 1 1]).alloc (.cells #[.int .i64 k, .slice A ws.length c, .int .i64 n, .slice B xs.length d] 44)
 have hR3 := Blk.thd w (.cells #[.int .i64 k, .slice A ws.length c, .int .i64 n, .slice B xs.length d] 44) (.cells #[.int .i64 8, .slice none 0 0, .int .i64 0, .slice (some ⟨w.heap.size + 1 + 1, 0, none⟩) 1 1] 44) 44 #[.int .i64 k, .slice A ws.length c, .int .i64 n, .slice B xs.length d]
 have HR3 := Lib.hid hR3
 have hm : Pure w (((w.alloc (.cells #[.int .i64 k, .slice A ws.length c, .int .i64 n, .slice B xs.length d] 44)).alloc (.cells #[.int .i64 8, .slice none 0 0, .int .i64 0, .slice (some ⟨w.heap.size + 1 + 1, 0, none⟩) 1 1] 44)).alloc (.cells #[.int .i64 k, .slice A ws.length c, .int .i64 n, .slice B xs.length d] 44)) := (((Mod.refl _ _).alloc _).alloc _).alloc _
 have HM := Lib.hid hm
 clear hm hR3
 have z0 := hR2.cell 0; have z1 := hR2.cell 1; have z2 := hR2.cell 2; have z3 := hR2.cell 3; simp at z0 z1 z2 z3
 clear hR2
 go_enter Tryz.func160, Tryz.ntmps160
 go_wp2_with fail
 try simp only [Exit.inBlock, Exit.then]
 refine bodyPost_ret (v := .agg #[.int .i64 8, .slice none 0 0, .int .i64 0, .slice (some ⟨w.heap.size + 1 + 1, 0, none⟩) 1 1]) (by simp [results, Tryz.results160, go_sem, z0, z1, z2, z3]) rfl ?_
 exact ⟨w.heap.size + 1 + 1, by omega, rfl, qs_one HR3.out (HQ.out.pure HM.out), HM.out⟩
theorem notL_cons (t : Tk) (l : List Tk) : notL (t :: l) = if t.kind = 6 then notL l + 1 else 0 := by
 unfold notL
 rw [List.takeWhile_cons]
 by_cases h : t.kind = 6
 ·rw [if_pos h, if_pos (by simpa using h)]; simp
 ·rw [if_neg h, if_neg (by simpa using h)]; rfl
theorem notN_out : ∀ (m : Nat) (q : Qry), notN (m + 1) q = .mk 8 [] 0 [notN m q]
 | 0, _ => rfl
 | m + 1, q => by
  show notN (m + 1) (.mk 8 [] 0 [q]) = _
  rw [notN_out m]
  rfl
def NrC (w0 : World) (g : Nat) (s : Str) (f : Nat) : Prop := ∀ W L, Mod (· = g) w0 W → RdrS W g s L → L.length ≤ f → Calls Tryz.prog 159 #[.pointer (some ⟨g, 0, none⟩)] W (PrP W g s (pNear (pOr f) f L))
set_option maxRecDepth 100000 in
set_option maxHeartbeats 8000000 in
theorem not_calls (w0 : World) (g : Nat) (s : Str) (f : Nat) (hf : f ≤ 1000000) (hN : NxC w0 g s) (hP : NrC w0 g s f) (w : World) (L : List Tk) (hW : Mod (· = g) w0 w) (hR : RdrS w g s L) (hL : L.length ≤ f) : Calls Tryz.prog 121 #[.pointer (some ⟨g, 0, none⟩)] w (PrP w g s (pNot (pOr f) f L)) := by
 have HN := Lib.hid hN
 have HP := Lib.hid hP
 have HW := Lib.hid hW
 have hg0 := hR.lt
 have hmz : Pure w (w.alloc (.cells #[.int .i64 0, .slice none 0 0, .int .i64 0, .slice none 0 0] 44)) := (Mod.refl _ _).alloc _
 have HB2 := Lib.hid (Blk.new w 44 #[.int .i64 0, .slice none 0 0, .int .i64 0, .slice none 0 0])
 have HM2 : Hid (Mod (· = g) w (w.alloc (.cells #[.int .i64 0, .slice none 0 0, .int .i64 0, .slice none 0 0] 44))) := Lib.hid (Mod.of_pure hmz)
 have HR2 := Lib.hid (hR.pure hmz)
 clear hN hP hW hmz hR
 obtain ⟨b2, hb2e⟩ : ∃ b2, w.heap.size = b2 := ⟨_, rfl⟩
 have hb2l : w.heap.size ≤ b2 := by omega
 go_enter Tryz.func121, Tryz.ntmps121
 go_wp2_with fail
 generalize (w.alloc (.cells #[.int .i64 0, .slice none 0 0, .int .i64 0, .slice none 0 0] 44)) = w2 at *
 rw [hb2e] at HB2
 try simp only [hb2e]
 clear hb2e
 go_loopg [4] L.length (fun gk t wr => ∃ (m : Nat) (l : List Tk), l.length = gk ∧ t = .int .i64 (m : Int) ∧ L.drop m = l ∧ notL L = m + notL l ∧ m + l.length = L.length ∧ RdrS wr g s l ∧ Blk wr b2 44 #[.int .i64 0, .slice none 0 0, .int .i64 0, .slice none 0 0] ∧ Mod (· = g) w wr)
 case atStart => exact ⟨0, L, rfl, rfl, rfl, by omega, by omega, HR2.out, HB2.out, HM2.out⟩
 case round =>
  clear HR2 HB2 HM2
  obtain ⟨m, l, rfl, rfl, hdr, hnl, hml, hR, hB2, hM⟩ := hrel
  have HDR := Lib.hid hdr
  have HNL := Lib.hid hnl
  have HR := Lib.hid hR
  have HB2 := Lib.hid hB2
  have HM := Lib.hid hM
  have hb2r := hB2.lt
  have hgr := hR.lt
  clear hdr hnl hR hB2 hM
  obtain ⟨p5, qr5, t5, l5, rfl, hB5, hp5, hQ5, hk5, ha5, h75, _⟩ := HR.out
  obtain ⟨k5, A5, c5, ws5, n5, B5, d5, xs5⟩ := qr5
  have hBr := hB5
  unfold rdC at hBr
  simp [qC] at hBr
  have u0 := hBr.cell 0; have u1 := hBr.cell 1; have u2 := hBr.cell 2; have u3 := hBr.cell 3; have u4 := hBr.cell 4; have u5 := hBr.cell 5; have u6 := hBr.cell 6; have u7 := hBr.cell 7; simp at u0 u1 u2 u3 u4 u5 u6 u7
  clear hBr hQ5 hk5 ha5 h75 hB5
  by_cases hk6 : t5.kind = 6
  ·have hn2 : notL L = m + 1 + notL l5 := by rw [HNL.out, notL_cons, if_pos hk6]; omega
   have HN2 := Lib.hid hn2
   have HD2 : Hid (L.drop (m + 1) = l5) := Lib.hid (by rw [← List.drop_drop, HDR.out]; rfl)
   have HNX := Lib.hid (HN.out wr (t5 :: l5) (HW.out.trans HM.out) HR.out (show t5.kind ≠ 0 by omega) (show t5.kind ≠ 8 by omega))
   rw [hk6] at u2
   clear hk6 hn2 HNL
   go_wp2_with fail
   refine HNX.out.mono ?_
   rintro e w4 ⟨rfl, hR4, hm4⟩
   have HR4 := Lib.hid hR4
   have HM4 := Lib.hid (HM.out.trans hm4)
   have HB4 := Lib.hid (HB2.out.modb hm4 (by omega))
   clear hR4 hm4 HNX u0 u1 u2 u3 u4 u5 u6 u7
   simp only [List.length_cons] at hml
   go_wp2_with fail
   go_roundg l5.length
   case measure => show l5.length < l5.length + 1; omega
   case rel => exact ⟨m + 1, l5, rfl, by simp, HD2.out, HN2.out, by omega, HR4.out, HB4.out, HM4.out⟩
  ·have HPN : Hid (pNot (pOr f) f L = notP m (pNear (pOr f) f (t5 :: l5))) := Lib.hid (by
    have h := HNL.out
    rw [notL_cons, if_neg hk6] at h
    unfold pNot
    rw [h, Nat.add_zero, HDR.out])
   have hk6i : (t5.kind == 6) = false := by rw [← Bool.not_eq_true, beq_iff_eq]; exact hk6
   have HPX := Lib.hid (HP.out wr (t5 :: l5) (HW.out.trans HM.out) HR.out (by omega))
   clear hk6 HNL HDR
   generalize pNot (pOr f) f L = r at *
   generalize pNear (pOr f) f (t5 :: l5) = r0 at *
   generalize wr = w3 at *
   go_wp2_with fail
   refine HPX.out.mono ?_
   rintro e w4 ⟨qr2, bt, l2, rfl, hR4, hm4, h0, h1⟩
   obtain ⟨k2, A2, c2, ws2, n2, B2, d2, xs2⟩ := qr2
   simp only [qA_mk]
   have H0 := Lib.hid h0
   have H1 := Lib.hid h1
   have hsz3 := HM.out.size
   have hsz4 := hm4.size
   have hmA : Pure w4 (w4.alloc (.cells #[.int .i64 k2, .slice A2 ws2.length c2, .int .i64 n2, .slice B2 xs2.length d2] 44)) := (Mod.refl _ _).alloc _
   have HB5 := Lib.hid ((HB2.out.modb hm4 (by omega)).alloc (.cells #[.int .i64 k2, .slice A2 ws2.length c2, .int .i64 n2, .slice B2 xs2.length d2] 44))
   have HB6 := Lib.hid (Blk.new w4 44 #[.int .i64 k2, .slice A2 ws2.length c2, .int .i64 n2, .slice B2 xs2.length d2])
   have HR5 := Lib.hid (RdrS.pure hR4 hmA)
   have HM5 := Lib.hid ((HM.out.trans hm4).transp hmA)
   have HQA := Lib.hid hmA
   clear hmA h0 h1 hm4 hR4 HPX HB2 HM HR u0 u1 u2 u3 u4 u5 u6 u7
   go_upto_region 6 with (fail)
   generalize (w4.alloc (.cells #[.int .i64 k2, .slice A2 ws2.length c2, .int .i64 n2, .slice B2 xs2.length d2] 44)) = w5 at *
   obtain ⟨b5, hb5⟩ : ∃ b5, w4.heap.size = b5 := ⟨_, rfl⟩
   rw [hb5] at HB6
   try simp only [hb5]
   have hb5l : w4.heap.size ≤ b5 := by omega
   have hb5u : b5 ≤ w4.heap.size := by omega
   clear hb5
   have hb5r := HB6.out.lt
   have hb2r5 := HB5.out.lt
   cases bt
   ·have HI : Hid (r = .inl l2) := Lib.hid (by rw [HPN.out, H0.out rfl]; rfl)
    have h5 := HB5.out
    have h6 := HB6.out
    have x0 := h5.cell 0; have xf0 := h5.frozen 0; have x1 := h5.cell 1; have xf1 := h5.frozen 1; have x2 := h5.cell 2; have xf2 := h5.frozen 2; have x3 := h5.cell 3; have xf3 := h5.frozen 3; simp at x0 x1 x2 x3
    have y0 := h6.cell 0; have y1 := h6.cell 1; have y2 := h6.cell 2; have y3 := h6.cell 3; simp at y0 y1 y2 y3
    clear h5 h6 H0 H1 HPN
    go_wp2_with fail
    have h4F := st4_blk HB5.out (a := .int .i64 k2) (b := .slice A2 ws2.length c2) (c := .int .i64 n2) (d := .slice B2 xs2.length d2)
    have z0 := h4F.cell 0; have z1 := h4F.cell 1; have z2 := h4F.cell 2; have z3 := h4F.cell 3; simp at z0 z1 z2 z3
    try simp only [Exit.inBlock, Exit.then]
    refine bodyPost_ret (v := .tuple #[.agg #[.int .i64 k2, .slice A2 ws2.length c2, .int .i64 n2, .slice B2 xs2.length d2], .bool false]) (by simp [results, Tryz.results121, go_sem, z0, z1, z2, z3]) rfl ?_
    exact pr_ret HM5.out HR5.out HB5.out (by omega) (by omega) (fun _ => HI.out) (fun h => by cases h)
   ·obtain ⟨hq1, hq2, hq3⟩ := H1.out rfl
    have HQ1 : Hid (r = .inr (notN m (QR.mk k2 A2 c2 ws2 n2 B2 d2 xs2).key, l2)) := Lib.hid (by rw [HPN.out, hq1]; rfl)
    have HQ2 := Lib.hid (hq2.pure HQA.out)
    have HQ3 : Hid (QFr w.heap.size (QR.mk k2 A2 c2 ws2 n2 B2 d2 xs2)) := Lib.hid (hq3.up (by omega))
    have HQ4 : Hid (QN (· = b2) (QR.mk k2 A2 c2 ws2 n2 B2 d2 xs2)) := Lib.hid (QN.old hq3 (fun k hk => by omega))
    have HQ5 : Hid (QN (· = b5) (QR.mk k2 A2 c2 ws2 n2 B2 d2 xs2)) := Lib.hid (QN.new hq2 (fun k hk => by omega))
    have hmb : (m : Int) ≤ 1000000 := by omega
    clear hq1 hq2 hq3 H0 H1 HPN HQA
    go_wp2_with fail
    go_loopg [26] m (fun gk i wr => ∃ (j : Nat) (qr : QR), m - j = gk ∧ j ≤ m ∧ i = .int .i64 (j : Int) ∧ qr.key = notN j (QR.mk k2 A2 c2 ws2 n2 B2 d2 xs2).key ∧ QS wr qr ∧ QN (· = b2) qr ∧ QN (· = b5) qr ∧ QFr w.heap.size qr ∧ Blk wr b5 44 (qC qr).toArray ∧ Blk wr b2 44 #[.int .i64 0, .slice none 0 0, .int .i64 0, .slice none 0 0] ∧ RdrS wr g s l2 ∧ Mod (· = g) w wr)
    case atStart => exact ⟨0, .mk k2 A2 c2 ws2 n2 B2 d2 xs2, by omega, by omega, rfl, rfl, HQ2.out, HQ4.out, HQ5.out, HQ3.out, HB6.out, HB5.out, HR5.out, HM5.out⟩
    case round =>
     clear HQ2 HQ4 HQ5 HQ3 HB6 HB5 HR5 HM5
     obtain ⟨j, qr, rfl, hj, rfl, hk, hQ, hQ2, hQ5, hQF, hB5, hB2, hR, hM⟩ := hrel
     obtain ⟨k, A, c, ws, n, B, d, xs⟩ := qr
     have HK := Lib.hid hk
     have HQ := Lib.hid hQ
     have HQ2 := Lib.hid hQ2
     have HQ5 := Lib.hid hQ5
     have HQF := Lib.hid hQF
     have HB5 := Lib.hid hB5
     have HB2 := Lib.hid hB2
     have HR := Lib.hid hR
     have HM := Lib.hid hM
     have hb5w := hB5.lt
     have hb2w := hB2.lt
     have hgw := hR.lt
     have h5 := hB5
     simp only [qC] at h5
     have y0 := h5.cell 0; have y1 := h5.cell 1; have y2 := h5.cell 2; have y3 := h5.cell 3; simp at y0 y1 y2 y3
     clear hk hQ hQ2 hQ5 hQF hB5 hB2 hR hM h5
     by_cases hlt : j < m
     ·have HNQ := Lib.hid (notQ_calls wr _ HQ.out)
      rw [qA_mk] at HNQ
      go_wp2_with fail
      refine HNQ.out.mono ?_
      rintro e w6 ⟨gS, hgS, rfl, hQS, hm6⟩
      simp only [qA_mk]
      have HQS := Lib.hid hQS
      have HB6 := Lib.hid (HB5.out.modp hm6)
      have HB7 := Lib.hid (HB2.out.modp hm6)
      have HR6 := Lib.hid (HR.out.pure hm6)
      have HM6 := Lib.hid (HM.out.transp hm6)
      have hszw := HM.out.size
      have h5 := HB6.out
      simp only [qC] at h5
      clear y0 y1 y2 y3
      have y0 := h5.cell 0; have yf0 := h5.frozen 0; have y1 := h5.cell 1; have yf1 := h5.frozen 1; have y2 := h5.cell 2; have yf2 := h5.frozen 2; have y3 := h5.cell 3; have yf3 := h5.frozen 3; simp at y0 y1 y2 y3
      clear h5 hQS hm6 HNQ HB5 HB2 HR HM
      go_wp2_with fail
      go_roundg (m - (j + 1))
      case measure => omega
      case rel =>
       have hst : Mod (· = b5) w6 ((((w6.setCell ⟨b5, 0, none⟩ (.int .i64 8)).setCell ⟨b5, 1, none⟩ (.slice none 0 0)).setCell ⟨b5, 2, none⟩ (.int .i64 0)).setCell ⟨b5, 3, none⟩ (.slice (some ⟨gS, 0, none⟩) 1 1)) := st4_mod
       have h6 := HB6.out
       simp only [qC] at h6
       refine ⟨j + 1, .mk 8 none 0 [] 0 (some ⟨gS, 0, none⟩) 1 [.mk k A c ws n B d xs], rfl, hlt, by simp, ?_, ?_, ?_, ?_, ?_, ?_, HB7.out.mod hst (by omega), HR6.out.box HB6.out hst (by omega), HM6.out.trans' hst (fun i hi hlt => by omega)⟩
       ·rw [QR.key_mk, notN_out, ← HK.out]
        rfl
       ·refine HQS.out.box HB6.out (.mk ?_ ?_) hst
        ·intro _ g9 off he hb
         injection he with he
         injection he with he
         omega
        ·intro a ha
         rw [List.mem_singleton.1 ha]
         exact HQ5.out
       ·refine .mk ?_ ?_
        ·intro _ g9 off he hb
         injection he with he
         injection he with he
         omega
        ·intro a ha
         rw [List.mem_singleton.1 ha]
         exact HQ2.out
       ·refine .mk ?_ ?_
        ·intro _ g9 off he hb
         injection he with he
         injection he with he
         omega
        ·intro a ha
         rw [List.mem_singleton.1 ha]
         exact HQ5.out
       ·refine .mk (fun _ => ⟨gS, 0, rfl, by omega⟩) ?_
        intro a ha
        rw [List.mem_singleton.1 ha]
        exact HQF.out
       ·exact st4_blk (a := .int .i64 8) (b := .slice none 0 0) (c := .int .i64 0) (d := .slice (some ⟨gS, 0, none⟩) 1 1) h6
     ·obtain rfl : j = m := by omega
      have h2 := HB2.out
      have x0 := h2.cell 0; have xf0 := h2.frozen 0; have x1 := h2.cell 1; have xf1 := h2.frozen 1; have x2 := h2.cell 2; have xf2 := h2.frozen 2; have x3 := h2.cell 3; have xf3 := h2.frozen 3; simp at x0 x1 x2 x3
      clear h2 hlt
      go_wp2_with fail
      have h4F := st4_blk HB2.out (a := .int .i64 k) (b := .slice A ws.length c) (c := .int .i64 n) (d := .slice B xs.length d)
      have z0 := h4F.cell 0; have z1 := h4F.cell 1; have z2 := h4F.cell 2; have z3 := h4F.cell 3; simp at z0 z1 z2 z3
      try simp only [Exit.inBlock, Exit.then]
      refine bodyPost_ret (v := .tuple #[.agg #[.int .i64 k, .slice A ws.length c, .int .i64 n, .slice B xs.length d], .bool true]) (by simp [results, Tryz.results121, go_sem, z0, z1, z2, z3]) rfl ?_
      exact pr_ret HM.out HR.out HB2.out (by omega) (by omega) (fun h => by cases h) (fun _ => ⟨by rw [HK.out]; exact HQ1.out, HQ.out, HQ2.out, HQF.out⟩)
end Go.Proofs.YtanblgcgbncbpaaGreatDoor

/- Several searches with a word between: (*reader).several. -/
namespace Go.Proofs.YtanblgcgbncbpaaGreatDoor
set_option linter.unusedVariables false
set_option linter.unusedSimpArgs false
open Go.RowKit
theorem info_qry : (Tryz.prog.info? 44).map (fun i => (i.zero, i.size, i.bytes)) = some (some (.agg #[.int .i64 0, .slice none 0 0, .int .i64 0, .slice none 0 0]), 4, 64) := by kernel_rfl
/-- What has been gathered: the searches lie in a row of one's own, and no row of theirs is written. -/
def GatQ (wr : World) (base b8 b12 sz : Nat) (A : Option Addr) (c : Nat) (qs : List QR) : Prop :=
 wr.ownsRow base 44 4 (.slice A qs.length c) qs.length (qV qs) ∧ (∀ k, (Value.slice A qs.length c).ownBlock = some k → k ≠ b8 ∧ k ≠ b12) ∧ ∀ q ∈ qs, QS wr q ∧ QN (· = b8) q ∧ QN (· = b12) q ∧ QN (fun k => (Value.slice A qs.length c).ownBlock = some k) q ∧ QFr sz q
theorem own_str {w : World} {base n : Nat} {v : Value} {xs : List Value} (h : w.ownsRow base 44 4 v n xs) : ∀ g arr fr, w.heap[g]? = some (.cells arr 9 fr) → ¬ v.ownBlock = some g := fun g arr fr hg hv => absurd (own_ty h hv hg) (by decide)
theorem GatQ.rd {w w' : World} {base b8 b12 sz c g : Nat} {A : Option Addr} {qs : List QR} {cs : Array Value} (h : GatQ w base b8 b12 sz A c qs) (hB : Blk w g 109 cs) (hm : Mod (· = g) w w') : GatQ w' base b8 b12 sz A c qs := by
 obtain ⟨h1, h2, h3⟩ := h
 refine ⟨own_mod h1 hm (fun k hk e => ?_), h2, fun q hq => ?_⟩
 ·subst e
  exact absurd (own_ty h1 hk hB) (by decide)
 ·obtain ⟨a, b, c, d, e⟩ := h3 q hq
  exact ⟨a.rd hB hm, b, c, d, e⟩
theorem GatQ.pure {w w' : World} {base b8 b12 sz c : Nat} {A : Option Addr} {qs : List QR} (h : GatQ w base b8 b12 sz A c qs) (hm : Pure w w') : GatQ w' base b8 b12 sz A c qs := by
 obtain ⟨h1, h2, h3⟩ := h
 refine ⟨own_pure h1 hm, h2, fun q hq => ?_⟩
 obtain ⟨a, b, c, d, e⟩ := h3 q hq
 exact ⟨a.pure hm, b, c, d, e⟩
/-- Another one is gathered: w5 is the world behind the append; then the box is written. -/
theorem GatQ.snoc {w w5 w6 : World} {base b8 b12 sz c g5 cap5 : Nat} {A : Option Addr} {qs : List QR} {q : QR} {cs : Array Value} (h : GatQ w base b8 b12 sz A c qs) (hq : QS w q) (hqf : QFr sz q) (hq8 : QN (· = b8) q) (hq12 : QN (· = b12) q) (hqo : QN (fun k => (Value.slice A qs.length c).ownBlock = some k) q)
  (hw5 : w5.ownsRow base 44 4 (.slice (some ⟨g5, 0, none⟩) (qs.length + 1) cap5) (qs.length + 1) (qV qs ++ qC q)) (hm5 : Mod (fun k => (Value.slice A qs.length c).ownBlock = some k) w w5) (hat : (Value.slice A qs.length c).ownBlock = some g5 ∨ w.heap.size ≤ g5) (hb8 : b8 < w.heap.size) (hb12 : b12 < w.heap.size)
  (hB : Blk w5 b12 44 cs) (hm6 : Mod (· = b12) w5 w6) : GatQ w6 base b8 b12 sz (some ⟨g5, 0, none⟩) cap5 (qs ++ [q]) := by
 obtain ⟨h1, h2, h3⟩ := h
 have hl : (qs ++ [q]).length = qs.length + 1 := by simp
 have hg5 : g5 ≠ b8 ∧ g5 ≠ b12 := by
  rcases hat with h | h
  ·exact h2 _ h
  ·constructor <;> omega
 have hob : ∀ k, (Value.slice (some ⟨g5, 0, none⟩) (qs.length + 1) cap5).ownBlock = some k → k = g5 := by
  intro k hk
  injection hk with hk
  exact hk.symm
 have hnew : ∀ x, QS w x → QN (fun k => (Value.slice A qs.length c).ownBlock = some k) x → QN (fun k => (Value.slice (some ⟨g5, 0, none⟩) (qs.length + 1) cap5).ownBlock = some k) x := by
  intro x hx hn
  rcases hat with h | h
  ·exact hn.mono (fun k hk => by rw [hob k hk]; exact h)
  ·exact QN.new hx (fun k hk => by rw [hob k hk]; exact h)
 have hfin : ∀ x, QS w x → QN (fun k => (Value.slice A qs.length c).ownBlock = some k) x → QN (· = b12) x → QS w6 x := fun x hx ho hb => (hx.modN ho hm5 (own_str h1)).box hB hb hm6
 unfold GatQ
 rw [hl, qV_snoc]
 refine ⟨own_mod hw5 hm6 (fun k hk e => hg5.2 ((hob k hk).symm.trans e)), fun k hk => by rw [hob k hk]; exact hg5, fun x hx => ?_⟩
 rcases List.mem_append.1 hx with hx | hx
 ·obtain ⟨a, b, c, d, e⟩ := h3 x hx
  exact ⟨hfin x a d c, b, c, hnew x a d, e⟩
 ·rw [List.mem_singleton.1 hx]
  exact ⟨hfin q hq hqo hq12, hq8, hq12, hnew q hq hqo, hqf⟩
def SevR (w : World) (g : Nat) (s : Str) (kind between : Int) (el : List Tk → PR) (f base b8 b12 bx : Nat) (r : PR) (gk : Nat) (wr : World) : Prop :=
 ∃ (A : Option Addr) (c f' : Nat) (qs : List QR) (l : List Tk), l.length = gk ∧ l.length + 1 ≤ f' ∧ f' ≤ f ∧ pSevL kind between el f' (qs.map QR.key) l = r ∧ qs ≠ [] ∧ qs.length + l.length ≤ 2 * f ∧ GatQ wr base b8 b12 w.heap.size A c qs ∧ RdrS wr g s l ∧ Blk wr b8 44 #[.int .i64 0, .slice none 0 0, .int .i64 0, .slice none 0 0] ∧ Blk wr b12 44 #[.int .i64 kind, .slice none 0 0, .int .i64 0, .slice A qs.length c] ∧ Blk wr bx 105 #[.pointer (some ⟨g, 0, none⟩)] ∧ Mod (· = g) w wr
set_option maxRecDepth 100000 in
set_option maxHeartbeats 8000000 in
theorem sevNot_calls (w0 : World) (g bx : Nat) (s : Str) (f : Nat) (el : List Tk → PR) (hf : f ≤ 1000000) (hN : NxC w0 g s) (hLE : LenP el) (hgx : bx ≠ g)
  (hE : ∀ W L, Mod (· = g) w0 W → Blk W bx 105 #[.pointer (some ⟨g, 0, none⟩)] → RdrS W g s L → L.length ≤ f → Calls Tryz.prog 121 #[.pointer (some ⟨g, 0, none⟩)] W (PrP W g s (el L))) (w : World) (L : List Tk) (hW : Mod (· = g) w0 w) (hX : Blk w bx 105 #[.pointer (some ⟨g, 0, none⟩)]) (hR : RdrS w g s L) (hL : L.length ≤ f) :
  Calls Tryz.prog 119 #[.pointer (some ⟨g, 0, none⟩), .int .i64 6, .int .i64 4, .func (.func 121) #[.pointer (some ⟨g, 0, none⟩)] #[]] w (PrP w g s (pSev 6 4 el f L)) := by
 obtain ⟨i0, hi0, hz0, hz1, hz2⟩ := info_parts info_qry
 have HN := Lib.hid hN
 have HE := Lib.hid hE
 have HW := Lib.hid hW
 have HLE := Lib.hid hLE
 have hg0 := hR.lt
 have hx0 := hX.lt
 have hmz : Pure w (w.alloc (.cells #[.int .i64 0, .slice none 0 0, .int .i64 0, .slice none 0 0] 44)) := (Mod.refl _ _).alloc _
 have HB2 := Lib.hid (Blk.new w 44 #[.int .i64 0, .slice none 0 0, .int .i64 0, .slice none 0 0])
 have HX2 := Lib.hid (hX.alloc (.cells #[.int .i64 0, .slice none 0 0, .int .i64 0, .slice none 0 0] 44))
 have HM2 : Hid (Mod (· = g) w (w.alloc (.cells #[.int .i64 0, .slice none 0 0, .int .i64 0, .slice none 0 0] 44))) := Lib.hid (Mod.of_pure hmz)
 have HPX := Lib.hid (hE (w.alloc (.cells #[.int .i64 0, .slice none 0 0, .int .i64 0, .slice none 0 0] 44)) L (hW.trans HM2.out) HX2.out (hR.pure hmz) hL)
 have HS1 : Hid (∀ q l, el L = .inr (q, l) → pSev 6 4 el f L = if kdL l = 4 then pSevL 6 4 el f [q] l else .inr (q, l)) := Lib.hid (fun q l h => by unfold pSev; rw [h])
 have HS2 : Hid (∀ l, el L = .inl l → pSev 6 4 el f L = .inl l) := Lib.hid (fun l h => by unfold pSev; rw [h])
 clear hN hE hW hmz hR hX hLE
 generalize pSev 6 4 el f L = r at *
 obtain ⟨b2, hb2e⟩ : ∃ b2, w.heap.size = b2 := ⟨_, rfl⟩
 have hb2l : w.heap.size ≤ b2 := by omega
 have hb2u : b2 ≤ w.heap.size := by omega
 go_enter Tryz.func119, Tryz.ntmps119
 go_wp2_with fail
 generalize (w.alloc (.cells #[.int .i64 0, .slice none 0 0, .int .i64 0, .slice none 0 0] 44)) = w2 at *
 rw [hb2e] at HB2
 try simp only [hb2e]
 clear hb2e
 refine HPX.out.mono ?_
 rintro e w3 ⟨qr2, bt, l2, rfl, hR3, hm3, h0, h1⟩
 obtain ⟨k2, A2, c2, ws2, n2, B2, d2, xs2⟩ := qr2
 simp only [qA_mk]
 have H0 := Lib.hid h0
 have H1 := Lib.hid h1
 have hb2r := HB2.out.lt
 have hs2 := HM2.out.size
 have hs3 := hm3.size
 have hmA : Pure w3 (w3.alloc (.cells #[.int .i64 k2, .slice A2 ws2.length c2, .int .i64 n2, .slice B2 xs2.length d2] 44)) := (Mod.refl _ _).alloc _
 have HB5 := Lib.hid ((HB2.out.modb hm3 (by omega)).alloc (.cells #[.int .i64 k2, .slice A2 ws2.length c2, .int .i64 n2, .slice B2 xs2.length d2] 44))
 have HX5 := Lib.hid ((HX2.out.modb hm3 hgx).alloc (.cells #[.int .i64 k2, .slice A2 ws2.length c2, .int .i64 n2, .slice B2 xs2.length d2] 44))
 have HB6 := Lib.hid (Blk.new w3 44 #[.int .i64 k2, .slice A2 ws2.length c2, .int .i64 n2, .slice B2 xs2.length d2])
 have HR5 := Lib.hid (RdrS.pure hR3 hmA)
 have HM5 := Lib.hid ((HM2.out.trans hm3).transp hmA)
 have HQA := Lib.hid hmA
 clear hmA h0 h1 hm3 hR3 HB2 HX2 HM2 HPX
 go_upto_region 2 with (fail)
 generalize (w3.alloc (.cells #[.int .i64 k2, .slice A2 ws2.length c2, .int .i64 n2, .slice B2 xs2.length d2] 44)) = w5 at *
 obtain ⟨b10, hb10⟩ : ∃ b10, w3.heap.size = b10 := ⟨_, rfl⟩
 rw [hb10] at HB6
 try simp only [hb10]
 have hb10l : w3.heap.size ≤ b10 := by omega
 have hb10u : b10 ≤ w3.heap.size := by omega
 clear hb10
 have hb10r := HB6.out.lt
 have hb2r5 := HB5.out.lt
 have hgr5 := HR5.out.lt
 have hxr5 := HX5.out.lt
 have h5 := HB5.out
 have h6 := HB6.out
 have x0 := h5.cell 0; have xf0 := h5.frozen 0; have x1 := h5.cell 1; have xf1 := h5.frozen 1; have x2 := h5.cell 2; have xf2 := h5.frozen 2; have x3 := h5.cell 3; have xf3 := h5.frozen 3; simp at x0 x1 x2 x3
 have y0 := h6.cell 0; have y1 := h6.cell 1; have y2 := h6.cell 2; have y3 := h6.cell 3; simp at y0 y1 y2 y3
 clear h5 h6
 cases bt
 ·have HI : Hid (r = .inl l2) := Lib.hid (HS2.out _ (H0.out rfl))
  clear H0 H1 HS1 HS2
  go_wp2_with fail
  have h4F := st4_blk HB5.out (a := .int .i64 k2) (b := .slice A2 ws2.length c2) (c := .int .i64 n2) (d := .slice B2 xs2.length d2)
  have z0 := h4F.cell 0; have z1 := h4F.cell 1; have z2 := h4F.cell 2; have z3 := h4F.cell 3; simp at z0 z1 z2 z3
  try simp only [Exit.inBlock, Exit.then]
  refine bodyPost_ret (v := .tuple #[.agg #[.int .i64 k2, .slice A2 ws2.length c2, .int .i64 n2, .slice B2 xs2.length d2], .bool false]) (by simp [results, Tryz.results119, go_sem, z0, z1, z2, z3]) rfl ?_
  exact pr_ret HM5.out HR5.out HB5.out (by omega) (by omega) (fun _ => HI.out) (fun h => by cases h)
 ·obtain ⟨hq1, hq2, hq3⟩ := H1.out rfl
  have HQ1 := Lib.hid (HS1.out _ _ hq1)
  have hll := HLE.out _ _ _ hq1
  have HQ2 := Lib.hid (hq2.pure HQA.out)
  have HQ3 := Lib.hid hq3
  have HQ10 : Hid (QN (· = b10) (QR.mk k2 A2 c2 ws2 n2 B2 d2 xs2)) := Lib.hid (QN.new hq2 (fun k hk => by omega))
  have HQ8 : Hid (QN (· = b2) (QR.mk k2 A2 c2 ws2 n2 B2 d2 xs2)) := Lib.hid (QN.old hq3 (fun k hk => by omega))
  clear hq1 hq2 hq3 H0 H1 HQA HS1 HS2
  obtain ⟨p5, qr5, t5, l5, rfl, hB7, hp5, hQ5, hk5, ha5, _, _⟩ := HR5.out
  obtain ⟨k5, A5, c5, ws5, n5, B5, d5, xs5⟩ := qr5
  have hBr := hB7
  unfold rdC at hBr
  simp [qC] at hBr
  have u0 := hBr.cell 0; have u1 := hBr.cell 1; have u2 := hBr.cell 2; have u3 := hBr.cell 3; have u4 := hBr.cell 4; have u5 := hBr.cell 5; have u6 := hBr.cell 6; have u7 := hBr.cell 7; simp at u0 u1 u2 u3 u4 u5 u6 u7
  clear hBr hQ5 hk5 ha5 hB7
  by_cases hkb : t5.kind = 4
  ·have HI : Hid (pSevL 6 4 el f [(QR.mk k2 A2 c2 ws2 n2 B2 d2 xs2).key] (t5 :: l5) = r) := Lib.hid (by
    rw [HQ1.out]
    exact (if_pos (show kdL (t5 :: l5) = 4 from hkb)).symm)
   rw [hkb] at u2
   clear HQ1 hkb
   have hmC : Pure w5 ((w5.alloc (.cells #[.int .i64 k2, .slice A2 ws2.length c2, .int .i64 n2, .slice B2 xs2.length d2] 44)).alloc (.cells #[.int .i64 6, .slice none 0 0, .int .i64 0, .slice (some ⟨w5.heap.size, 0, none⟩) 1 1] 44)) := ((Mod.refl _ _).alloc _).alloc _
   have HB7 := Lib.hid ((HB5.out.alloc (.cells #[.int .i64 k2, .slice A2 ws2.length c2, .int .i64 n2, .slice B2 xs2.length d2] 44)).alloc (.cells #[.int .i64 6, .slice none 0 0, .int .i64 0, .slice (some ⟨w5.heap.size, 0, none⟩) 1 1] 44))
   have HX7 := Lib.hid ((HX5.out.alloc (.cells #[.int .i64 k2, .slice A2 ws2.length c2, .int .i64 n2, .slice B2 xs2.length d2] 44)).alloc (.cells #[.int .i64 6, .slice none 0 0, .int .i64 0, .slice (some ⟨w5.heap.size, 0, none⟩) 1 1] 44))
   have HBS := Lib.hid ((Blk.new w5 44 #[.int .i64 k2, .slice A2 ws2.length c2, .int .i64 n2, .slice B2 xs2.length d2]).alloc (.cells #[.int .i64 6, .slice none 0 0, .int .i64 0, .slice (some ⟨w5.heap.size, 0, none⟩) 1 1] 44))
   have HB12 := Lib.hid (Blk.snd w5 (.cells #[.int .i64 k2, .slice A2 ws2.length c2, .int .i64 n2, .slice B2 xs2.length d2] 44) 44 #[.int .i64 6, .slice none 0 0, .int .i64 0, .slice (some ⟨w5.heap.size, 0, none⟩) 1 1])
   have HR7 := Lib.hid (HR5.out.pure hmC)
   have HM7 := Lib.hid (HM5.out.transp hmC)
   have HQ7 := Lib.hid (HQ2.out.pure hmC)
   have HQS : Hid (QN (· = w5.heap.size) (QR.mk k2 A2 c2 ws2 n2 B2 d2 xs2)) := Lib.hid (QN.new HQ2.out (fun k hk => by omega))
   have HQ12 : Hid (QN (· = w5.heap.size + 1) (QR.mk k2 A2 c2 ws2 n2 B2 d2 xs2)) := Lib.hid (QN.new HQ2.out (fun k hk => by omega))
   clear hmC
   go_upto_block 0 with (fail)
   generalize ((w5.alloc (.cells #[.int .i64 k2, .slice A2 ws2.length c2, .int .i64 n2, .slice B2 xs2.length d2] 44)).alloc (.cells #[.int .i64 6, .slice none 0 0, .int .i64 0, .slice (some ⟨w5.heap.size, 0, none⟩) 1 1] 44)) = w7 at *
   obtain ⟨gS, hgS⟩ : ∃ gS, w5.heap.size = gS := ⟨_, rfl⟩
   rw [hgS] at HBS HB12 HQS HQ12
   try simp only [hgS]
   obtain ⟨b12, hb12⟩ : ∃ b12, gS + 1 = b12 := ⟨_, rfl⟩
   rw [hb12] at HB12 HQ12
   try simp only [hb12]
   have hgSl : w5.heap.size ≤ gS := by omega
   have hbS : gS < b12 := by omega
   clear hgS hb12 x0 x1 x2 x3 xf0 xf1 xf2 xf3 y0 y1 y2 y3 u0 u1 u2 u3 u4 u5 u6 u7
   have hl5 : (t5 :: l5).length = l5.length + 1 := rfl
   have hgrS := HBS.out.lt
   have HG0 : Hid (GatQ w7 w.heap.size b2 b12 w.heap.size (some ⟨gS, 0, none⟩) 1 [.mk k2 A2 c2 ws2 n2 B2 d2 xs2]) := Lib.hid (by
    refine ⟨⟨rfl, .inr ⟨gS, 1, _, rfl, by omega, HBS.out, Nat.le_refl _, by decide, rfl, rfl⟩⟩, fun k hk => ?_, fun q hq => ?_⟩
    ·have hk2 : gS = k := Option.some.inj hk
     constructor <;> omega
    ·rw [List.mem_singleton.1 hq]
     exact ⟨HQ7.out, HQ8.out, HQ12.out, HQS.out.mono (fun k hk => by injection hk with hk; exact hk.symm), HQ3.out.up (by omega)⟩)
   clear HQ7 HQ8 HQ12 HQS HQ3 HQ2 HQ10 HBS HB5 HX5 HR5 HM5 HB6
   go_wp2_with fail
   go_loopg [] (t5 :: l5).length (fun gk wr => SevR w g s 6 4 el f w.heap.size b2 b12 bx r gk wr)
   case atStart => exact ⟨some ⟨gS, 0, none⟩, 1, f, [.mk k2 A2 c2 ws2 n2 B2 d2 xs2], t5 :: l5, rfl, by omega, Nat.le_refl _, HI.out, by simp, by show 1 + (t5 :: l5).length ≤ 2 * f; omega, HG0.out, HR7.out, HB7.out, HB12.out, HX7.out, HM7.out⟩
   case round =>
    clear HG0 HB7 HB12 HX7 HR7 HM7 HI
    obtain ⟨A, c, f2, qs, l, rfl, hlf, hff, hps, hne, hqn, hG, hR, hB8, hB12, hX, hM⟩ := hrel
    have HPS := Lib.hid hps
    have HG := Lib.hid hG
    have HR := Lib.hid hR
    have HB8 := Lib.hid hB8
    have HB12 := Lib.hid hB12
    have HX := Lib.hid hX
    have HM := Lib.hid hM
    have hb8r := hB8.lt
    have hb12r := hB12.lt
    have hxr := hX.lt
    have hgr := hR.lt
    have hszr := hM.size
    have h5 := HB8.out
    have h6 := HB12.out
    have x0 := h5.cell 0; have xf0 := h5.frozen 0; have x1 := h5.cell 1; have xf1 := h5.frozen 1; have x2 := h5.cell 2; have xf2 := h5.frozen 2; have x3 := h5.cell 3; have xf3 := h5.frozen 3; simp at x0 x1 x2 x3
    have y0 := h6.cell 0; have yf0 := h6.frozen 0; have y1 := h6.cell 1; have yf1 := h6.frozen 1; have y2 := h6.cell 2; have yf2 := h6.frozen 2; have y3 := h6.cell 3; have yf3 := h6.frozen 3; simp at y0 y1 y2 y3
    clear hps hG hR hB8 hB12 hX hM h5 h6
    obtain ⟨p9, qr9, t9, l9, rfl, hB9, hp9, hQ9, hk9, ha9, _, _⟩ := HR.out
    obtain ⟨k9, A9, c9, ws9, n9, B9, d9, xs9⟩ := qr9
    have hBr := hB9
    unfold rdC at hBr
    simp [qC] at hBr
    have u0 := hBr.cell 0; have u1 := hBr.cell 1; have u2 := hBr.cell 2; have u3 := hBr.cell 3; have u4 := hBr.cell 4; have u5 := hBr.cell 5; have u6 := hBr.cell 6; have u7 := hBr.cell 7; simp at u0 u1 u2 u3 u4 u5 u6 u7
    clear hBr hQ9 hk9 ha9 hB9
    have hl9 : (t9 :: l9).length = l9.length + 1 := rfl
    cases f2 with
    | zero => omega
    | succ f2 =>
     by_cases hkb : t9.kind = 4
     ·have HPQ : Hid ((match el l9 with | .inl l => .inl l | .inr (q, l) => pSevL 6 4 el f2 (qs.map QR.key ++ [q]) l) = r) := Lib.hid (by
       have h := HPS.out
       unfold pSevL at h
       rw [if_pos (show kdL (t9 :: l9) = 4 from hkb)] at h
       exact h)
      rw [hkb] at u2
      have HNX := Lib.hid (HN.out wr (t9 :: l9) (HW.out.trans HM.out) HR.out (show t9.kind ≠ 0 by omega) (show t9.kind ≠ 8 by omega))
      clear HPS hkb
      go_wp2_with fail
      refine HNX.out.mono ?_
      rintro e w8 ⟨rfl, hR4, hm4⟩
      obtain ⟨cs, hcs⟩ := HR.out.blk
      have HG4 := Lib.hid (HG.out.rd hcs hm4)
      have HB84 := Lib.hid (HB8.out.modb hm4 (by omega))
      have HB124 := Lib.hid (HB12.out.modb hm4 (by omega))
      have HX4 := Lib.hid (HX.out.modb hm4 hgx)
      have HM4 := Lib.hid (HM.out.trans hm4)
      have hsz4 := hm4.size
      have HEX := Lib.hid (HE.out w8 l9 (HW.out.trans HM4.out) HX4.out hR4 (by omega))
      have hcs4 := RdrS.blk hR4
      clear hcs hm4 hR4 HNX HG HB8 HB12 HX HM HR x0 x1 x2 x3 xf0 xf1 xf2 xf3 y0 y1 y2 y3 yf0 yf1 yf2 yf3 u0 u1 u2 u3 u4 u5 u6 u7
      go_wp2_with fail
      refine HEX.out.mono ?_
      rintro e w9 ⟨qr6, bt, l6, rfl, hR6, hm6, h0, h1⟩
      obtain ⟨k6, A6, c6, ws6, n6, B6, d6, xs6⟩ := qr6
      simp only [qA_mk]
      obtain ⟨cs, hcs⟩ := hcs4
      have H0 := Lib.hid h0
      have H1 := Lib.hid h1
      have hsz6 := hm6.size
      have hA : Pure w9 (w9.alloc (.cells #[.int .i64 k6, .slice A6 ws6.length c6, .int .i64 n6, .slice B6 xs6.length d6] 44)) := (Mod.refl _ _).alloc _
      have HG6 := Lib.hid ((HG4.out.rd hcs hm6).pure hA)
      have HB86 := Lib.hid ((HB84.out.modb hm6 (by omega)).alloc (.cells #[.int .i64 k6, .slice A6 ws6.length c6, .int .i64 n6, .slice B6 xs6.length d6] 44))
      have HB126 := Lib.hid ((HB124.out.modb hm6 (by omega)).alloc (.cells #[.int .i64 k6, .slice A6 ws6.length c6, .int .i64 n6, .slice B6 xs6.length d6] 44))
      have HX6 := Lib.hid ((HX4.out.modb hm6 hgx).alloc (.cells #[.int .i64 k6, .slice A6 ws6.length c6, .int .i64 n6, .slice B6 xs6.length d6] 44))
      have HB13 := Lib.hid (Blk.new w9 44 #[.int .i64 k6, .slice A6 ws6.length c6, .int .i64 n6, .slice B6 xs6.length d6])
      have HR6 := Lib.hid (RdrS.pure hR6 hA)
      have HM6 := Lib.hid ((HM4.out.trans hm6).transp hA)
      have HQ6 : Hid (bt = true → QS (w9.alloc (.cells #[.int .i64 k6, .slice A6 ws6.length c6, .int .i64 n6, .slice B6 xs6.length d6] 44)) (.mk k6 A6 c6 ws6 n6 B6 d6 xs6) ∧ QFr w8.heap.size (.mk k6 A6 c6 ws6 n6 B6 d6 xs6)) := Lib.hid (fun h => ⟨(h1 h).2.1.pure hA, (h1 h).2.2⟩)
      have hob : ∀ k, (Value.slice A qs.length c).ownBlock = some k → k < w8.heap.size := by
       intro k hk
       obtain ⟨arr, ha⟩ := own_heap HG4.out.1 hk
       exact lt_of_heap ha
      have HOB := Lib.hid hob
      clear hA hm6 hR6 h0 h1 hcs HG4 HB84 HB124 HX4 HM4 HEX hob
      go_upto_region 8 with (fail)
      generalize (w9.alloc (.cells #[.int .i64 k6, .slice A6 ws6.length c6, .int .i64 n6, .slice B6 xs6.length d6] 44)) = wA at *
      obtain ⟨b13, hb13⟩ : ∃ b13, w9.heap.size = b13 := ⟨_, rfl⟩
      rw [hb13] at HB13
      try simp only [hb13]
      have hb13l : w9.heap.size ≤ b13 := by omega
      clear hb13
      have h5 := HB86.out
      have h6 := HB126.out
      have h7 := HB13.out
      have x0 := h5.cell 0; have xf0 := h5.frozen 0; have x1 := h5.cell 1; have xf1 := h5.frozen 1; have x2 := h5.cell 2; have xf2 := h5.frozen 2; have x3 := h5.cell 3; have xf3 := h5.frozen 3; simp at x0 x1 x2 x3
      have y0 := h6.cell 0; have yf0 := h6.frozen 0; have y1 := h6.cell 1; have yf1 := h6.frozen 1; have y2 := h6.cell 2; have yf2 := h6.frozen 2; have y3 := h6.cell 3; have yf3 := h6.frozen 3; simp at y0 y1 y2 y3
      have v0 := h7.cell 0; have v1 := h7.cell 1; have v2 := h7.cell 2; have v3 := h7.cell 3; simp at v0 v1 v2 v3
      clear h5 h6 h7
      cases bt
      ·have HI : Hid (r = .inl l6) := Lib.hid (by
        have h9 := HPQ.out
        rw [H0.out rfl] at h9
        exact h9.symm)
       clear HPQ H0 H1 HQ6
       go_wp2_with fail
       have h4F := st4_blk HB86.out (a := .int .i64 k6) (b := .slice A6 ws6.length c6) (c := .int .i64 n6) (d := .slice B6 xs6.length d6)
       have z0 := h4F.cell 0; have z1 := h4F.cell 1; have z2 := h4F.cell 2; have z3 := h4F.cell 3; simp at z0 z1 z2 z3
       try simp only [Exit.inBlock, Exit.then]
       refine bodyPost_ret (v := .tuple #[.agg #[.int .i64 k6, .slice A6 ws6.length c6, .int .i64 n6, .slice B6 xs6.length d6], .bool false]) (by simp [results, Tryz.results119, go_sem, z0, z1, z2, z3]) rfl ?_
       exact pr_ret HM6.out HR6.out HB86.out (by omega) (by omega) (fun _ => HI.out) (fun h => by cases h)
      ·obtain ⟨hq1, hq2⟩ := HQ6.out rfl
       have h9 := H1.out rfl
       have hl6 := HLE.out _ _ _ h9.1
       have HPR : Hid (pSevL 6 4 el f2 (qs.map QR.key ++ [(QR.mk k6 A6 c6 ws6 n6 B6 d6 xs6).key]) l6 = r) := Lib.hid (by
        have h := HPQ.out
        rw [h9.1] at h
        exact h)
       have HQA := Lib.hid hq1
       have HQF := Lib.hid hq2
       clear hq1 hq2 h9 H0 H1 HQ6 HPQ
       have hown := HG6.out.1
       have hqc : qs.length ≤ 2 * f := by omega
       have hwA := HB13.out.lt
       go_wp2_with ((at_builtin; refine wpList_append_lies _ rfl _ _ _ rfl w.heap.size 44 i0 _ 4 64 Tryz.underlying42 hi0 hz0 hz1 hz2 rfl (by omega) (.slice A qs.length c) qs.length (qV qs) rfl (hown.alloc _) ⟨wA.heap.size, 0, none⟩ 1 1 [.int .i64 k6, .slice A6 ws6.length c6, .int .i64 n6, .slice B6 xs6.length d6] rfl rfl (World.news_of_block (cs := #[.int .i64 k6, .slice A6 ws6.length c6, .int .i64 n6, .slice B6 xs6.length d6]) (t := 44) (fr := (0, 0)) (heap_alloc_new wA _)) (by simp [Value.oneCell']) (by omega) (by simp [maxLen]; omega) (by omega) (by have := HM6.out.size; simp; omega) (wA.heap.size + 1) (by simp) ?_; intro g5 cap5 w5 hown5 hgrow hat hlt5); have hX := (HB126.out.alloc (.cells #[.int .i64 k6, .slice A6 ws6.length c6, .int .i64 n6, .slice B6 xs6.length d6] 44)).mod (mod_grown hgrow) (fun hv => (HG6.out.2.1 _ hv).2 rfl); have q0 := hX.cell 0; have qf0 := hX.frozen 0; have q1 := hX.cell 1; have qf1 := hX.frozen 1; have q2 := hX.cell 2; have qf2 := hX.frozen 2; have q3 := hX.cell 3; have qf3 := hX.frozen 3; simp at q0 q1 q2 q3)
       go_roundg l6.length
       case measure => omega
       case rel =>
        have hA : Pure wA (wA.alloc (.cells #[.int .i64 k6, .slice A6 ws6.length c6, .int .i64 n6, .slice B6 xs6.length d6] 44)) := (Mod.refl _ _).alloc _
        have hgm := mod_grown hgrow
        have hst : Mod (· = b12) w5 (w5.setCell ⟨b12, 3, none⟩ (.slice (some ⟨g5, 0, none⟩) (qs.length + 1) cap5)) := mod_set (Mod.refl _ _) 3 _
        have hGA := HG6.out.pure hA
        have hRg := (HR6.out.pure hA).mod hgm (fun hv => by have := HOB.out _ hv; obtain ⟨cs, hc⟩ := HR6.out.blk; obtain ⟨arr, ha⟩ := own_heap HG6.out.1 hv; unfold Blk at hc; rw [hc] at ha; injection ha with ha; injection ha with _ ha; exact absurd ha (by decide)) (own_str hGA.1)
        have hno : ∀ k, (Value.slice A qs.length c).ownBlock = some k → k ≠ b2 ∧ k ≠ b12 := HG6.out.2.1
        have hsA : (wA.alloc (.cells #[.int .i64 k6, .slice A6 ws6.length c6, .int .i64 n6, .slice B6 xs6.length d6] 44)).heap.size = wA.heap.size + 1 := by simp
        refine ⟨some ⟨g5, 0, none⟩, cap5, f2, qs ++ [.mk k6 A6 c6 ws6 n6 B6 d6 xs6], l6, rfl, by omega, by omega, by rw [List.map_append]; exact HPR.out, by simp, by simp; omega, ?_, RdrS.box hRg hX hst (by omega), ?_, ?_, ?_, ?_⟩
        ·exact hGA.snoc (HQA.out.pure hA) (HQF.out.up (by omega)) (QN.old HQF.out (fun k hk => by omega)) (QN.old HQF.out (fun k hk => by omega)) (QN.old HQF.out (fun k hk => HOB.out k hk)) hown5 hgm (by rcases hat with h | h; exact .inl h; exact .inr (by omega)) (by omega) (by omega) hX hst
        ·exact ((HB86.out.alloc _).mod hgm (fun hv => (hno _ hv).1 rfl)).mod hst (by omega)
        ·have h := hX.set 3 (.slice (some ⟨g5, 0, none⟩) (qs.length + 1) cap5)
         simpa using h
        ·refine ((HX6.out.alloc _).mod hgm (fun hv => ?_)).mod hst (by omega)
         obtain ⟨arr, ha⟩ := own_heap HG6.out.1 hv
         have hc := HX6.out
         unfold Blk at hc
         rw [hc] at ha
         injection ha with ha
         injection ha with _ ha
         exact absurd ha (by decide)
        ·exact ((HM6.out.transp hA).trans' hgm (fun i hi hlt => by have := own_block HG6.out.1 i hi; omega)).trans' hst (fun i hi hlt => by omega)
     ·have HI : Hid (r = .inr (.mk 6 [] 0 (qs.map QR.key), t9 :: l9)) := Lib.hid (by
       have h := HPS.out
       unfold pSevL at h
       rw [if_neg (show ¬ kdL (t9 :: l9) = 4 from hkb)] at h
       exact h.symm)
      have hkbi : (t9.kind == 4) = false := by rw [← Bool.not_eq_true, beq_iff_eq]; exact hkb
      obtain ⟨hG1, hG2, hG3⟩ := HG.out
      have HG1 := Lib.hid hG1
      have HG2 := Lib.hid hG2
      have HG3 := Lib.hid hG3
      clear hkb HPS hG1 hG2 hG3
      go_wp2_with fail
      have h4F := st4_blk HB8.out (a := .int .i64 6) (b := .slice none 0 0) (c := .int .i64 0) (d := .slice A qs.length c)
      have z0 := h4F.cell 0; have z1 := h4F.cell 1; have z2 := h4F.cell 2; have z3 := h4F.cell 3; simp at z0 z1 z2 z3
      try simp only [Exit.inBlock, Exit.then]
      refine bodyPost_ret (v := .tuple #[.agg #[.int .i64 6, .slice none 0 0, .int .i64 0, .slice A qs.length c], .bool true]) (by simp [results, Tryz.results119, go_sem, z0, z1, z2, z3]) rfl ?_
      refine pr_ret (ws := []) (A := none) HM.out HR.out HB8.out (by omega) (by omega) (fun h => by cases h) (fun _ => ⟨by rw [QR.key_mk]; exact HI.out, .mk Sl.nil_ (Sl.of_own HG1.out) (fun a ha => (HG3.out a ha).1), .mk ?_ (fun a ha => (HG3.out a ha).2.1), .mk ?_ (fun a ha => (HG3.out a ha).2.2.2.2)⟩)
      ·intro _ g3 off he hb
       rw [he] at HG2
       exact (HG2.out g3 rfl).1 hb
      ·intro _
       rcases HG1.out.2 with ⟨h1, h2⟩ | ⟨g3, cap, cur, h1, h2, _⟩
       ·exact absurd (List.eq_nil_of_length_eq_zero h2) hne
       ·injection h1 with h1 _ _
        exact ⟨g3, 0, h1, h2⟩
  ·have HI : Hid (r = .inr ((QR.mk k2 A2 c2 ws2 n2 B2 d2 xs2).key, t5 :: l5)) := Lib.hid (by
    rw [HQ1.out]
    exact if_neg (show ¬ kdL (t5 :: l5) = 4 from hkb))
   have hkbi : (t5.kind == 4) = false := by rw [← Bool.not_eq_true, beq_iff_eq]; exact hkb
   clear hkb
   go_wp2_with fail
   have h4F := st4_blk HB5.out (a := .int .i64 k2) (b := .slice A2 ws2.length c2) (c := .int .i64 n2) (d := .slice B2 xs2.length d2)
   have z0 := h4F.cell 0; have z1 := h4F.cell 1; have z2 := h4F.cell 2; have z3 := h4F.cell 3; simp at z0 z1 z2 z3
   try simp only [Exit.inBlock, Exit.then]
   refine bodyPost_ret (v := .tuple #[.agg #[.int .i64 k2, .slice A2 ws2.length c2, .int .i64 n2, .slice B2 xs2.length d2], .bool true]) (by simp [results, Tryz.results119, go_sem, z0, z1, z2, z3]) rfl ?_
   exact pr_ret HM5.out HR5.out HB5.out (by omega) (by omega) (fun h => by cases h) (fun _ => ⟨HI.out, HQ2.out, HQ8.out, HQ3.out.up (by omega)⟩)
set_option maxRecDepth 100000 in
set_option maxHeartbeats 8000000 in
theorem sevOr_calls (w0 : World) (g bx : Nat) (s : Str) (f : Nat) (el : List Tk → PR) (hf : f ≤ 1000000) (hN : NxC w0 g s) (hLE : LenP el) (hgx : bx ≠ g)
  (hE : ∀ W L, Mod (· = g) w0 W → Blk W bx 105 #[.pointer (some ⟨g, 0, none⟩)] → RdrS W g s L → L.length ≤ f → Calls Tryz.prog 120 #[.pointer (some ⟨bx, 0, none⟩)] W (PrP W g s (el L))) (w : World) (L : List Tk) (hW : Mod (· = g) w0 w) (hX : Blk w bx 105 #[.pointer (some ⟨g, 0, none⟩)]) (hR : RdrS w g s L) (hL : L.length ≤ f) :
  Calls Tryz.prog 119 #[.pointer (some ⟨g, 0, none⟩), .int .i64 7, .int .i64 5, .func (.func 120) #[] #[.pointer (some ⟨bx, 0, none⟩)]] w (PrP w g s (pSev 7 5 el f L)) := by
 obtain ⟨i0, hi0, hz0, hz1, hz2⟩ := info_parts info_qry
 have HN := Lib.hid hN
 have HE := Lib.hid hE
 have HW := Lib.hid hW
 have HLE := Lib.hid hLE
 have hg0 := hR.lt
 have hx0 := hX.lt
 have hmz : Pure w (w.alloc (.cells #[.int .i64 0, .slice none 0 0, .int .i64 0, .slice none 0 0] 44)) := (Mod.refl _ _).alloc _
 have HB2 := Lib.hid (Blk.new w 44 #[.int .i64 0, .slice none 0 0, .int .i64 0, .slice none 0 0])
 have HX2 := Lib.hid (hX.alloc (.cells #[.int .i64 0, .slice none 0 0, .int .i64 0, .slice none 0 0] 44))
 have HM2 : Hid (Mod (· = g) w (w.alloc (.cells #[.int .i64 0, .slice none 0 0, .int .i64 0, .slice none 0 0] 44))) := Lib.hid (Mod.of_pure hmz)
 have HPX := Lib.hid (hE (w.alloc (.cells #[.int .i64 0, .slice none 0 0, .int .i64 0, .slice none 0 0] 44)) L (hW.trans HM2.out) HX2.out (hR.pure hmz) hL)
 have HS1 : Hid (∀ q l, el L = .inr (q, l) → pSev 7 5 el f L = if kdL l = 5 then pSevL 7 5 el f [q] l else .inr (q, l)) := Lib.hid (fun q l h => by unfold pSev; rw [h])
 have HS2 : Hid (∀ l, el L = .inl l → pSev 7 5 el f L = .inl l) := Lib.hid (fun l h => by unfold pSev; rw [h])
 clear hN hE hW hmz hR hX hLE
 generalize pSev 7 5 el f L = r at *
 obtain ⟨b2, hb2e⟩ : ∃ b2, w.heap.size = b2 := ⟨_, rfl⟩
 have hb2l : w.heap.size ≤ b2 := by omega
 have hb2u : b2 ≤ w.heap.size := by omega
 go_enter Tryz.func119, Tryz.ntmps119
 go_wp2_with fail
 generalize (w.alloc (.cells #[.int .i64 0, .slice none 0 0, .int .i64 0, .slice none 0 0] 44)) = w2 at *
 rw [hb2e] at HB2
 try simp only [hb2e]
 clear hb2e
 refine HPX.out.mono ?_
 rintro e w3 ⟨qr2, bt, l2, rfl, hR3, hm3, h0, h1⟩
 obtain ⟨k2, A2, c2, ws2, n2, B2, d2, xs2⟩ := qr2
 simp only [qA_mk]
 have H0 := Lib.hid h0
 have H1 := Lib.hid h1
 have hb2r := HB2.out.lt
 have hs2 := HM2.out.size
 have hs3 := hm3.size
 have hmA : Pure w3 (w3.alloc (.cells #[.int .i64 k2, .slice A2 ws2.length c2, .int .i64 n2, .slice B2 xs2.length d2] 44)) := (Mod.refl _ _).alloc _
 have HB5 := Lib.hid ((HB2.out.modb hm3 (by omega)).alloc (.cells #[.int .i64 k2, .slice A2 ws2.length c2, .int .i64 n2, .slice B2 xs2.length d2] 44))
 have HX5 := Lib.hid ((HX2.out.modb hm3 hgx).alloc (.cells #[.int .i64 k2, .slice A2 ws2.length c2, .int .i64 n2, .slice B2 xs2.length d2] 44))
 have HB6 := Lib.hid (Blk.new w3 44 #[.int .i64 k2, .slice A2 ws2.length c2, .int .i64 n2, .slice B2 xs2.length d2])
 have HR5 := Lib.hid (RdrS.pure hR3 hmA)
 have HM5 := Lib.hid ((HM2.out.trans hm3).transp hmA)
 have HQA := Lib.hid hmA
 clear hmA h0 h1 hm3 hR3 HB2 HX2 HM2 HPX
 go_upto_region 2 with (fail)
 generalize (w3.alloc (.cells #[.int .i64 k2, .slice A2 ws2.length c2, .int .i64 n2, .slice B2 xs2.length d2] 44)) = w5 at *
 obtain ⟨b10, hb10⟩ : ∃ b10, w3.heap.size = b10 := ⟨_, rfl⟩
 rw [hb10] at HB6
 try simp only [hb10]
 have hb10l : w3.heap.size ≤ b10 := by omega
 have hb10u : b10 ≤ w3.heap.size := by omega
 clear hb10
 have hb10r := HB6.out.lt
 have hb2r5 := HB5.out.lt
 have hgr5 := HR5.out.lt
 have hxr5 := HX5.out.lt
 have h5 := HB5.out
 have h6 := HB6.out
 have x0 := h5.cell 0; have xf0 := h5.frozen 0; have x1 := h5.cell 1; have xf1 := h5.frozen 1; have x2 := h5.cell 2; have xf2 := h5.frozen 2; have x3 := h5.cell 3; have xf3 := h5.frozen 3; simp at x0 x1 x2 x3
 have y0 := h6.cell 0; have y1 := h6.cell 1; have y2 := h6.cell 2; have y3 := h6.cell 3; simp at y0 y1 y2 y3
 clear h5 h6
 cases bt
 ·have HI : Hid (r = .inl l2) := Lib.hid (HS2.out _ (H0.out rfl))
  clear H0 H1 HS1 HS2
  go_wp2_with fail
  have h4F := st4_blk HB5.out (a := .int .i64 k2) (b := .slice A2 ws2.length c2) (c := .int .i64 n2) (d := .slice B2 xs2.length d2)
  have z0 := h4F.cell 0; have z1 := h4F.cell 1; have z2 := h4F.cell 2; have z3 := h4F.cell 3; simp at z0 z1 z2 z3
  try simp only [Exit.inBlock, Exit.then]
  refine bodyPost_ret (v := .tuple #[.agg #[.int .i64 k2, .slice A2 ws2.length c2, .int .i64 n2, .slice B2 xs2.length d2], .bool false]) (by simp [results, Tryz.results119, go_sem, z0, z1, z2, z3]) rfl ?_
  exact pr_ret HM5.out HR5.out HB5.out (by omega) (by omega) (fun _ => HI.out) (fun h => by cases h)
 ·obtain ⟨hq1, hq2, hq3⟩ := H1.out rfl
  have HQ1 := Lib.hid (HS1.out _ _ hq1)
  have hll := HLE.out _ _ _ hq1
  have HQ2 := Lib.hid (hq2.pure HQA.out)
  have HQ3 := Lib.hid hq3
  have HQ10 : Hid (QN (· = b10) (QR.mk k2 A2 c2 ws2 n2 B2 d2 xs2)) := Lib.hid (QN.new hq2 (fun k hk => by omega))
  have HQ8 : Hid (QN (· = b2) (QR.mk k2 A2 c2 ws2 n2 B2 d2 xs2)) := Lib.hid (QN.old hq3 (fun k hk => by omega))
  clear hq1 hq2 hq3 H0 H1 HQA HS1 HS2
  obtain ⟨p5, qr5, t5, l5, rfl, hB7, hp5, hQ5, hk5, ha5, _, _⟩ := HR5.out
  obtain ⟨k5, A5, c5, ws5, n5, B5, d5, xs5⟩ := qr5
  have hBr := hB7
  unfold rdC at hBr
  simp [qC] at hBr
  have u0 := hBr.cell 0; have u1 := hBr.cell 1; have u2 := hBr.cell 2; have u3 := hBr.cell 3; have u4 := hBr.cell 4; have u5 := hBr.cell 5; have u6 := hBr.cell 6; have u7 := hBr.cell 7; simp at u0 u1 u2 u3 u4 u5 u6 u7
  clear hBr hQ5 hk5 ha5 hB7
  by_cases hkb : t5.kind = 5
  ·have HI : Hid (pSevL 7 5 el f [(QR.mk k2 A2 c2 ws2 n2 B2 d2 xs2).key] (t5 :: l5) = r) := Lib.hid (by
    rw [HQ1.out]
    exact (if_pos (show kdL (t5 :: l5) = 5 from hkb)).symm)
   rw [hkb] at u2
   clear HQ1 hkb
   have hmC : Pure w5 ((w5.alloc (.cells #[.int .i64 k2, .slice A2 ws2.length c2, .int .i64 n2, .slice B2 xs2.length d2] 44)).alloc (.cells #[.int .i64 7, .slice none 0 0, .int .i64 0, .slice (some ⟨w5.heap.size, 0, none⟩) 1 1] 44)) := ((Mod.refl _ _).alloc _).alloc _
   have HB7 := Lib.hid ((HB5.out.alloc (.cells #[.int .i64 k2, .slice A2 ws2.length c2, .int .i64 n2, .slice B2 xs2.length d2] 44)).alloc (.cells #[.int .i64 7, .slice none 0 0, .int .i64 0, .slice (some ⟨w5.heap.size, 0, none⟩) 1 1] 44))
   have HX7 := Lib.hid ((HX5.out.alloc (.cells #[.int .i64 k2, .slice A2 ws2.length c2, .int .i64 n2, .slice B2 xs2.length d2] 44)).alloc (.cells #[.int .i64 7, .slice none 0 0, .int .i64 0, .slice (some ⟨w5.heap.size, 0, none⟩) 1 1] 44))
   have HBS := Lib.hid ((Blk.new w5 44 #[.int .i64 k2, .slice A2 ws2.length c2, .int .i64 n2, .slice B2 xs2.length d2]).alloc (.cells #[.int .i64 7, .slice none 0 0, .int .i64 0, .slice (some ⟨w5.heap.size, 0, none⟩) 1 1] 44))
   have HB12 := Lib.hid (Blk.snd w5 (.cells #[.int .i64 k2, .slice A2 ws2.length c2, .int .i64 n2, .slice B2 xs2.length d2] 44) 44 #[.int .i64 7, .slice none 0 0, .int .i64 0, .slice (some ⟨w5.heap.size, 0, none⟩) 1 1])
   have HR7 := Lib.hid (HR5.out.pure hmC)
   have HM7 := Lib.hid (HM5.out.transp hmC)
   have HQ7 := Lib.hid (HQ2.out.pure hmC)
   have HQS : Hid (QN (· = w5.heap.size) (QR.mk k2 A2 c2 ws2 n2 B2 d2 xs2)) := Lib.hid (QN.new HQ2.out (fun k hk => by omega))
   have HQ12 : Hid (QN (· = w5.heap.size + 1) (QR.mk k2 A2 c2 ws2 n2 B2 d2 xs2)) := Lib.hid (QN.new HQ2.out (fun k hk => by omega))
   clear hmC
   go_upto_block 0 with (fail)
   generalize ((w5.alloc (.cells #[.int .i64 k2, .slice A2 ws2.length c2, .int .i64 n2, .slice B2 xs2.length d2] 44)).alloc (.cells #[.int .i64 7, .slice none 0 0, .int .i64 0, .slice (some ⟨w5.heap.size, 0, none⟩) 1 1] 44)) = w7 at *
   obtain ⟨gS, hgS⟩ : ∃ gS, w5.heap.size = gS := ⟨_, rfl⟩
   rw [hgS] at HBS HB12 HQS HQ12
   try simp only [hgS]
   obtain ⟨b12, hb12⟩ : ∃ b12, gS + 1 = b12 := ⟨_, rfl⟩
   rw [hb12] at HB12 HQ12
   try simp only [hb12]
   have hgSl : w5.heap.size ≤ gS := by omega
   have hbS : gS < b12 := by omega
   clear hgS hb12 x0 x1 x2 x3 xf0 xf1 xf2 xf3 y0 y1 y2 y3 u0 u1 u2 u3 u4 u5 u6 u7
   have hl5 : (t5 :: l5).length = l5.length + 1 := rfl
   have hgrS := HBS.out.lt
   have HG0 : Hid (GatQ w7 w.heap.size b2 b12 w.heap.size (some ⟨gS, 0, none⟩) 1 [.mk k2 A2 c2 ws2 n2 B2 d2 xs2]) := Lib.hid (by
    refine ⟨⟨rfl, .inr ⟨gS, 1, _, rfl, by omega, HBS.out, Nat.le_refl _, by decide, rfl, rfl⟩⟩, fun k hk => ?_, fun q hq => ?_⟩
    ·have hk2 : gS = k := Option.some.inj hk
     constructor <;> omega
    ·rw [List.mem_singleton.1 hq]
     exact ⟨HQ7.out, HQ8.out, HQ12.out, HQS.out.mono (fun k hk => by injection hk with hk; exact hk.symm), HQ3.out.up (by omega)⟩)
   clear HQ7 HQ8 HQ12 HQS HQ3 HQ2 HQ10 HBS HB5 HX5 HR5 HM5 HB6
   go_wp2_with fail
   go_loopg [] (t5 :: l5).length (fun gk wr => SevR w g s 7 5 el f w.heap.size b2 b12 bx r gk wr)
   case atStart => exact ⟨some ⟨gS, 0, none⟩, 1, f, [.mk k2 A2 c2 ws2 n2 B2 d2 xs2], t5 :: l5, rfl, by omega, Nat.le_refl _, HI.out, by simp, by show 1 + (t5 :: l5).length ≤ 2 * f; omega, HG0.out, HR7.out, HB7.out, HB12.out, HX7.out, HM7.out⟩
   case round =>
    clear HG0 HB7 HB12 HX7 HR7 HM7 HI
    obtain ⟨A, c, f2, qs, l, rfl, hlf, hff, hps, hne, hqn, hG, hR, hB8, hB12, hX, hM⟩ := hrel
    have HPS := Lib.hid hps
    have HG := Lib.hid hG
    have HR := Lib.hid hR
    have HB8 := Lib.hid hB8
    have HB12 := Lib.hid hB12
    have HX := Lib.hid hX
    have HM := Lib.hid hM
    have hb8r := hB8.lt
    have hb12r := hB12.lt
    have hxr := hX.lt
    have hgr := hR.lt
    have hszr := hM.size
    have h5 := HB8.out
    have h6 := HB12.out
    have x0 := h5.cell 0; have xf0 := h5.frozen 0; have x1 := h5.cell 1; have xf1 := h5.frozen 1; have x2 := h5.cell 2; have xf2 := h5.frozen 2; have x3 := h5.cell 3; have xf3 := h5.frozen 3; simp at x0 x1 x2 x3
    have y0 := h6.cell 0; have yf0 := h6.frozen 0; have y1 := h6.cell 1; have yf1 := h6.frozen 1; have y2 := h6.cell 2; have yf2 := h6.frozen 2; have y3 := h6.cell 3; have yf3 := h6.frozen 3; simp at y0 y1 y2 y3
    clear hps hG hR hB8 hB12 hX hM h5 h6
    obtain ⟨p9, qr9, t9, l9, rfl, hB9, hp9, hQ9, hk9, ha9, _, _⟩ := HR.out
    obtain ⟨k9, A9, c9, ws9, n9, B9, d9, xs9⟩ := qr9
    have hBr := hB9
    unfold rdC at hBr
    simp [qC] at hBr
    have u0 := hBr.cell 0; have u1 := hBr.cell 1; have u2 := hBr.cell 2; have u3 := hBr.cell 3; have u4 := hBr.cell 4; have u5 := hBr.cell 5; have u6 := hBr.cell 6; have u7 := hBr.cell 7; simp at u0 u1 u2 u3 u4 u5 u6 u7
    clear hBr hQ9 hk9 ha9 hB9
    have hl9 : (t9 :: l9).length = l9.length + 1 := rfl
    cases f2 with
    | zero => omega
    | succ f2 =>
     by_cases hkb : t9.kind = 5
     ·have HPQ : Hid ((match el l9 with | .inl l => .inl l | .inr (q, l) => pSevL 7 5 el f2 (qs.map QR.key ++ [q]) l) = r) := Lib.hid (by
       have h := HPS.out
       unfold pSevL at h
       rw [if_pos (show kdL (t9 :: l9) = 5 from hkb)] at h
       exact h)
      rw [hkb] at u2
      have HNX := Lib.hid (HN.out wr (t9 :: l9) (HW.out.trans HM.out) HR.out (show t9.kind ≠ 0 by omega) (show t9.kind ≠ 8 by omega))
      clear HPS hkb
      go_wp2_with fail
      refine HNX.out.mono ?_
      rintro e w8 ⟨rfl, hR4, hm4⟩
      obtain ⟨cs, hcs⟩ := HR.out.blk
      have HG4 := Lib.hid (HG.out.rd hcs hm4)
      have HB84 := Lib.hid (HB8.out.modb hm4 (by omega))
      have HB124 := Lib.hid (HB12.out.modb hm4 (by omega))
      have HX4 := Lib.hid (HX.out.modb hm4 hgx)
      have HM4 := Lib.hid (HM.out.trans hm4)
      have hsz4 := hm4.size
      have HEX := Lib.hid (HE.out w8 l9 (HW.out.trans HM4.out) HX4.out hR4 (by omega))
      have hcs4 := RdrS.blk hR4
      clear hcs hm4 hR4 HNX HG HB8 HB12 HX HM HR x0 x1 x2 x3 xf0 xf1 xf2 xf3 y0 y1 y2 y3 yf0 yf1 yf2 yf3 u0 u1 u2 u3 u4 u5 u6 u7
      go_wp2_with fail
      refine HEX.out.mono ?_
      rintro e w9 ⟨qr6, bt, l6, rfl, hR6, hm6, h0, h1⟩
      obtain ⟨k6, A6, c6, ws6, n6, B6, d6, xs6⟩ := qr6
      simp only [qA_mk]
      obtain ⟨cs, hcs⟩ := hcs4
      have H0 := Lib.hid h0
      have H1 := Lib.hid h1
      have hsz6 := hm6.size
      have hA : Pure w9 (w9.alloc (.cells #[.int .i64 k6, .slice A6 ws6.length c6, .int .i64 n6, .slice B6 xs6.length d6] 44)) := (Mod.refl _ _).alloc _
      have HG6 := Lib.hid ((HG4.out.rd hcs hm6).pure hA)
      have HB86 := Lib.hid ((HB84.out.modb hm6 (by omega)).alloc (.cells #[.int .i64 k6, .slice A6 ws6.length c6, .int .i64 n6, .slice B6 xs6.length d6] 44))
      have HB126 := Lib.hid ((HB124.out.modb hm6 (by omega)).alloc (.cells #[.int .i64 k6, .slice A6 ws6.length c6, .int .i64 n6, .slice B6 xs6.length d6] 44))
      have HX6 := Lib.hid ((HX4.out.modb hm6 hgx).alloc (.cells #[.int .i64 k6, .slice A6 ws6.length c6, .int .i64 n6, .slice B6 xs6.length d6] 44))
      have HB13 := Lib.hid (Blk.new w9 44 #[.int .i64 k6, .slice A6 ws6.length c6, .int .i64 n6, .slice B6 xs6.length d6])
      have HR6 := Lib.hid (RdrS.pure hR6 hA)
      have HM6 := Lib.hid ((HM4.out.trans hm6).transp hA)
      have HQ6 : Hid (bt = true → QS (w9.alloc (.cells #[.int .i64 k6, .slice A6 ws6.length c6, .int .i64 n6, .slice B6 xs6.length d6] 44)) (.mk k6 A6 c6 ws6 n6 B6 d6 xs6) ∧ QFr w8.heap.size (.mk k6 A6 c6 ws6 n6 B6 d6 xs6)) := Lib.hid (fun h => ⟨(h1 h).2.1.pure hA, (h1 h).2.2⟩)
      have hob : ∀ k, (Value.slice A qs.length c).ownBlock = some k → k < w8.heap.size := by
       intro k hk
       obtain ⟨arr, ha⟩ := own_heap HG4.out.1 hk
       exact lt_of_heap ha
      have HOB := Lib.hid hob
      clear hA hm6 hR6 h0 h1 hcs HG4 HB84 HB124 HX4 HM4 HEX hob
      go_upto_region 8 with (fail)
      generalize (w9.alloc (.cells #[.int .i64 k6, .slice A6 ws6.length c6, .int .i64 n6, .slice B6 xs6.length d6] 44)) = wA at *
      obtain ⟨b13, hb13⟩ : ∃ b13, w9.heap.size = b13 := ⟨_, rfl⟩
      rw [hb13] at HB13
      try simp only [hb13]
      have hb13l : w9.heap.size ≤ b13 := by omega
      clear hb13
      have h5 := HB86.out
      have h6 := HB126.out
      have h7 := HB13.out
      have x0 := h5.cell 0; have xf0 := h5.frozen 0; have x1 := h5.cell 1; have xf1 := h5.frozen 1; have x2 := h5.cell 2; have xf2 := h5.frozen 2; have x3 := h5.cell 3; have xf3 := h5.frozen 3; simp at x0 x1 x2 x3
      have y0 := h6.cell 0; have yf0 := h6.frozen 0; have y1 := h6.cell 1; have yf1 := h6.frozen 1; have y2 := h6.cell 2; have yf2 := h6.frozen 2; have y3 := h6.cell 3; have yf3 := h6.frozen 3; simp at y0 y1 y2 y3
      have v0 := h7.cell 0; have v1 := h7.cell 1; have v2 := h7.cell 2; have v3 := h7.cell 3; simp at v0 v1 v2 v3
      clear h5 h6 h7
      cases bt
      ·have HI : Hid (r = .inl l6) := Lib.hid (by
        have h9 := HPQ.out
        rw [H0.out rfl] at h9
        exact h9.symm)
       clear HPQ H0 H1 HQ6
       go_wp2_with fail
       have h4F := st4_blk HB86.out (a := .int .i64 k6) (b := .slice A6 ws6.length c6) (c := .int .i64 n6) (d := .slice B6 xs6.length d6)
       have z0 := h4F.cell 0; have z1 := h4F.cell 1; have z2 := h4F.cell 2; have z3 := h4F.cell 3; simp at z0 z1 z2 z3
       try simp only [Exit.inBlock, Exit.then]
       refine bodyPost_ret (v := .tuple #[.agg #[.int .i64 k6, .slice A6 ws6.length c6, .int .i64 n6, .slice B6 xs6.length d6], .bool false]) (by simp [results, Tryz.results119, go_sem, z0, z1, z2, z3]) rfl ?_
       exact pr_ret HM6.out HR6.out HB86.out (by omega) (by omega) (fun _ => HI.out) (fun h => by cases h)
      ·obtain ⟨hq1, hq2⟩ := HQ6.out rfl
       have h9 := H1.out rfl
       have hl6 := HLE.out _ _ _ h9.1
       have HPR : Hid (pSevL 7 5 el f2 (qs.map QR.key ++ [(QR.mk k6 A6 c6 ws6 n6 B6 d6 xs6).key]) l6 = r) := Lib.hid (by
        have h := HPQ.out
        rw [h9.1] at h
        exact h)
       have HQA := Lib.hid hq1
       have HQF := Lib.hid hq2
       clear hq1 hq2 h9 H0 H1 HQ6 HPQ
       have hown := HG6.out.1
       have hqc : qs.length ≤ 2 * f := by omega
       have hwA := HB13.out.lt
       go_wp2_with ((at_builtin; refine wpList_append_lies _ rfl _ _ _ rfl w.heap.size 44 i0 _ 4 64 Tryz.underlying42 hi0 hz0 hz1 hz2 rfl (by omega) (.slice A qs.length c) qs.length (qV qs) rfl (hown.alloc _) ⟨wA.heap.size, 0, none⟩ 1 1 [.int .i64 k6, .slice A6 ws6.length c6, .int .i64 n6, .slice B6 xs6.length d6] rfl rfl (World.news_of_block (cs := #[.int .i64 k6, .slice A6 ws6.length c6, .int .i64 n6, .slice B6 xs6.length d6]) (t := 44) (fr := (0, 0)) (heap_alloc_new wA _)) (by simp [Value.oneCell']) (by omega) (by simp [maxLen]; omega) (by omega) (by have := HM6.out.size; simp; omega) (wA.heap.size + 1) (by simp) ?_; intro g5 cap5 w5 hown5 hgrow hat hlt5); have hX := (HB126.out.alloc (.cells #[.int .i64 k6, .slice A6 ws6.length c6, .int .i64 n6, .slice B6 xs6.length d6] 44)).mod (mod_grown hgrow) (fun hv => (HG6.out.2.1 _ hv).2 rfl); have q0 := hX.cell 0; have qf0 := hX.frozen 0; have q1 := hX.cell 1; have qf1 := hX.frozen 1; have q2 := hX.cell 2; have qf2 := hX.frozen 2; have q3 := hX.cell 3; have qf3 := hX.frozen 3; simp at q0 q1 q2 q3)
       go_roundg l6.length
       case measure => omega
       case rel =>
        have hA : Pure wA (wA.alloc (.cells #[.int .i64 k6, .slice A6 ws6.length c6, .int .i64 n6, .slice B6 xs6.length d6] 44)) := (Mod.refl _ _).alloc _
        have hgm := mod_grown hgrow
        have hst : Mod (· = b12) w5 (w5.setCell ⟨b12, 3, none⟩ (.slice (some ⟨g5, 0, none⟩) (qs.length + 1) cap5)) := mod_set (Mod.refl _ _) 3 _
        have hGA := HG6.out.pure hA
        have hRg := (HR6.out.pure hA).mod hgm (fun hv => by have := HOB.out _ hv; obtain ⟨cs, hc⟩ := HR6.out.blk; obtain ⟨arr, ha⟩ := own_heap HG6.out.1 hv; unfold Blk at hc; rw [hc] at ha; injection ha with ha; injection ha with _ ha; exact absurd ha (by decide)) (own_str hGA.1)
        have hno : ∀ k, (Value.slice A qs.length c).ownBlock = some k → k ≠ b2 ∧ k ≠ b12 := HG6.out.2.1
        have hsA : (wA.alloc (.cells #[.int .i64 k6, .slice A6 ws6.length c6, .int .i64 n6, .slice B6 xs6.length d6] 44)).heap.size = wA.heap.size + 1 := by simp
        refine ⟨some ⟨g5, 0, none⟩, cap5, f2, qs ++ [.mk k6 A6 c6 ws6 n6 B6 d6 xs6], l6, rfl, by omega, by omega, by rw [List.map_append]; exact HPR.out, by simp, by simp; omega, ?_, RdrS.box hRg hX hst (by omega), ?_, ?_, ?_, ?_⟩
        ·exact hGA.snoc (HQA.out.pure hA) (HQF.out.up (by omega)) (QN.old HQF.out (fun k hk => by omega)) (QN.old HQF.out (fun k hk => by omega)) (QN.old HQF.out (fun k hk => HOB.out k hk)) hown5 hgm (by rcases hat with h | h; exact .inl h; exact .inr (by omega)) (by omega) (by omega) hX hst
        ·exact ((HB86.out.alloc _).mod hgm (fun hv => (hno _ hv).1 rfl)).mod hst (by omega)
        ·have h := hX.set 3 (.slice (some ⟨g5, 0, none⟩) (qs.length + 1) cap5)
         simpa using h
        ·refine ((HX6.out.alloc _).mod hgm (fun hv => ?_)).mod hst (by omega)
         obtain ⟨arr, ha⟩ := own_heap HG6.out.1 hv
         have hc := HX6.out
         unfold Blk at hc
         rw [hc] at ha
         injection ha with ha
         injection ha with _ ha
         exact absurd ha (by decide)
        ·exact ((HM6.out.transp hA).trans' hgm (fun i hi hlt => by have := own_block HG6.out.1 i hi; omega)).trans' hst (fun i hi hlt => by omega)
     ·have HI : Hid (r = .inr (.mk 7 [] 0 (qs.map QR.key), t9 :: l9)) := Lib.hid (by
       have h := HPS.out
       unfold pSevL at h
       rw [if_neg (show ¬ kdL (t9 :: l9) = 5 from hkb)] at h
       exact h.symm)
      have hkbi : (t9.kind == 5) = false := by rw [← Bool.not_eq_true, beq_iff_eq]; exact hkb
      obtain ⟨hG1, hG2, hG3⟩ := HG.out
      have HG1 := Lib.hid hG1
      have HG2 := Lib.hid hG2
      have HG3 := Lib.hid hG3
      clear hkb HPS hG1 hG2 hG3
      go_wp2_with fail
      have h4F := st4_blk HB8.out (a := .int .i64 7) (b := .slice none 0 0) (c := .int .i64 0) (d := .slice A qs.length c)
      have z0 := h4F.cell 0; have z1 := h4F.cell 1; have z2 := h4F.cell 2; have z3 := h4F.cell 3; simp at z0 z1 z2 z3
      try simp only [Exit.inBlock, Exit.then]
      refine bodyPost_ret (v := .tuple #[.agg #[.int .i64 7, .slice none 0 0, .int .i64 0, .slice A qs.length c], .bool true]) (by simp [results, Tryz.results119, go_sem, z0, z1, z2, z3]) rfl ?_
      refine pr_ret (ws := []) (A := none) HM.out HR.out HB8.out (by omega) (by omega) (fun h => by cases h) (fun _ => ⟨by rw [QR.key_mk]; exact HI.out, .mk Sl.nil_ (Sl.of_own HG1.out) (fun a ha => (HG3.out a ha).1), .mk ?_ (fun a ha => (HG3.out a ha).2.1), .mk ?_ (fun a ha => (HG3.out a ha).2.2.2.2)⟩)
      ·intro _ g3 off he hb
       rw [he] at HG2
       exact (HG2.out g3 rfl).1 hb
      ·intro _
       rcases HG1.out.2 with ⟨h1, h2⟩ | ⟨g3, cap, cur, h1, h2, _⟩
       ·exact absurd (List.eq_nil_of_length_eq_zero h2) hne
       ·injection h1 with h1 _ _
        exact ⟨g3, 0, h1, h2⟩
  ·have HI : Hid (r = .inr ((QR.mk k2 A2 c2 ws2 n2 B2 d2 xs2).key, t5 :: l5)) := Lib.hid (by
    rw [HQ1.out]
    exact if_neg (show ¬ kdL (t5 :: l5) = 5 from hkb))
   have hkbi : (t5.kind == 5) = false := by rw [← Bool.not_eq_true, beq_iff_eq]; exact hkb
   clear hkb
   go_wp2_with fail
   have h4F := st4_blk HB5.out (a := .int .i64 k2) (b := .slice A2 ws2.length c2) (c := .int .i64 n2) (d := .slice B2 xs2.length d2)
   have z0 := h4F.cell 0; have z1 := h4F.cell 1; have z2 := h4F.cell 2; have z3 := h4F.cell 3; simp at z0 z1 z2 z3
   try simp only [Exit.inBlock, Exit.then]
   refine bodyPost_ret (v := .tuple #[.agg #[.int .i64 k2, .slice A2 ws2.length c2, .int .i64 n2, .slice B2 xs2.length d2], .bool true]) (by simp [results, Tryz.results119, go_sem, z0, z1, z2, z3]) rfl ?_
   exact pr_ret HM5.out HR5.out HB5.out (by omega) (by omega) (fun h => by cases h) (fun _ => ⟨HI.out, HQ2.out, HQ8.out, HQ3.out.up (by omega)⟩)
end Go.Proofs.YtanblgcgbncbpaaGreatDoor

/- A whole search: (*reader).or. -/
namespace Go.Proofs.YtanblgcgbncbpaaGreatDoor
set_option linter.unusedVariables false
set_option linter.unusedSimpArgs false
open Go.RowKit
set_option maxRecDepth 100000 in
set_option maxHeartbeats 4000000 in
theorem or1_calls (w0 : World) (g bx : Nat) (s : Str) (f : Nat) (hf : f ≤ 1000000) (hN : NxC w0 g s) (hP : NrC w0 g s f) (hgx : bx ≠ g) (w : World) (L : List Tk) (hW : Mod (· = g) w0 w) (hX : Blk w bx 105 #[.pointer (some ⟨g, 0, none⟩)]) (hR : RdrS w g s L) (hL : L.length ≤ f) :
  Calls Tryz.prog 120 #[.pointer (some ⟨bx, 0, none⟩)] w (PrP w g s (pSev 6 4 (pNot (pOr f) f) f L)) := by
 have hg0 := hR.lt
 have hmz : Pure w (w.alloc (.cells #[.int .i64 0, .slice none 0 0, .int .i64 0, .slice none 0 0] 44)) := (Mod.refl _ _).alloc _
 have HB2 := Lib.hid (Blk.new w 44 #[.int .i64 0, .slice none 0 0, .int .i64 0, .slice none 0 0])
 have HX2 := Lib.hid (hX.alloc (.cells #[.int .i64 0, .slice none 0 0, .int .i64 0, .slice none 0 0] 44))
 have HM2 : Hid (Mod (· = g) w (w.alloc (.cells #[.int .i64 0, .slice none 0 0, .int .i64 0, .slice none 0 0] 44))) := Lib.hid (Mod.of_pure hmz)
 have HS := Lib.hid (sevNot_calls w0 g bx s f (pNot (pOr f) f) hf hN (pNot_len (pOr_len f) f) hgx (fun W L' hW' _ hR' hL' => not_calls w0 g s f hf hN hP W L' hW' hR' hL') (w.alloc (.cells #[.int .i64 0, .slice none 0 0, .int .i64 0, .slice none 0 0] 44)) L (hW.trans HM2.out) HX2.out (hR.pure hmz) hL)
 have hx2 := HX2.out.cell 0
 simp at hx2
 generalize pSev 6 4 (pNot (pOr f) f) f L = r at *
 clear hN hP hW hmz hR hX
 obtain ⟨b2, hb2e⟩ : ∃ b2, w.heap.size = b2 := ⟨_, rfl⟩
 have hb2l : w.heap.size ≤ b2 := by omega
 have hb2u : b2 ≤ w.heap.size := by omega
 go_enter Tryz.func120, Tryz.ntmps120
 go_wp2_with fail
 generalize (w.alloc (.cells #[.int .i64 0, .slice none 0 0, .int .i64 0, .slice none 0 0] 44)) = w2 at *
 rw [hb2e] at HB2
 try simp only [hb2e]
 clear hb2e hx2
 refine HS.out.mono ?_
 rintro e w3 ⟨qr2, bt, l2, rfl, hR3, hm3, h0, h1⟩
 obtain ⟨k2, A2, c2, ws2, n2, B2, d2, xs2⟩ := qr2
 simp only [qA_mk]
 have hb2r := HB2.out.lt
 have HB3 := Lib.hid (HB2.out.modb hm3 (by omega))
 have HM3 := Lib.hid (HM2.out.trans hm3)
 have HR3 := Lib.hid hR3
 have hs2 := HM2.out.size
 have H0 := Lib.hid h0
 have H1 := Lib.hid h1
 have h5 := HB3.out
 have x0 := h5.cell 0; have xf0 := h5.frozen 0; have x1 := h5.cell 1; have xf1 := h5.frozen 1; have x2 := h5.cell 2; have xf2 := h5.frozen 2; have x3 := h5.cell 3; have xf3 := h5.frozen 3; simp at x0 x1 x2 x3
 clear h5 hR3 hm3 h0 h1 HS
 go_wp2_with fail
 have h4F := st4_blk HB3.out (a := .int .i64 k2) (b := .slice A2 ws2.length c2) (c := .int .i64 n2) (d := .slice B2 xs2.length d2)
 have z0 := h4F.cell 0; have z1 := h4F.cell 1; have z2 := h4F.cell 2; have z3 := h4F.cell 3; simp at z0 z1 z2 z3
 try simp only [Exit.inBlock, Exit.then]
 refine bodyPost_ret (v := .tuple #[.agg #[.int .i64 k2, .slice A2 ws2.length c2, .int .i64 n2, .slice B2 xs2.length d2], .bool bt]) (by simp [results, Tryz.results120, go_sem, z0, z1, z2, z3]) rfl ?_
 exact pr_ret HM3.out HR3.out HB3.out (by omega) (by omega) H0.out (fun h => by
  obtain ⟨a1, a2, a3⟩ := H1.out h
  exact ⟨a1, a2, QN.old a3 (fun k hk => by omega), a3.up (by omega)⟩)
set_option maxRecDepth 100000 in
set_option maxHeartbeats 4000000 in
theorem orS_calls (w0 : World) (g : Nat) (s : Str) (f : Nat) (hf : f ≤ 1000000) (hN : NxC w0 g s) (hP : NrC w0 g s f) (hg00 : g < w0.heap.size) : OrC w0 g s (f + 1) := by
 intro w L hW hR hL0
 have hL : L.length ≤ f := by omega
 clear hL0
 have hg0 := hR.lt
 have hmz : Pure w ((w.alloc (.cells #[.pointer (some ⟨g, 0, none⟩)] 105)).alloc (.cells #[.int .i64 0, .slice none 0 0, .int .i64 0, .slice none 0 0] 44)) := ((Mod.refl _ _).alloc _).alloc _
 have HB2 := Lib.hid (Blk.snd w (.cells #[.pointer (some ⟨g, 0, none⟩)] 105) 44 #[.int .i64 0, .slice none 0 0, .int .i64 0, .slice none 0 0])
 have HX2 := Lib.hid ((Blk.new w 105 #[.pointer (some ⟨g, 0, none⟩)]).alloc (.cells #[.int .i64 0, .slice none 0 0, .int .i64 0, .slice none 0 0] 44))
 have HM2 : Hid (Mod (· = g) w ((w.alloc (.cells #[.pointer (some ⟨g, 0, none⟩)] 105)).alloc (.cells #[.int .i64 0, .slice none 0 0, .int .i64 0, .slice none 0 0] 44))) := Lib.hid (Mod.of_pure hmz)
 have HS := Lib.hid (sevOr_calls w0 g w.heap.size s f (pSev 6 4 (pNot (pOr f) f) f) hf hN (pSev_len (by decide) (pNot_len (pOr_len f) f) f) (by omega) (fun W L' hW' hX' hR' hL' => or1_calls w0 g w.heap.size s f hf hN hP (by omega) W L' hW' hX' hR' hL') ((w.alloc (.cells #[.pointer (some ⟨g, 0, none⟩)] 105)).alloc (.cells #[.int .i64 0, .slice none 0 0, .int .i64 0, .slice none 0 0] 44)) L (hW.trans HM2.out) HX2.out (hR.pure hmz) hL)
 have hx2 := HX2.out.cell 0
 simp at hx2
 change Hid (Calls Tryz.prog 119 _ _ (PrP _ g s (pOr (f + 1) L))) at HS
 generalize pOr (f + 1) L = r at *
 clear hN hP hW hmz hR
 go_enter Tryz.func80, Tryz.ntmps80
 go_wp2_with fail
 refine HS.out.mono ?_
 rintro e w3 ⟨qr2, bt, l2, rfl, hR3, hm3, h0, h1⟩
 have hs2 := HM2.out.size
 have hb2r := HB2.out.lt
 have HB3 := Lib.hid (HB2.out.modb hm3 (by omega))
 have HM3 := Lib.hid (HM2.out.trans hm3)
 clear hx2 HX2
 generalize ((w.alloc (.cells #[.pointer (some ⟨g, 0, none⟩)] 105)).alloc (.cells #[.int .i64 0, .slice none 0 0, .int .i64 0, .slice none 0 0] 44)) = w2 at *
 obtain ⟨b2, hb2e⟩ : ∃ b2, w.heap.size + 1 = b2 := ⟨_, rfl⟩
 rw [hb2e] at HB2 HB3
 try simp only [hb2e]
 have hb2l : w.heap.size ≤ b2 := by omega
 have hb2v := HB2.out.lt
 clear hb2e hb2r
 obtain ⟨k2, A2, c2, ws2, n2, B2, d2, xs2⟩ := qr2
 simp only [qA_mk]
 have HR3 := Lib.hid hR3
 have H0 := Lib.hid h0
 have H1 := Lib.hid h1
 have h5 := HB3.out
 have x0 := h5.cell 0; have xf0 := h5.frozen 0; have x1 := h5.cell 1; have xf1 := h5.frozen 1; have x2 := h5.cell 2; have xf2 := h5.frozen 2; have x3 := h5.cell 3; have xf3 := h5.frozen 3; simp at x0 x1 x2 x3
 clear h5 hR3 hm3 h0 h1 HS HB2 HM2
 go_wp2_with fail
 have h4F := st4_blk HB3.out (a := .int .i64 k2) (b := .slice A2 ws2.length c2) (c := .int .i64 n2) (d := .slice B2 xs2.length d2)
 have z0 := h4F.cell 0; have z1 := h4F.cell 1; have z2 := h4F.cell 2; have z3 := h4F.cell 3; simp at z0 z1 z2 z3
 try simp only [Exit.inBlock, Exit.then]
 refine bodyPost_ret (v := .tuple #[.agg #[.int .i64 k2, .slice A2 ws2.length c2, .int .i64 n2, .slice B2 xs2.length d2], .bool bt]) (by simp [results, Tryz.results80, go_sem, z0, z1, z2, z3]) rfl ?_
 exact pr_ret HM3.out HR3.out HB3.out (by omega) (by omega) H0.out (fun h => by
  obtain ⟨a1, a2, a3⟩ := H1.out h
  exact ⟨a1, a2, QN.old a3 (fun k hk => by omega), a3.up (by omega)⟩)
theorem or_calls (w0 : World) (g : Nat) (s : Str) (hN : NxC w0 g s) (hg : g < w0.heap.size) : ∀ f, f ≤ 1000000 → OrC w0 g s f
 | 0, _ => fun W L _ _ h => absurd h (by omega)
 | f + 1, hf => by
  have hO := or_calls w0 g s hN hg f (by omega)
  have hP : PtC w0 g s f := fun W L hW hR hL => part_calls w0 g s f hN hO W L hW hR hL
  have hR : NrC w0 g s f := fun W L hW hR hL => near_calls w0 g s f hN hP W L hW hR hL
  exact orS_calls w0 g s f (by omega) hN hR hg
end Go.Proofs.YtanblgcgbncbpaaGreatDoor

/- Parse of a search's text that is right. -/
namespace Go.Proofs.YtanblgcgbncbpaaGreatDoor
set_option linter.unusedVariables false
set_option linter.unusedSimpArgs false
open Go.RowKit
/-- strings.IndexAny of the rests of a text. -/
def IxP (s : Str) : Prop := ∀ (W : World) (a : Nat), a ≤ s.length → Calls Tryz.prog 117 #[.string ⟨(s.drop a).toArray⟩, .string ⟨#[32, 10, 40, 41, 34]⟩] W (fun e w' => e = .returned (.int .i64 (Lib.indexAny (s.drop a) [32, 10, 40, 41, 34])) ∧ Pure W w')
def ParP (w : World) (q : Qry) (e : Ending) (w' : World) : Prop := ∃ qr : QR, e = .returned (.tuple #[qA qr, .int .i64 0, .int .i64 0]) ∧ qr.key = q ∧ QS w' qr ∧ Pure w w'
set_option maxRecDepth 100000 in
set_option maxHeartbeats 8000000 in
theorem parseOk_calls (w : World) (s : Str) (q : Qry) (l : List Tk) (hs : s.length ≤ 200000) (hM : MlnS w) (hI : IxP s) (hp : pOr ((toksQ s 0).length + 1) (toksQ s 0) = .inr (q, l)) (hl : kdL l = 0) (hc : checkQ q = 0) (hq : QB 1000 q) : Calls Tryz.prog 46 #[.string ⟨s.toArray⟩] w (ParP w q) := by
 have hz : (⟨s.toArray⟩ : ByteArray).size = s.length := by simp [ByteArray.size]
 have HP := Lib.hid hp
 have HL := Lib.hid hl
 have HC := Lib.hid hc
 have HQB := Lib.hid hq
 have hmA : Pure w ((w.alloc (.cells #[.int .i64 0, .slice none 0 0, .int .i64 0, .slice none 0 0] 44)).alloc (.cells #[.string ⟨s.toArray⟩, .int .i64 0, .int .i64 0, .int .i64 0, .int .i64 0, .slice none 0 0, .int .i64 0, .slice none 0 0] 109)) := ((Mod.refl _ _).alloc _).alloc _
 have HB2 := Lib.hid ((Blk.new w 44 #[.int .i64 0, .slice none 0 0, .int .i64 0, .slice none 0 0]).alloc (.cells #[.string ⟨s.toArray⟩, .int .i64 0, .int .i64 0, .int .i64 0, .int .i64 0, .slice none 0 0, .int .i64 0, .slice none 0 0] 109))
 have HBR := Lib.hid (Blk.snd w (.cells #[.int .i64 0, .slice none 0 0, .int .i64 0, .slice none 0 0] 44) 109 #[.string ⟨s.toArray⟩, .int .i64 0, .int .i64 0, .int .i64 0, .int .i64 0, .slice none 0 0, .int .i64 0, .slice none 0 0])
 have HMA := Lib.hid hmA
 have HML : Hid (∀ W, Mod (· = w.heap.size + 1) ((w.alloc (.cells #[.int .i64 0, .slice none 0 0, .int .i64 0, .slice none 0 0] 44)).alloc (.cells #[.string ⟨s.toArray⟩, .int .i64 0, .int .i64 0, .int .i64 0, .int .i64 0, .slice none 0 0, .int .i64 0, .slice none 0 0] 109)) W → MlnS W) := Lib.hid (fun W hW => hM.pure (hmA.trans' hW (fun i hi hlt => by omega)))
 have HIX : Hid (IxA (w.heap.size + 1) ((w.alloc (.cells #[.int .i64 0, .slice none 0 0, .int .i64 0, .slice none 0 0] 44)).alloc (.cells #[.string ⟨s.toArray⟩, .int .i64 0, .int .i64 0, .int .i64 0, .int .i64 0, .slice none 0 0, .int .i64 0, .slice none 0 0] 109)) s) := Lib.hid (fun W a _ ha => hI W a ha)
 have htl := toks_len s 0
 clear hp hl hc hq hM hI hmA
 go_enter Tryz.func46, Tryz.ntmps46
 go_upto_region 4 with (fail)
 generalize ((w.alloc (.cells #[.int .i64 0, .slice none 0 0, .int .i64 0, .slice none 0 0] 44)).alloc (.cells #[.string ⟨s.toArray⟩, .int .i64 0, .int .i64 0, .int .i64 0, .int .i64 0, .slice none 0 0, .int .i64 0, .slice none 0 0] 109)) = w1 at *
 obtain ⟨b2, hb2e⟩ : ∃ b2, w.heap.size = b2 := ⟨_, rfl⟩
 rw [hb2e] at HB2 HBR HML HIX
 try simp only [hb2e]
 obtain ⟨g, hge⟩ : ∃ g, b2 + 1 = g := ⟨_, rfl⟩
 rw [hge] at HBR HML HIX
 try simp only [hge]
 have hb2l : w.heap.size ≤ b2 := by omega
 have hbg : b2 < g := by omega
 clear hb2e hge
 have hgr := HBR.out.lt
 have HN := Lib.hid (nxC_of (g := g) hs HML.out HIX.out)
 have HO := Lib.hid (or_calls w1 g s HN.out hgr ((toksQ s 0).length + 1) (by omega))
 have HNX := Lib.hid (nextR_calls w1 s 0 0 0 0 0 (.slice none 0 0) (.slice none 0 0) g hs (Nat.zero_le _) HML.out HIX.out HBR.out)
 go_wp2_with fail
 refine HNX.out.mono ?_
 intro e w3 h
 obtain ⟨rfl, hR3, hm3⟩ := h.rds (Nat.zero_le _)
 have HB3 := Lib.hid (HB2.out.modb hm3 (by omega))
 have HM3 := Lib.hid hm3
 have HOX := Lib.hid (HO.out w3 (toksQ s 0) hm3 hR3 (Nat.le_refl _))
 clear h hR3 hm3 HNX HO HB2
 go_wp2_with fail
 refine HOX.out.mono ?_
 rintro e w4 ⟨qr2, bt, l2, rfl, hR4, hm4, h0, h1⟩
 obtain ⟨k2, A2, c2, ws2, n2, B2, d2, xs2⟩ := qr2
 simp only [qA_mk]
 cases bt
 ·exact absurd (h0 rfl) (by rw [HP.out]; intro h; cases h)
 ·obtain ⟨a1, a2, a3⟩ := h1 rfl
  rw [HP.out] at a1
  injection a1 with a1
  injection a1 with a1 a4
  subst a4
  have HK := Lib.hid a1.symm
  have hb2r := HB3.out.lt
  have hs4 := hm4.size
  have hs3 := HM3.out.size
  have hmC : Pure w4 (w4.alloc (.cells #[.int .i64 k2, .slice A2 ws2.length c2, .int .i64 n2, .slice B2 xs2.length d2] 44)) := (Mod.refl _ _).alloc _
  have HB5 := Lib.hid ((HB3.out.modb hm4 (by omega)).alloc (.cells #[.int .i64 k2, .slice A2 ws2.length c2, .int .i64 n2, .slice B2 xs2.length d2] 44))
  have HB6 := Lib.hid (Blk.new w4 44 #[.int .i64 k2, .slice A2 ws2.length c2, .int .i64 n2, .slice B2 xs2.length d2])
  have HR5 := Lib.hid (RdrS.pure hR4 hmC)
  have HM5 : Hid (Pure w (w4.alloc (.cells #[.int .i64 k2, .slice A2 ws2.length c2, .int .i64 n2, .slice B2 xs2.length d2] 44))) := Lib.hid (((HMA.out.trans' HM3.out (fun i hi hlt => by omega)).trans' hm4 (fun i hi hlt => by omega)).trans hmC)
  have HQ5 := Lib.hid (a2.pure hmC)
  have HQN : Hid (QN (· = b2) (QR.mk k2 A2 c2 ws2 n2 B2 d2 xs2)) := Lib.hid (QN.old a3 (fun k hk => by omega))
  clear h0 h1 hR4 hm4 a1 a2 a3 hmC HB3 HM3 HMA HOX
  go_upto_region 6 with (fail)
  generalize (w4.alloc (.cells #[.int .i64 k2, .slice A2 ws2.length c2, .int .i64 n2, .slice B2 xs2.length d2] 44)) = w5 at *
  obtain ⟨b6, hb6⟩ : ∃ b6, w4.heap.size = b6 := ⟨_, rfl⟩
  rw [hb6] at HB6
  try simp only [hb6]
  have hb6l : w4.heap.size ≤ b6 := by omega
  clear hb6
  obtain ⟨p5, qr5, t5, l5, rfl, hB7, hp5, hQ5, hk5, ha5, _, _⟩ := HR5.out
  obtain ⟨k5, A5, c5, ws5, n5, B5, d5, xs5⟩ := qr5
  have hk0 : t5.kind = 0 := HL.out
  have hBr := hB7
  unfold rdC at hBr
  simp [qC] at hBr
  rw [hk0] at hBr
  have u0 := hBr.cell 0; have u1 := hBr.cell 1; have u2 := hBr.cell 2; have u3 := hBr.cell 3; have u4 := hBr.cell 4; have u5 := hBr.cell 5; have u6 := hBr.cell 6; have u7 := hBr.cell 7; simp at u0 u1 u2 u3 u4 u5 u6 u7
  have h6 := HB6.out
  have y0 := h6.cell 0; have y1 := h6.cell 1; have y2 := h6.cell 2; have y3 := h6.cell 3; simp at y0 y1 y2 y3
  clear hBr hQ5 hk5 ha5 hB7 h6 hk0 HL
  have HCK := Lib.hid (fun W (h : QS W (QR.mk k2 A2 c2 ws2 n2 B2 d2 xs2)) => qcheck_calls W (.mk k2 A2 c2 ws2 n2 B2 d2 xs2) h (by rw [HK.out]; exact HQB.out))
  rw [HK.out, HC.out] at HCK
  simp only [qA_mk] at HCK
  go_wp2_with fail
  refine (HCK.out _ HQ5.out).mono ?_
  rintro e w7 ⟨rfl, hm7⟩
  have HB8 := Lib.hid (HB5.out.modp hm7)
  have HQ8 := Lib.hid (HQ5.out.pure hm7)
  have HM8 := Lib.hid (HM5.out.trans hm7)
  have h6 := HB6.out.modp hm7
  have h5 := HB8.out
  clear u0 u1 u2 u3 u4 u5 u6 u7 y0 y1 y2 y3
  have y0 := h6.cell 0; have y1 := h6.cell 1; have y2 := h6.cell 2; have y3 := h6.cell 3; simp at y0 y1 y2 y3
  have x0 := h5.cell 0; have xf0 := h5.frozen 0; have x1 := h5.cell 1; have xf1 := h5.frozen 1; have x2 := h5.cell 2; have xf2 := h5.frozen 2; have x3 := h5.cell 3; have xf3 := h5.frozen 3; simp at x0 x1 x2 x3
  clear h5 h6 hm7 HCK HB5 HQ5 HM5
  go_wp2_with fail
  have h4F := st4_blk HB8.out (a := .int .i64 k2) (b := .slice A2 ws2.length c2) (c := .int .i64 n2) (d := .slice B2 xs2.length d2)
  have z0 := h4F.cell 0; have z1 := h4F.cell 1; have z2 := h4F.cell 2; have z3 := h4F.cell 3; simp at z0 z1 z2 z3
  try simp only [Exit.inBlock, Exit.then]
  refine bodyPost_ret (v := .tuple #[.agg #[.int .i64 k2, .slice A2 ws2.length c2, .int .i64 n2, .slice B2 xs2.length d2], .int .i64 0, .int .i64 0]) (by simp [results, Tryz.results46, go_sem, z0, z1, z2, z3]) rfl ?_
  have hst : Mod (· = b2) w7 ((((w7.setCell ⟨b2, 0, none⟩ (.int .i64 k2)).setCell ⟨b2, 1, none⟩ (.slice A2 ws2.length c2)).setCell ⟨b2, 2, none⟩ (.int .i64 n2)).setCell ⟨b2, 3, none⟩ (.slice B2 xs2.length d2)) := st4_mod
  exact ⟨.mk k2 A2 c2 ws2 n2 B2 d2 xs2, rfl, HK.out, HQ8.out.box HB8.out HQN.out hst, HM8.out.trans' hst (fun i hi hlt => by omega)⟩
end Go.Proofs.YtanblgcgbncbpaaGreatDoor

/-
 DERIVED: THE SHELF's CONTRACTS AT THIS DUMP, IN PLAIN WORDS (tools/lay-plain.mjs out of 'YtanblgcgbncbpaaGreatDoorLayAny.lean', which tools/lay-shelf.mjs wrote): THE SAME DECLARATIONS UNDER THE SAME NAMES: 'import', 'namespace', 'open', 'def', 'theorem' AND NOTHING ELSE: no command of the shelf's: FOR A HAND-IN. Each laying: the table of numbers ('.._ren') and one theorem, a field a fact of the dump's own or the kernel's comparison; each contract: ONE APPLICATION.
-/
namespace Go.Proofs
open Go.Shelf
def Tryz.lays153_ren : Go.Shelf.Ren := ⟨fun | 153 => 117 | 152 => 154 | 226 => 155 | 227 => 156 | 228 => 157 | 137 => 77 | 119 => 184 | 224 => 185 | 225 => 186 | 217 => 114 | 266 => 151 | n => n, fun | 9 => 9 | 3 => 3 | 4 => 4 | 5 => 5 | 21 => 21 | 117 => 175 | 116 => 174 | 0 => 0 | 46 => 81 | 124 => 200 | n => n, fun | n => n⟩
theorem Tryz.lays153 : Go.Proofs.Lays.n153 Tryz.prog Tryz.lays153_ren := {
 mixed := by kernel_rfl
 f119 := Tryz.func184.trans (congrArg some (by kernel_rfl))
 f137 := Tryz.func77.trans (congrArg some (by kernel_rfl))
 f152 := Tryz.func154.trans (congrArg some (by kernel_rfl))
 f153 := Tryz.func117.trans (congrArg some (by kernel_rfl))
 f217 := Tryz.func114.trans (congrArg some (by kernel_rfl))
 f224 := Tryz.func185.trans (congrArg some (by kernel_rfl))
 f225 := Tryz.func186.trans (congrArg some (by kernel_rfl))
 f226 := Tryz.func155.trans (congrArg some (by kernel_rfl))
 f227 := Tryz.func156.trans (congrArg some (by kernel_rfl))
 f228 := Tryz.func157.trans (congrArg some (by kernel_rfl))
 f266 := Tryz.func151.trans (congrArg some (by kernel_rfl))
 t0 := Tryz.underlying0
 a0 := Tryz.isAgg0
 z0 := Tryz.sizeOf0
 v0 := Tryz.zeroValue0
 t3 := Tryz.underlying3
 a3 := Tryz.isAgg3
 z3 := Tryz.sizeOf3
 v3 := Tryz.zeroValue3
 t4 := Tryz.underlying4
 a4 := Tryz.isAgg4
 z4 := Tryz.sizeOf4
 v4 := Tryz.zeroValue4
 t5 := Tryz.underlying5
 a5 := Tryz.isAgg5
 z5 := Tryz.sizeOf5
 v5 := Tryz.zeroValue5
 t9 := Tryz.underlying9
 a9 := Tryz.isAgg9
 z9 := Tryz.sizeOf9
 v9 := Tryz.zeroValue9
 t21 := Tryz.underlying21
 a21 := Tryz.isAgg21
 z21 := Tryz.sizeOf21
 v21 := Tryz.zeroValue21
 t46 := Tryz.underlying81
 a46 := Tryz.isAgg81
 z46 := Tryz.sizeOf81
 v46 := Tryz.zeroValue81
 t116 := Tryz.underlying174
 a116 := Tryz.isAgg174
 z116 := Tryz.sizeOf174
 t117 := Tryz.underlying175
 a117 := Tryz.isAgg175
 z117 := Tryz.sizeOf175
 v117 := Tryz.zeroValue175
 t124 := Tryz.underlying200
 a124 := Tryz.isAgg200
 z124 := Tryz.sizeOf200
 v124 := Tryz.zeroValue200 }
end Go.Proofs

/- asks (chaselaw2/queries.go): package query reads and finds. -/
namespace Go.Proofs.YtanblgcgbncbpaaGreatDoor
set_option linter.unusedVariables false
set_option linter.unusedSimpArgs false
open Go.RowKit
def askTx : Str := [100, 101, 97, 108, 32, 119, 47, 49, 32, 102, 114, 105, 100, 97, 121]
def askD : Str := [100, 101, 97, 108]
def askF : Str := [102, 114, 105, 100, 97, 121]
def askQy : Qry := .mk 4 [] 1 [.mk 2 [askD] 0 [], .mk 2 [askF] 0 []]
def askIt : Itm := ⟨[97], [98], 1, [], 0, [], [102, 114, 105, 100, 97, 121, 44, 32, 100, 101, 97, 108, 10]⟩
theorem ask_toks : toksQ askTx 0 = [⟨3, 0, .mk 2 [askD] 0 []⟩, ⟨7, 5, .mk 4 [] 1 []⟩, ⟨3, 9, .mk 2 [askF] 0 []⟩, ⟨0, 15, q0⟩] := by kernel_rfl
theorem ask_or : pOr ((toksQ askTx 0).length + 1) (toksQ askTx 0) = .inr (askQy, [⟨0, 15, q0⟩]) := by
 rw [ask_toks]
 rfl
theorem ask_check : checkQ askQy = 0 := by
 have h1 : qFit askQy 0 0 0 = true := by
  unfold askQy qFit
  simp [qSize, qDeep, qNear, nearK]
 unfold checkQ
 rw [if_pos h1]
 unfold askQy
 rw [fltQ]
 have e1 : fltQ 100 (mustQ false 4) (.mk 2 [askD] 0 []) = 0 := by rw [fltQ]; rfl
 have e2 : fltQ 100 (mustQ false 4) (.mk 2 [askF] 0 []) = 0 := by rw [fltQ]; rfl
 rw [show ([Qry.mk 2 [askD] 0 [], .mk 2 [askF] 0 []] : List Qry).map (fltQ 100 (mustQ false 4)) = [fltQ 100 (mustQ false 4) (.mk 2 [askD] 0 []), fltQ 100 (mustQ false 4) (.mk 2 [askF] 0 [])] from rfl, e1, e2]
 rfl
theorem ask_qb : QB 1000 askQy := by
 refine .mk (by decide) (by decide) (by decide) (by decide) (by decide) (by simp) (by decide) (fun a ha => ?_)
 simp at ha
 rcases ha with rfl | rfl
 ·exact .mk (by decide) (by decide) (by decide) (by decide) (by decide) (by simp [askD]) (by decide) (fun a ha => by cases ha)
 ·exact .mk (by decide) (by decide) (by decide) (by decide) (by decide) (by simp [askF]) (by decide) (fun a ha => by cases ha)
theorem ask_words : wordsQ askIt.text = [((0, 6), askF), ((8, 12), askD)] := by kernel_rfl
theorem ask_item : itemE askIt = 0 := by kernel_rfl
theorem ask_some : somePl (plcQ (wsQ (wordsQ askIt.text)) askQy) (wordsQ askIt.text).length = true := by
 rw [ask_words]
 unfold askQy
 rw [plc_near, plc_word (.inl rfl), plc_word (.inl rfl)]
 rfl
theorem ask_ix : IxP askTx := by
 intro W a _
 have h116 : (Tryz.prog.info? (Tryz.lays153_ren.t 116)).map (fun i => (i.zero, i.size)) = some (some (.agg (Array.replicate 256 (.bool false))), 256) := by kernel_rfl
 refine (Any.strings_IndexAny_laid Tryz.lays153 h116 ⟨(askTx.drop a).toArray⟩ ⟨#[32, 10, 40, 41, 34]⟩ W ?_ (by decide) ?_ ?_).mono ?_
 ·have h : askTx.length = 15 := rfl
  simp [ByteArray.size]
  omega
 ·intro j b hb
  have hm : b ∈ askTx := List.mem_of_mem_drop (List.mem_of_getElem? hb)
  have hall : askTx.all (fun c => decide (c.toNat < 128)) = true := by decide
  simpa using List.all_eq_true.1 hall b hm
 ·intro j b hb
  have hm : b ∈ ([32, 10, 40, 41, 34] : Str) := List.mem_of_getElem? hb
  have hall : ([32, 10, 40, 41, 34] : Str).all (fun c => decide (c.toNat < 128)) = true := by decide
  simpa using List.all_eq_true.1 hall b hm
 ·rintro e w' ⟨rfl, h⟩
  exact ⟨rfl, Mod.of_below h⟩

theorem leaf_of {a : QR} {p : Str} (h : a.key = .mk 2 [p] 0 []) : ∃ A c B d, a = .mk 2 A c [p] 0 B d [] := by
 obtain ⟨k, A, c, ws, n, B, d, xs⟩ := a
 rw [QR.key_mk] at h
 injection h with h1 h2 h3 h4
 subst h1 h2 h3
 have h5 : xs = [] := List.map_eq_nil_iff.1 h4
 subst h5
 exact ⟨A, c, B, d, rfl⟩
set_option maxRecDepth 100000 in
set_option maxHeartbeats 4000000 in
theorem asks_calls (w : World) (hE : Env w) : Calls Tryz.prog 20 #[] w (BoolPost w true) := by
 have HP := Lib.hid (parseOk_calls w askTx askQy [⟨0, 15, q0⟩] (by decide) hE.2 ask_ix ask_or rfl ask_check ask_qb)
 have HE := Lib.hid hE
 clear hE
 go_enter Tryz.func20, Tryz.ntmps20
 go_wp2_with fail
 refine HP.out.mono ?_
 rintro e w1 ⟨qr, rfl, hk, hQ, hm⟩
 obtain ⟨k, A, c, ws, n, B, d, xs⟩ := qr
 have hk0 := hk
 rw [QR.key_mk] at hk
 injection hk with e1 e2 e3 e4
 subst e1 e2 e3
 obtain ⟨a1, r1, rfl, g1, g2⟩ := List.map_eq_cons_iff.1 e4
 obtain ⟨a2, r2, rfl, g3, g4⟩ := List.map_eq_cons_iff.1 g2
 have hr2 : r2 = [] := List.map_eq_nil_iff.1 g4
 subst hr2
 have hq1 := hQ.allH a1 (by simp)
 have hq2 := hQ.allH a2 (by simp)
 obtain ⟨A1, c1, B1, d1, rfl⟩ := leaf_of g1
 obtain ⟨A2, c2, B2, d2, rfl⟩ := leaf_of g3
 simp only [qA_mk]
 have hmA : Pure w1 (w1.alloc (.cells #[.int .i64 4, .slice A 0 c, .int .i64 1, .slice B 2 d] 44)) := (Mod.refl _ _).alloc _
 have HMX := Lib.hid (matches4_calls (w1.alloc (.cells #[.int .i64 4, .slice A 0 c, .int .i64 1, .slice B 2 d] 44)) askIt A B c d 1 [] [.mk 2 A1 c1 [askD] 0 B1 d1 [], .mk 2 A2 c2 [askF] 0 B2 d2 []] (plcQ (wsQ (wordsQ askIt.text)) askQy) (by unfold ItL askIt; simp) (HE.out.pure (hm.trans hmA)) ask_item (hQ.pure hmA) (by rw [hk0]; exact ask_qb) (by rw [hk0]; exact ask_check) (by rw [ask_words]; decide)
  (fun W' Aw nw cw hW hw => by
   have hwl : ∀ x ∈ wordsQ askIt.text, x.2.length ≤ 1000000 := by rw [ask_words]; simp [askF, askD]
   have hW2 : (wordsQ askIt.text).length ≤ 1000 := by rw [ask_words]; decide
   have h := placesN_calls W' (.slice Aw nw cw) (wordsQ askIt.text) 1 A B c d [] (.mk 2 A1 c1 [askD] 0 B1 d1 []) (.mk 2 A2 c2 [askF] 0 B2 d2 []) ((hQ.pure hmA).pure hW) hW2 (by decide) (by decide)
    (fun W2 h2 => placesW_calls W2 _ _ 2 0 A1 B1 c1 d1 [askD] [] (.inl rfl) (((hq1.pure hmA).pure hW).pure h2) (hw.pure h2) (by decide) (by decide) (by simp [askD]) hW2 hwl)
    (fun W2 h2 => placesW_calls W2 _ _ 2 0 A2 B2 c2 d2 [askF] [] (.inl rfl) (((hq2.pure hmA).pure hW).pure h2) (hw.pure h2) (by decide) (by decide) (by simp [askF]) hW2 hwl)
   rw [hk0] at h
   exact h))
 rw [ask_some] at HMX
 have HM := Lib.hid (hm.trans hmA)
 have hb := Blk.new w1 44 #[.int .i64 4, .slice A 0 c, .int .i64 1, .slice B 2 d]
 have x0 := hb.cell 0; have x1 := hb.cell 1; have x2 := hb.cell 2; have x3 := hb.cell 3; simp at x0 x1 x2 x3
 simp only [qA_mk] at HMX
 unfold itA askIt at HMX
 clear hk0 hQ hm e4 g1 g2 g3 g4 hq1 hq2 hmA hb HP
 go_wp2_with fail
 refine HMX.out.mono ?_
 rintro e w3 ⟨rfl, hm3⟩
 go_wp2_with fail
 go_ret
 exact ⟨rfl, HM.out.trans hm3⟩

end Go.Proofs.YtanblgcgbncbpaaGreatDoor

/-
 DERIVED: THE SHELF's CONTRACTS AT THIS DUMP, IN PLAIN WORDS (tools/lay-plain.mjs out of 'YtanblgcgbncbpaaGreatDoorLayK.lean', which tools/lay-shelf.mjs wrote): THE SAME DECLARATIONS UNDER THE SAME NAMES: 'import', 'namespace', 'open', 'def', 'theorem' AND NOTHING ELSE: no command of the shelf's: FOR A HAND-IN. Each laying: the table of numbers ('.._ren') and one theorem, a field a fact of the dump's own or the kernel's comparison; each contract: ONE APPLICATION.
-/
namespace Go.Proofs
open Go.Shelf
end Go.Proofs

/- Rows of items: ==, slices.Equal. -/
namespace Go.Proofs.YtanblgcgbncbpaaGreatDoor
set_option linter.unusedVariables false
set_option linter.unusedSimpArgs false
open Go.RowKit Go.Shelf
attribute [local go_sem ↓] Go.wp_at_zero Go.wp_at_succ

section
variable {α : Type} {enc : α → List Value} {k : Nat}
variable [Inhabited α]
theorem flatK_at (hk : ∀ x, (enc x).length = k) (h0 : 0 < k) : ∀ (xs : List α) (t : Nat), t < xs.length * k → (xs.flatMap enc)[t]? = some (enc xs[t / k]!)[t % k]!
 | [], t, h => by simp at h
 | x :: xs, t, h => by
  rw [List.flatMap_cons]
  by_cases ht : t < k
  ·rw [List.getElem?_append_left (by rw [hk]; exact ht), Nat.div_eq_of_lt ht, Nat.mod_eq_of_lt ht]
   have : t < (enc x).length := by rw [hk]; exact ht
   simp [this]
  ·obtain ⟨s, rfl⟩ : ∃ s, t = s + k := ⟨t - k, by omega⟩
   rw [List.getElem?_append_right (by rw [hk]; omega), hk, Nat.add_sub_cancel, Nat.add_div_right _ h0, Nat.add_mod_right]
   have hs : s < xs.length * k := by rw [List.length_cons, Nat.add_mul] at h; omega
   rw [flatK_at hk h0 xs s hs]
   simp
end
instance : Inhabited Itm := ⟨⟨[], [], 0, [], 0, [], []⟩⟩

end Go.Proofs.YtanblgcgbncbpaaGreatDoor

/- Rows of words: ==, slices.Equal. -/
namespace Go.Proofs.YtanblgcgbncbpaaGreatDoor
set_option linter.unusedVariables false
set_option linter.unusedSimpArgs false
open Go.RowKit Go.Shelf
attribute [local go_sem ↓] Go.wp_at_zero Go.wp_at_succ
structure WdS where
 fr : Int
 tw : Int
 wd : Str
instance : Inhabited WdS := ⟨⟨0, 0, []⟩⟩
def wdsC (x : WdS) : List Value := [.int .i64 x.fr, .int .i64 x.tw, .string ⟨x.wd.toArray⟩]
def wdsA (x : WdS) : Value := .agg #[.int .i64 x.fr, .int .i64 x.tw, .string ⟨x.wd.toArray⟩]
def wdsV (l : List WdS) : List Value := l.flatMap wdsC
theorem wdsV_len : ∀ l : List WdS, (wdsV l).length = l.length * 3
 | [] => rfl
 | x :: t => by
  show (wdsC x ++ wdsV t).length = _
  rw [List.length_append, wdsV_len t]
  simp [wdsC]
  omega
def wdsEq (x y : WdS) : Bool := decide (x.fr = y.fr) && (decide (x.tw = y.tw) && (x.wd == y.wd))
theorem wdsEq_refl (x : WdS) : wdsEq x x = true := by simp [wdsEq]
theorem eqTypeWrd : Tryz.prog.stoodInHeld 36 = false := by kernel_rfl
theorem eqGuardTWrd : Tryz.prog.eqGuardType Tryz.prog.depth 36 = false := by kernel_rfl
theorem eqStructWrd : Tryz.prog.underlying 36 = some (.struct (Tryz.prog.fieldsOf 36)) := by kernel_rfl
theorem eqTypeSpn : Tryz.prog.stoodInHeld 34 = false := by kernel_rfl
theorem eqStructSpn : Tryz.prog.underlying 34 = some (.struct (Tryz.prog.fieldsOf 34)) := by kernel_rfl
set_option maxRecDepth 100000 in
set_option maxHeartbeats 2000000 in
theorem eqInSpn (a b c d : Int) (w : World) : Sem.run Tryz.prog (Op.equalIn 9999 34 (.agg #[.int .i64 a, .int .i64 b]) (.agg #[.int .i64 c, .int .i64 d])) w = .ok (decide (a = c) && decide (b = d)) w := by
 have ui := Tryz.underlying3
 have ai := Tryz.isAgg3
 have zi := Tryz.sizeOf3
 have hS := eqStructSpn
 rw [show (9999 : Nat) = 9998 + 1 from rfl, run_equalIn_agg w 9998 34 _ _ hS eqTypeSpn]
 simp only [Program.fieldsOf, Tryz.underlying34]
 clear hS
 go_simp
 (repeat' split) <;> simp_all
set_option maxRecDepth 100000 in
set_option maxHeartbeats 2000000 in
theorem eqInWrd (x y : WdS) (w : World) : Sem.run Tryz.prog (Op.equalIn 10000 36 (wdsA x) (wdsA y)) w = .ok (wdsEq x y) w := by
 have us := Tryz.underlying9
 have ag := Tryz.isAgg9
 have zs := Tryz.sizeOf9
 have u2 := Tryz.isAgg34
 have z2 := Tryz.sizeOf34
 have hp := eqInSpn x.fr x.tw y.fr y.tw
 have hS := eqStructWrd
 unfold wdsA wdsEq
 rw [show (10000 : Nat) = 9999 + 1 from rfl, run_equalIn_agg w 9999 36 _ _ hS eqTypeWrd]
 simp only [Program.fieldsOf, Tryz.underlying36]
 clear hS
 go_simp
 (repeat' split) <;> simp_all
theorem neqWrd (x y : WdS) (w : World) : Sem.run Tryz.prog (binOp .neq 36 (wdsA x) (wdsA y)) w = .ok (.bool (!wdsEq x y)) w := by
 have h := eqInWrd x y w
 unfold wdsA at h ⊢
 rw [run_neq_struct, h]
 rfl
theorem guardWrd (op : BinOp) (a b : Operand) (x y : WdS) (w : World) : Sem.run Tryz.prog (eqGuard op 36 a b (wdsA x) (wdsA y)) w = .ok () w :=
 run_eqGuard_agg w op 36 a b _ _ eqGuardTWrd
theorem neqAtWrd : NeqAt Tryz.prog 36 (fun x => .agg (wdsC x).toArray) wdsEq := ⟨neqWrd, guardWrd⟩

set_option maxRecDepth 100000 in
set_option maxHeartbeats 2000000 in
theorem equal0Wrd_calls (w : World) (A1 A2 : Option Addr) (c1 c2 : Nat) : Calls Tryz.prog 14 #[.slice A1 0 c1, .slice A2 0 c2] w (BoolPost w true) := by
 go_enter Tryz.func14, Tryz.ntmps14
 go_wp2_with fail
 refine wp_loop_rounds 1 ?_
 rw [rounds_succ]
 go_wp2_with fail
 go_ret
 exact BoolPost.of rfl (Mod.refl _ _)
set_option maxHeartbeats 1000000 in
theorem equalWrd_calls (w : World) (v1 v2 : Value) (xs : List WdS) (h1 : Sl w 36 3 v1 (wdsV xs)) (h2 : Sl w 36 3 v2 (wdsV xs)) : Calls Tryz.prog 14 #[v1, v2] w (BoolPost w true) := by
 obtain ⟨A1, n1, c1, rfl, a1, a2, a3, a4⟩ := h1
 obtain ⟨A2, n2, c2, rfl, b1, b2, b3, b4⟩ := h2
 rw [wdsV_len] at a3 b3
 obtain rfl : n1 = xs.length := by omega
 obtain rfl : n2 = xs.length := by omega
 by_cases h0 : xs.length = 0
 ·rw [h0]
  exact equal0Wrd_calls w A1 A2 c1 c2
 obtain ⟨g1, o1, rfl, r1⟩ := a4 (by omega)
 obtain ⟨g2, o2, rfl, r2⟩ := b4 (by omega)
 have hk : ∀ x, (wdsC x).length = 3 := fun _ => rfl
 have hr : ∀ {g o : Nat}, RowAt w 36 g o (wdsV xs) → ∀ j, j < xs.length → ∀ i v, (wdsC xs[j]!)[i]? = some v → w.cell? ⟨g, o + j * 3 + i, none⟩ = some v := fun {g o} r j hj i v hv => by
  have hi : i < 3 := by
   rw [← hk xs[j]!]
   exact (List.getElem?_eq_some_iff.1 hv).1
  have h := r.cell (i := j * 3 + i) (u := v) (by
   show (xs.flatMap wdsC)[j * 3 + i]? = some v
   rw [flatK_at hk (by omega) xs (j * 3 + i) (by omega), show (j * 3 + i) / 3 = j by omega, show (j * 3 + i) % 3 = i by omega]
   obtain ⟨h3, h4⟩ := List.getElem?_eq_some_iff.1 hv
   rw [getElem!_pos _ i h3, h4])
  rw [Nat.add_assoc]
  exact h
 refine (AnyQ.slices_Equal Tryz.eqWrd 3 Tryz.isAgg36 Tryz.sizeOf36 wdsC hk wdsEq neqAtWrd g1 o1 xs.length c1 g2 o2 xs.length c2 xs xs w (Nat.le_refl _) (Nat.le_refl _) (by omega) (by omega) (hr r1) (hr r2)).mono ?_
 rintro e w' ⟨rfl, q, rfl⟩
 rw [Lib.allEq_all wdsEq _ _ rfl (fun j _ => wdsEq_refl _)]
 exact BoolPost.of rfl ((Mod.refl _ _).drewN q)

def wdS (x : Wd) : WdS := ⟨x.1.1, x.1.2, x.2⟩
theorem wdV_S (l : List Wd) : wdV l = wdsV (l.map wdS) := by
 unfold wdV wdsV
 rw [List.flatMap_map]
 rfl
theorem equalWds_calls (w : World) (v1 v2 : Value) (l : List Wd) (h1 : Wds w v1 l) (h2 : Wds w v2 l) : Calls Tryz.prog 14 #[v1, v2] w (BoolPost w true) := by
 unfold Wds at h1 h2
 rw [wdV_S] at h1 h2
 exact equalWrd_calls w v1 v2 (l.map wdS) h1 h2

end Go.Proofs.YtanblgcgbncbpaaGreatDoor

/- Quoted strings: Unquoted of the reference. -/
namespace Go.Proofs.YtanblgcgbncbpaaGreatDoor
set_option linter.unusedVariables false
set_option linter.unusedSimpArgs false
open Go.RowKit

end Go.Proofs.YtanblgcgbncbpaaGreatDoor

/- Quoted strings: strange strings, taken. -/
namespace Go.Proofs.YtanblgcgbncbpaaGreatDoor
set_option linter.unusedVariables false
set_option linter.unusedSimpArgs false
open Go.RowKit

def oddL : List Str := [[97], [32], [34], [92], [10], [0], [127], [255], [195, 169], [92, 120], [48], [240, 159, 152, 128], [195], [98], [61]]
theorem oddL_le : ∀ i (h : i < oddL.length), oddL[i].length ≤ 4 := by
 intro i h
 have key : ∀ i : Fin 15, (oddL[i.val]'i.isLt).length ≤ 4 := by decide
 exact key ⟨i, h⟩
def StrgPost (w : World) (b N : Nat) (e : Ending) (w' : World) : Prop :=
 ∃ a : ByteArray, a.size ≤ 32 ∧ e = .returned (.string a) ∧ Strm w' b (N + 9) ∧ Mod (· = b) w w'
def StrgRel (w : World) (b N m gk : Nat) (x i : Value) (wr : World) : Prop :=
 ∃ (j : Nat) (a : ByteArray), m - j = gk ∧ j ≤ m ∧ x = .string a ∧ i = .int .i64 (j : Int) ∧ a.size ≤ 4 * j ∧ Strm wr b (N + 1 + j) ∧ Mod (· = b) w wr

set_option maxRecDepth 100000 in
set_option maxHeartbeats 4000000 in
theorem strange_calls (w : World) (b N : Nat) (hS : Strm w b N) (hN : N ≤ 100000000) : Calls Tryz.prog 9 #[.pointer (some ⟨b, 0, none⟩)] w (StrgPost w b N) := by
 go_enter Tryz.func9, Tryz.ntmps9
 go_wp2_with fail
 refine (range_calls _ b N _ _ hS (by omega) (by omega) (by omega) (by omega)).mono ?_
 rintro e w1 ⟨m, hm0, hm8, rfl, hS1, hM1⟩
 obtain ⟨m, rfl⟩ := Int.eq_ofNat_of_zero_le hm0
 have hm8' : m ≤ 8 := by omega
 clear hS hm0 hm8
 go_wp2_with fail
 go_loopg [3, 6] m (fun gk x i wr => StrgRel w b N m gk x i wr)
 case atStart => exact ⟨0, ⟨#[]⟩, rfl, by omega, rfl, rfl, by simp [ByteArray.size], hS1, hM1⟩
 case round =>
  clear hS1 hM1
  obtain ⟨j, a, rfl, hj, rfl, rfl, ha, hS1, hM1⟩ := hrel
  by_cases hlt : j < m
  ·have HS1 := Lib.hid hS1
   have hbl := hS1.lt
   clear hS1
   have HB := Lib.hid (Blk.new wr 9 (strsV oddL).toArray)
   go_wp2_with fail
   refine (next_calls _ b (N + 1 + j) _ (HS1.out.alloc _) (by omega) (by omega) (by omega)).mono ?_
   rintro e w2 ⟨i, hi0, hi1, rfl, hS2, hM2⟩
   obtain ⟨i, rfl⟩ := Int.eq_ofNat_of_zero_le hi0
   have hi : i < oddL.length := by show i < 15; omega
   have hc := (HB.out.mod hM2 (by omega)).cell i
   have hc2 : (strsV oddL).toArray[i]? = some (.string ⟨oddL[i].toArray⟩) := by simp [strsV, hi]
   rw [hc2] at hc
   have h4 : (⟨oddL[i].toArray⟩ : ByteArray).size ≤ 4 := by have := oddL_le i hi; simpa [ByteArray.size] using this
   generalize (⟨oddL[i].toArray⟩ : ByteArray) = z at hc h4
   clear hc2 HB hi
   go_wp2_with fail
   go_roundg (m - (j + 1))
   case measure => omega
   case rel =>
    refine ⟨j + 1, _, rfl, by omega, rfl, by simp, ?_, hS2, (hM1.alloc _).trans hM2⟩
    simp
    omega
  ·obtain rfl : j = m := by omega
   go_wp2_with fail
   go_ret
   exact ⟨a, by omega, rfl, hS1.more (by omega), hM1⟩

end Go.Proofs.YtanblgcgbncbpaaGreatDoor

/- Changed strings of the stream. -/
namespace Go.Proofs.YtanblgcgbncbpaaGreatDoor
set_option linter.unusedVariables false
set_option linter.unusedSimpArgs false
open Go.RowKit

def ChgPost (w : World) (b N n : Nat) (e : Ending) (w' : World) : Prop :=
 ∃ a : ByteArray, a.size ≤ n ∧ e = .returned (.string a) ∧ Strm w' b (N + 3) ∧ Mod (· = b) w w'

set_option maxRecDepth 100000 in
set_option maxHeartbeats 4000000 in
theorem changed_calls (w : World) (b N : Nat) (t wi : ByteArray) (hS : Strm w b N) (hN : N ≤ 100000000) (ht : t.size ≤ 100000) (h1 : 1 ≤ wi.size) (h2 : wi.size ≤ 1000) (h3 : ∀ i (h : i < wi.size), wi[i].toNat < 128) :
  Calls Tryz.prog 12 #[.pointer (some ⟨b, 0, none⟩), .string t, .string wi] w (ChgPost w b N (t.size + wi.size)) := by
 have hwe : wi.toList.isEmpty = false := by
  rw [ByteArray.toList_eq]
  have hh : wi.data.toList.length = wi.size := by simp
  match hl : wi.data.toList with
  | [] => rw [hl] at hh; simp at hh; omega
  | _ :: _ => rfl
 by_cases h0 : t.size = 0
 ·have hte : t = ⟨#[]⟩ := by
   apply ByteArray.ext
   exact Array.eq_empty_of_size_eq_zero h0
  subst hte
  go_enter Tryz.func12, Tryz.ntmps12
  go_wp2_with fail
  go_ret
  exact ⟨wi, by omega, rfl, hS.more (by omega), Mod.refl _ _⟩
 ·have hte : t.toList.isEmpty = false := by
   rw [ByteArray.toList_eq]
   have hh : t.data.toList.length = t.size := by simp
   match hl : t.data.toList with
   | [] => rw [hl] at hh; simp at hh; omega
   | _ :: _ => rfl
  have H3 := Lib.hid h3
  clear h3
  go_enter Tryz.func12, Tryz.ntmps12
  go_wp2_with fail
  refine (next_calls _ b N _ hS (by omega) (by omega) (by omega)).mono ?_
  rintro e w1 ⟨i, hi0, hi1, rfl, hS1, hM1⟩
  obtain ⟨i, rfl⟩ := Int.eq_ofNat_of_zero_le hi0
  have hi : i < t.size := by omega
  clear hi0 hi1 hS
  go_wp2_with fail
  refine (next_calls _ b (N + 1) _ hS1 (by omega) (by omega) (by omega)).mono ?_
  rintro e w2 ⟨j, hj0, hj1, rfl, hS2, hM2⟩
  obtain ⟨j, rfl⟩ := Int.eq_ofNat_of_zero_le hj0
  have hj : j < wi.size := by omega
  clear hj0 hj1 hS1
  have hc := H3.out j hj
  generalize hcc : wi[j].toNat = c at *
  go_wp2_with fail
  refine (next_calls _ b (N + 1 + 1) _ hS2 (by omega) (by omega) (by omega)).mono ?_
  rintro e w3 ⟨u, hu0, hu1, rfl, hS3, hM3⟩
  have HM := Lib.hid ((hM1.trans hM2).trans hM3)
  have henc := enc_ascii c hc
  have hzs : (⟨#[UInt8.ofNat c]⟩ : ByteArray).size = 1 := by simp [ByteArray.size]
  generalize (⟨#[UInt8.ofNat c]⟩ : ByteArray) = z at *
  have hx1 : (t.extract 0 i).size = i := by simp; omega
  have hx2 : (t.extract (i + 1) t.size).size = t.size - (i + 1) := by simp
  have hx3 : (t.extract i t.size).size = t.size - i := by simp
  have hwr : IntKind.i32.wrap (c : Int) = (c : Int) := by simp [IntKind.wrap, IntKind.bits, IntKind.signed]; omega
  clear H3 hS2 hM1 hM2 hM3
  by_cases hu : u = 0
  ·subst hu
   go_wp2_with fail
   go_quiet (fail)
   go_wp2_with fail
   go_ret
   exact ⟨_, by simp only [ByteArray.size_append, hx1, hx2, hzs]; omega, rfl, hS3, HM.out.drewN _⟩
  ·by_cases hu' : u = 1
   ·subst hu'
    go_wp2_with fail
    go_quiet (fail)
    go_wp2_with fail
    go_ret
    exact ⟨_, by simp only [ByteArray.size_append, hx1, hx2, hx3, hzs]; omega, rfl, hS3, HM.out.drewN _⟩
   ·obtain rfl : u = 2 := by omega
    go_wp2_with fail
    go_quiet (fail)
    go_wp2_with fail
    go_ret
    exact ⟨_, by simp only [ByteArray.size_append, hx1, hx2, hx3, hzs]; omega, rfl, hS3, HM.out.drewN _⟩

end Go.Proofs.YtanblgcgbncbpaaGreatDoor
