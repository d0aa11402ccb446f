/- Texts of the proof of QueryPrints, put together: QrB, QrK, LayVal, LayCon, VisA, TxtR, ItmE, ItlP, ItxP, IhdP, QryT, LayCln, ClnC, RdA, RdC, RdD, LayWra, LayAto, LayIto, NumW, EscA, LaySyn, EscB, UnqA, IhdW, LayCut, LnsB, QrL, QrM, QryU, QrO, LayInt, SorI, RunD. -/
import Derived.Test.YtnfflgicngeekaaGreatDoorQueryPrintsZ5
import Derived.Test.YtnfflgicngeekaaGreatDoorQueryPrintsZ9
import Derived.Test.YtnfflgicngeekaaGreatDoorQueryPrintsZ12
import Derived.Test.YtnfflgicngeekaaGreatDoorQueryPrintsZ18
import Derived.Test.YtnfflgicngeekaaGreatDoorQueryPrintsZ20
import Derived.Test.YtnfflgicngeekaaGreatDoorQueryPrintsZ21
import Derived.Test.YtnfflgicngeekaaGreatDoorQueryPrintsZ22
import Derived.Test.YtnfflgicngeekaaGreatDoorQueryPrintsZ24
import Derived.Test.YtnfflgicngeekaaGreatDoorQueryPrintsZ25
import Derived.Test.YtnfflgicngeekaaGreatDoorQueryPrintsZ27
import Derived.Test.YtnfflgicngeekaaGreatDoorQueryPrintsZ30
import Derived.Test.YtnfflgicngeekaaGreatDoorQueryPrintsZ31
import Derived.Test.YtnfflgicngeekaaGreatDoorQueryPrintsZ32
import Derived.Test.YtnfflgicngeekaaGreatDoorQueryPrintsZ33
import Derived.Test.YtnfflgicngeekaaGreatDoorQueryPrintsZ34
import Derived.Test.YtnfflgicngeekaaGreatDoorQueryPrintsZ35
import Derived.Test.YtnfflgicngeekaaGreatDoorQueryPrintsZ36
import Derived.Test.YtnfflgicngeekaaGreatDoorQueryPrintsZ37
import Derived.Deep.DeepCutAuto
import Derived.Ground.NamesProg
import Derived.Shelf.Unicode.ValidAny
import Derived.Test.YtnfflgicngeekaaGreatDoorProg
import Derived.Shelf.Strings.Search3
import Derived.Shelf.Strings.Prefix
import Derived.Lib.Join
import Derived.Lib.ItoaLen
import Derived.Ground.Names2Prog
import Derived.Shelf.Slices.Clone
import Derived.Deep.AppendLies
import Derived.Shelf.Strings.Fields
import Derived.Lib.LaidTab
import Derived.Deep.CutBlock
import Derived.Shelf.Small.Wraps
import Derived.Shelf.Strconv.Atoi
import Derived.Shelf.Strconv.Itoa3
import Derived.Lib.SmallJoins
import Derived.Lib.QuietBelow
import Derived.Lib.ConvBytes
import Derived.Shelf.Strconv.SyntaxError
import Derived.Shelf.LaysM
import Derived.Laws.BytesArg
import Derived.Shelf.Strings.Cut
import Derived.Lib.IndexAny
import Derived.Shelf.Sort.Plain
import Derived.Shelf.Slices.In.SortNone
import Derived.Shelf.Slices.CompactI
import Derived.Sort.OwnSorted
/- How large a search is: the program. -/
namespace Go.Proofs.YtnfflgicngeekaaGreatDoor
set_option linter.unusedVariables false
set_option linter.unusedSimpArgs false
open Go.RowKit

def Go2P (w : World) (gm : Nat) (q : Qry) (m d r : Nat) (e : Ending) (w' : World) : Prop := ∃ m' : Nat, e = .returned (.bool (qFit q m d r)) ∧ (qFit q m d r = true → m' = m + qSize q) ∧ m' ≤ 101 ∧ Blk w' gm 3 #[.int .i64 (m' : Int)] ∧ Mod (· = gm) w w'
/-- What the loop over the searches within keeps. -/
def Go2R (w : World) (gm m d r : Nat) (ks : List Qry) (gk : Nat) (i : Value) (wr : World) : Prop :=
 ∃ j : Nat, ks.length - j = gk ∧ j ≤ ks.length ∧ i = .int .i64 (j : Int) ∧ m + qSum ks j ≤ 100 ∧ (∀ t (ht : t < ks.length), t < j → qFit ks[t] (m + qSum ks t) d r = true) ∧ Blk wr gm 3 #[.int .i64 ((m + qSum ks j : Nat) : Int)] ∧ Mod (· = gm) w wr
theorem QR.ex (q : QR) : ∃ k A c ws n B d xs, q = .mk k A c ws n B d xs := by cases q; exact ⟨_, _, _, _, _, _, _, _, rfl⟩
theorem Sl.ofGm {w w' : World} {gm : Nat} {cs : Array Value} {v : Value} {e : TypeId} {size : Nat} {xs : List Value} (h : Sl w e size v xs) (hm : Mod (· = gm) w w') (hB : Blk w gm 3 cs) (hne : e ≠ 3) : Sl w' e size v xs :=
 Sl.mod h hm (fun g arr fr hg he => by
  subst he
  unfold Blk at hB
  rw [hB] at hg
  injection hg with hg
  injection hg with _ hg
  exact hne hg.symm)
theorem QS.ofGm {w w' : World} {gm : Nat} {cs : Array Value} {q : QR} (h : QS w q) (hm : Mod (· = gm) w w') (hB : Blk w gm 3 cs) : QS w' q := by
 induction h with
 | mk hw ha hs ih => exact .mk (hw.ofGm hm hB (by decide)) (ha.ofGm hm hB (by decide)) ih
theorem blk_other {w : World} {g h : Nat} {t u : TypeId} {a b : Array Value} (h1 : Blk w g t a) (h2 : Blk w h u b) (hne : t ≠ u) : g ≠ h := fun e => by
 subst e
 unfold Blk at h1 h2
 rw [h1] at h2
 injection h2 with h2
 injection h2 with _ h2
 exact hne h2

set_option maxRecDepth 100000 in
set_option maxHeartbeats 8000000 in
theorem go2_calls : ∀ (qr : QR) (w : World) (m d r gm gf : Nat), QS w qr → QB 1000 qr.key → Blk w gm 3 #[.int .i64 (m : Int)] → Blk w gf 204 #[.func (.func 175) #[] #[.pointer (some ⟨gm, 0, none⟩), .pointer (some ⟨gf, 0, none⟩)]] → m ≤ 100 → d ≤ 12 → r ≤ 3 →
  Calls Tryz.prog 175 #[qA qr, .int .i64 ((d : Int) + 1), .int .i64 (r : Int), .pointer (some ⟨gm, 0, none⟩), .pointer (some ⟨gf, 0, none⟩)] w (Go2P w gm qr.key m d r) := by
 refine QR.ind (fun k A c ws n B dd xs ih => ?_)
 intro w m d r gm gf hQ hB hM hF hm hd hr
 have HIH := Lib.hid ih
 rw [QR.key_mk] at hB ⊢
 have HQ := Lib.hid hQ
 have hql := hB.xsH
 have HQB := Lib.hid hB.allH
 rw [List.length_map] at hql
 have hgg := blk_other hM hF (by decide)
 have hgm := hM.lt
 have hgf := hF.lt
 have HQX := Lib.hid hQ.xsH
 have hB0 := Blk.new w 29 #[.int .i64 k, .slice A ws.length c, .int .i64 n, .slice B xs.length dd]
 have hP0 := pure_alloc w (.cells #[.int .i64 k, .slice A ws.length c, .int .i64 n, .slice B xs.length dd] 29)
 have hM1 := hM.alloc (.cells #[.int .i64 k, .slice A ws.length c, .int .i64 n, .slice B xs.length dd] 29)
 have hF1 := hF.alloc (.cells #[.int .i64 k, .slice A ws.length c, .int .i64 n, .slice B xs.length dd] 29)
 have HNK := Lib.hid (fun W => nears_calls W k n A B ws.length c xs.length dd)
 obtain ⟨nk, hnk⟩ : ∃ nk, nearK k = nk := ⟨_, rfl⟩
 rw [hnk] at HNK
 have HKN := Lib.hid hnk
 show Calls Tryz.prog 175 #[.agg #[.int .i64 k, .slice A ws.length c, .int .i64 n, .slice B xs.length dd], .int .i64 ((d : Int) + 1), .int .i64 (r : Int), .pointer (some ⟨gm, 0, none⟩), .pointer (some ⟨gf, 0, none⟩)] w (Go2P w gm _ m d r)
 have hBM := hM
 clear hQ hB hM hF ih hnk
 go_enter Tryz.func175, Tryz.ntmps175
 go_upto_region 1 with (fail)
 generalize (w.alloc (.cells #[.int .i64 k, .slice A ws.length c, .int .i64 n, .slice B xs.length dd] 29)) = w1 at *
 have hgw := Nat.le_refl w.heap.size
 generalize hg0 : w.heap.size = g0 at *
 have hwg : w.heap.size ≤ g0 := Nat.le_of_eq hg0
 clear hg0 hgw
 have hB1 := hB0.far (p := ⟨gm, 0, none⟩) (by show g0 ≠ gm; omega) (.int .i64 ((m : Int) + 1))
 have hF2 := hF1.far (p := ⟨gm, 0, none⟩) (by show gf ≠ gm; omega) (.int .i64 ((m : Int) + 1))
 have hM2 := hM1.set 0 (.int .i64 ((m : Int) + 1))
 have hm2 : Mod (· = gm) w (w1.setCell ⟨gm, 0, none⟩ (.int .i64 ((m : Int) + 1))) := ((Mod.of_pure hP0 : Mod (· = gm) w w1)).setCell (.inl rfl) _
 have HB1 := Lib.hid hB1
 have HF2 := Lib.hid hF2
 have HM2 : Hid (Blk (w1.setCell ⟨gm, 0, none⟩ (.int .i64 ((m : Int) + 1))) gm 3 #[.int .i64 ((m + 1 : Nat) : Int)]) := Lib.hid (by simpa using hM2)
 have HMM := Lib.hid hm2
 have x0 := hM1.cell 0; have xf0 := hM1.frozen 0; simp at x0
 clear hB0 hF1 hM1 hB1 hF2 hM2 hm2 hP0
 go_upto_region 2 with (fail)
 generalize (w1.setCell ⟨gm, 0, none⟩ (.int .i64 ((m : Int) + 1))) = w2 at *
 clear x0
 have hb2 := HB1.out
 have x0 := hb2.cell 0; have x1 := hb2.cell 1; have x2 := hb2.cell 2; have x3 := hb2.cell 3; simp at x0 x1 x2 x3
 clear hb2
 go_wp2_with fail
 refine (HNK.out w2).mono ?_
 rintro e w3 ⟨rfl, hm3⟩
 have HB3 := Lib.hid (HB1.out.modp hm3)
 have HF3 := Lib.hid (HF2.out.modp hm3)
 have HM3 := Lib.hid (HM2.out.modp hm3)
 have HMD : Hid (Mod (· = gm) w w3) := Lib.hid (HMM.out.trans (Mod.of_pure hm3))
 have HBM := Lib.hid hBM
 clear x1 x2 x3 hm3 HNK HB1 HF2 HM2 HMM hBM
 obtain ⟨rn, hrn⟩ : ∃ rn : Nat, r + (if nk = true then 1 else 0) = rn := ⟨_, rfl⟩
 have HRN : Hid (r + (if nearK k = true then 1 else 0) = rn) := Lib.hid (by rw [HKN.out]; exact hrn)
 have hrn4 : rn ≤ 4 := by rw [← hrn]; split <;> omega
 go_upto_if 14 with (fail)
 go_cut [2] from 15 to 16 (fun v wx => v = .int .i64 (rn : Int) ∧ w3 = wx)
 case first =>
  cases nk
  ·obtain rfl : r = rn := by simpa using hrn
   clear hrn
   go_wp2_with fail
   go_meet
   exact ⟨rfl, rfl⟩
  ·have e : rn = r + 1 := by rw [← hrn]; rfl
   subst e
   clear hrn
   go_wp2_with fail
   go_meet
   exact ⟨by simp, rfl⟩
 case rest =>
  obtain ⟨rfl, rfl⟩ := hcut
  clear hrn HKN
  obtain ⟨bad, hbad⟩ : ∃ bad, decide (100 < m + 1 ∨ 12 < d + 1 ∨ 3 < rn) = bad := ⟨_, rfl⟩
  have HBD := Lib.hid hbad
  clear hbad
  have hm3 := HM3.out
  have z0 := hm3.cell 0; simp at z0
  clear hm3
  go_upto_region 4 with (fail)
  go_cut [26] from 17 to 25 (fun p wx => p = .bool bad ∧ w3 = wx)
  case first =>
   have e := HBD.out
   clear HQ HQB HQX HIH
   by_cases h1 : 100 < m + 1
   ·have h1i : (100 : Int) < ((m : Int) + 1) := by omega
    have hb : bad = true := by rw [← e]; exact decide_eq_true (.inl h1)
    subst hb
    clear e
    go_wp2_with fail
    go_meet
    exact ⟨by first | rfl | simp, rfl⟩
   ·have h1i : ¬ (100 : Int) < ((m : Int) + 1) := by omega
    by_cases h2 : 12 < d + 1
    ·have h2i : (12 : Int) < ((d : Int) + 1) := by omega
     have hb : bad = true := by rw [← e]; exact decide_eq_true (.inr (.inl h2))
     subst hb
     clear e
     go_wp2_with fail
     go_meet
     exact ⟨by first | rfl | simp, rfl⟩
    ·have h2i : ¬ (12 : Int) < ((d : Int) + 1) := by omega
     by_cases h3 : 3 < rn
     ·have h3i : (3 : Int) < (rn : Int) := by omega
      have hb : bad = true := by rw [← e]; exact decide_eq_true (.inr (.inr h3))
      subst hb
      clear e
      go_wp2_with fail
      go_meet
      exact ⟨by first | rfl | simp, rfl⟩
     ·have h3i : ¬ (3 : Int) < (rn : Int) := by omega
      have hb : bad = false := by rw [← e]; exact decide_eq_false (by omega)
      subst hb
      clear e
      go_wp2_with fail
      go_meet
      exact ⟨by first | rfl | simp, rfl⟩
  case rest =>
   obtain ⟨rfl, rfl⟩ := hcut
   cases bad with
   | true =>
    have hh : 100 < m + 1 ∨ 12 < d + 1 ∨ 3 < rn := by simpa using HBD.out
    have HN : Hid (qFit (.mk k ws n (xs.map QR.key)) m d r = false) := Lib.hid (by
     rw [Bool.eq_false_iff]
     intro hf
     obtain ⟨h1, h2, h3, _, _⟩ := qFit_iff.1 hf
     rw [HRN.out] at h3
     omega)
    clear HBD HQ HQB HQX HIH
    go_wp2_with fail
    try simp only [Exit.inBlock, Exit.then]
    refine bodyPost_ret (v := .bool false) (by simp [results, Tryz.results175, go_sem]) rfl ?_
    exact ⟨m + 1, by rw [HN.out], fun h => (by rw [HN.out] at h; cases h), by omega, HM3.out, HMD.out⟩
   | false =>
    have hh : ¬ (100 < m + 1 ∨ 12 < d + 1 ∨ 3 < rn) := by simpa using HBD.out
    have h1 : m + 1 ≤ 100 := by omega
    have h2 : d + 1 ≤ 12 := by omega
    have h3 : rn ≤ 3 := by omega
    clear hh HBD
    have hb3 := HB3.out
    have b3 := hb3.cell 3
    simp at b3
    clear hb3 z0
    go_wp2_with fail
    go_loopg [30] xs.length (fun gk i wr => Go2R w3 gm (m + 1) (d + 1) rn (xs.map QR.key) gk i wr)
    case atStart => exact ⟨0, by simp, by omega, rfl, by rw [qSum_zero]; omega, fun t _ h => by omega, by rw [qSum_zero]; exact HM3.out, Mod.refl _ _⟩
    case round =>
     obtain ⟨j, hgk, hj, rfl, hmj, hok, hbj, hmd⟩ := hrel
     rw [List.length_map] at hgk hj
     subst hgk
     have HOK := Lib.hid hok
     have HBJ := Lib.hid hbj
     have HMJ := Lib.hid hmd
     clear hok hbj hmd
     by_cases hlt : j < xs.length
     ·obtain ⟨k', A', c', ws', n', B', dd', xs', hq⟩ := QR.ex xs[j]
      have hxs := HQX.out.ofGm (HMD.out.trans HMJ.out) HBM.out (by decide)
      obtain ⟨g, off, hA, q0, q1, q2, q3⟩ := qcells hxs hlt hq
      obtain rfl := hA
      have HQJ : Hid (QS wr (.mk k' A' c' ws' n' B' dd' xs')) := Lib.hid (by rw [← hq]; exact (HQ.out.allH _ (List.getElem_mem hlt)).ofGm (HMD.out.trans HMJ.out) HBM.out)
      have HQK : Hid (QB 1000 (QR.mk k' A' c' ws' n' B' dd' xs').key) := Lib.hid (by rw [← hq]; exact HQB.out _ (List.mem_map.2 ⟨_, List.getElem_mem hlt, rfl⟩))
      have HMEM : Hid (QR.mk k' A' c' ws' n' B' dd' xs' ∈ xs) := Lib.hid (by rw [← hq]; exact List.getElem_mem hlt)
      have hjk : j < (xs.map QR.key).length := by rw [List.length_map]; exact hlt
      have HKEY : Hid ((xs.map QR.key)[j] = (QR.mk k' A' c' ws' n' B' dd' xs').key) := Lib.hid (by rw [List.getElem_map, hq])
      have HSUM := Lib.hid (qSum_succ hjk)
      have HARG := Lib.hid (fun h => qFit_arg (k := k) (ws := ws) (n := n) (xs := xs.map QR.key) (m := m) (d := d) (r := r) hjk h)
      have HFJ := Lib.hid (HF3.out.mod HMJ.out (fun e => by omega))
      have hbj := HBJ.out
      have hfj := HFJ.out
      have hgjw := hbj.lt
      have hgfw := hfj.lt
      have f0 := hfj.cell 0; simp at f0
      have hpal := pure_alloc wr (.cells #[.int .i64 k', .slice A' ws'.length c', .int .i64 n', .slice B' xs'.length dd'] 29)
      have HC := Lib.hid (HIH.out _ HMEM.out (wr.alloc (.cells #[.int .i64 k', .slice A' ws'.length c', .int .i64 n', .slice B' xs'.length dd'] 29)) (m + 1 + qSum (xs.map QR.key) j) (d + 1) rn gm gf (HQJ.out.pure hpal) HQK.out (hbj.alloc _) (hfj.alloc _) hmj h2 h3)
      rw [← HKEY.out] at HC
      have HMA : Hid (Mod (· = gm) w3 (wr.alloc (.cells #[.int .i64 k', .slice A' ws'.length c', .int .i64 n', .slice B' xs'.length dd'] 29))) := Lib.hid (HMJ.out.trans (Mod.of_pure hpal))
      rw [HRN.out] at HARG
      clear hbj hfj hpal HIH HQ HQB HQX HQJ HQK HMEM HKEY hxs hq HBJ HMJ
      have hji : ((j : Nat) : Int) < (xs.length : Int) := by omega
      go_wp2_with fail
      rw [show ((d : Int) + 1 + 1) = (((d + 1 : Nat) : Int) + 1) by simp]
      refine HC.out.mono ?_
      rintro e w5 ⟨m', rfl, hfit, hm', hb5, hmd5⟩
      have HMF : Hid (Mod (· = gm) w3 w5) := Lib.hid (HMA.out.trans hmd5)
      have HB5 := Lib.hid hb5
      have HFT := Lib.hid hfit
      clear hb5 hmd5 HC HMA hfit q0 q1 q2 q3 f0
      cases hf : qFit (xs.map QR.key)[j] (m + 1 + qSum (xs.map QR.key) j) (d + 1) rn with
      | false =>
       have HN := Lib.hid (HARG.out hf)
       clear HFT HARG HOK HSUM hf
       go_wp2_with fail
       try simp only [Exit.inBlock, Exit.then]
       refine bodyPost_ret (v := .bool false) (by simp [results, Tryz.results175, go_sem]) rfl ?_
       exact ⟨m', by rw [HN.out], fun h => (by rw [HN.out] at h; cases h), hm', HB5.out, HMD.out.trans HMF.out⟩
      | true =>
       have hme := HFT.out hf
       have hsz : m + 1 + qSum (xs.map QR.key) j + qSize (xs.map QR.key)[j] ≤ 100 := by
        unfold qFit at hf
        simp only [Bool.and_eq_true, decide_eq_true_eq] at hf
        exact hf.1
       have HOK2 : Hid (∀ t (ht : t < (xs.map QR.key).length), t < j + 1 → qFit (xs.map QR.key)[t] (m + 1 + qSum (xs.map QR.key) t) (d + 1) rn = true) := Lib.hid (fun t ht h => by
        by_cases e : t = j
        ·subst e; exact hf
        ·exact HOK.out t ht (by omega))
       have hs := HSUM.out
       have HBF : Hid (Blk w5 gm 3 #[.int .i64 ((m + 1 + qSum (xs.map QR.key) (j + 1) : Nat) : Int)]) := Lib.hid (by
        have h := HB5.out
        rw [hme, Nat.add_assoc, ← hs] at h
        exact h)
       have HLE : Hid (m + 1 + qSum (xs.map QR.key) (j + 1) ≤ 100) := Lib.hid (by omega)
       clear HFT HARG HOK HSUM hf hs hsz hme HB5
       go_wp2_with fail
       go_roundg (xs.length - (j + 1))
       case measure => omega
       case rel => exact ⟨j + 1, by rw [List.length_map], by rw [List.length_map]; omega, by simp, HLE.out, HOK2.out, HBF.out, HMF.out⟩
     ·obtain rfl : j = xs.length := by omega
      have HY : Hid (qFit (.mk k ws n (xs.map QR.key)) m d r = true) := Lib.hid (qFit_all (by omega) h1 (by rw [HRN.out]; exact h3) (fun t ht => by rw [HRN.out]; exact HOK.out t ht (by simpa using ht)))
      have hsum : qSum (xs.map QR.key) xs.length = ((xs.map QR.key).map qSize).sum := by
       have h := qSum_all (xs.map QR.key)
       rw [List.length_map] at h
       exact h
      have hjj : ¬ ((xs.length : Nat) : Int) < (xs.length : Int) := by omega
      have HSZ : Hid (m + 1 + qSum (xs.map QR.key) xs.length = m + qSize (.mk k ws n (xs.map QR.key))) := Lib.hid (by rw [qSize, hsum]; omega)
      clear hsum HOK HIH HQ HQB HQX
      go_wp2_with fail
      try simp only [Exit.inBlock, Exit.then]
      refine bodyPost_ret (v := .bool true) (by simp [results, Tryz.results175, go_sem]) rfl ?_
      exact ⟨m + 1 + qSum (xs.map QR.key) xs.length, by rw [HY.out], fun _ => HSZ.out, by omega, HBJ.out, HMD.out.trans HMJ.out⟩

set_option maxRecDepth 100000 in
set_option maxHeartbeats 8000000 in
theorem qsize_calls (w : World) (qr : QR) (hQ : QS w qr) (hB : QB 1000 qr.key) : Calls Tryz.prog 107 #[qA qr] w (IntPost w (if qFit qr.key 0 0 0 = true then 0 else 2)) := by
 obtain ⟨k, A, c, ws, n, B, dd, xs, rfl⟩ := qr.ex
 have hO := ((Blk.new w 29 #[.int .i64 k, .slice A ws.length c, .int .i64 n, .slice B xs.length dd]).alloc (.cells #[.int .i64 0] 3)).alloc (.cells #[.nilFunc] 204)
 have hM := (Blk.snd w (.cells #[.int .i64 k, .slice A ws.length c, .int .i64 n, .slice B xs.length dd] 29) 3 #[.int .i64 0]).alloc (.cells #[.nilFunc] 204)
 have hF := Blk.snd (w.alloc (.cells #[.int .i64 k, .slice A ws.length c, .int .i64 n, .slice B xs.length dd] 29)) (.cells #[.int .i64 0] 3) 204 #[.nilFunc]
 rw [World.size_alloc] at hF
 have hP0 := ((pure_alloc w (.cells #[.int .i64 k, .slice A ws.length c, .int .i64 n, .slice B xs.length dd] 29)).alloc (.cells #[.int .i64 0] 3)).alloc (.cells #[.nilFunc] 204)
 obtain ⟨er, her⟩ : ∃ er : Int, (if qFit (QR.mk k A c ws n B dd xs).key 0 0 0 = true then 0 else 2) = er := ⟨_, rfl⟩
 rw [her]
 have HER := Lib.hid her
 clear her
 show Calls Tryz.prog 107 #[.agg #[.int .i64 k, .slice A ws.length c, .int .i64 n, .slice B xs.length dd]] w (IntPost w er)
 go_enter Tryz.func107, Tryz.ntmps107
 go_upto_region 3 with (fail)
 generalize (((w.alloc (.cells #[.int .i64 k, .slice A ws.length c, .int .i64 n, .slice B xs.length dd] 29)).alloc (.cells #[.int .i64 0] 3)).alloc (.cells #[.nilFunc] 204)) = w3 at *
 generalize hg0 : w.heap.size = g0 at *
 have hwg : w.heap.size ≤ g0 := Nat.le_of_eq hg0
 clear hg0
 have q0 := hF.cell 0
 have q1 := hF.frozen 0
 simp at q0
 have hst : Sem.run Tryz.prog (store ⟨g0 + 1 + 1, 0, none⟩ (.func (.func 175) #[] #[.pointer (some ⟨g0 + 1, 0, none⟩), .pointer (some ⟨g0 + 1 + 1, 0, none⟩)])) w3 = .ok () (w3.setCell ⟨g0 + 1 + 1, 0, none⟩ (.func (.func 175) #[] #[.pointer (some ⟨g0 + 1, 0, none⟩), .pointer (some ⟨g0 + 1 + 1, 0, none⟩)])) := by
  refine (run_store _ _ _ _ _ rfl).trans ?_
  simp [stored, q0, q1]
 have hO2 := hO.far (p := ⟨g0 + 1 + 1, 0, none⟩) (by show g0 ≠ g0 + 1 + 1; omega) (.func (.func 175) #[] #[.pointer (some ⟨g0 + 1, 0, none⟩), .pointer (some ⟨g0 + 1 + 1, 0, none⟩)])
 have hM2 := hM.far (p := ⟨g0 + 1 + 1, 0, none⟩) (by show g0 + 1 ≠ g0 + 1 + 1; omega) (.func (.func 175) #[] #[.pointer (some ⟨g0 + 1, 0, none⟩), .pointer (some ⟨g0 + 1 + 1, 0, none⟩)])
 have hF2 := hF.set 0 (.func (.func 175) #[] #[.pointer (some ⟨g0 + 1, 0, none⟩), .pointer (some ⟨g0 + 1 + 1, 0, none⟩)])
 have HP2 : Hid (Pure w (w3.setCell ⟨g0 + 1 + 1, 0, none⟩ (.func (.func 175) #[] #[.pointer (some ⟨g0 + 1, 0, none⟩), .pointer (some ⟨g0 + 1 + 1, 0, none⟩)]))) := Lib.hid (hP0.setCell (.inr (by show w.heap.size ≤ g0 + 1 + 1; omega)) _)
 have HC := Lib.hid (go2_calls (.mk k A c ws n B dd xs) _ 0 0 0 (g0 + 1) (g0 + 1 + 1) (hQ.pure HP2.out) hB (by simpa using hM2) (by simpa using hF2) (by omega) (by omega) (by omega))
 rw [show qA (QR.mk k A c ws n B dd xs) = .agg #[.int .i64 k, .slice A ws.length c, .int .i64 n, .slice B xs.length dd] from rfl] at HC
 clear hQ hB hO hM hF hP0
 go_upto_region 4 with (fail)
 generalize (w3.setCell ⟨g0 + 1 + 1, 0, none⟩ (.func (.func 175) #[] #[.pointer (some ⟨g0 + 1, 0, none⟩), .pointer (some ⟨g0 + 1 + 1, 0, none⟩)])) = w4 at *
 clear q0 q1 hst hM2
 have hF3 : Blk w4 (g0 + 1 + 1) 204 #[.func (.func 175) #[] #[.pointer (some ⟨g0 + 1, 0, none⟩), .pointer (some ⟨g0 + 1 + 1, 0, none⟩)]] := by simpa using hF2
 have x0 := hO2.cell 0; have x1 := hO2.cell 1; have x2 := hO2.cell 2; have x3 := hO2.cell 3; simp at x0 x1 x2 x3
 have f0 := hF3.cell 0; simp at f0
 clear hO2 hF2 hF3
 go_wp2_with fail
 refine HC.out.mono ?_
 rintro e w5 ⟨m', rfl, _, _, hb, hm⟩
 have HP5 : Hid (Pure w w5) := Lib.hid (HP2.out.trans' hm (fun i hi hlt => by omega))
 have e := HER.out
 clear hb hm HC HP2 x0 x1 x2 x3 f0
 generalize qFit (QR.mk k A c ws n B dd xs).key 0 0 0 = fit at *
 cases fit
 ·obtain rfl : (2 : Int) = er := by simpa using e
  go_wp2_with fail
  refine (whenQ_calls _ _ _ 2 (by simp)).mono ?_
  rintro e2 w6 ⟨rfl, hm6⟩
  go_wp2_with fail
  go_ret
  exact ⟨rfl, HP5.out.trans hm6⟩
 ·obtain rfl : (0 : Int) = er := by simpa using e
  go_wp2_with fail
  refine (whenQ_calls _ _ _ 0 (by simp)).mono ?_
  rintro e2 w6 ⟨rfl, hm6⟩
  go_wp2_with fail
  go_ret
  exact ⟨rfl, HP5.out.trans hm6⟩

end Go.Proofs.YtnfflgicngeekaaGreatDoor

/- Searches by words that are made. -/
namespace Go.Proofs.YtnfflgicngeekaaGreatDoor
set_option linter.unusedVariables false
set_option linter.unusedSimpArgs false
open Go.RowKit

theorem qA_mk {k n : Int} {A B : Option Addr} {c d : Nat} {ws : List Str} {xs : List QR} : qA (.mk k A c ws n B d xs) = .agg #[.int .i64 k, .slice A ws.length c, .int .i64 n, .slice B xs.length d] := rfl
def cB : Nat → Nat
 | 0 => 5
 | d + 1 => 7 + 2 * cB d
def sB : Nat → Nat
 | 0 => 1
 | d + 1 => 1 + 2 * sB d
theorem cB_le {d : Nat} (h : d ≤ 2) : cB d ≤ 41 := by
 match d, h with
 | 0, _ => decide
 | 1, _ => decide
 | 2, _ => decide
theorem sB_pos (d : Nat) : 1 ≤ sB d := by cases d <;> simp [sB] <;> omega
/-- Four cells stored in a row. -/
theorem st4_blk {w : World} {g : Nat} {t : TypeId} {x0 x1 x2 x3 a b c d : Value} (h : Blk w g t #[x0, x1, x2, x3]) : Blk ((((w.setCell ⟨g, 0, none⟩ a).setCell ⟨g, 1, none⟩ b).setCell ⟨g, 2, none⟩ c).setCell ⟨g, 3, none⟩ d) g t #[a, b, c, d] := by
 have h2 := (((h.set 0 a).set 1 b).set 2 c).set 3 d
 simpa using h2
theorem st4_mod {w : World} {g : Nat} {a b c d : Value} : Mod (· = g) w ((((w.setCell ⟨g, 0, none⟩ a).setCell ⟨g, 1, none⟩ b).setCell ⟨g, 2, none⟩ c).setCell ⟨g, 3, none⟩ d) :=
 ((((Mod.refl (· = g) w).setCell (p := ⟨g, 0, none⟩) (.inl rfl) a).setCell (p := ⟨g, 1, none⟩) (.inl rfl) b).setCell (p := ⟨g, 2, none⟩) (.inl rfl) c).setCell (p := ⟨g, 3, none⟩) (.inl rfl) d
theorem mod_up {w w1 w' : World} {b g : Nat} (h : Mod (· = b) w w1) (hm : Mod (· = g) w1 w') (hg : w.heap.size ≤ g) : Mod (· = b) w w' := h.trans' hm (fun i hi hlt => by omega)
theorem slOne {w : World} {g : Nat} {cs : List Str} (h : Blk w g 9 (strsV cs).toArray) (hn : cs.length ≤ 1000) : Sl w 9 1 (.slice (some ⟨g, 0, none⟩) cs.length cs.length) (strsV cs) :=
 ⟨_, _, _, rfl, Nat.le_refl _, by omega, by simp [strsV], fun _ => ⟨g, 0, rfl, h.row0⟩⟩
/-- The search of a block that has been stored last. -/
theorem qs_words {w : World} {g : Nat} {k n : Int} {ws : List Str} (h : Blk w g 9 (strsV ws).toArray) (hn : ws.length ≤ 1000) : QS w (.mk k (some ⟨g, 0, none⟩) ws.length ws n none 0 []) := .mk (slOne h hn) Sl.nil_ (fun a ha => by cases ha)
theorem qs_two {w : World} {g : Nat} {k n : Int} {q1 q2 : QR} (h : Blk w g 29 (qV [q1, q2]).toArray) (h1 : QS w q1) (h2 : QS w q2) : QS w (.mk k none 0 [] n (some ⟨g, 0, none⟩) 2 [q1, q2]) :=
 .mk Sl.nil_ ⟨_, _, _, rfl, Nat.le_refl _, by omega, by rw [qV_len], fun _ => ⟨g, 0, rfl, h.row0⟩⟩ (fun a ha => by
  rcases List.mem_cons.1 ha with rfl | ha
  ·exact h1
  ·rcases List.mem_cons.1 ha with rfl | ha
   ·exact h2
   ·cases ha)
theorem qb_words {k n : Int} {ws : List Str} (hk : -1000000 ≤ k ∧ k ≤ 1000000) (hn : -1000000 ≤ n ∧ n ≤ 1000000) (hw : ws.length ≤ 100) (hl : ∀ x ∈ ws, x.length ≤ 100) : QB 100 (.mk k ws n []) := .mk (by omega) (by omega) (by omega) (by omega) hw hl (by simp) (fun a ha => by cases ha)
theorem qb_two {k n : Int} {q1 q2 : Qry} (hk : -1000000 ≤ k ∧ k ≤ 1000000) (hn : -1000000 ≤ n ∧ n ≤ 1000000) (h1 : QB 100 q1) (h2 : QB 100 q2) : QB 100 (.mk k [] n [q1, q2]) := .mk (by omega) (by omega) (by omega) (by omega) (by simp) (fun x hx => by cases hx) (by simp) (fun a ha => by
  rcases List.mem_cons.1 ha with rfl | ha
  ·exact h1
  ·rcases List.mem_cons.1 ha with rfl | ha
   ·exact h2
   ·cases ha)

set_option maxRecDepth 100000 in
set_option maxHeartbeats 8000000 in
theorem byWordsG_calls (b : Nat) : ∀ (d : Nat) (w : World) (N : Nat) (dI : Int), dI = (d : Int) → d ≤ 2 → Strm w b N → N + 50 * d ≤ 800000000 → Calls Tryz.prog 100 #[.pointer (some ⟨b, 0, none⟩), .int .i64 dI] w (QgP w b (N + cB d) (sB d)) := by
 intro d
 induction d with
 | zero =>
  intro w N dI hdI _ hS hN
  have HIH : Hid True := Lib.hid trivial
  have hcd : 5 ≤ cB 0 := by decide
  replace hN : N ≤ 800000000 := by omega
  have hd1 : dI ≤ 0 := by omega
  have hd2 : 0 ≤ dI := by omega
  clear hdI
  have h40 := Blk.new w 29 #[.int .i64 0, .slice none 0 0, .int .i64 0, .slice none 0 0]
  have hP0 := pure_alloc w (.cells #[.int .i64 0, .slice none 0 0, .int .i64 0, .slice none 0 0] 29)
  have hS0 := hS.alloc (.cells #[.int .i64 0, .slice none 0 0, .int .i64 0, .slice none 0 0] 29)
  have hb4 := hS.lt
  have hsz : w.heap.size + 1 ≤ (w.alloc (.cells #[.int .i64 0, .slice none 0 0, .int .i64 0, .slice none 0 0] 29)).heap.size := by simp
  clear hS
  go_enter Tryz.func100, Tryz.ntmps100
  go_upto_region 1 with (fail)
  generalize (w.alloc (.cells #[.int .i64 0, .slice none 0 0, .int .i64 0, .slice none 0 0] 29)) = w0 at *
  generalize hg4 : w.heap.size = g4 at *
  have hg4w : w.heap.size ≤ g4 := Nat.le_of_eq hg4
  have hg4v : g4 ≤ w.heap.size := Nat.le_of_eq hg4.symm
  clear hg4
  go_wp2_with fail
  refine (next_calls w0 b N 6 hS0 (by omega) (by omega) (by omega)).mono ?_
  rintro e w1 ⟨k, hk0, hk6, rfl, hS1, hM1⟩
  have H4 := Lib.hid (h40.mod hM1 (by omega))
  have HM : Hid (Mod (· = b) w w1) := Lib.hid ((Mod.of_pure hP0 : Mod (· = b) w w0).trans hM1)
  have hsz1 := hM1.size
  clear h40 hP0 hS0 hM1
  have HM1 := HM
  have K1 := H4
  obtain ⟨ca, hca⟩ : ∃ ca, decide (k < 2 ∨ dI = 0) = ca := ⟨_, rfl⟩
  go_upto_region 3 with (fail)
  go_cut [24] from 25 to 30 (fun p wx => p = .bool ca ∧ w1 = wx)
  case first =>
   clear HIH
   by_cases h2 : k < 2
   ·obtain rfl : true = ca := by rw [← hca]; exact (decide_eq_true (.inl h2)).symm
    clear hca
    go_wp2_with fail
    go_meet
    exact ⟨by first | rfl | simp, rfl⟩
   ·by_cases h0 : dI = 0
    ·obtain rfl : true = ca := by rw [← hca]; exact (decide_eq_true (.inr h0)).symm
     clear hca
     subst h0
     go_wp2_with fail
     go_meet
     exact ⟨by first | rfl | simp, rfl⟩
    ·obtain rfl : false = ca := by rw [← hca]; exact (decide_eq_false (by omega)).symm
     have h0i : (dI == 0) = false := by simpa using h0
     clear hca h0
     go_wp2_with fail
     go_meet
     exact ⟨by first | rfl | simp, rfl⟩
  case rest =>
   obtain ⟨rfl, rfl⟩ := hcut
   cases ca with
   | true =>
    clear hca HIH
    have HP1 := Lib.hid (pattern_calls w1 b _ hS1 (by omega))
    go_wp2_with fail
    refine HP1.out.mono ?_
    rintro e w2 ⟨s1, hs1, rfl, hS2, hM2⟩
    have HM2 := Lib.hid (HM1.out.trans hM2)
    have K2 := Lib.hid (K1.out.mod hM2 (by omega))
    have hz2 := hM2.size
    clear HP1 hM2
    have h4b := K2.out.alloc (.cells #[.string ⟨s1.toArray⟩] 9)
    have hsb : Blk (w2.alloc (.cells #[.string ⟨s1.toArray⟩] 9)) w2.heap.size 9 (strsV [s1]).toArray := Blk.new w2 9 #[.string ⟨s1.toArray⟩]
    have hSb := hS2.alloc (.cells #[.string ⟨s1.toArray⟩] 9)
    have hMb := HM2.out.trans (Mod.of_pure (pure_alloc w2 (.cells #[.string ⟨s1.toArray⟩] 9)))
    have h4F := st4_blk (a := .int .i64 2) (b := .slice (some ⟨w2.heap.size, 0, none⟩) 1 1) (c := .int .i64 0) (d := .slice none 0 0) h4b
    have HMF : Hid (Mod (· = g4) (w2.alloc (.cells #[.string ⟨s1.toArray⟩] 9)) (((((w2.alloc (.cells #[.string ⟨s1.toArray⟩] 9)).setCell ⟨g4, 0, none⟩ (.int .i64 2)).setCell ⟨g4, 1, none⟩ (.slice (some ⟨w2.heap.size, 0, none⟩) 1 1)).setCell ⟨g4, 2, none⟩ (.int .i64 0)).setCell ⟨g4, 3, none⟩ (.slice none 0 0))) := Lib.hid st4_mod
    have HSF := Lib.hid ((((hSb.setCell (p := ⟨g4, 0, none⟩) (by show b < g4; omega) (.int .i64 2)).setCell (p := ⟨g4, 1, none⟩) (by show b < g4; omega) (.slice (some ⟨w2.heap.size, 0, none⟩) 1 1)).setCell (p := ⟨g4, 2, none⟩) (by show b < g4; omega) (.int .i64 0)).setCell (p := ⟨g4, 3, none⟩) (by show b < g4; omega) (.slice none 0 0))
    have HMM := Lib.hid (mod_up hMb HMF.out hg4w)
    have HQS : Hid (QS (((((w2.alloc (.cells #[.string ⟨s1.toArray⟩] 9)).setCell ⟨g4, 0, none⟩ (.int .i64 2)).setCell ⟨g4, 1, none⟩ (.slice (some ⟨w2.heap.size, 0, none⟩) 1 1)).setCell ⟨g4, 2, none⟩ (.int .i64 0)).setCell ⟨g4, 3, none⟩ (.slice none 0 0)) (.mk 2 (some ⟨w2.heap.size, 0, none⟩) 1 [s1] 0 none 0 [])) := Lib.hid (qs_words (hsb.mod st4_mod (by show ¬ w2.heap.size = g4; omega)) (by simp))
    have hh4 := h4b
    have y0 := hh4.cell 0; have yf0 := hh4.frozen 0; have y1 := hh4.cell 1; have yf1 := hh4.frozen 1; have y2 := hh4.cell 2; have yf2 := hh4.frozen 2; have y3 := hh4.cell 3; have yf3 := hh4.frozen 3; simp at y0 y1 y2 y3
    clear hh4
    go_wp2_with fail
    have x0 := h4F.cell 0; have x1 := h4F.cell 1; have x2 := h4F.cell 2; have x3 := h4F.cell 3; simp at x0 x1 x2 x3
    try simp only [Exit.inBlock, Exit.then]
    refine bodyPost_ret (v := .agg #[.int .i64 2, .slice (some ⟨w2.heap.size, 0, none⟩) 1 1, .int .i64 0, .slice none 0 0]) (by simp [results, Tryz.results100, go_sem, x0, x1, x2, x3]) rfl ?_
    exact ⟨.mk 2 (some ⟨w2.heap.size, 0, none⟩) 1 [s1] 0 none 0 [], rfl, HQS.out, .mk (fun h => absurd rfl h) (fun a ha => by cases ha), (by rw [QR.key_mk]; exact qb_words (by omega) (by omega) (by simp) (fun x hx => by simp at hx; subst hx; omega)), (by rw [QR.key_mk, qSize]; have := sB_pos 0; simp; omega), HSF.out.more (by omega), HMM.out, .mk (fun _ _ _ h => by cases h) (fun a ha => by cases ha)⟩
   | false =>
    have hkd : ¬ (k < 2 ∨ dI = 0) := of_decide_eq_false hca
    clear hca
    exact absurd (.inr (by omega)) hkd
 | succ d ih =>
  intro w N dI hdI hd hS hN
  have HIH := Lib.hid (fun (w : World) (N : Nat) (dI : Int) (h : dI = (d : Int)) (hS : Strm w b N) (hN : N + 50 * d ≤ 800000000) => ih w N dI h (by omega) hS hN)
  have hcb := cB_le (show d ≤ 2 by omega)
  have hcd : 7 + 2 * cB d ≤ cB (d + 1) := Nat.le_refl _
  have hsd : 1 + 2 * sB d ≤ sB (d + 1) := Nat.le_refl _
  have HNN := Lib.hid hN
  replace hN : N ≤ 800000000 := by omega
  have hd1 : dI ≤ (d : Int) + 1 := by omega
  have hd2 : (d : Int) + 1 ≤ dI := by omega
  clear hdI
  clear ih
  have h40 := Blk.new w 29 #[.int .i64 0, .slice none 0 0, .int .i64 0, .slice none 0 0]
  have hP0 := pure_alloc w (.cells #[.int .i64 0, .slice none 0 0, .int .i64 0, .slice none 0 0] 29)
  have hS0 := hS.alloc (.cells #[.int .i64 0, .slice none 0 0, .int .i64 0, .slice none 0 0] 29)
  have hb4 := hS.lt
  have hsz : w.heap.size + 1 ≤ (w.alloc (.cells #[.int .i64 0, .slice none 0 0, .int .i64 0, .slice none 0 0] 29)).heap.size := by simp
  clear hS
  go_enter Tryz.func100, Tryz.ntmps100
  go_upto_region 1 with (fail)
  generalize (w.alloc (.cells #[.int .i64 0, .slice none 0 0, .int .i64 0, .slice none 0 0] 29)) = w0 at *
  generalize hg4 : w.heap.size = g4 at *
  have hg4w : w.heap.size ≤ g4 := Nat.le_of_eq hg4
  have hg4v : g4 ≤ w.heap.size := Nat.le_of_eq hg4.symm
  clear hg4
  go_wp2_with fail
  refine (next_calls w0 b N 6 hS0 (by omega) (by omega) (by omega)).mono ?_
  rintro e w1 ⟨k, hk0, hk6, rfl, hS1, hM1⟩
  have H4 := Lib.hid (h40.mod hM1 (by omega))
  have HM : Hid (Mod (· = b) w w1) := Lib.hid ((Mod.of_pure hP0 : Mod (· = b) w w0).trans hM1)
  have hsz1 := hM1.size
  clear h40 hP0 hS0 hM1
  have HM1 := HM
  have K1 := H4
  obtain ⟨ca, hca⟩ : ∃ ca, decide (k < 2 ∨ dI = 0) = ca := ⟨_, rfl⟩
  go_upto_region 3 with (fail)
  go_cut [24] from 25 to 30 (fun p wx => p = .bool ca ∧ w1 = wx)
  case first =>
   clear HIH
   by_cases h2 : k < 2
   ·obtain rfl : true = ca := by rw [← hca]; exact (decide_eq_true (.inl h2)).symm
    clear hca
    go_wp2_with fail
    go_meet
    exact ⟨by first | rfl | simp, rfl⟩
   ·by_cases h0 : dI = 0
    ·obtain rfl : true = ca := by rw [← hca]; exact (decide_eq_true (.inr h0)).symm
     clear hca
     subst h0
     go_wp2_with fail
     go_meet
     exact ⟨by first | rfl | simp, rfl⟩
    ·obtain rfl : false = ca := by rw [← hca]; exact (decide_eq_false (by omega)).symm
     have h0i : (dI == 0) = false := by simpa using h0
     clear hca h0
     go_wp2_with fail
     go_meet
     exact ⟨by first | rfl | simp, rfl⟩
  case rest =>
   obtain ⟨rfl, rfl⟩ := hcut
   cases ca with
   | true =>
    clear hca HIH
    have HP1 := Lib.hid (pattern_calls w1 b _ hS1 (by omega))
    go_wp2_with fail
    refine HP1.out.mono ?_
    rintro e w2 ⟨s1, hs1, rfl, hS2, hM2⟩
    have HM2 := Lib.hid (HM1.out.trans hM2)
    have K2 := Lib.hid (K1.out.mod hM2 (by omega))
    have hz2 := hM2.size
    clear HP1 hM2
    have h4b := K2.out.alloc (.cells #[.string ⟨s1.toArray⟩] 9)
    have hsb : Blk (w2.alloc (.cells #[.string ⟨s1.toArray⟩] 9)) w2.heap.size 9 (strsV [s1]).toArray := Blk.new w2 9 #[.string ⟨s1.toArray⟩]
    have hSb := hS2.alloc (.cells #[.string ⟨s1.toArray⟩] 9)
    have hMb := HM2.out.trans (Mod.of_pure (pure_alloc w2 (.cells #[.string ⟨s1.toArray⟩] 9)))
    have h4F := st4_blk (a := .int .i64 2) (b := .slice (some ⟨w2.heap.size, 0, none⟩) 1 1) (c := .int .i64 0) (d := .slice none 0 0) h4b
    have HMF : Hid (Mod (· = g4) (w2.alloc (.cells #[.string ⟨s1.toArray⟩] 9)) (((((w2.alloc (.cells #[.string ⟨s1.toArray⟩] 9)).setCell ⟨g4, 0, none⟩ (.int .i64 2)).setCell ⟨g4, 1, none⟩ (.slice (some ⟨w2.heap.size, 0, none⟩) 1 1)).setCell ⟨g4, 2, none⟩ (.int .i64 0)).setCell ⟨g4, 3, none⟩ (.slice none 0 0))) := Lib.hid st4_mod
    have HSF := Lib.hid ((((hSb.setCell (p := ⟨g4, 0, none⟩) (by show b < g4; omega) (.int .i64 2)).setCell (p := ⟨g4, 1, none⟩) (by show b < g4; omega) (.slice (some ⟨w2.heap.size, 0, none⟩) 1 1)).setCell (p := ⟨g4, 2, none⟩) (by show b < g4; omega) (.int .i64 0)).setCell (p := ⟨g4, 3, none⟩) (by show b < g4; omega) (.slice none 0 0))
    have HMM := Lib.hid (mod_up hMb HMF.out hg4w)
    have HQS : Hid (QS (((((w2.alloc (.cells #[.string ⟨s1.toArray⟩] 9)).setCell ⟨g4, 0, none⟩ (.int .i64 2)).setCell ⟨g4, 1, none⟩ (.slice (some ⟨w2.heap.size, 0, none⟩) 1 1)).setCell ⟨g4, 2, none⟩ (.int .i64 0)).setCell ⟨g4, 3, none⟩ (.slice none 0 0)) (.mk 2 (some ⟨w2.heap.size, 0, none⟩) 1 [s1] 0 none 0 [])) := Lib.hid (qs_words (hsb.mod st4_mod (by show ¬ w2.heap.size = g4; omega)) (by simp))
    have hh4 := h4b
    have y0 := hh4.cell 0; have yf0 := hh4.frozen 0; have y1 := hh4.cell 1; have yf1 := hh4.frozen 1; have y2 := hh4.cell 2; have yf2 := hh4.frozen 2; have y3 := hh4.cell 3; have yf3 := hh4.frozen 3; simp at y0 y1 y2 y3
    clear hh4
    go_wp2_with fail
    have x0 := h4F.cell 0; have x1 := h4F.cell 1; have x2 := h4F.cell 2; have x3 := h4F.cell 3; simp at x0 x1 x2 x3
    try simp only [Exit.inBlock, Exit.then]
    refine bodyPost_ret (v := .agg #[.int .i64 2, .slice (some ⟨w2.heap.size, 0, none⟩) 1 1, .int .i64 0, .slice none 0 0]) (by simp [results, Tryz.results100, go_sem, x0, x1, x2, x3]) rfl ?_
    exact ⟨.mk 2 (some ⟨w2.heap.size, 0, none⟩) 1 [s1] 0 none 0 [], rfl, HQS.out, .mk (fun h => absurd rfl h) (fun a ha => by cases ha), (by rw [QR.key_mk]; exact qb_words (by omega) (by omega) (by simp) (fun x hx => by simp at hx; subst hx; omega)), (by rw [QR.key_mk, qSize]; have := sB_pos (d + 1); simp; omega), HSF.out.more (by omega), HMM.out, .mk (fun _ _ _ h => by cases h) (fun a ha => by cases ha)⟩
   | false =>
    have hkd : ¬ (k < 2 ∨ dI = 0) := of_decide_eq_false hca
    clear hca
    by_cases k2 : k = 2
    ·subst k2
     clear HIH hkd
     have HP1 := Lib.hid (pattern_calls w1 b _ hS1 (by omega))
     go_wp2_with fail
     refine HP1.out.mono ?_
     rintro e w2 ⟨s1, hs1, rfl, hS2, hM2⟩
     have HM2 := Lib.hid (HM1.out.trans hM2)
     have K2 := Lib.hid (K1.out.mod hM2 (by omega))
     have hz2 := hM2.size
     clear HP1 hM2
     have HP2 := Lib.hid (pattern_calls w2 b _ hS2 (by omega))
     go_wp2_with fail
     refine HP2.out.mono ?_
     rintro e w3 ⟨s2, hs2, rfl, hS3, hM3⟩
     have HM3 := Lib.hid (HM2.out.trans hM3)
     have K3 := Lib.hid (K2.out.mod hM3 (by omega))
     have hz3 := hM3.size
     clear HP2 hM3
     have h4b := K3.out.alloc (.cells #[.string ⟨s1.toArray⟩, .string ⟨s2.toArray⟩] 9)
     have hsb : Blk (w3.alloc (.cells #[.string ⟨s1.toArray⟩, .string ⟨s2.toArray⟩] 9)) w3.heap.size 9 (strsV [s1, s2]).toArray := Blk.new w3 9 #[.string ⟨s1.toArray⟩, .string ⟨s2.toArray⟩]
     have hSb := hS3.alloc (.cells #[.string ⟨s1.toArray⟩, .string ⟨s2.toArray⟩] 9)
     have hMb := HM3.out.trans (Mod.of_pure (pure_alloc w3 (.cells #[.string ⟨s1.toArray⟩, .string ⟨s2.toArray⟩] 9)))
     have h4F := st4_blk (a := .int .i64 3) (b := .slice (some ⟨w3.heap.size, 0, none⟩) 2 2) (c := .int .i64 0) (d := .slice none 0 0) h4b
     have HMF : Hid (Mod (· = g4) (w3.alloc (.cells #[.string ⟨s1.toArray⟩, .string ⟨s2.toArray⟩] 9)) (((((w3.alloc (.cells #[.string ⟨s1.toArray⟩, .string ⟨s2.toArray⟩] 9)).setCell ⟨g4, 0, none⟩ (.int .i64 3)).setCell ⟨g4, 1, none⟩ (.slice (some ⟨w3.heap.size, 0, none⟩) 2 2)).setCell ⟨g4, 2, none⟩ (.int .i64 0)).setCell ⟨g4, 3, none⟩ (.slice none 0 0))) := Lib.hid st4_mod
     have HSF := Lib.hid ((((hSb.setCell (p := ⟨g4, 0, none⟩) (by show b < g4; omega) (.int .i64 3)).setCell (p := ⟨g4, 1, none⟩) (by show b < g4; omega) (.slice (some ⟨w3.heap.size, 0, none⟩) 2 2)).setCell (p := ⟨g4, 2, none⟩) (by show b < g4; omega) (.int .i64 0)).setCell (p := ⟨g4, 3, none⟩) (by show b < g4; omega) (.slice none 0 0))
     have HMM := Lib.hid (mod_up hMb HMF.out hg4w)
     have HQS : Hid (QS (((((w3.alloc (.cells #[.string ⟨s1.toArray⟩, .string ⟨s2.toArray⟩] 9)).setCell ⟨g4, 0, none⟩ (.int .i64 3)).setCell ⟨g4, 1, none⟩ (.slice (some ⟨w3.heap.size, 0, none⟩) 2 2)).setCell ⟨g4, 2, none⟩ (.int .i64 0)).setCell ⟨g4, 3, none⟩ (.slice none 0 0)) (.mk 3 (some ⟨w3.heap.size, 0, none⟩) 2 [s1, s2] 0 none 0 [])) := Lib.hid (qs_words (hsb.mod st4_mod (by show ¬ w3.heap.size = g4; omega)) (by simp))
     have hh4 := h4b
     have y0 := hh4.cell 0; have yf0 := hh4.frozen 0; have y1 := hh4.cell 1; have yf1 := hh4.frozen 1; have y2 := hh4.cell 2; have yf2 := hh4.frozen 2; have y3 := hh4.cell 3; have yf3 := hh4.frozen 3; simp at y0 y1 y2 y3
     clear hh4
     go_wp2_with fail
     have x0 := h4F.cell 0; have x1 := h4F.cell 1; have x2 := h4F.cell 2; have x3 := h4F.cell 3; simp at x0 x1 x2 x3
     try simp only [Exit.inBlock, Exit.then]
     refine bodyPost_ret (v := .agg #[.int .i64 3, .slice (some ⟨w3.heap.size, 0, none⟩) 2 2, .int .i64 0, .slice none 0 0]) (by simp [results, Tryz.results100, go_sem, x0, x1, x2, x3]) rfl ?_
     exact ⟨.mk 3 (some ⟨w3.heap.size, 0, none⟩) 2 [s1, s2] 0 none 0 [], rfl, HQS.out, .mk (fun h => absurd rfl h) (fun a ha => by cases ha), (by rw [QR.key_mk]; exact qb_words (by omega) (by omega) (by simp) (fun x hx => by simp at hx; rcases hx with rfl | rfl <;> omega)), (by rw [QR.key_mk, qSize]; have := sB_pos (d + 1); simp; omega), HSF.out.more (by omega), HMM.out, .mk (fun _ _ _ h => by cases h) (fun a ha => by cases ha)⟩
    have k2i : (k == 2) = false := by simpa using k2
    by_cases k3 : k = 3
    ·subst k3
     clear hkd k2 k2i
     have HC1 := Lib.hid (HIH.out w1 _ (dI - 1) (by omega) hS1 (by have := HNN.out; omega))
     go_wp2_with fail
     refine HC1.out.mono ?_
     rintro e w2 ⟨q1, rfl, hq1, hf1, hb1, hsz1, hS2, hM2, hz_1⟩
     have HZ1 := Lib.hid hz_1
     clear hz_1
     have HM2 := Lib.hid (HM1.out.trans hM2)
     have K2 := Lib.hid (K1.out.mod hM2 (by omega))
     have hz2 := hM2.size
     have HQ1 := Lib.hid hq1
     have HF1 := Lib.hid (hf1.up (b1 := g4 + 1) (by omega))
     have HBq1 := Lib.hid hb1
     obtain ⟨k1, A1, c1, ws1, n1, B1, d1, xs1, rfl⟩ := q1.ex
     rw [qA_mk]
     clear HC1 hM2 hf1 hb1
     have HC2 := Lib.hid (HIH.out w2 _ (dI - 1) (by omega) hS2 (by have := HNN.out; omega))
     go_wp2_with fail
     refine HC2.out.mono ?_
     rintro e w3 ⟨q2, rfl, hq2, hf2, hb2, hsz2, hS3, hM3, hz_2⟩
     have HZ2 := Lib.hid hz_2
     clear hz_2
     have HM3 := Lib.hid (HM2.out.trans hM3)
     have K3 := Lib.hid (K2.out.mod hM3 (by omega))
     have hz3 := hM3.size
     have hq1 := hq1.strm hS2 hM3
     have HQ2 := Lib.hid hq2
     have HF2 := Lib.hid (hf2.up (b1 := g4 + 1) (by omega))
     have HBq2 := Lib.hid hb2
     have HQ1 := Lib.hid hq1
     obtain ⟨k2, A2, c2, ws2, n2, B2, d2, xs2, rfl⟩ := q2.ex
     rw [qA_mk]
     clear HC2 hM3 hf2 hb2 hq2
     have h4b := K3.out.alloc (.cells #[.int .i64 k1, .slice A1 ws1.length c1, .int .i64 n1, .slice B1 xs1.length d1, .int .i64 k2, .slice A2 ws2.length c2, .int .i64 n2, .slice B2 xs2.length d2] 29)
     have hsb : Blk (w3.alloc (.cells #[.int .i64 k1, .slice A1 ws1.length c1, .int .i64 n1, .slice B1 xs1.length d1, .int .i64 k2, .slice A2 ws2.length c2, .int .i64 n2, .slice B2 xs2.length d2] 29)) w3.heap.size 29 (qV [.mk k1 A1 c1 ws1 n1 B1 d1 xs1, .mk k2 A2 c2 ws2 n2 B2 d2 xs2]).toArray := Blk.new w3 29 #[.int .i64 k1, .slice A1 ws1.length c1, .int .i64 n1, .slice B1 xs1.length d1, .int .i64 k2, .slice A2 ws2.length c2, .int .i64 n2, .slice B2 xs2.length d2]
     have hSb := hS3.alloc (.cells #[.int .i64 k1, .slice A1 ws1.length c1, .int .i64 n1, .slice B1 xs1.length d1, .int .i64 k2, .slice A2 ws2.length c2, .int .i64 n2, .slice B2 xs2.length d2] 29)
     have hpal := pure_alloc w3 (.cells #[.int .i64 k1, .slice A1 ws1.length c1, .int .i64 n1, .slice B1 xs1.length d1, .int .i64 k2, .slice A2 ws2.length c2, .int .i64 n2, .slice B2 xs2.length d2] 29)
     have hMb := HM3.out.trans (Mod.of_pure hpal)
     have h4F := st4_blk (a := .int .i64 7) (b := .slice none 0 0) (c := .int .i64 0) (d := .slice (some ⟨w3.heap.size, 0, none⟩) 2 2) h4b
     have HMF : Hid (Mod (· = g4) (w3.alloc (.cells #[.int .i64 k1, .slice A1 ws1.length c1, .int .i64 n1, .slice B1 xs1.length d1, .int .i64 k2, .slice A2 ws2.length c2, .int .i64 n2, .slice B2 xs2.length d2] 29)) (((((w3.alloc (.cells #[.int .i64 k1, .slice A1 ws1.length c1, .int .i64 n1, .slice B1 xs1.length d1, .int .i64 k2, .slice A2 ws2.length c2, .int .i64 n2, .slice B2 xs2.length d2] 29)).setCell ⟨g4, 0, none⟩ (.int .i64 7)).setCell ⟨g4, 1, none⟩ (.slice none 0 0)).setCell ⟨g4, 2, none⟩ (.int .i64 0)).setCell ⟨g4, 3, none⟩ (.slice (some ⟨w3.heap.size, 0, none⟩) 2 2))) := Lib.hid st4_mod
     have HSF := Lib.hid ((((hSb.setCell (p := ⟨g4, 0, none⟩) (by show b < g4; omega) (.int .i64 7)).setCell (p := ⟨g4, 1, none⟩) (by show b < g4; omega) (.slice none 0 0)).setCell (p := ⟨g4, 2, none⟩) (by show b < g4; omega) (.int .i64 0)).setCell (p := ⟨g4, 3, none⟩) (by show b < g4; omega) (.slice (some ⟨w3.heap.size, 0, none⟩) 2 2))
     have HMM := Lib.hid (mod_up hMb HMF.out hg4w)
     have hst : ∀ g arr fr, (w3.alloc (.cells #[.int .i64 k1, .slice A1 ws1.length c1, .int .i64 n1, .slice B1 xs1.length d1, .int .i64 k2, .slice A2 ws2.length c2, .int .i64 n2, .slice B2 xs2.length d2] 29)).heap[g]? = some (.cells arr 9 fr) → ¬ g = g4 := fun g arr fr hg he => by
      subst he
      have h := h4b
      unfold Blk at h
      rw [hg] at h
      injection h with h
      injection h with _ h
      exact absurd h (by decide)
     have HQS : Hid (QS (((((w3.alloc (.cells #[.int .i64 k1, .slice A1 ws1.length c1, .int .i64 n1, .slice B1 xs1.length d1, .int .i64 k2, .slice A2 ws2.length c2, .int .i64 n2, .slice B2 xs2.length d2] 29)).setCell ⟨g4, 0, none⟩ (.int .i64 7)).setCell ⟨g4, 1, none⟩ (.slice none 0 0)).setCell ⟨g4, 2, none⟩ (.int .i64 0)).setCell ⟨g4, 3, none⟩ (.slice (some ⟨w3.heap.size, 0, none⟩) 2 2)) (.mk 7 none 0 [] 0 (some ⟨w3.heap.size, 0, none⟩) 2 [.mk k1 A1 c1 ws1 n1 B1 d1 xs1, .mk k2 A2 c2 ws2 n2 B2 d2 xs2])) := Lib.hid (qs_two (hsb.mod st4_mod (by show ¬ w3.heap.size = g4; omega)) ((HQ1.out.pure hpal).modF HF1.out st4_mod hst (fun g hg => by show ¬ g = g4; omega)) ((HQ2.out.pure hpal).modF HF2.out st4_mod hst (fun g hg => by show ¬ g = g4; omega)))
     have hh4 := h4b
     have y0 := hh4.cell 0; have yf0 := hh4.frozen 0; have y1 := hh4.cell 1; have yf1 := hh4.frozen 1; have y2 := hh4.cell 2; have yf2 := hh4.frozen 2; have y3 := hh4.cell 3; have yf3 := hh4.frozen 3; simp at y0 y1 y2 y3
     clear hh4
     go_wp2_with fail
     have x0 := h4F.cell 0; have x1 := h4F.cell 1; have x2 := h4F.cell 2; have x3 := h4F.cell 3; simp at x0 x1 x2 x3
     try simp only [Exit.inBlock, Exit.then]
     refine bodyPost_ret (v := .agg #[.int .i64 7, .slice none 0 0, .int .i64 0, .slice (some ⟨w3.heap.size, 0, none⟩) 2 2]) (by simp [results, Tryz.results100, go_sem, x0, x1, x2, x3]) rfl ?_
     exact ⟨.mk 7 none 0 [] 0 (some ⟨w3.heap.size, 0, none⟩) 2 [.mk k1 A1 c1 ws1 n1 B1 d1 xs1, .mk k2 A2 c2 ws2 n2 B2 d2 xs2], rfl, HQS.out, .mk (fun _ => ⟨w3.heap.size, 0, rfl, by omega⟩) (fun a ha => by
      rcases List.mem_cons.1 ha with rfl | ha
      ·exact HF1.out.up (by omega)
      ·rcases List.mem_cons.1 ha with rfl | ha
       ·exact HF2.out.up (by omega)
       ·cases ha), (by rw [QR.key_mk]; exact qb_two (by omega) (by omega) HBq1.out HBq2.out), (by rw [QR.key_mk, qSize]; simp only [List.map_cons, List.map_nil, List.sum_cons, List.sum_nil]; omega), HSF.out.more (by omega), HMM.out, .mk (fun _ _ _ h => by
      injection h with h
      injection h with _ _ h
      exact h.symm) (fun a ha => by
      rcases List.mem_cons.1 ha with rfl | ha
      ·exact HZ1.out
      ·rcases List.mem_cons.1 ha with rfl | ha
       ·exact HZ2.out
       ·cases ha)⟩
    have k3i : (k == 3) = false := by simpa using k3
    clear k2 k3 hkd
    go_wp2_with fail
    have hlt1 := hS1.lt
    refine (pickv_calls _ b _ w1.heap.size _ _ #[.int .i64 4, .int .i64 5] (hS1.alloc _) (Blk.new _ _ _) (by omega) (by omega) rfl (by decide) (by decide) rfl).mono ?_
    rintro e w2 ⟨kd, hmem1, rfl, hS2, hM2⟩
    have hv1 : kd = 4 ∨ kd = 5 := by simpa [intsOf, Go.RowKit.intOf] using hmem1
    have HM2 := Lib.hid ((HM1.out.trans (Mod.of_pure (pure_alloc w1 (.cells #[.int .i64 4, .int .i64 5] 3)))).trans hM2)
    have K2 := Lib.hid ((K1.out.alloc (.cells #[.int .i64 4, .int .i64 5] 3)).mod hM2 (by omega))
    have hz2 : w1.heap.size ≤ w2.heap.size := by have := hM2.size; rw [World.size_alloc] at this; omega
    clear hmem1 hM2
    go_wp2_with fail
    have hlt2 := hS2.lt
    refine (pickv_calls _ b _ w2.heap.size _ _ #[.int .i64 0, .int .i64 1, .int .i64 2, .int .i64 3, .int .i64 5, .int .i64 20] (hS2.alloc _) (Blk.new _ _ _) (by omega) (by omega) rfl (by decide) (by decide) rfl).mono ?_
    rintro e w3 ⟨nb, hmem2, rfl, hS3, hM3⟩
    have hv2 : nb = 0 ∨ nb = 1 ∨ nb = 2 ∨ nb = 3 ∨ nb = 5 ∨ nb = 20 := by simpa [intsOf, Go.RowKit.intOf] using hmem2
    have HM3 := Lib.hid ((HM2.out.trans (Mod.of_pure (pure_alloc w2 (.cells #[.int .i64 0, .int .i64 1, .int .i64 2, .int .i64 3, .int .i64 5, .int .i64 20] 3)))).trans hM3)
    have K3 := Lib.hid ((K2.out.alloc (.cells #[.int .i64 0, .int .i64 1, .int .i64 2, .int .i64 3, .int .i64 5, .int .i64 20] 3)).mod hM3 (by omega))
    have hz3 : w2.heap.size ≤ w3.heap.size := by have := hM3.size; rw [World.size_alloc] at this; omega
    clear hmem2 hM3
    have HC1 := Lib.hid (HIH.out w3 _ (dI - 1) (by omega) hS3 (by have := HNN.out; omega))
    go_wp2_with fail
    refine HC1.out.mono ?_
    rintro e w4 ⟨q1, rfl, hq1, hf1, hb1, hsz1, hS4, hM4, hz_1⟩
    have HZ1 := Lib.hid hz_1
    clear hz_1
    have HM4 := Lib.hid (HM3.out.trans hM4)
    have K4 := Lib.hid (K3.out.mod hM4 (by omega))
    have hz4 := hM4.size
    have HQ1 := Lib.hid hq1
    have HF1 := Lib.hid (hf1.up (b1 := g4 + 1) (by omega))
    have HBq1 := Lib.hid hb1
    obtain ⟨k1, A1, c1, ws1, n1, B1, d1, xs1, rfl⟩ := q1.ex
    rw [qA_mk]
    clear HC1 hM4 hf1 hb1
    have HC2 := Lib.hid (HIH.out w4 _ (dI - 1) (by omega) hS4 (by have := HNN.out; omega))
    go_wp2_with fail
    refine HC2.out.mono ?_
    rintro e w5 ⟨q2, rfl, hq2, hf2, hb2, hsz2, hS5, hM5, hz_2⟩
    have HZ2 := Lib.hid hz_2
    clear hz_2
    have HM5 := Lib.hid (HM4.out.trans hM5)
    have K5 := Lib.hid (K4.out.mod hM5 (by omega))
    have hz5 := hM5.size
    have hq1 := hq1.strm hS4 hM5
    have HQ2 := Lib.hid hq2
    have HF2 := Lib.hid (hf2.up (b1 := g4 + 1) (by omega))
    have HBq2 := Lib.hid hb2
    have HQ1 := Lib.hid hq1
    obtain ⟨k2, A2, c2, ws2, n2, B2, d2, xs2, rfl⟩ := q2.ex
    rw [qA_mk]
    clear HC2 hM5 hf2 hb2 hq2
    have h4b := K5.out.alloc (.cells #[.int .i64 k1, .slice A1 ws1.length c1, .int .i64 n1, .slice B1 xs1.length d1, .int .i64 k2, .slice A2 ws2.length c2, .int .i64 n2, .slice B2 xs2.length d2] 29)
    have hsb : Blk (w5.alloc (.cells #[.int .i64 k1, .slice A1 ws1.length c1, .int .i64 n1, .slice B1 xs1.length d1, .int .i64 k2, .slice A2 ws2.length c2, .int .i64 n2, .slice B2 xs2.length d2] 29)) w5.heap.size 29 (qV [.mk k1 A1 c1 ws1 n1 B1 d1 xs1, .mk k2 A2 c2 ws2 n2 B2 d2 xs2]).toArray := Blk.new w5 29 #[.int .i64 k1, .slice A1 ws1.length c1, .int .i64 n1, .slice B1 xs1.length d1, .int .i64 k2, .slice A2 ws2.length c2, .int .i64 n2, .slice B2 xs2.length d2]
    have hSb := hS5.alloc (.cells #[.int .i64 k1, .slice A1 ws1.length c1, .int .i64 n1, .slice B1 xs1.length d1, .int .i64 k2, .slice A2 ws2.length c2, .int .i64 n2, .slice B2 xs2.length d2] 29)
    have hpal := pure_alloc w5 (.cells #[.int .i64 k1, .slice A1 ws1.length c1, .int .i64 n1, .slice B1 xs1.length d1, .int .i64 k2, .slice A2 ws2.length c2, .int .i64 n2, .slice B2 xs2.length d2] 29)
    have hMb := HM5.out.trans (Mod.of_pure hpal)
    have h4F := st4_blk (a := .int .i64 kd) (b := .slice none 0 0) (c := .int .i64 nb) (d := .slice (some ⟨w5.heap.size, 0, none⟩) 2 2) h4b
    have HMF : Hid (Mod (· = g4) (w5.alloc (.cells #[.int .i64 k1, .slice A1 ws1.length c1, .int .i64 n1, .slice B1 xs1.length d1, .int .i64 k2, .slice A2 ws2.length c2, .int .i64 n2, .slice B2 xs2.length d2] 29)) (((((w5.alloc (.cells #[.int .i64 k1, .slice A1 ws1.length c1, .int .i64 n1, .slice B1 xs1.length d1, .int .i64 k2, .slice A2 ws2.length c2, .int .i64 n2, .slice B2 xs2.length d2] 29)).setCell ⟨g4, 0, none⟩ (.int .i64 kd)).setCell ⟨g4, 1, none⟩ (.slice none 0 0)).setCell ⟨g4, 2, none⟩ (.int .i64 nb)).setCell ⟨g4, 3, none⟩ (.slice (some ⟨w5.heap.size, 0, none⟩) 2 2))) := Lib.hid st4_mod
    have HSF := Lib.hid ((((hSb.setCell (p := ⟨g4, 0, none⟩) (by show b < g4; omega) (.int .i64 kd)).setCell (p := ⟨g4, 1, none⟩) (by show b < g4; omega) (.slice none 0 0)).setCell (p := ⟨g4, 2, none⟩) (by show b < g4; omega) (.int .i64 nb)).setCell (p := ⟨g4, 3, none⟩) (by show b < g4; omega) (.slice (some ⟨w5.heap.size, 0, none⟩) 2 2))
    have HMM := Lib.hid (mod_up hMb HMF.out hg4w)
    have hst : ∀ g arr fr, (w5.alloc (.cells #[.int .i64 k1, .slice A1 ws1.length c1, .int .i64 n1, .slice B1 xs1.length d1, .int .i64 k2, .slice A2 ws2.length c2, .int .i64 n2, .slice B2 xs2.length d2] 29)).heap[g]? = some (.cells arr 9 fr) → ¬ g = g4 := fun g arr fr hg he => by
     subst he
     have h := h4b
     unfold Blk at h
     rw [hg] at h
     injection h with h
     injection h with _ h
     exact absurd h (by decide)
    have HQS : Hid (QS (((((w5.alloc (.cells #[.int .i64 k1, .slice A1 ws1.length c1, .int .i64 n1, .slice B1 xs1.length d1, .int .i64 k2, .slice A2 ws2.length c2, .int .i64 n2, .slice B2 xs2.length d2] 29)).setCell ⟨g4, 0, none⟩ (.int .i64 kd)).setCell ⟨g4, 1, none⟩ (.slice none 0 0)).setCell ⟨g4, 2, none⟩ (.int .i64 nb)).setCell ⟨g4, 3, none⟩ (.slice (some ⟨w5.heap.size, 0, none⟩) 2 2)) (.mk kd none 0 [] nb (some ⟨w5.heap.size, 0, none⟩) 2 [.mk k1 A1 c1 ws1 n1 B1 d1 xs1, .mk k2 A2 c2 ws2 n2 B2 d2 xs2])) := Lib.hid (qs_two (hsb.mod st4_mod (by show ¬ w5.heap.size = g4; omega)) ((HQ1.out.pure hpal).modF HF1.out st4_mod hst (fun g hg => by show ¬ g = g4; omega)) ((HQ2.out.pure hpal).modF HF2.out st4_mod hst (fun g hg => by show ¬ g = g4; omega)))
    have hh4 := h4b
    have y0 := hh4.cell 0; have yf0 := hh4.frozen 0; have y1 := hh4.cell 1; have yf1 := hh4.frozen 1; have y2 := hh4.cell 2; have yf2 := hh4.frozen 2; have y3 := hh4.cell 3; have yf3 := hh4.frozen 3; simp at y0 y1 y2 y3
    clear hh4
    go_wp2_with fail
    have x0 := h4F.cell 0; have x1 := h4F.cell 1; have x2 := h4F.cell 2; have x3 := h4F.cell 3; simp at x0 x1 x2 x3
    try simp only [Exit.inBlock, Exit.then]
    refine bodyPost_ret (v := .agg #[.int .i64 kd, .slice none 0 0, .int .i64 nb, .slice (some ⟨w5.heap.size, 0, none⟩) 2 2]) (by simp [results, Tryz.results100, go_sem, x0, x1, x2, x3]) rfl ?_
    exact ⟨.mk kd none 0 [] nb (some ⟨w5.heap.size, 0, none⟩) 2 [.mk k1 A1 c1 ws1 n1 B1 d1 xs1, .mk k2 A2 c2 ws2 n2 B2 d2 xs2], rfl, HQS.out, .mk (fun _ => ⟨w5.heap.size, 0, rfl, by omega⟩) (fun a ha => by
     rcases List.mem_cons.1 ha with rfl | ha
     ·exact HF1.out.up (by omega)
     ·rcases List.mem_cons.1 ha with rfl | ha
      ·exact HF2.out.up (by omega)
      ·cases ha), (by rw [QR.key_mk]; exact qb_two (by omega) (by omega) HBq1.out HBq2.out), (by rw [QR.key_mk, qSize]; simp only [List.map_cons, List.map_nil, List.sum_cons, List.sum_nil]; omega), HSF.out.more (by omega), HMM.out, .mk (fun _ _ _ h => by
     injection h with h
     injection h with _ _ h
     exact h.symm) (fun a ha => by
     rcases List.mem_cons.1 ha with rfl | ha
     ·exact HZ1.out
     ·rcases List.mem_cons.1 ha with rfl | ha
      ·exact HZ2.out
      ·cases ha)⟩

end Go.Proofs.YtnfflgicngeekaaGreatDoor

/-
 DERIVED: THE SHELF's CONTRACTS AT THIS DUMP, IN PLAIN WORDS (tools/lay-plain.mjs out of 'YtnfflgicngeekaaGreatDoorLayVal.lean', which tools/lay-shelf.mjs wrote): THE SAME DECLARATIONS UNDER THE SAME NAMES: 'import', 'namespace', 'open', 'def', 'theorem' AND NOTHING ELSE: no command of the shelf's: FOR A HAND-IN. Each laying: the table of numbers ('.._ren') and one theorem, a field a fact of the dump's own or the kernel's comparison; each contract: ONE APPLICATION.
-/
namespace Go.Proofs
open Go.Shelf
def Tryz.lays196_ren : Go.Shelf.Ren := ⟨fun | 196 => 158 | 259 => 212 | n => n, fun | 9 => 9 | 4 => 4 | 3 => 3 | 5 => 5 | 12 => 12 | 119 => 235 | 0 => 0 | 46 => 180 | 139 => 238 | 138 => 237 | 53 => 224 | n => n, fun | 3 => 0 | 4 => 1 | n => n⟩
theorem Tryz.lays196 : Go.Proofs.Lays.n196 Tryz.prog Tryz.lays196_ren := {
 mixed := by kernel_rfl
 f196 := Tryz.func158.trans (congrArg some (by kernel_rfl))
 f259 := Tryz.func212.trans (congrArg some (by kernel_rfl))
 t0 := Tryz.underlying0
 a0 := Tryz.isAgg0
 z0 := Tryz.sizeOf0
 v0 := Tryz.zeroValue0
 t3 := Tryz.underlying3
 a3 := Tryz.isAgg3
 z3 := Tryz.sizeOf3
 v3 := Tryz.zeroValue3
 t4 := Tryz.underlying4
 a4 := Tryz.isAgg4
 z4 := Tryz.sizeOf4
 v4 := Tryz.zeroValue4
 t5 := Tryz.underlying5
 a5 := Tryz.isAgg5
 z5 := Tryz.sizeOf5
 v5 := Tryz.zeroValue5
 t9 := Tryz.underlying9
 a9 := Tryz.isAgg9
 z9 := Tryz.sizeOf9
 v9 := Tryz.zeroValue9
 t12 := Tryz.underlying12
 a12 := Tryz.isAgg12
 z12 := Tryz.sizeOf12
 v12 := Tryz.zeroValue12
 t46 := Tryz.underlying180
 a46 := Tryz.isAgg180
 z46 := Tryz.sizeOf180
 v46 := Tryz.zeroValue180
 t53 := Tryz.underlying224
 a53 := Tryz.isAgg224
 z53 := Tryz.sizeOf224
 v53 := Tryz.zeroValue224
 t119 := Tryz.underlying235
 a119 := Tryz.isAgg235
 z119 := Tryz.sizeOf235
 t138 := Tryz.underlying237
 a138 := Tryz.isAgg237
 z138 := Tryz.sizeOf237
 v138 := Tryz.zeroValue237
 t139 := Tryz.underlying238
 a139 := Tryz.isAgg238
 z139 := Tryz.sizeOf238
 v139 := Tryz.zeroValue238
 g3 := by kernel_rfl
 g4 := by kernel_rfl }
end Go.Proofs

/-
 DERIVED: THE SHELF's CONTRACTS AT THIS DUMP, IN PLAIN WORDS (tools/lay-plain.mjs out of 'YtnfflgicngeekaaGreatDoorLayCon.lean', which tools/lay-shelf.mjs wrote): THE SAME DECLARATIONS UNDER THE SAME NAMES: 'import', 'namespace', 'open', 'def', 'theorem' AND NOTHING ELSE: no command of the shelf's: FOR A HAND-IN. Each laying: the table of numbers ('.._ren') and one theorem, a field a fact of the dump's own or the kernel's comparison; each contract: ONE APPLICATION.
-/
namespace Go.Proofs
open Go.Shelf
def Tryz.lays144_ren : Go.Shelf.Ren := ⟨fun | 144 => 160 | 143 => 220 | 219 => 257 | 217 => 238 | 225 => 260 | 224 => 259 | 267 => 282 | 266 => 270 | 314 => 303 | n => n, fun | 9 => 9 | 4 => 4 | 3 => 3 | 5 => 5 | 46 => 180 | 146 => 222 | 51 => 221 | n => n, fun | 1 => 3 | n => n⟩
theorem Tryz.lays144 : Go.Proofs.Lays.n144 Tryz.prog Tryz.lays144_ren := {
 mixed := by kernel_rfl
 f143 := Tryz.func220.trans (congrArg some (by kernel_rfl))
 f144 := Tryz.func160.trans (congrArg some (by kernel_rfl))
 f217 := Tryz.func238.trans (congrArg some (by kernel_rfl))
 f219 := Tryz.func257.trans (congrArg some (by kernel_rfl))
 f224 := Tryz.func259.trans (congrArg some (by kernel_rfl))
 f225 := Tryz.func260.trans (congrArg some (by kernel_rfl))
 f266 := Tryz.func270.trans (congrArg some (by kernel_rfl))
 f267 := Tryz.func282.trans (congrArg some (by kernel_rfl))
 f314 := Tryz.func303.trans (congrArg some (by kernel_rfl))
 t3 := Tryz.underlying3
 a3 := Tryz.isAgg3
 z3 := Tryz.sizeOf3
 v3 := Tryz.zeroValue3
 t4 := Tryz.underlying4
 a4 := Tryz.isAgg4
 z4 := Tryz.sizeOf4
 v4 := Tryz.zeroValue4
 t5 := Tryz.underlying5
 a5 := Tryz.isAgg5
 z5 := Tryz.sizeOf5
 v5 := Tryz.zeroValue5
 t9 := Tryz.underlying9
 a9 := Tryz.isAgg9
 z9 := Tryz.sizeOf9
 v9 := Tryz.zeroValue9
 t46 := Tryz.underlying180
 a46 := Tryz.isAgg180
 z46 := Tryz.sizeOf180
 v46 := Tryz.zeroValue180
 t51 := Tryz.underlying221
 a51 := Tryz.isAgg221
 z51 := Tryz.sizeOf221
 v51 := Tryz.zeroValue221
 t146 := Tryz.underlying222
 a146 := Tryz.isAgg222
 z146 := Tryz.sizeOf222
 v146 := Tryz.zeroValue222
 g1 := by kernel_rfl }
def Tryz.lays100_ren : Go.Shelf.Ren := ⟨fun | 100 => 203 | 207 => 246 | n => n, fun | 9 => 9 | 4 => 4 | 3 => 3 | n => n, fun | n => n⟩
theorem Tryz.lays100 : Go.Proofs.Lays.n100 Tryz.prog Tryz.lays100_ren := {
 mixed := by kernel_rfl
 f100 := Tryz.func203.trans (congrArg some (by kernel_rfl))
 f207 := Tryz.func246.trans (congrArg some (by kernel_rfl))
 t3 := Tryz.underlying3
 a3 := Tryz.isAgg3
 z3 := Tryz.sizeOf3
 v3 := Tryz.zeroValue3
 t4 := Tryz.underlying4
 a4 := Tryz.isAgg4
 z4 := Tryz.sizeOf4
 v4 := Tryz.zeroValue4
 t9 := Tryz.underlying9
 a9 := Tryz.isAgg9
 z9 := Tryz.sizeOf9
 v9 := Tryz.zeroValue9 }
def Tryz.layc99_ren : Go.Shelf.Ren := ⟨fun | 99 => 144 | 206 => 201 | n => n, fun | 9 => 9 | 4 => 4 | 3 => 3 | n => n, fun | n => n⟩
theorem Tryz.layc99 : Go.Proofs.Lays.n99 Tryz.prog Tryz.layc99_ren := {
 mixed := by kernel_rfl
 f99 := Tryz.func144.trans (congrArg some (by kernel_rfl))
 f206 := Tryz.func201.trans (congrArg some (by kernel_rfl))
 t3 := Tryz.underlying3
 a3 := Tryz.isAgg3
 z3 := Tryz.sizeOf3
 v3 := Tryz.zeroValue3
 t4 := Tryz.underlying4
 a4 := Tryz.isAgg4
 z4 := Tryz.sizeOf4
 v4 := Tryz.zeroValue4
 t9 := Tryz.underlying9
 a9 := Tryz.isAgg9
 z9 := Tryz.sizeOf9
 v9 := Tryz.zeroValue9 }
end Go.Proofs

/- Strings of items: what the program and the reference say of them. -/
namespace Go.Proofs.YtnfflgicngeekaaGreatDoor
set_option linter.unusedVariables false
set_option linter.unusedSimpArgs false
open Go.RowKit

/-- The tables of UTF-8. -/
def Utf (w : World) : Prop := Lib.Utf8Tabs 0 1 w
/-- The library's variable MaxLen holds some number. -/
def Mln (w : World) : Prop := ∃ m : Int, w.cell? ⟨3, 0, none⟩ = some (.int .i64 m)
def Env (w : World) : Prop := Utf w ∧ Mln w
theorem Utf.pure {w w' : World} (h : Utf w) (hm : Pure w w') : Utf w' := Utf8Tabs_below h hm.below
theorem Mln.pure {w w' : World} (h : Mln w) (hm : Pure w w') : Mln w' := by
 obtain ⟨m, h⟩ := h
 exact ⟨m, hm.keep h id⟩
theorem Env.pure {w w' : World} (h : Env w) (hm : Pure w w') : Env w' := ⟨h.1.pure hm, h.2.pure hm⟩
theorem Env.alloc {w : World} (h : Env w) (o : Obj) : Env (w.alloc o) := h.pure ((Mod.refl _ _).alloc o)
theorem valid_calls (w : World) (s : ByteArray) (hs : s.size ≤ 1000000) (hU : Utf w) : Calls Tryz.prog 158 #[.string s] w (BoolPost w (Lib.validD s.data.toList)) := by
 refine (Any.utf8_ValidString Tryz.lays196 s w (by omega) hU).mono ?_
 rintro e w' ⟨rfl, h⟩
 exact ⟨rfl, Mod.of_below h⟩
theorem contains_calls (w : World) (s t : ByteArray) (hs : s.size ≤ 1000000) (hM : Mln w) : Calls Tryz.prog 160 #[.string s, .string t] w (BoolSame w (Lib.contains s.data.toList t.data.toList)) := by
 obtain ⟨m, hm⟩ := hM
 refine (Any.strings_Contains Tryz.lays144 s t m w (by omega) hm).mono ?_
 rintro e w' ⟨rfl, h⟩
 exact ⟨rfl, h.symm⟩
theorem suffix_calls (w : World) (s t : ByteArray) (hs : s.size ≤ 1000000) : Calls Tryz.prog 203 #[.string s, .string t] w (BoolSame w (Lib.hasSuffix s.data.toList t.data.toList)) := by
 refine (Any.strings_HasSuffix Tryz.lays100 s t w (by omega)).mono ?_
 rintro e w' ⟨rfl, h⟩
 exact ⟨rfl, h.symm⟩
theorem pfx_calls (w : World) (s t : ByteArray) : Calls Tryz.prog 144 #[.string s, .string t] w (BoolSame w (Lib.hasPrefix s.data.toList t.data.toList)) := by
 refine (Any.strings_HasPrefix Tryz.layc99 s t w).mono ?_
 rintro e w' ⟨rfl, h⟩
 exact ⟨rfl, h.symm⟩
theorem visB_false (f : Bool) (l : Str) (k : Nat) (h : k < l.length) (hk : visC f l[k].toNat = false) : visB f l = false := by
 unfold visB
 rw [List.all_eq_false]
 exact ⟨l[k], List.getElem_mem h, by simp [hk]⟩

set_option maxRecDepth 100000 in
set_option maxHeartbeats 2000000 in
theorem visible_calls (w : World) (s : ByteArray) (f : Bool) (hs : s.size ≤ 1000000) (hU : Utf w) : Calls Tryz.prog 202 #[.string s, .bool f] w (BoolPost w (visB f s.data.toList && Lib.validD s.data.toList)) := by
 have hls : s.data.toList.length = s.size := by simp
 have HLS := Lib.hid hls
 have HV := Lib.hid (valid_calls w s hs hU)
 clear hls hU
 go_enter Tryz.func202, Tryz.ntmps202
 go_wp2_with fail
 go_loopg [9] s.size (fun gk i wr => ∃ k : Nat, s.size - k = gk ∧ k ≤ s.size ∧ i = .int .i64 (k : Int) ∧ visB f (s.data.toList.take k) = true ∧ w = wr)
 case atStart => exact ⟨0, by omega, by omega, rfl, rfl, rfl⟩
 case round =>
  obtain ⟨k, rfl, hk, rfl, hall, rfl⟩ := hrel
  have HA := Lib.hid hall
  clear hall
  by_cases hlt : k < s.size
  ·have hl : k < s.data.toList.length := by rw [HLS.out]; exact hlt
   have hsn := visB_snoc f s.data.toList k hl
   have hfa := visB_false f s.data.toList k hl
   have hidx : s.data.toList[k] = s[k] := by simp; rfl
   rw [hidx] at hsn hfa
   have NO : Hid (visC f s[k].toNat = false → (visB f s.data.toList && Lib.validD s.data.toList) = false) := Lib.hid (fun h => by rw [hfa h]; rfl)
   have OK : Hid (visC f s[k].toNat = true → visB f (s.data.toList.take (k + 1)) = true) := Lib.hid (fun h => by rw [hsn, HA.out, h]; rfl)
   clear hsn hfa hidx HV
   generalize (visB f s.data.toList && Lib.validD s.data.toList) = ans at *
   generalize hc : s[k].toNat = c at *
   by_cases h1 : (c : Int) < 32
   ·have h3 : ((c : Int) == 127) = false := by simp; omega
    by_cases h2 : c = 10
    ·subst h2
     cases f
     ·go_wp2_with fail
      go_ret
      exact BoolPost.of (NO.out (by decide)) (Mod.refl _ _)
     ·go_wp2_with fail
      go_roundg (s.size - (k + 1))
      case measure => omega
      case rel => exact ⟨k + 1, rfl, hlt, by simp, OK.out (by decide), rfl⟩
    ·have h2' : ((c : Int) == 10) = false := by simp; omega
     have hx : visC f c = false := by
      unfold visC
      rw [decide_eq_true (by omega : c < 32), show (c == 10) = false by simpa using h2]
      simp
     cases f
     all_goals
      go_wp2_with fail
      go_ret
      exact BoolPost.of (NO.out hx) (Mod.refl _ _)
   ·by_cases h2 : c = 127
    ·subst h2
     have hx : visC f 127 = false := by cases f <;> decide
     go_wp2_with fail
     go_ret
     exact BoolPost.of (NO.out hx) (Mod.refl _ _)
    ·have h2' : ((c : Int) == 127) = false := by simp; omega
     have hx : visC f c = true := by
      unfold visC
      rw [decide_eq_false (by omega : ¬ c < 32), show (c == 127) = false by simpa using h2]
      simp
     go_wp2_with fail
     go_roundg (s.size - (k + 1))
     case measure => omega
     case rel => exact ⟨k + 1, rfl, hlt, by simp, OK.out hx, rfl⟩
  ·have hke : k = s.size := by omega
   subst hke
   have hall : visB f s.data.toList = true := by
    have := HA.out
    rwa [List.take_of_length_le (by rw [HLS.out]; omega)] at this
   go_wp2_with fail
   refine HV.out.mono ?_
   rintro e w1 ⟨rfl, hm⟩
   have HX : Hid ((visB f s.data.toList && Lib.validD s.data.toList) = Lib.validD s.data.toList) := Lib.hid (by rw [hall]; rfl)
   clear hall HV HA
   generalize Lib.validD s.data.toList = v at *
   go_wp2_with fail
   go_ret
   exact BoolPost.of HX.out hm

set_option maxRecDepth 100000 in
set_option maxHeartbeats 2000000 in
theorem plain_calls (w : World) (s : ByteArray) (hs : s.size ≤ 1000000) (hE : Env w) : Calls Tryz.prog 147 #[.string s] w (BoolPost w (plainB s.data.toList)) := by
 have HV := Lib.hid (visible_calls w s false hs hE.1)
 have HP := Lib.hid (fun W => pfx_calls W s ⟨#[32]⟩)
 have HS := Lib.hid (fun W => suffix_calls W s ⟨#[32]⟩ hs)
 have HC := Lib.hid (fun W (h : Pure w W) => contains_calls W s ⟨#[32, 32]⟩ hs (hE.2.pure h))
 have HX : Hid (plainB s.data.toList = (((visB false s.data.toList && Lib.validD s.data.toList) && !Lib.hasPrefix s.data.toList [32]) && !Lib.hasSuffix s.data.toList [32] && !Lib.contains s.data.toList [32, 32])) := Lib.hid (by unfold plainB; simp only [Bool.and_assoc])
 clear hE
 go_enter Tryz.func147, Tryz.ntmps147
 go_wp2_with fail
 refine HV.out.mono ?_
 rintro e w1 ⟨rfl, hm⟩
 generalize (visB false s.data.toList && Lib.validD s.data.toList) = v at *
 cases v
 ·go_wp2_with fail
  go_ret
  exact BoolPost.of (by rw [HX.out]; rfl) hm
 ·go_wp2_with fail
  refine (HP.out _).mono ?_
  rintro e w' ⟨rfl, rfl⟩
  generalize Lib.hasPrefix s.data.toList [32] = p at *
  cases p
  ·go_wp2_with fail
   refine (HS.out _).mono ?_
   rintro e w' ⟨rfl, rfl⟩
   generalize Lib.hasSuffix s.data.toList [32] = q at *
   cases q
   ·go_wp2_with fail
    refine (HC.out _ hm).mono ?_
    rintro e w' ⟨rfl, rfl⟩
    generalize Lib.contains s.data.toList [32, 32] = r at *
    go_wp2_with fail
    go_ret
    exact BoolPost.of (by rw [HX.out]; rfl) hm
   ·go_wp2_with fail
    go_ret
    exact BoolPost.of (by rw [HX.out]; rfl) hm
  ·go_wp2_with fail
   go_ret
   exact BoolPost.of (by rw [HX.out]; rfl) hm

set_option maxRecDepth 100000 in
set_option maxHeartbeats 2000000 in
theorem text_calls (w : World) (l : Str) (hs : l.length ≤ 1000000) (hE : Env w) : Calls Tryz.prog 148 #[.string ⟨l.toArray⟩] w (BoolPost w (textB l)) := by
 have hsz : (⟨l.toArray⟩ : ByteArray).size ≤ 1000000 := by simpa [ByteArray.size] using hs
 have HV := Lib.hid (visible_calls w ⟨l.toArray⟩ true hsz hE.1)
 have HS := Lib.hid (fun W => suffix_calls W ⟨l.toArray⟩ ⟨#[10]⟩ hsz)
 have HX : Hid (textB l = ((visB true l && Lib.validD l) && (l.isEmpty || Lib.hasSuffix l [10]))) := Lib.hid (by unfold textB; simp only [Bool.and_assoc])
 clear hE hsz
 go_enter Tryz.func148, Tryz.ntmps148
 go_wp2_with fail
 refine HV.out.mono ?_
 rintro e w1 ⟨rfl, hm⟩
 generalize (visB true l && Lib.validD l) = v at *
 cases v
 ·go_wp2_with fail
  go_ret
  exact BoolPost.of (by rw [HX.out]; rfl) hm
 ·cases he : l.isEmpty
  ·go_wp2_with fail
   refine (HS.out _).mono ?_
   rintro e w' ⟨rfl, rfl⟩
   generalize Lib.hasSuffix l [10] = r at *
   go_wp2_with fail
   go_ret
   exact BoolPost.of (by rw [HX.out, he]; rfl) hm
  ·go_wp2_with fail
   go_ret
   exact BoolPost.of (by rw [HX.out, he]; rfl) hm

end Go.Proofs.YtnfflgicngeekaaGreatDoor

/- Strings of items: what the reference says of them. -/
namespace Go.Proofs.YtnfflgicngeekaaGreatDoor
set_option linter.unusedVariables false
set_option linter.unusedSimpArgs false
open Go.RowKit

end Go.Proofs.YtnfflgicngeekaaGreatDoor

/- The errors of one item: CheckItem of package intake, ItemFault of the reference. -/
namespace Go.Proofs.YtnfflgicngeekaaGreatDoor
set_option linter.unusedVariables false
set_option linter.unusedSimpArgs false
open Go.RowKit

/-- An item whose strings are of a length that the walks allow. -/
def ItL (x : Itm) : Prop := x.id.length ≤ 300000 ∧ x.cust.length ≤ 300000 ∧ x.name.length ≤ 300000 ∧ x.par.length ≤ 300000 ∧ x.text.length ≤ 300000
theorem ItB.l {x : Itm} (h : ItB x) : ItL x := by
 obtain ⟨a, b, c, d, e⟩ := h
 exact ⟨by omega, by omega, by omega, by omega, by omega⟩
theorem key_any (W : World) (l : Str) (h : l.length ≤ 1000000) : Calls Tryz.prog 63 #[.string ⟨l.toArray⟩] W (BoolPost W (keyB l)) := by
 refine (key_calls W ⟨l.toArray⟩ (by simpa [ByteArray.size] using h)).mono ?_
 rintro e w' ⟨rfl, rfl⟩
 exact ⟨rfl, Mod.refl _ _⟩
theorem plain_any (W : World) (l : Str) (h : l.length ≤ 1000000) (hE : Env W) : Calls Tryz.prog 147 #[.string ⟨l.toArray⟩] W (BoolPost W (plainB l)) :=
 plain_calls W ⟨l.toArray⟩ (by simpa [ByteArray.size] using h) hE
theorem text_any (W : World) (l : Str) (h : l.length ≤ 1000000) (hE : Env W) : Calls Tryz.prog 148 #[.string ⟨l.toArray⟩] W (BoolPost W (textB l)) := text_calls W l h hE
set_option maxHeartbeats 400000 in
theorem moment_calls (n : Int) (w : World) : Calls Tryz.prog 64 #[.int .i64 n] w (BoolSame w (inB n 0 5761439)) := by
 go_enter Tryz.func64, Tryz.ntmps64
 go_wp2_with fail
 refine (in_calls _ _ _ _).mono ?_
 rintro e w' ⟨rfl, rfl⟩
 go_wp2_with fail
 go_ret
 exact BoolSame.of rfl
/-- The word of a kind. -/
def kwS (n : Int) : Str := if n = 1 then [109, 97, 105, 108] else if n = 2 then [102, 105, 108, 101] else if n = 3 then [98, 111, 120] else if n = 4 then [110, 111, 116, 101] else []
theorem kwS_empty (n : Int) : (kwS n).isEmpty = !inB n 1 4 := by
 unfold kwS inB
 by_cases h1 : n = 1
 ·subst h1; rfl
 by_cases h2 : n = 2
 ·subst h2; rfl
 by_cases h3 : n = 3
 ·subst h3; rfl
 by_cases h4 : n = 4
 ·subst h4; rfl
 rw [if_neg h1, if_neg h2, if_neg h3, if_neg h4, decide_eq_false (by omega)]
 rfl
set_option maxHeartbeats 400000 in
theorem kindWord_calls (n : Int) (w : World) : Calls Tryz.prog 146 #[.int .i64 n] w (fun e w' => e = .returned (.string ⟨(kwS n).toArray⟩) ∧ w = w') := by
 by_cases h1 : n = 1
 ·subst h1
  go_enter Tryz.func146, Tryz.ntmps146
  go_wp2_with fail
  go_ret
  exact ⟨rfl, rfl⟩
 by_cases h2 : n = 2
 ·subst h2
  go_enter Tryz.func146, Tryz.ntmps146
  go_wp2_with fail
  go_ret
  exact ⟨rfl, rfl⟩
 by_cases h3 : n = 3
 ·subst h3
  go_enter Tryz.func146, Tryz.ntmps146
  go_wp2_with fail
  go_ret
  exact ⟨rfl, rfl⟩
 by_cases h4 : n = 4
 ·subst h4
  go_enter Tryz.func146, Tryz.ntmps146
  go_wp2_with fail
  go_ret
  exact ⟨rfl, rfl⟩
 have g1 : (n == 1) = false := by simpa using h1
 have g2 : (n == 2) = false := by simpa using h2
 have g3 : (n == 3) = false := by simpa using h3
 have g4 : (n == 4) = false := by simpa using h4
 go_enter Tryz.func146, Tryz.ntmps146
 go_wp2_with fail
 go_ret
 exact ⟨by unfold kwS; rw [if_neg h1, if_neg h2, if_neg h3, if_neg h4]; rfl, rfl⟩


set_option maxRecDepth 100000 in
set_option maxHeartbeats 8000000 in
theorem checkItemL_calls (w : World) (x : Itm) (hz : ItL x) (hE : Env w) : Calls Tryz.prog 84 #[itA x] w (IntPost w (itemE x)) := by
 obtain ⟨id, cust, kind, name, tm, par, text⟩ := x
 obtain ⟨z1, z2, z3, z4, z5⟩ := hz
 simp only at z1 z2 z3 z4 z5
 have HK1 := Lib.hid (fun W => key_any W id (by omega))
 have HK2 := Lib.hid (fun W => key_any W cust (by omega))
 have HK3 := Lib.hid (fun W => key_any W par (by omega))
 have HPL := Lib.hid (fun W (h : Pure w W) => plain_any W name (by omega) (hE.pure h))
 have HTX := Lib.hid (fun W (h : Pure w W) => text_any W text (by omega) (hE.pure h))
 have HIE : Hid (itemE ⟨id, cust, kind, name, tm, par, text⟩ = if !(keyB id && keyB cust) then 5 else if !inB kind 1 4 then 4 else if 120 < name.length then 2 else if !plainB name then 3 else if !inB tm 0 5761439 then 1 else
  if !par.isEmpty && !keyB par then 5 else if par = id then 14 else if 20000 < text.length then 2 else if !textB text then 3 else 0) := Lib.hid (by unfold itemE; rw [show decide (par ≠ []) = !par.isEmpty by cases par <;> simp])
 generalize hie : itemE ⟨id, cust, kind, name, tm, par, text⟩ = ie at *
 have HKN : Hid (keyB id = true → id.isEmpty = false) := Lib.hid (fun h => by cases id <;> first | rfl | cases h)
 generalize keyB id = k1 at *
 generalize keyB cust = k2 at *
 generalize keyB par = k3 at *
 generalize plainB name = pl at *
 generalize textB text = tx at *
 clear hie hE z1 z2 z3 z4 z5
 have B0 := Blk.new w 62 (itQ ⟨id, cust, kind, name, tm, par, text⟩)
 have m0 : Pure w (w.alloc (.cells (itQ ⟨id, cust, kind, name, tm, par, text⟩) 62)) := pure_alloc _ _
 unfold itQ at B0 m0
 simp only at B0 m0
 have HB0 := Lib.hid B0
 have Hm0 := Lib.hid m0
 clear B0 m0
 unfold itA
 simp only
 go_enter Tryz.func84, Tryz.ntmps84
 go_wp2_with fail
 refine (HK1.out _).mono ?_
 rintro e w1 ⟨rfl, m1⟩
 have B1 := HB0.out.mod m1 _root_.id
 have m1 := Hm0.out.trans m1
 clear HB0 Hm0
 generalize w.heap.size = gx at *
 cases k1
 ·clear B1 HK1 HK2 HK3 HPL HTX
  go_wp2_with fail
  go_ret
  exact IntPost.of (by rw [HIE.out]; rfl) m1
 have c0 := B1.cell 0; have c1 := B1.cell 1; have c2 := B1.cell 2; have c3 := B1.cell 3; have c4 := B1.cell 4; have c5 := B1.cell 5; have c6 := B1.cell 6; simp at c0 c1 c2 c3 c4 c5 c6
 go_wp2_with fail
 clear c0 c1 c2 c3 c4 c5 c6
 refine (HK2.out _).mono ?_
 rintro e w2 ⟨rfl, m2⟩
 have B2 := B1.mod m2 _root_.id
 have m2 := m1.trans m2
 clear B1 m1
 cases k2
 ·clear B2 HK1 HK2 HK3 HPL HTX
  go_wp2_with fail
  go_ret
  exact IntPost.of (by rw [HIE.out]; rfl) m2
 have c0 := B2.cell 0; have c1 := B2.cell 1; have c2 := B2.cell 2; have c3 := B2.cell 3; have c4 := B2.cell 4; have c5 := B2.cell 5; have c6 := B2.cell 6; simp at c0 c1 c2 c3 c4 c5 c6
 go_wp2_with fail
 refine (kindWord_calls _ _).mono ?_
 rintro e w' ⟨rfl, rfl⟩
 have hkw := kwS_empty kind
 cases hki : inB kind 1 4
 all_goals
  rw [hki] at hkw
  simp only [Bool.not_true, Bool.not_false] at hkw
  generalize kwS kind = kw at *
 ·clear B2 HK1 HK2 HK3 HPL HTX
  go_wp2_with fail
  go_ret
  exact IntPost.of (by rw [HIE.out]; simp [hki]) m2
 by_cases hn : 120 < name.length
 ·have hn' : (120 : Int) < (name.length : Int) := by omega
  clear B2 HK1 HK2 HK3 HPL HTX
  go_wp2_with fail
  go_ret
  exact IntPost.of (by rw [HIE.out]; simp [hki, hn]) m2
 have hn' : ¬ ((120 : Int) < (name.length : Int)) := by omega
 go_wp2_with fail
 clear c0 c1 c2 c3 c4 c5 c6
 refine (HPL.out _ m2).mono ?_
 rintro e w3 ⟨rfl, m3⟩
 have B3 := B2.mod m3 _root_.id
 have m3 := m2.trans m3
 clear B2 m2
 cases pl
 ·clear B3 HK1 HK2 HK3 HPL HTX
  go_wp2_with fail
  go_ret
  exact IntPost.of (by rw [HIE.out]; simp [hki, hn]) m3
 have c0 := B3.cell 0; have c1 := B3.cell 1; have c2 := B3.cell 2; have c3 := B3.cell 3; have c4 := B3.cell 4; have c5 := B3.cell 5; have c6 := B3.cell 6; simp at c0 c1 c2 c3 c4 c5 c6
 go_wp2_with fail
 refine (moment_calls _ _).mono ?_
 rintro e w' ⟨rfl, rfl⟩
 cases htm : inB tm 0 5761439
 ·clear B3 HK1 HK2 HK3 HPL HTX
  go_wp2_with fail
  go_ret
  exact IntPost.of (by rw [HIE.out]; simp [hki, hn, htm]) m3
 rw [hki, htm] at HIE
 cases hpe : par.isEmpty
 ·rw [hpe] at HIE
  go_wp2_with fail
  clear c0 c1 c2 c3 c4 c5 c6
  refine (HK3.out _).mono ?_
  rintro e w4 ⟨rfl, m4⟩
  have B4 := B3.mod m4 _root_.id
  have m4 := m3.trans m4
  clear B3 m3
  cases k3
  ·clear B4 HK1 HK2 HK3 HPL HTX
   go_wp2_with fail
   go_ret
   exact IntPost.of (by rw [HIE.out]; simp [hn]) m4
  have c0 := B4.cell 0; have c1 := B4.cell 1; have c2 := B4.cell 2; have c3 := B4.cell 3; have c4 := B4.cell 4; have c5 := B4.cell 5; have c6 := B4.cell 6; simp at c0 c1 c2 c3 c4 c5 c6
  cases hpi : (par == id)
  ·have hpi2 : ¬ par = id := by simpa using hpi
   by_cases hl2 : 20000 < text.length
   ·have hl2' : (20000 : Int) < (text.length : Int) := by omega
    clear HK1 HK2 HK3 HPL HTX
    go_wp2_with fail
    go_ret
    exact IntPost.of (by rw [HIE.out]; simp [hn, hl2, hpi2]) m4
   ·have hl2' : ¬ ((20000 : Int) < (text.length : Int)) := by omega
    clear HK1 HK2 HK3 HPL
    go_wp2_with fail
    refine (HTX.out _ m4).mono ?_
    rintro e w6 ⟨rfl, m6⟩
    have m6 := m4.trans m6
    clear HTX
    cases tx
    all_goals
     go_wp2_with fail
     go_ret
     exact IntPost.of (by rw [HIE.out]; simp [hn, hl2, hpi2]) m6
  ·have hpi2 : par = id := by simpa using hpi
   clear HK1 HK2 HK3 HPL HTX
   go_wp2_with fail
   go_ret
   exact IntPost.of (by rw [HIE.out]; simp [hn, hpi2]) m4

 ·rw [hpe] at HIE
  cases hpi : (par == id)
  ·have hpi2 : ¬ par = id := by simpa using hpi
   by_cases hl2 : 20000 < text.length
   ·have hl2' : (20000 : Int) < (text.length : Int) := by omega
    clear HK1 HK2 HK3 HPL HTX
    go_wp2_with fail
    go_ret
    exact IntPost.of (by rw [HIE.out]; simp [hn, hl2, hpi2]) m3
   ·have hl2' : ¬ ((20000 : Int) < (text.length : Int)) := by omega
    clear HK1 HK2 HK3 HPL
    go_wp2_with fail
    refine (HTX.out _ m3).mono ?_
    rintro e w6 ⟨rfl, m6⟩
    have m6 := m3.trans m6
    clear HTX
    cases tx
    all_goals
     go_wp2_with fail
     go_ret
     exact IntPost.of (by rw [HIE.out]; simp [hn, hl2, hpi2]) m6
  ·have hpi2 : par = id := by simpa using hpi
   have hx : id.isEmpty = false := by have := HKN.out; simpa using this
   rw [← hpi2, hpe] at hx
   cases hx




end Go.Proofs.YtnfflgicngeekaaGreatDoor

/- Items as text, plain. -/
namespace Go.Proofs.YtnfflgicngeekaaGreatDoor
set_option linter.unusedVariables false
set_option linter.unusedSimpArgs false
open Go.RowKit

end Go.Proofs.YtnfflgicngeekaaGreatDoor

/- Items as the program writes them, plain. -/
namespace Go.Proofs.YtnfflgicngeekaaGreatDoor
set_option linter.unusedVariables false
set_option linter.unusedSimpArgs false
open Go.RowKit

end Go.Proofs.YtnfflgicngeekaaGreatDoor

/- Items read from a text, plain. -/
namespace Go.Proofs.YtnfflgicngeekaaGreatDoor
set_option linter.unusedVariables false
set_option linter.unusedSimpArgs false
open Go.RowKit

def kndI (s : Str) : Int := if s = [109, 97, 105, 108] then 1 else if s = [102, 105, 108, 101] then 2 else if s = [98, 111, 120] then 3 else if s = [110, 111, 116, 101] then 4 else 0
end Go.Proofs.YtnfflgicngeekaaGreatDoor

/- Tokens and the reading of a search, in plain words. -/
namespace Go.Proofs.YtnfflgicngeekaaGreatDoor
set_option linter.unusedVariables false
set_option linter.unusedSimpArgs false
open Go.RowKit
/-- A token: its kind, where it begins, the search that it says. -/
structure Tk where
 kind : Int
 pos : Nat
 q : Qry
def q0 : Qry := .mk 0 [] 0 []
def blkC (c : UInt8) : Bool := c == 32 || c == 10
def stpC (c : UInt8) : Bool := c == 32 || (c == 10 || (c == 40 || (c == 41 || c == 34)))
/-- A number that is not below 0, of at most six digits. -/
def natQ (s : Str) : Option Int := match numQ 6 s with | none => none | some n => if 0 ≤ n then some n else none
/-- The first part of a string that is cut at a byte, and the second one, if it can be cut. -/
def headS (c : UInt8) (s : Str) : Str := match fstL c s with | none => s | some p => p.1
def restS (c : UInt8) (s : Str) : Str := match fstL c s with | none => [] | some p => p.2
def slashQ (w rest : Str) : Int × Qry := match natQ rest with
 | none => (8, q0)
 | some n => if w = [119] then (7, .mk 4 [] n []) else if w = [112, 114, 101] then (7, .mk 5 [] n []) else (8, q0)
def colonQ (w rest : Str) : Int × Qry :=
 if w = [111, 119, 110, 101, 114] ∧ keyB rest = true then (3, .mk 9 [rest] 0 [])
 else if w = [110, 97, 109, 101] ∧ patB rest = true then (3, .mk 11 [rest] 0 [])
 else if w = [102, 114, 111, 109] ∧ (natQ rest).isSome = true then (3, .mk 12 [] ((natQ rest).getD 0) [])
 else if w = [117, 110, 116, 105, 108] ∧ (natQ rest).isSome = true then (3, .mk 13 [] ((natQ rest).getD 0) [])
 else if w = [107, 105, 110, 100] ∧ kndI rest ≠ 0 then (3, .mk 10 [] (kndI rest) []) else (8, q0)
/-- A piece: what kind of a token it is, and what search. -/
def pieceQ (s : Str) : Int × Qry :=
 if s = [97, 108, 108] then (3, .mk 1 [] 0 []) else if s = [97, 110, 100] then (4, q0) else if s = [111, 114] then (5, q0) else if s = [110, 111, 116] then (6, q0)
 else if patB s = true then (3, .mk 2 [s] 0 []) else match fstL 47 s with
  | some p => slashQ p.1 p.2
  | none => colonQ (headS 58 s) (restS 58 s)
/-- The patterns of a phrase. -/
def phrW (body : Str) : List Str := (spl 32 (lowS body)).filter fun w => !w.isEmpty
def phraseQ (body : Str) : Int × Qry :=
 if (phrW body).all patB = false ∨ phrW body = [] then (8, q0) else (3, .mk (if (phrW body).length = 1 then 2 else 3) (phrW body) 0 [])
/-- What stands at a place without blanks: a token, and how many bytes it takes. -/
def wordQ (s : Str) : Str := s.takeWhile fun d => !stpC d
def tokC (c : UInt8) (t : Str) : Int × Qry × Nat :=
 if c = 40 then (1, q0, 1) else if c = 41 then (2, q0, 1) else if c = 34 then (match fstL 34 t with
   | none => (8, q0, 0)
   | some p => ((phraseQ p.1).1, (phraseQ p.1).2, p.1.length + 2))
  else ((pieceQ (lowS (wordQ (c :: t)))).1, (pieceQ (lowS (wordQ (c :: t)))).2, (wordQ (c :: t)).length)
def tokQ : Str → Int × Qry × Nat
 | [] => (0, q0, 0)
 | c :: t => tokC c t
def skpQ (s : Str) (a : Nat) : Nat := a + ((s.drop a).takeWhile blkC).length
/-- The token from a place on, and the place behind it. -/
def nextQ (s : Str) (a : Nat) : Tk × Nat := (⟨(tokQ (s.drop (skpQ s a))).1, skpQ s a, (tokQ (s.drop (skpQ s a))).2.1⟩, skpQ s a + (tokQ (s.drop (skpQ s a))).2.2)
def toksF (s : Str) : Nat → Nat → List Tk
 | 0, _ => []
 | f + 1, a => if (nextQ s a).1.kind = 0 ∨ (nextQ s a).1.kind = 8 then [(nextQ s a).1] else (nextQ s a).1 :: toksF s f (nextQ s a).2
/-- The tokens from a place on, to the end or to the first that is none. -/
def toksQ (s : Str) (a : Nat) : List Tk := toksF s (s.length + 1 - a) a
theorem piece_kind (s : Str) : (pieceQ s).1 ≠ 0 := by
 unfold pieceQ slashQ colonQ
 repeat' split
 all_goals first | decide | (simp; done)
theorem phrase_kind (s : Str) : (phraseQ s).1 = 8 ∨ (phraseQ s).1 = 3 := by
 unfold phraseQ
 split
 ·exact .inl rfl
 ·exact .inr rfl
theorem skp_le (s : Str) {a : Nat} (h : a ≤ s.length) : a ≤ skpQ s a ∧ skpQ s a ≤ s.length := by
 unfold skpQ
 have := (List.takeWhile_prefix (l := s.drop a) blkC).length_le
 rw [List.length_drop] at this
 omega
theorem fstL_le {c : UInt8} : ∀ {s : Str} {p : Str × Str}, fstL c s = some p → p.1.length + 1 ≤ s.length
 | [], p, h => by cases h
 | d :: t, p, h => by
  unfold fstL at h
  split at h
  ·cases h; simp
  ·obtain ⟨r, hr, rfl⟩ := Option.map_eq_some_iff.1 h
   have := fstL_le hr
   simp
   omega
theorem word_pos {c : UInt8} {t : Str} (h : stpC c = false) : 1 ≤ (wordQ (c :: t)).length := by
 unfold wordQ
 rw [List.takeWhile_cons, show (!stpC c) = true by simpa using h]
 simp
theorem word_le (s : Str) : (wordQ s).length ≤ s.length := (List.takeWhile_prefix _).length_le
theorem tokC_len (c : UInt8) (t : Str) (hb : blkC c = false) : (tokC c t).2.2 ≤ t.length + 1 ∧ (tokC c t).1 ≠ 0 ∧ ((tokC c t).1 ≠ 8 → 1 ≤ (tokC c t).2.2) := by
 unfold tokC
 by_cases h1 : c = 40
 ·rw [if_pos h1]; exact ⟨by simp, by decide, fun _ => Nat.le_refl _⟩
 rw [if_neg h1]
 by_cases h2 : c = 41
 ·rw [if_pos h2]; exact ⟨by simp, by decide, fun _ => Nat.le_refl _⟩
 rw [if_neg h2]
 by_cases h3 : c = 34
 ·rw [if_pos h3]
  cases hf : fstL 34 t with
  | none => exact ⟨by simp, by decide, fun h => absurd rfl h⟩
  | some p =>
   have := fstL_le hf
   refine ⟨by simp; omega, fun h => ?_, fun _ => by simp⟩
   rcases phrase_kind p.1 with h2 | h2 <;> simp only at h <;> rw [h2] at h <;> cases h
 rw [if_neg h3]
 refine ⟨by have := word_le (c :: t); simpa using this, piece_kind _, fun _ => word_pos ?_⟩
 simp [blkC] at hb
 simp [stpC, hb, h1, h2, h3]
theorem skp_head (s : Str) {a : Nat} {c : UInt8} {t : Str} (h : s.drop (skpQ s a) = c :: t) : blkC c = false := by
 unfold skpQ at h
 rw [← List.drop_drop] at h
 have h2 : ∀ l : Str, l.drop (l.takeWhile blkC).length = c :: t → blkC c = false := by
  intro l
  induction l with
  | nil => intro h; simp at h
  | cons d l ih =>
   intro h
   rw [List.takeWhile_cons] at h
   by_cases hd : blkC d = true
   ·rw [if_pos hd] at h
    simp only [List.length_cons, List.drop_succ_cons] at h
    exact ih h
   ·rw [if_neg hd] at h
    simp at h
    rw [← h.1]; simpa using hd
 exact h2 _ h
/-- Behind a token that is no end and not wrong. -/
theorem next_len (s : Str) {a : Nat} (h : a ≤ s.length) : (nextQ s a).2 ≤ s.length ∧ ((nextQ s a).1.kind = 0 → (nextQ s a).1.pos = s.length) ∧ ((nextQ s a).1.kind ≠ 0 → (nextQ s a).1.kind ≠ 8 → a + 1 ≤ (nextQ s a).2) := by
 obtain ⟨h1, h2⟩ := skp_le s h
 show skpQ s a + (tokQ (s.drop (skpQ s a))).2.2 ≤ s.length ∧ ((tokQ (s.drop (skpQ s a))).1 = 0 → skpQ s a = s.length) ∧ ((tokQ (s.drop (skpQ s a))).1 ≠ 0 → (tokQ (s.drop (skpQ s a))).1 ≠ 8 → a + 1 ≤ skpQ s a + (tokQ (s.drop (skpQ s a))).2.2)
 have hl : (s.drop (skpQ s a)).length = s.length - skpQ s a := List.length_drop
 have hh : ∀ c t, s.drop (skpQ s a) = c :: t → blkC c = false := fun c t => skp_head s
 cases hd : s.drop (skpQ s a) with
 | nil =>
  rw [hd] at hl
  simp only [List.length_nil] at hl
  exact ⟨by show skpQ s a + 0 ≤ _; omega, fun _ => by omega, fun h => absurd rfl h⟩
 | cons c t =>
  rw [hd] at hl
  obtain ⟨h3, h4, h5⟩ := tokC_len c t (hh c t hd)
  simp only [List.length_cons] at hl
  exact ⟨by show skpQ s a + (tokC c t).2.2 ≤ _; omega, fun h => absurd h h4, fun _ h8 => by have := h5 h8; show a + 1 ≤ skpQ s a + (tokC c t).2.2; omega⟩
theorem toksF_fuel (s : Str) : ∀ (f g a : Nat), a ≤ s.length → s.length + 1 ≤ f + a → s.length + 1 ≤ g + a → toksF s f a = toksF s g a
 | 0, g, a, h, h1, h2 => by omega
 | f + 1, 0, a, h, h1, h2 => by omega
 | f + 1, g + 1, a, h, h1, h2 => by
  unfold toksF
  obtain ⟨h3, h4, h5⟩ := next_len s h
  split
  ·rfl
  ·rename_i hk
   have := h5 (fun e => hk (.inl e)) (fun e => hk (.inr e))
   rw [toksF_fuel s f g _ h3 (by omega) (by omega)]
theorem toks_eq (s : Str) {a : Nat} (h : a ≤ s.length) : toksQ s a = if (nextQ s a).1.kind = 0 ∨ (nextQ s a).1.kind = 8 then [(nextQ s a).1] else (nextQ s a).1 :: toksQ s (nextQ s a).2 := by
 unfold toksQ
 rw [show s.length + 1 - a = (s.length - a) + 1 by omega, toksF]
 obtain ⟨h3, h4, h5⟩ := next_len s h
 split
 ·rfl
 ·rename_i hk
  have := h5 (fun e => hk (.inl e)) (fun e => hk (.inr e))
  rw [toksF_fuel s _ (s.length + 1 - (nextQ s a).2) _ h3 (by omega) (by omega)]
theorem toksF_le (s : Str) : ∀ (f a : Nat), (toksF s f a).length ≤ f
 | 0, _ => Nat.le_refl _
 | f + 1, a => by
  unfold toksF
  split
  ·simp
  ·have := toksF_le s f (nextQ s a).2
   simp
   omega
theorem toks_len (s : Str) (a : Nat) : (toksQ s a).length ≤ s.length + 1 - a := toksF_le s _ a

/-- What reading a part of a search leads to: the tokens at which it failed, or the search and the tokens behind it. -/
abbrev PR := List Tk ⊕ (Qry × List Tk)
def kdL : List Tk → Int | [] => 0 | t :: _ => t.kind
def qL : List Tk → Qry | [] => q0 | t :: _ => t.q
def closeP : PR → PR
 | .inl l => .inl l
 | .inr (q, l) => if kdL l = 2 then .inr (q, l.tail) else .inl l
def pPart (rec : List Tk → PR) (L : List Tk) : PR :=
 if kdL L = 3 then .inr (qL L, L.tail) else if kdL L = 1 then closeP (rec L.tail) else .inl L
def pNearL (rec : List Tk → PR) : Nat → Qry → List Tk → PR
 | 0, _, L => .inl L
 | f + 1, q, L => if kdL L = 7 then (match pPart rec L.tail with
   | .inl l => .inl l
   | .inr (b, l) => pNearL rec f (.mk (qL L).kind [] (qL L).num [q, b]) l) else .inr (q, L)
def pNear (rec : List Tk → PR) (f : Nat) (L : List Tk) : PR := match pPart rec L with
 | .inl l => .inl l
 | .inr (q, l) => pNearL rec f q l
def notN : Nat → Qry → Qry
 | 0, q => q
 | n + 1, q => notN n (.mk 8 [] 0 [q])
def notP (n : Nat) : PR → PR
 | .inl l => .inl l
 | .inr (q, l) => .inr (notN n q, l)
def notL (L : List Tk) : Nat := (L.takeWhile fun t => t.kind == 6).length
def pNot (rec : List Tk → PR) (f : Nat) (L : List Tk) : PR := notP (notL L) (pNear rec f (L.drop (notL L)))
def pSevL (kind between : Int) (el : List Tk → PR) : Nat → List Qry → List Tk → PR
 | 0, _, L => .inl L
 | f + 1, qs, L => if kdL L = between then (match el L.tail with
   | .inl l => .inl l
   | .inr (q, l) => pSevL kind between el f (qs ++ [q]) l) else .inr (.mk kind [] 0 qs, L)
def pSev (kind between : Int) (el : List Tk → PR) (f : Nat) (L : List Tk) : PR := match el L with
 | .inl l => .inl l
 | .inr (q, l) => if kdL l = between then pSevL kind between el f [q] l else .inr (q, l)
def pOr : Nat → List Tk → PR
 | 0, L => .inl L
 | f + 1, L => pSev 7 5 (pSev 6 4 (pNot (pOr f) f) f) f L
end Go.Proofs.YtnfflgicngeekaaGreatDoor

/-
 DERIVED: THE SHELF's CONTRACTS AT THIS DUMP, IN PLAIN WORDS (tools/lay-plain.mjs out of 'YtnfflgicngeekaaGreatDoorLayCln.lean', which tools/lay-shelf.mjs wrote): THE SAME DECLARATIONS UNDER THE SAME NAMES: 'import', 'namespace', 'open', 'def', 'theorem' AND NOTHING ELSE: no command of the shelf's: FOR A HAND-IN. Each laying: the table of numbers ('.._ren') and one theorem, a field a fact of the dump's own or the kernel's comparison; each contract: ONE APPLICATION.
-/
namespace Go.Proofs
open Go.Shelf
def Tryz.laysNm216_ren : Go.Shelf.Ren := ⟨fun | 16 => 140 | n => n, fun | 24 => 26 | 9 => 9 | 4 => 4 | n => n, fun | n => n⟩
theorem Tryz.laysNm216 : Go.Proofs.Lays2.n16 Tryz.prog Tryz.laysNm216_ren := {
 mixed := by kernel_rfl
 f16 := Tryz.func140.trans (congrArg some (by kernel_rfl))
 t4 := Tryz.underlying4
 a4 := Tryz.isAgg4
 z4 := Tryz.sizeOf4
 v4 := Tryz.zeroValue4
 t9 := Tryz.underlying9
 a9 := Tryz.isAgg9
 z9 := Tryz.sizeOf9
 v9 := Tryz.zeroValue9
 t24 := Tryz.underlying26
 a24 := Tryz.isAgg26
 z24 := Tryz.sizeOf26
 v24 := Tryz.zeroValue26
 i9 := by kernel_rfl }
end Go.Proofs

/- slices.Clone of strings. -/
namespace Go.Proofs.YtnfflgicngeekaaGreatDoor
set_option linter.unusedVariables false
set_option linter.unusedSimpArgs false
open Go.RowKit

/-- A slice that is a copy. -/
def OwnCPost (w : World) (xs : List Str) (e : Ending) (w' : World) : Prop := ∃ v, e = .returned v ∧ w'.ownsRow w.heap.size 9 1 v xs.length (strsV xs) ∧ Pure w w'
theorem cloneC_calls (w : World) (v : Value) (xs : List Str) (hv : Sl w 9 1 v (strsV xs)) (hl : xs.length ≤ 1000000) : Calls Tryz.prog 140 #[v] w (OwnCPost w xs) := by
 obtain ⟨A, n, c, rfl, h1, h2, h3, h4⟩ := hv
 have hn : xs.length = n := by simpa [strsV] using h3
 subst hn
 cases A with
 | none =>
  have h0 : xs.length = 0 := by
   rcases Nat.eq_zero_or_pos xs.length with h | h
   ·exact h
   ·obtain ⟨g, off, h, _⟩ := h4 h
    cases h
  have e : xs = [] := List.eq_nil_of_length_eq_zero h0
  subst e
  refine (Any.slices_Clone_string_nil Tryz.laysNm216 _ c w).mono ?_
  rintro e w' ⟨rfl, rfl⟩
  exact ⟨_, rfl, ⟨rfl, .inl ⟨rfl, rfl⟩⟩, Mod.refl _ _⟩
 | some a =>
  rcases Nat.eq_zero_or_pos xs.length with h0 | h0
  ·have e : xs = [] := List.eq_nil_of_length_eq_zero h0
   subst e
   refine (Any.slices_Clone_string_zero Tryz.laysNm216 a c w).mono ?_
   rintro e w' ⟨v', rfl, hown, _, hb⟩
   exact ⟨_, rfl, hown, Mod.of_below hb⟩
  ·obtain ⟨g, off, ha, hr⟩ := h4 h0
   injection ha with ha
   subst ha
   refine (Any.slices_Clone_string Tryz.laysNm216 g off xs.length c (xs.map fun l => ⟨l.toArray⟩) w (by simp) (by omega) (fun j hj => ?_)).mono ?_
   ·have hj' : j < xs.length := by simpa using hj
    rw [hr.cell (strsV_get xs j hj')]
    simp [List.getD, hj']
   ·rintro e w' ⟨v', rfl, hown, _, hb⟩
    refine ⟨_, rfl, ?_, Mod.of_below hb⟩
    rw [List.take_of_length_le (by simp), List.map_map] at hown
    exact hown

end Go.Proofs.YtnfflgicngeekaaGreatDoor

/- The one line that the laws of reviews have read: its words, its field. -/
namespace Go.Proofs.YtnfflgicngeekaaGreatDoor
set_option linter.unusedVariables false
set_option linter.unusedSimpArgs false
open Go.RowKit

/-- The library's table of blanks is as it is laid. -/
def Asc (w : World) : Prop := Lib.TabIs Tryz.prog w "strings.asciiSpace" .u8 Lib.asciiSpaceTab
theorem asc_g : Tryz.prog.globalNamed "strings.asciiSpace" = some 4 := by kernel_rfl
theorem Asc.mod {w w' : World} {S : Nat → Prop} (h : Asc w) (hm : Mod S w w') (hs : ¬ S 4) : Asc w' := by
 unfold Asc Lib.TabIs World.var? at h ⊢
 rw [asc_g] at h ⊢
 simp only [Option.bind_some] at h ⊢
 cases hh : w.heap[4]? with
 | none => rw [hh] at h; cases h
 | some o =>
  rw [hm.block _ (lt_of_heap hh) hs]
  exact h
theorem Asc.pure {w w' : World} (h : Asc w) (hm : Pure w w') : Asc w' := h.mod hm id -- 4
def ws5 : List Str := [[97, 115, 107], [97], [111, 110, 101], [110, 111, 110, 101], [98]]
end Go.Proofs.YtnfflgicngeekaaGreatDoor

/- askLine of the program, for any words. -/
namespace Go.Proofs.YtnfflgicngeekaaGreatDoor
set_option linter.unusedVariables false
set_option linter.unusedSimpArgs false
open Go.RowKit

end Go.Proofs.YtnfflgicngeekaaGreatDoor

/- ruleLine of the program, for any words. -/
namespace Go.Proofs.YtnfflgicngeekaaGreatDoor
set_option linter.unusedVariables false
set_option linter.unusedSimpArgs false
open Go.RowKit

/-- Two blocks of old. -/
def TwoB (Z : World) (g gr : Nat) (t1 t2 : TypeId) (c1 c2 : Array Value) : Prop := Blk Z g t1 c1 ∧ Blk Z gr t2 c2
theorem TwoB.far {Z : World} {g gr q : Nat} {t1 t2 : TypeId} {c1 c2 : Array Value} (h : TwoB Z g gr t1 t2 c1 c2) (h1 : g ≠ q) (h2 : gr ≠ q) (j : Nat) (u : Value) : TwoB (Z.setCell ⟨q, j, none⟩ u) g gr t1 t2 c1 c2 := ⟨h.1.far h1 u, h.2.far h2 u⟩
theorem inI_calls (w : World) (n lo hi : Int) : Calls Tryz.prog 65 #[.int .i64 n, .int .i64 lo, .int .i64 hi] w (BoolPost w (decide (lo ≤ n) && decide (n ≤ hi))) := by
 go_enter Tryz.func65, Tryz.ntmps65
 by_cases h : lo ≤ n
 ·go_wp2_with fail
  go_ret
  exact BoolPost.of (by simp [h]) (Mod.refl _ _)
 ·go_wp2_with fail
  go_ret
  exact BoolPost.of (by rw [decide_eq_false (show ¬ lo ≤ n by omega)]; rfl) (Mod.refl _ _)

end Go.Proofs.YtnfflgicngeekaaGreatDoor

/-
 DERIVED: THE SHELF's CONTRACTS AT THIS DUMP, IN PLAIN WORDS (tools/lay-plain.mjs out of 'YtnfflgicngeekaaGreatDoorLayWra.lean', which tools/lay-shelf.mjs wrote): THE SAME DECLARATIONS UNDER THE SAME NAMES: 'import', 'namespace', 'open', 'def', 'theorem' AND NOTHING ELSE: no command of the shelf's: FOR A HAND-IN. Each laying: the table of numbers ('.._ren') and one theorem, a field a fact of the dump's own or the kernel's comparison; each contract: ONE APPLICATION.
-/
namespace Go.Proofs
open Go.Shelf
def Tryz.lays103_ren : Go.Shelf.Ren := ⟨fun | 103 => 240 | 210 => 271 | 206 => 201 | n => n, fun | 9 => 9 | 4 => 4 | 24 => 194 | 3 => 3 | n => n, fun | n => n⟩
theorem Tryz.lays103 : Go.Proofs.Lays.n103 Tryz.prog Tryz.lays103_ren := {
 mixed := by kernel_rfl
 f103 := Tryz.func240.trans (congrArg some (by kernel_rfl))
 f206 := Tryz.func201.trans (congrArg some (by kernel_rfl))
 f210 := Tryz.func271.trans (congrArg some (by kernel_rfl))
 t3 := Tryz.underlying3
 a3 := Tryz.isAgg3
 z3 := Tryz.sizeOf3
 v3 := Tryz.zeroValue3
 t4 := Tryz.underlying4
 a4 := Tryz.isAgg4
 z4 := Tryz.sizeOf4
 v4 := Tryz.zeroValue4
 t9 := Tryz.underlying9
 a9 := Tryz.isAgg9
 z9 := Tryz.sizeOf9
 v9 := Tryz.zeroValue9
 t24 := Tryz.underlying194
 a24 := Tryz.isAgg194
 z24 := Tryz.sizeOf194
 v24 := Tryz.zeroValue194 }
end Go.Proofs

/-
 DERIVED: THE SHELF's CONTRACTS AT THIS DUMP, IN PLAIN WORDS (tools/lay-plain.mjs out of 'YtnfflgicngeekaaGreatDoorLayAto.lean', which tools/lay-shelf.mjs wrote): THE SAME DECLARATIONS UNDER THE SAME NAMES: 'import', 'namespace', 'open', 'def', 'theorem' AND NOTHING ELSE: no command of the shelf's: FOR A HAND-IN. Each laying: the table of numbers ('.._ren') and one theorem, a field a fact of the dump's own or the kernel's comparison; each contract: ONE APPLICATION.
-/
namespace Go.Proofs
open Go.Shelf
def Tryz.lays172_ren : Go.Shelf.Ren := ⟨fun | 172 => 283 | 244 => 304 | 245 => 305 | 247 => 314 | 279 => 315 | 280 => 316 | 281 => 317 | 282 => 318 | 287 => 322 | 316 => 323 | 171 => 48 | 205 => 324 | 321 => 325 | 322 => 326 | 243 => 114 | 246 => 188 | 283 => 230 | 284 => 231 | 285 => 232 | 286 => 233 | 129 => 264 | 317 => 263 | 318 => 265 | 319 => 266 | 320 => 267 | 337 => 284 | 338 => 285 | n => n, fun | 9 => 9 | 3 => 3 | 75 => 146 | 76 => 147 | 4 => 4 | 5 => 5 | 167 => 312 | 37 => 141 | 0 => 0 | 85 => 313 | 2 => 2 | 168 => 315 | 53 => 224 | 175 => 331 | 46 => 180 | 210 => 334 | 127 => 213 | 145 => 341 | 143 => 339 | 21 => 21 | 171 => 251 | 173 => 254 | 212 => 279 | 51 => 221 | 20 => 20 | 213 => 280 | 232 => 299 | 233 => 300 | 80 => 65 | n => n, fun | 15 => 8 | 16 => 9 | 17 => 2 | 18 => 5 | 19 => 6 | n => n⟩
theorem Tryz.lays172 : Go.Proofs.Lays.n172 Tryz.prog Tryz.lays172_ren := {
 mixed := by kernel_rfl
 f129 := Tryz.func264.trans (congrArg some (by kernel_rfl))
 f171 := Tryz.func48.trans (congrArg some (by kernel_rfl))
 f172 := Tryz.func283.trans (congrArg some (by kernel_rfl))
 f205 := Tryz.func324.trans (congrArg some (by kernel_rfl))
 f243 := Tryz.func114.trans (congrArg some (by kernel_rfl))
 f244 := Tryz.func304.trans (congrArg some (by kernel_rfl))
 f245 := Tryz.func305.trans (congrArg some (by kernel_rfl))
 f246 := Tryz.func188.trans (congrArg some (by kernel_rfl))
 f247 := Tryz.func314.trans (congrArg some (by kernel_rfl))
 f279 := Tryz.func315.trans (congrArg some (by kernel_rfl))
 f280 := Tryz.func316.trans (congrArg some (by kernel_rfl))
 f281 := Tryz.func317.trans (congrArg some (by kernel_rfl))
 f282 := Tryz.func318.trans (congrArg some (by kernel_rfl))
 f283 := Tryz.func230.trans (congrArg some (by kernel_rfl))
 f284 := Tryz.func231.trans (congrArg some (by kernel_rfl))
 f285 := Tryz.func232.trans (congrArg some (by kernel_rfl))
 f286 := Tryz.func233.trans (congrArg some (by kernel_rfl))
 f287 := Tryz.func322.trans (congrArg some (by kernel_rfl))
 f316 := Tryz.func323.trans (congrArg some (by kernel_rfl))
 f317 := Tryz.func263.trans (congrArg some (by kernel_rfl))
 f318 := Tryz.func265.trans (congrArg some (by kernel_rfl))
 f319 := Tryz.func266.trans (congrArg some (by kernel_rfl))
 f320 := Tryz.func267.trans (congrArg some (by kernel_rfl))
 f321 := Tryz.func325.trans (congrArg some (by kernel_rfl))
 f322 := Tryz.func326.trans (congrArg some (by kernel_rfl))
 f337 := Tryz.func284.trans (congrArg some (by kernel_rfl))
 f338 := Tryz.func285.trans (congrArg some (by kernel_rfl))
 t0 := Tryz.underlying0
 a0 := Tryz.isAgg0
 z0 := Tryz.sizeOf0
 v0 := Tryz.zeroValue0
 t2 := Tryz.underlying2
 a2 := Tryz.isAgg2
 z2 := Tryz.sizeOf2
 v2 := Tryz.zeroValue2
 t3 := Tryz.underlying3
 a3 := Tryz.isAgg3
 z3 := Tryz.sizeOf3
 v3 := Tryz.zeroValue3
 t4 := Tryz.underlying4
 a4 := Tryz.isAgg4
 z4 := Tryz.sizeOf4
 v4 := Tryz.zeroValue4
 t5 := Tryz.underlying5
 a5 := Tryz.isAgg5
 z5 := Tryz.sizeOf5
 v5 := Tryz.zeroValue5
 t9 := Tryz.underlying9
 a9 := Tryz.isAgg9
 z9 := Tryz.sizeOf9
 v9 := Tryz.zeroValue9
 t20 := Tryz.underlying20
 a20 := Tryz.isAgg20
 z20 := Tryz.sizeOf20
 v20 := Tryz.zeroValue20
 t21 := Tryz.underlying21
 a21 := Tryz.isAgg21
 z21 := Tryz.sizeOf21
 v21 := Tryz.zeroValue21
 t37 := Tryz.underlying141
 a37 := Tryz.isAgg141
 z37 := Tryz.sizeOf141
 v37 := Tryz.zeroValue141
 t46 := Tryz.underlying180
 a46 := Tryz.isAgg180
 z46 := Tryz.sizeOf180
 v46 := Tryz.zeroValue180
 t51 := Tryz.underlying221
 a51 := Tryz.isAgg221
 z51 := Tryz.sizeOf221
 v51 := Tryz.zeroValue221
 t53 := Tryz.underlying224
 a53 := Tryz.isAgg224
 z53 := Tryz.sizeOf224
 v53 := Tryz.zeroValue224
 t75 := Tryz.underlying146
 a75 := Tryz.isAgg146
 z75 := Tryz.sizeOf146
 v75 := Tryz.zeroValue146
 t76 := Tryz.underlying147
 a76 := Tryz.isAgg147
 z76 := Tryz.sizeOf147
 v76 := Tryz.zeroValue147
 t85 := Tryz.underlying313
 a85 := Tryz.isAgg313
 z85 := Tryz.sizeOf313
 v85 := Tryz.zeroValue313
 t127 := Tryz.underlying213
 a127 := Tryz.isAgg213
 z127 := Tryz.sizeOf213
 v127 := Tryz.zeroValue213
 t143 := Tryz.underlying339
 a143 := Tryz.isAgg339
 z143 := Tryz.sizeOf339
 v143 := Tryz.zeroValue339
 t145 := Tryz.underlying341
 a145 := Tryz.isAgg341
 z145 := Tryz.sizeOf341
 v145 := Tryz.zeroValue341
 t167 := Tryz.underlying312
 a167 := Tryz.isAgg312
 z167 := Tryz.sizeOf312
 v167 := Tryz.zeroValue312
 t168 := Tryz.underlying315
 a168 := Tryz.isAgg315
 z168 := Tryz.sizeOf315
 v168 := Tryz.zeroValue315
 t171 := Tryz.underlying251
 a171 := Tryz.isAgg251
 z171 := Tryz.sizeOf251
 v171 := Tryz.zeroValue251
 t173 := Tryz.underlying254
 a173 := Tryz.isAgg254
 z173 := Tryz.sizeOf254
 v173 := Tryz.zeroValue254
 t175 := Tryz.underlying331
 a175 := Tryz.isAgg331
 z175 := Tryz.sizeOf331
 v175 := Tryz.zeroValue331
 t210 := Tryz.underlying334
 a210 := Tryz.isAgg334
 z210 := Tryz.sizeOf334
 v210 := Tryz.zeroValue334
 t212 := Tryz.underlying279
 a212 := Tryz.isAgg279
 z212 := Tryz.sizeOf279
 v212 := Tryz.zeroValue279
 t213 := Tryz.underlying280
 a213 := Tryz.isAgg280
 z213 := Tryz.sizeOf280
 t232 := Tryz.underlying299
 a232 := Tryz.isAgg299
 z232 := Tryz.sizeOf299
 v232 := Tryz.zeroValue299
 t233 := Tryz.underlying300
 a233 := Tryz.isAgg300
 z233 := Tryz.sizeOf300
 v233 := Tryz.zeroValue300
 g15 := by kernel_rfl
 g16 := by kernel_rfl
 g17 := by kernel_rfl
 g18 := by kernel_rfl
 g19 := by kernel_rfl }
end Go.Proofs

/-
 DERIVED: THE SHELF's CONTRACTS AT THIS DUMP, IN PLAIN WORDS (tools/lay-plain.mjs out of 'YtnfflgicngeekaaGreatDoorLayIto.lean', which tools/lay-shelf.mjs wrote): THE SAME DECLARATIONS UNDER THE SAME NAMES: 'import', 'namespace', 'open', 'def', 'theorem' AND NOTHING ELSE: no command of the shelf's: FOR A HAND-IN. Each laying: the table of numbers ('.._ren') and one theorem, a field a fact of the dump's own or the kernel's comparison; each contract: ONE APPLICATION.
-/
namespace Go.Proofs
open Go.Shelf
def Tryz.laysM171_ren : Go.Shelf.Ren := ⟨fun | 171 => 48 | 243 => 114 | 246 => 188 | 283 => 230 | 284 => 231 | 285 => 232 | 286 => 233 | 129 => 264 | 317 => 263 | 318 => 265 | 319 => 266 | 320 => 267 | 337 => 284 | 338 => 285 | n => n, fun | 3 => 3 | 9 => 9 | 2 => 2 | 4 => 4 | 171 => 251 | 0 => 0 | 53 => 224 | 37 => 141 | 5 => 5 | 173 => 254 | 212 => 279 | 51 => 221 | 20 => 20 | 213 => 280 | 46 => 180 | 232 => 299 | 233 => 300 | n => n, fun | 17 => 2 | 18 => 5 | 19 => 6 | n => n⟩
theorem Tryz.laysM171 : Go.Proofs.LaysM.n171 Tryz.prog Tryz.laysM171_ren := {
 mixed := by kernel_rfl
 f129 := Tryz.func264.trans (congrArg some (by kernel_rfl))
 f171 := Tryz.func48.trans (congrArg some (by kernel_rfl))
 f243 := Tryz.func114.trans (congrArg some (by kernel_rfl))
 f246 := Tryz.func188.trans (congrArg some (by kernel_rfl))
 f283 := Tryz.func230.trans (congrArg some (by kernel_rfl))
 f284 := Tryz.func231.trans (congrArg some (by kernel_rfl))
 f285 := Tryz.func232.trans (congrArg some (by kernel_rfl))
 f286 := Tryz.func233.trans (congrArg some (by kernel_rfl))
 f317 := Tryz.func263.trans (congrArg some (by kernel_rfl))
 f318 := Tryz.func265.trans (congrArg some (by kernel_rfl))
 f319 := Tryz.func266.trans (congrArg some (by kernel_rfl))
 f320 := Tryz.func267.trans (congrArg some (by kernel_rfl))
 f337 := Tryz.func284.trans (congrArg some (by kernel_rfl))
 f338 := Tryz.func285.trans (congrArg some (by kernel_rfl))
 t0 := Tryz.underlying0
 a0 := Tryz.isAgg0
 z0 := Tryz.sizeOf0
 v0 := Tryz.zeroValue0
 t2 := Tryz.underlying2
 a2 := Tryz.isAgg2
 z2 := Tryz.sizeOf2
 v2 := Tryz.zeroValue2
 t3 := Tryz.underlying3
 a3 := Tryz.isAgg3
 z3 := Tryz.sizeOf3
 v3 := Tryz.zeroValue3
 t4 := Tryz.underlying4
 a4 := Tryz.isAgg4
 z4 := Tryz.sizeOf4
 v4 := Tryz.zeroValue4
 t5 := Tryz.underlying5
 a5 := Tryz.isAgg5
 z5 := Tryz.sizeOf5
 v5 := Tryz.zeroValue5
 t9 := Tryz.underlying9
 a9 := Tryz.isAgg9
 z9 := Tryz.sizeOf9
 v9 := Tryz.zeroValue9
 t20 := Tryz.underlying20
 a20 := Tryz.isAgg20
 z20 := Tryz.sizeOf20
 v20 := Tryz.zeroValue20
 t37 := Tryz.underlying141
 a37 := Tryz.isAgg141
 z37 := Tryz.sizeOf141
 v37 := Tryz.zeroValue141
 t46 := Tryz.underlying180
 a46 := Tryz.isAgg180
 z46 := Tryz.sizeOf180
 v46 := Tryz.zeroValue180
 t51 := Tryz.underlying221
 a51 := Tryz.isAgg221
 z51 := Tryz.sizeOf221
 v51 := Tryz.zeroValue221
 t53 := Tryz.underlying224
 a53 := Tryz.isAgg224
 z53 := Tryz.sizeOf224
 v53 := Tryz.zeroValue224
 t171 := Tryz.underlying251
 a171 := Tryz.isAgg251
 z171 := Tryz.sizeOf251
 v171 := Tryz.zeroValue251
 t173 := Tryz.underlying254
 a173 := Tryz.isAgg254
 z173 := Tryz.sizeOf254
 v173 := Tryz.zeroValue254
 t212 := Tryz.underlying279
 a212 := Tryz.isAgg279
 z212 := Tryz.sizeOf279
 v212 := Tryz.zeroValue279
 t213 := Tryz.underlying280
 a213 := Tryz.isAgg280
 z213 := Tryz.sizeOf280
 t232 := Tryz.underlying299
 a232 := Tryz.isAgg299
 z232 := Tryz.sizeOf299
 v232 := Tryz.zeroValue299
 t233 := Tryz.underlying300
 a233 := Tryz.isAgg300
 z233 := Tryz.sizeOf300
 v233 := Tryz.zeroValue300
 g17 := by kernel_rfl
 g18 := by kernel_rfl
 g19 := by kernel_rfl
 i0 := by kernel_rfl
 i2 := by kernel_rfl
 i3 := by kernel_rfl
 i4 := by kernel_rfl
 i5 := by kernel_rfl
 i9 := by kernel_rfl
 i20 := by kernel_rfl
 i37 := by kernel_rfl
 i46 := by kernel_rfl
 i51 := by kernel_rfl
 i53 := by kernel_rfl
 i171 := by kernel_rfl
 i173 := by kernel_rfl
 i212 := by kernel_rfl
 i232 := by kernel_rfl
 i233 := by kernel_rfl
 m17 := by kernel_rfl
 m18 := by kernel_rfl
 m19 := by kernel_rfl }
end Go.Proofs

/- Numbers of at most nine digits, as the program and as the reference read them. -/
namespace Go.Proofs.YtnfflgicngeekaaGreatDoor
set_option linter.unusedVariables false
set_option linter.unusedSimpArgs false
open Go.RowKit

/-- The table of powers of ten is as it is laid. -/
def Pow (w : World) : Prop := Lib.TabIs Tryz.prog w "internal/strconv.uint64pow10" .u64 Lib.pow10Tab
theorem pow_g : Tryz.prog.globalNamed "internal/strconv.uint64pow10" = some 2 := by kernel_rfl
theorem Pow.mod {w w' : World} {S : Nat → Prop} (h : Pow w) (hm : Mod S w w') (hs : ¬ S 2) : Pow w' := by
 unfold Pow Lib.TabIs World.var? at h ⊢
 rw [pow_g] at h ⊢
 simp only [Option.bind_some] at h ⊢
 cases hh : w.heap[2]? with
 | none => rw [hh] at h; cases h
 | some o =>
  rw [hm.block _ (lt_of_heap hh) hs]
  exact h
theorem Pow.pure {w w' : World} (h : Pow w) (hm : Pure w w') : Pow w' := h.mod hm id
theorem Pow.lt {w : World} (h : Pow w) : 2 < w.heap.size := by
 unfold Pow Lib.TabIs World.var? at h
 rw [pow_g] at h
 simp only [Option.bind_some] at h
 cases hh : w.heap[2]? with
 | none => rw [hh] at h; cases h
 | some o => exact lt_of_heap hh
theorem itoaW_calls (w : World) (n : Int) (h0 : -1099511627776 ≤ n) (h1 : n ≤ 1099511627776) (hP : Pow w) : Calls Tryz.prog 48 #[.int .i64 n] w (fun e w' => e = .returned (.string ⟨(Lib.itoa n).toArray⟩) ∧ Pure w w') := by
 refine (Any.strconv_Itoa Tryz.laysM171 n (by omega) (by omega) w hP).mono ?_
 rintro e w' ⟨rfl, k, os, rfl⟩
 exact ⟨rfl, Mod.of_below ⟨rfl, rfl, rfl, by simp [Sort.grow, World.drewN], fun i hi => by simp [Sort.grow, World.drewN, Array.getElem?_append_left hi]⟩⟩
theorem atoiW_calls (w : World) (s : Str) (n : Int) (hs : s.length ≤ 18) (h : Lib.atoi s = some n) : Calls Tryz.prog 283 #[.string ⟨s.toArray⟩] w (fun e w' => e = .returned (.tuple #[.int .i64 n, .nilIface]) ∧ Pure w w') := by
 refine (Any.strconv_Atoi Tryz.lays172 ⟨s.toArray⟩ n (by simpa [ByteArray.size] using hs) (by simpa using h) w).mono ?_
 rintro e w' ⟨rfl, t, rfl⟩
 exact ⟨rfl, Mod.of_below (Joins.below_bytesWorld _ _ _ _ (Nat.le_refl _))⟩
/-- What reading a number answers. -/
def NumPost (w : World) (o : Option Int) (e : Ending) (w' : World) : Prop := ∃ v : Int, e = .returned (.tuple #[.int .i64 v, .bool o.isSome]) ∧ (∀ n, o = some n → v = n) ∧ -1000000000 < v ∧ v < 1000000000 ∧ Pure w w'
theorem NumPost.no {w w' : World} {o : Option Int} (h : o = none) (hm : Pure w w') : NumPost w o (.returned (.tuple #[.int .i64 0, .bool false])) w' :=
 ⟨0, by rw [h]; rfl, fun n hn => (by rw [h] at hn; cases hn), by omega, by omega, hm⟩
theorem numQ_none1 {D : Nat} {s : Str} (h : ¬ numD D (numT s)) : numQ D s = none := by unfold numQ; rw [if_neg (fun hh => h hh.1)]
theorem numQ_none2 {D : Nat} {s : Str} (h : ¬ numC s) : numQ D s = none := by unfold numQ; rw [if_neg (fun hh => h hh.2)]
theorem allD_take {l : Str} {k : Nat} (h : k < l.length) : (l.take (k + 1)).all digB = ((l.take k).all digB && digB l[k]) := by
 rw [List.take_succ_eq_append_getElem h, List.all_append]; simp
theorem numD_fail {D : Nat} {l : Str} {k : Nat} (h : k < l.length) (hk : digB l[k] = false) : ¬ numD D l := fun hh => by
 have := hh.2.2 l[k] (List.getElem_mem h)
 rw [hk] at this
 cases this

set_option maxRecDepth 100000 in
set_option maxHeartbeats 4000000 in
theorem number_calls (w : World) (s : Str) (D : Nat) (hD : D ≤ 9) (hs : s.length ≤ 1000000) : Calls Tryz.prog 261 #[.string ⟨s.toArray⟩, .int .i64 (D : Int)] w (NumPost w (numQ D s)) := by
 have hcp := Any.strings_CutPrefix Tryz.lays103 ⟨s.toArray⟩ ⟨#[45]⟩ w
 change Calls Tryz.prog 240 _ _ (fun e w' => e = .returned (.tuple #[.string ⟨(numT s).toArray⟩, .bool (numMi s)]) ∧ w' = w) at hcp
 have HCP := Lib.hid hcp
 obtain ⟨d, hd⟩ : ∃ d, numT s = d := ⟨_, rfl⟩
 obtain ⟨mi, hmi⟩ : ∃ mi, numMi s = mi := ⟨_, rfl⟩
 have HQ1 : Hid (¬ numD D d → numQ D s = none) := Lib.hid (fun h => numQ_none1 (by rw [hd]; exact h))
 have HQ2 : Hid (¬ (canD d ∧ ¬ (mi = true ∧ d = [48])) → numQ D s = none) := Lib.hid (fun h => numQ_none2 (by unfold numC; rw [hd, hmi]; exact h))
 have HQ3 : Hid (numD D d → canD d ∧ ¬ (mi = true ∧ d = [48]) → ∃ n, numQ D s = some n ∧ Lib.atoi s = some n ∧ -1000000000 < n ∧ n < 1000000000 ∧ s.length ≤ 10) := Lib.hid (fun h1 h2 => by
  rw [← hd] at h1 h2
  rw [← hmi] at h2
  obtain ⟨n, e, b1, b2, _, b3⟩ := num_atoi h1 hD
  exact ⟨n, by unfold numQ; rw [if_pos ⟨h1, h2⟩]; exact e, e, b1, b2, b3⟩)
 rw [hd, hmi] at HCP
 have hdl : d.length ≤ s.length := by rw [← hd]; unfold numT Lib.trimPrefix; split <;> simp
 have hds : (⟨d.toArray⟩ : ByteArray).size = d.length := by simp [ByteArray.size]
 clear hcp hd hmi
 go_enter Tryz.func261, Tryz.ntmps261
 go_wp2_with fail
 refine HCP.out.mono ?_
 rintro e w1 ⟨rfl, rfl⟩
 have HIN := Lib.hid (inI_calls w1 (d.length : Int) 1 (D : Int))
 rw [← hds] at HIN
 obtain ⟨db, hdb⟩ : ∃ db : ByteArray, db = ⟨d.toArray⟩ := ⟨_, rfl⟩
 rw [← hdb] at HIN hds ⊢
 have HDB := Lib.hid hdb
 have HDL : Hid (db.size = d.length) := Lib.hid hds
 have HGET : Hid (∀ k (h : k < db.size) (h2 : k < d.length), db[k] = d[k]) := Lib.hid (by subst hdb; intro k h h2; rfl)
 clear hds hdb HCP
 go_upto_region 2 with (fail)
 go_cut [37] (fun p wy => ∃ fl : Bool, p = .bool fl ∧ Pure w1 wy ∧ (fl = true → numQ D s = none) ∧ (fl = false → 1 ≤ d.length ∧ d.length ≤ D ∧ canD d ∧ ¬ (mi = true ∧ d = [48])))
 case first =>
  go_wp2_with fail
  refine HIN.out.mono ?_
  rintro e w2 ⟨rfl, hm2⟩
  have HM2 := Lib.hid hm2
  clear hm2 HIN
  by_cases hin : 1 ≤ (db.size : Int) ∧ (db.size : Int) ≤ D
  rotate_left
  ·have hdec : (decide ((1 : Int) ≤ (db.size : Int)) && decide ((db.size : Int) ≤ (D : Int))) = false := by
    rw [Bool.and_eq_false_iff]; simp only [decide_eq_false_iff_not]
    omega
   rw [hdec]
   have HN := Lib.hid (HQ1.out (fun h => hin (by have h1 := h.1; have h2 := h.2.1; have h3 := HDL.out; omega)))
   clear hin hdec HQ1 HQ2 HQ3
   go_wp2_with fail
   go_meet
   exact ⟨true, rfl, HM2.out, fun _ => HN.out, fun h => by cases h⟩
  have hdec : (decide ((1 : Int) ≤ (db.size : Int)) && decide ((db.size : Int) ≤ (D : Int))) = true := by
   rw [Bool.and_eq_true_iff]; simp only [decide_eq_true_eq]
   omega
  rw [hdec]
  clear hdec
  have hpos : 0 < db.size := by omega
  by_cases hlz : 1 < d.length ∧ d.headD 0 = 48
  ·have HN := Lib.hid (HQ2.out (fun h => h.1 hlz))
   have h1 : (1 : Int) < (db.size : Int) := by have := HDL.out; omega
   have hx : ((db[0].toNat : Int) == 48) = true := by
    rw [HGET.out 0 hpos (by omega)]
    have h2 := hlz.2
    cases d with
    | nil => simp at hlz
    | cons c t => simp at h2; subst h2; rfl
   clear hlz HQ1 HQ2 HQ3
   go_wp2_with fail
   go_meet
   exact ⟨true, rfl, HM2.out, fun _ => HN.out, fun h => by cases h⟩
  have hlz2 : ¬ (1 : Int) < (db.size : Int) ∨ ((1 : Int) < (db.size : Int) ∧ ((db[0].toNat : Int) == 48) = false) := by
   by_cases h1 : (1 : Int) < (db.size : Int)
   ·refine .inr ⟨h1, ?_⟩
    rw [beq_eq_false_iff_ne]
    intro h2
    refine hlz ⟨by have := HDL.out; omega, ?_⟩
    rw [HGET.out 0 hpos (by have := HDL.out; omega)] at h2
    cases d with
    | nil => have := HDL.out; rw [List.length_nil] at this; omega
    | cons c t => exact UInt8.toNat_inj.mp (by have h3 : ((c.toNat : Int)) = 48 := h2; show c.toNat = 48; omega)
   ·exact .inl h1
  by_cases hmz : mi = true ∧ d = [48]
  ·have HN := Lib.hid (HQ2.out (fun h => h.2 hmz))
   obtain ⟨rfl, rfl⟩ := hmz
   obtain rfl := HDB.out
   clear HQ1 HQ2 HQ3 hlz hlz2 HGET
   go_wp2_with fail
   go_meet
   exact ⟨true, rfl, HM2.out, fun _ => HN.out, fun h => by cases h⟩
  have hmz2 : mi = false ∨ (mi = true ∧ (d == [48]) = false) := by
   cases mi with
   | false => exact .inl rfl
   | true =>
    refine .inr ⟨rfl, ?_⟩
    rw [beq_eq_false_iff_ne]
    exact fun h => hmz ⟨rfl, h⟩
  have HRES : Hid (1 ≤ d.length ∧ d.length ≤ D ∧ canD d ∧ ¬ (mi = true ∧ d = [48])) := Lib.hid ⟨by have := HDL.out; omega, by have := HDL.out; omega, hlz, hmz⟩
  clear hmz hlz HQ1 HQ2 HQ3
  obtain ⟨c0, hc0⟩ : ∃ c0 : UInt8, db[0] = c0 := ⟨_, rfl⟩
  rw [hc0] at hlz2
  have hlz3 : ¬ (1 : Int) < (d.length : Int) ∨ ((1 : Int) < (d.length : Int) ∧ ((c0.toNat : Int) == 48) = false ∧ ¬ (c0.toNat : Int) = 48 ∧ ¬ c0.toNat = 48) := hlz2.imp (fun h => by have := HDL.out; omega) (fun h => ⟨by have := HDL.out; have := h.1; omega, h.2, by simpa using h.2, by have := h.2; simp at this; omega⟩)
  clear hlz2
  have hdb := HDB.out
  subst hdb
  clear HDB HDL HGET
  rcases hlz3 with h1 | ⟨h1, h2, h2b, h2c⟩ <;> rcases hmz2 with rfl | ⟨rfl, h4⟩
  all_goals
   go_wp2_with fail
   go_meet
   exact ⟨false, rfl, HM2.out, fun h => (by cases h), fun _ => HRES.out⟩
 case rest =>
  obtain ⟨fl, rfl, hm2, hno, hyes⟩ := hcut
  have HM2 := Lib.hid hm2
  cases fl
  rotate_left
  ·have HN := Lib.hid (hno rfl)
   clear hno hyes HQ1 HQ2 HQ3 hm2
   go_wp2_with fail
   try simp only [Exit.inBlock, Exit.then]
   refine bodyPost_ret (v := .tuple #[.int .i64 0, .bool false]) (by simp [results, Tryz.results261, go_sem]) rfl ?_
   exact NumPost.no HN.out HM2.out
  obtain ⟨hl1, hl2, hcan, hnz⟩ := hyes rfl
  have HQ4 : Hid (numD D d → ∃ n, numQ D s = some n ∧ Lib.atoi s = some n ∧ -1000000000 < n ∧ n < 1000000000 ∧ s.length ≤ 10) := Lib.hid (fun h => HQ3.out h ⟨hcan, hnz⟩)
  clear hno hyes hm2 HQ2 HQ3 hcan hnz HIN
  go_wp2_with fail
  go_loopg [40] db.size (fun gk i wr => ∃ k : Nat, db.size - k = gk ∧ k ≤ db.size ∧ i = .int .i64 (k : Int) ∧ (d.take k).all digB = true ∧ wr = wc)
  case atStart => exact ⟨0, by omega, by omega, rfl, rfl, rfl⟩
  case round =>
   obtain ⟨k, rfl, hk, rfl, hall, rfl⟩ := hrel
   have HA := Lib.hid hall
   clear hall
   by_cases hlt : k < db.size
   ·have hkd : k < d.length := by have := HDL.out; omega
    have hk9 : k < 9 := by omega
    have hix := HGET.out k hlt hkd
    have HSN := Lib.hid (allD_take hkd)
    have HFA := Lib.hid (fun h => HQ1.out (numD_fail (D := D) hkd h))
    rw [← hix] at HSN HFA
    obtain ⟨c, hc⟩ : ∃ c, db[k] = c := ⟨_, rfl⟩
    rw [hc] at HSN HFA
    clear hix hkd
    go_wp2_with fail
    refine (digit_calls _ _).mono ?_
    rintro e w' ⟨rfl, rfl⟩
    cases hd : digitB c.toNat
    ·have HN := Lib.hid (HFA.out hd)
     clear hd HFA HSN HA
     go_wp2_with fail
     try simp only [Exit.inBlock, Exit.then]
     refine bodyPost_ret (v := .tuple #[.int .i64 0, .bool false]) (by simp [results, Tryz.results261, go_sem]) rfl ?_
     exact NumPost.no HN.out HM2.out
    ·have hd2 : digB c = true := hd
     go_wp2_with fail
     go_roundg (db.size - (k + 1))
     case measure => omega
     case rel => exact ⟨k + 1, rfl, hlt, by simp, by rw [HSN.out, HA.out, hd2]; rfl, rfl⟩
   ·obtain rfl : k = db.size := by omega
    have hall : d.all digB = true := by have := HA.out; rwa [HDL.out, List.take_of_length_le (Nat.le_refl _)] at this
    obtain ⟨n, hn1, hn2, hn3, hn4, hn5⟩ := HQ4.out ⟨hl1, hl2, fun c hc => List.all_eq_true.1 hall c hc⟩
    have HAT := Lib.hid (atoiW_calls wr s n (by omega) hn2)
    have HN := Lib.hid hn1
    clear hall hn1 hn2 HQ4 HA HQ1
    go_wp2_with fail
    refine HAT.out.mono ?_
    rintro e w5 ⟨rfl, hm5⟩
    clear HAT
    go_upto_region 11 with (fail)
    go_quiet (fail)
    go_wp2_with fail
    try simp only [Exit.inBlock, Exit.then]
    refine bodyPost_ret (v := .tuple #[.int .i64 n, .bool true]) (by simp [results, Tryz.results261, go_sem]) rfl ?_
    rw [HN.out]
    exact ⟨n, rfl, (fun m hm => (by cases hm; rfl)), hn3, hn4, (HM2.out.trans hm5).drewN _⟩

end Go.Proofs.YtnfflgicngeekaaGreatDoor

/- Two hex digits as strconv reads them. -/
namespace Go.Proofs.YtnfflgicngeekaaGreatDoor
set_option linter.unusedVariables false
set_option linter.unusedSimpArgs false
open Go.RowKit

/-- The digit that strconv makes of a byte; 255: none. -/
def hv (x : Nat) : Nat := if 48 ≤ x ∧ x ≤ 57 then x - 48 else if 97 ≤ (x ||| 32) ∧ (x ||| 32) ≤ 122 then (x ||| 32) - 87 else 255
end Go.Proofs.YtnfflgicngeekaaGreatDoor

/-
 DERIVED: THE SHELF's CONTRACTS AT THIS DUMP, IN PLAIN WORDS (tools/lay-plain.mjs out of 'YtnfflgicngeekaaGreatDoorLaySyn.lean', which tools/lay-shelf.mjs wrote): THE SAME DECLARATIONS UNDER THE SAME NAMES: 'import', 'namespace', 'open', 'def', 'theorem' AND NOTHING ELSE: no command of the shelf's: FOR A HAND-IN. Each laying: the table of numbers ('.._ren') and one theorem, a field a fact of the dump's own or the kernel's comparison; each contract: ONE APPLICATION.
-/
namespace Go.Proofs
open Go.Shelf
end Go.Proofs

/- Quoted strings: escaped and Unquote of package intake. -/
namespace Go.Proofs.YtnfflgicngeekaaGreatDoor
set_option linter.unusedVariables false
set_option linter.unusedSimpArgs false
open Go.RowKit

/-- The sentinel is an error that is there. -/
def ErrS (w : World) : Prop := ∃ te pe, w.cell? ⟨8, 0, none⟩ = some (.iface te pe)
theorem ErrS.pure {w w' : World} (h : ErrS w) (hm : Pure w w') : ErrS w' := by
 obtain ⟨te, pe, h⟩ := h
 exact ⟨te, pe, hm.keep h id⟩
end Go.Proofs.YtnfflgicngeekaaGreatDoor

/- Quoted strings: Unquote of package intake. -/
namespace Go.Proofs.YtnfflgicngeekaaGreatDoor
set_option linter.unusedVariables false
set_option linter.unusedSimpArgs false
open Go.RowKit

/-- Where a reader of a quoted string stands. -/
def UnqAt (l : Str) (k : Nat) (acc : Str) : Prop := k ≤ l.length ∧ ∃ f, (l.drop k).length < f ∧ unqF f (l.drop k) acc k = unqS l
theorem UnqAt.start (r : Str) : UnqAt (34 :: r) 1 [] := ⟨by simp, r.length + 1, by simp, rfl⟩
theorem UnqAt.bad {l : Str} {k : Nat} {acc r : Str} {c : UInt8} (h : UnqAt l k acc) (hr : l.drop k = c :: r) (hc : c ≠ 34) (hd : decP (c :: r) = none) : unqS l = none := by
 obtain ⟨_, f, h1, h2⟩ := h
 rw [hr] at h1 h2
 rw [← h2]
 match f, h1 with
 | f + 1, _ => simp [unqF, hc, hd]
theorem UnqAt.next {l : Str} {k : Nat} {acc r : Str} {c d : UInt8} {n : Nat} (h : UnqAt l k acc) (hr : l.drop k = c :: r) (hc : c ≠ 34) (hd : decP (c :: r) = some (d, n)) : UnqAt l (k + n) (acc ++ [d]) ∧ 1 ≤ n ∧ k + n ≤ l.length := by
 obtain ⟨hk, f, h1, h2⟩ := h
 obtain ⟨hn, hp⟩ := decP_some hd
 have hle := hp.length_le
 have h0 : 1 ≤ n := by
  rw [hn]
  unfold quoB
  split <;> (try split) <;> (try split) <;> simp
 have hlen : (l.drop k).length = l.length - k := List.length_drop ..
 rw [← hr, ← hn, hlen] at hle
 refine ⟨⟨by omega, ?_⟩, h0, by omega⟩
 rw [hr] at h1 h2
 match f, h1, h2 with
 | f + 1, h1, h2 =>
  refine ⟨f, ?_, ?_⟩
  ·rw [List.length_drop]
   rw [← hr, hlen] at h1
   omega
  ·rw [← h2]
   simp only [unqF, hc, if_false, hd]
   rw [← hr, List.drop_drop]
end Go.Proofs.YtnfflgicngeekaaGreatDoor

/- The head line of an item, as the program reads it. -/
namespace Go.Proofs.YtnfflgicngeekaaGreatDoor
set_option linter.unusedVariables false
set_option linter.unusedSimpArgs false
open Go.RowKit

def NatlPost (w : World) (o : Option Int) (e : Ending) (w' : World) : Prop := ∃ v : Int, e = .returned (.tuple #[.int .i64 v, .bool (o.isSome && decide (0 ≤ v))]) ∧ (∀ n, o = some n → v = n) ∧ -1000000000 < v ∧ v < 1000000000 ∧ Pure w w'
theorem natural_calls (w : World) (s : Str) (D : Nat) (hD : D ≤ 9) (hs : s.length ≤ 1000000) : Calls Tryz.prog 227 #[.string ⟨s.toArray⟩, .int .i64 (D : Int)] w (NatlPost w (numQ D s)) := by
 have HN := Lib.hid (number_calls w s D hD hs)
 generalize numQ D s = o at *
 go_enter Tryz.func227, Tryz.ntmps227
 go_wp2_with fail
 refine HN.out.mono ?_
 rintro e w1 ⟨v, rfl, h1, h2, h3, hm⟩
 have H1 := Lib.hid h1
 clear HN h1
 cases hb : o.isSome
 ·go_wp2_with fail
  refine bodyPost_ret (v := .tuple #[.int .i64 v, .bool false]) (by simp [results, Tryz.results227, go_sem]) rfl ?_
  exact ⟨v, by rw [hb]; rfl, H1.out, h2, h3, hm⟩
 ·go_wp2_with fail
  refine bodyPost_ret (v := .tuple #[.int .i64 v, .bool (decide (0 ≤ v))]) (by simp [results, Tryz.results227, go_sem]) rfl ?_
  exact ⟨v, by rw [hb]; simp, H1.out, h2, h3, hm⟩
end Go.Proofs.YtnfflgicngeekaaGreatDoor

/-
 DERIVED: THE SHELF's CONTRACTS AT THIS DUMP, IN PLAIN WORDS (tools/lay-plain.mjs out of 'YtnfflgicngeekaaGreatDoorLayCut.lean', which tools/lay-shelf.mjs wrote): THE SAME DECLARATIONS UNDER THE SAME NAMES: 'import', 'namespace', 'open', 'def', 'theorem' AND NOTHING ELSE: no command of the shelf's: FOR A HAND-IN. Each laying: the table of numbers ('.._ren') and one theorem, a field a fact of the dump's own or the kernel's comparison; each contract: ONE APPLICATION.
-/
namespace Go.Proofs
open Go.Shelf
def Tryz.lays145_ren : Go.Shelf.Ren := ⟨fun | 145 => 191 | 220 => 236 | 219 => 257 | 217 => 238 | 225 => 260 | 224 => 259 | 267 => 282 | 266 => 270 | 314 => 303 | n => n, fun | 9 => 9 | 4 => 4 | 59 => 214 | 3 => 3 | 5 => 5 | 46 => 180 | 146 => 222 | 51 => 221 | n => n, fun | 1 => 3 | n => n⟩
theorem Tryz.lays145 : Go.Proofs.Lays.n145 Tryz.prog Tryz.lays145_ren := {
 mixed := by kernel_rfl
 f145 := Tryz.func191.trans (congrArg some (by kernel_rfl))
 f217 := Tryz.func238.trans (congrArg some (by kernel_rfl))
 f219 := Tryz.func257.trans (congrArg some (by kernel_rfl))
 f220 := Tryz.func236.trans (congrArg some (by kernel_rfl))
 f224 := Tryz.func259.trans (congrArg some (by kernel_rfl))
 f225 := Tryz.func260.trans (congrArg some (by kernel_rfl))
 f266 := Tryz.func270.trans (congrArg some (by kernel_rfl))
 f267 := Tryz.func282.trans (congrArg some (by kernel_rfl))
 f314 := Tryz.func303.trans (congrArg some (by kernel_rfl))
 t3 := Tryz.underlying3
 a3 := Tryz.isAgg3
 z3 := Tryz.sizeOf3
 v3 := Tryz.zeroValue3
 t4 := Tryz.underlying4
 a4 := Tryz.isAgg4
 z4 := Tryz.sizeOf4
 v4 := Tryz.zeroValue4
 t5 := Tryz.underlying5
 a5 := Tryz.isAgg5
 z5 := Tryz.sizeOf5
 v5 := Tryz.zeroValue5
 t9 := Tryz.underlying9
 a9 := Tryz.isAgg9
 z9 := Tryz.sizeOf9
 v9 := Tryz.zeroValue9
 t46 := Tryz.underlying180
 a46 := Tryz.isAgg180
 z46 := Tryz.sizeOf180
 v46 := Tryz.zeroValue180
 t51 := Tryz.underlying221
 a51 := Tryz.isAgg221
 z51 := Tryz.sizeOf221
 v51 := Tryz.zeroValue221
 t59 := Tryz.underlying214
 a59 := Tryz.isAgg214
 z59 := Tryz.sizeOf214
 v59 := Tryz.zeroValue214
 t146 := Tryz.underlying222
 a146 := Tryz.isAgg222
 z146 := Tryz.sizeOf222
 v146 := Tryz.zeroValue222
 g1 := by kernel_rfl }
end Go.Proofs

/- lines of the reference, for any closure that takes a line. -/
namespace Go.Proofs.YtnfflgicngeekaaGreatDoor
set_option linter.unusedVariables false
set_option linter.unusedSimpArgs false
open Go.RowKit

end Go.Proofs.YtnfflgicngeekaaGreatDoor

/- A piece of the text of a search: what token it is. -/
namespace Go.Proofs.YtnfflgicngeekaaGreatDoor
set_option linter.unusedVariables false
set_option linter.unusedSimpArgs false
open Go.RowKit

def CutP (w : World) (s : Str) (c : UInt8) (e : Ending) (w' : World) : Prop := e = .returned (.tuple #[.string ⟨(headS c s).toArray⟩, .string ⟨(restS c s).toArray⟩, .bool (fstL c s).isSome]) ∧ Pure w w'
theorem cutB_calls (w : World) (s : Str) (c : UInt8) (hM : MlnS w) (hs : s.length ≤ 1000000) : Calls Tryz.prog 191 #[.string ⟨s.toArray⟩, .string ⟨#[c]⟩] w (CutP w s c) := by
 obtain ⟨m, hm⟩ := hM
 refine (Any.strings_Cut Tryz.lays145 ⟨s.toArray⟩ ⟨#[c]⟩ m w (by simp [ByteArray.size]; omega) hm).mono ?_
 rintro e w' ⟨rfl, n, rfl⟩
 refine ⟨?_, (Mod.refl _ _).drewN n⟩
 have h := cut_byte c s
 show Ending.returned (.tuple #[.string ⟨(Lib.cut s [c]).1.toArray⟩, .string ⟨(Lib.cut s [c]).2.1.toArray⟩, .bool (Lib.cut s [c]).2.2]) = _
 rw [h]
 unfold headS restS
 cases fstL c s <;> rfl
def PcP (w : World) (s : Str) (e : Ending) (w' : World) : Prop := ∃ qr : QR, e = .returned (.tuple #[.int .i64 (pieceQ s).1, qA qr]) ∧ QS w' qr ∧ qr.key = (pieceQ s).2 ∧ QFr w.heap.size qr ∧ Pure w w'
theorem natQ_of {s : Str} {v : Int} (h : ∀ n, numQ 6 s = some n → v = n) : natQ s = if ((numQ 6 s).isSome && decide (0 ≤ v)) = true then some v else none := by
 unfold natQ
 cases hn : numQ 6 s with
 | none => rfl
 | some n =>
  have e := h n hn
  subst e
  by_cases h0 : 0 ≤ v
  ·simp [h0]
  ·simp [h0]

theorem restS_len (c : UInt8) (s : Str) : (restS c s).length ≤ s.length := by
 unfold restS
 cases hf : fstL c s with
 | none => simp
 | some p => have := fstL_len hf; simp only; omega

theorem keyS_calls (w : World) (s : Str) (hs : s.length ≤ 1000000) : Calls Tryz.prog 63 #[.string ⟨s.toArray⟩] w (BoolSame w (keyB s)) := by
 have h := key_calls w ⟨s.toArray⟩ (by show s.toArray.size ≤ _; rw [List.size_toArray]; omega)
 simpa using h
theorem colon_owner (rs : Str) : colonQ [111, 119, 110, 101, 114] rs = if keyB rs = true then (3, .mk 9 [rs] 0 []) else (8, q0) := by unfold colonQ; simp
theorem colon_name (rs : Str) : colonQ [110, 97, 109, 101] rs = if patB rs = true then (3, .mk 11 [rs] 0 []) else (8, q0) := by unfold colonQ; simp
theorem colon_from (rs : Str) : colonQ [102, 114, 111, 109] rs = if (natQ rs).isSome = true then (3, .mk 12 [] ((natQ rs).getD 0) []) else (8, q0) := by unfold colonQ; simp
theorem colon_until (rs : Str) : colonQ [117, 110, 116, 105, 108] rs = if (natQ rs).isSome = true then (3, .mk 13 [] ((natQ rs).getD 0) []) else (8, q0) := by unfold colonQ; simp
theorem colon_kind (rs : Str) : colonQ [107, 105, 110, 100] rs = if kndI rs ≠ 0 then (3, .mk 10 [] (kndI rs) []) else (8, q0) := by unfold colonQ; simp
theorem colon_else {hd : Str} (rs : Str) (h1 : ¬ hd = [111, 119, 110, 101, 114]) (h2 : ¬ hd = [110, 97, 109, 101]) (h3 : ¬ hd = [102, 114, 111, 109]) (h4 : ¬ hd = [117, 110, 116, 105, 108]) (h5 : ¬ hd = [107, 105, 110, 100]) : colonQ hd rs = (8, q0) := by
 unfold colonQ
 rw [if_neg (fun h => h1 h.1), if_neg (fun h => h2 h.1), if_neg (fun h => h3 h.1), if_neg (fun h => h4 h.1), if_neg (fun h => h5 h.1)]
theorem knd_at {rs : Str} {j : Nat} (h1 : 1 ≤ j) (h4 : j ≤ 4) (h : kwQ j = rs) : kndI rs = j := by
 subst h
 obtain rfl | rfl | rfl | rfl : j = 1 ∨ j = 2 ∨ j = 3 ∨ j = 4 := by omega
 all_goals rfl
theorem knd_none {rs : Str} (h : ∀ t : Nat, 1 ≤ t → t < 5 → kwQ t ≠ rs) : kndI rs = 0 := by
 have a1 : ¬ rs = [109, 97, 105, 108] := fun e => h 1 (by omega) (by omega) e.symm
 have a2 : ¬ rs = [102, 105, 108, 101] := fun e => h 2 (by omega) (by omega) e.symm
 have a3 : ¬ rs = [98, 111, 120] := fun e => h 3 (by omega) (by omega) e.symm
 have a4 : ¬ rs = [110, 111, 116, 101] := fun e => h 4 (by omega) (by omega) e.symm
 unfold kndI
 rw [if_neg a1, if_neg a2, if_neg a3, if_neg a4]

set_option maxRecDepth 100000 in
set_option maxHeartbeats 8000000 in
theorem piece_calls (w : World) (s : Str) (hs : s.length ≤ 300000) (hM : MlnS w) : Calls Tryz.prog 183 #[.string ⟨s.toArray⟩] w (PcP w s) := by
 have h30 := Blk.new w 29 #[.int .i64 0, .slice none 0 0, .int .i64 0, .slice none 0 0]
 have hP0 := pure_alloc w (.cells #[.int .i64 0, .slice none 0 0, .int .i64 0, .slice none 0 0] 29)
 have HPQ : Hid (pieceQ s = if s = [97, 108, 108] then (3, .mk 1 [] 0 []) else if s = [97, 110, 100] then (4, q0) else if s = [111, 114] then (5, q0) else if s = [110, 111, 116] then (6, q0)
  else if patB s = true then (3, .mk 2 [s] 0 []) else match fstL 47 s with
  | some p => slashQ p.1 p.2
  | none => colonQ (headS 58 s) (restS 58 s)) := Lib.hid rfl
 have HML := Lib.hid (fun W (h : Pure w W) => hM.pure h)
 clear hM
 go_enter Tryz.func183, Tryz.ntmps183
 go_upto_region 1 with (fail)
 generalize (w.alloc (.cells #[.int .i64 0, .slice none 0 0, .int .i64 0, .slice none 0 0] 29)) = w0 at *
 generalize hg3 : w.heap.size = g3 at *
 have hgw : w.heap.size ≤ g3 := Nat.le_of_eq hg3
 clear hg3
 have H3 := Lib.hid h30
 have HP0 : Hid (Pure w w0) := Lib.hid hP0
 clear h30 hP0
 by_cases eall : s = [97, 108, 108]
 ·subst eall
  have HX := Lib.hid (H3.out)
  have HPY := Lib.hid (HP0.out)
  have h3x := HX.out
  have y0 := h3x.cell 0; have yf0 := h3x.frozen 0; have y1 := h3x.cell 1; have yf1 := h3x.frozen 1; have y2 := h3x.cell 2; have yf2 := h3x.frozen 2; have y3 := h3x.cell 3; have yf3 := h3x.frozen 3; simp at y0 y1 y2 y3
  clear h3x
  go_wp2_with fail
  clear y0 y1 y2 y3 yf0 yf1 yf2 yf3
  have h4F := st4_blk (a := .int .i64 1) (b := .slice none 0 0) (c := .int .i64 0) (d := .slice none 0 0) HX.out
  have HMF : Hid (Pure w (((((w0).setCell ⟨g3, 0, none⟩ (.int .i64 1)).setCell ⟨g3, 1, none⟩ (.slice none 0 0)).setCell ⟨g3, 2, none⟩ (.int .i64 0)).setCell ⟨g3, 3, none⟩ (.slice none 0 0))) := Lib.hid (Mod.trans' HPY.out (st4_mod (g := g3)) (fun i hi hlt => by omega))
  have HQS : Hid (QS (((((w0).setCell ⟨g3, 0, none⟩ (.int .i64 1)).setCell ⟨g3, 1, none⟩ (.slice none 0 0)).setCell ⟨g3, 2, none⟩ (.int .i64 0)).setCell ⟨g3, 3, none⟩ (.slice none 0 0)) (.mk 1 none 0 [] 0 none 0 [])) := Lib.hid (.mk Sl.nil_ Sl.nil_ (fun a ha => by cases ha))
  have HFC := Lib.hid ((show pieceQ [97, 108, 108] = (3, .mk 1 [] 0 []) from rfl))
  have x0 := h4F.cell 0; have x1 := h4F.cell 1; have x2 := h4F.cell 2; have x3 := h4F.cell 3; simp at x0 x1 x2 x3
  try simp only [Exit.inBlock, Exit.then]
  refine bodyPost_ret (v := .tuple #[.int .i64 3, .agg #[.int .i64 1, .slice none 0 0, .int .i64 0, .slice none 0 0]]) (by simp [results, Tryz.results183, go_sem, x0, x1, x2, x3]) rfl ?_
  exact ⟨.mk 1 none 0 [] 0 none 0 [], by rw [HFC.out]; rfl, HQS.out, by rw [HFC.out, QR.key_mk]; rfl, .mk (fun h => absurd rfl h) (fun a ha => by cases ha), HMF.out⟩
 have nall : (s == [97, 108, 108]) = false := by simpa using eall
 by_cases eand : s = [97, 110, 100]
 ·subst eand
  have HX := Lib.hid (H3.out)
  have HPY := Lib.hid (HP0.out)
  have h3x := HX.out
  have y0 := h3x.cell 0; have yf0 := h3x.frozen 0; have y1 := h3x.cell 1; have yf1 := h3x.frozen 1; have y2 := h3x.cell 2; have yf2 := h3x.frozen 2; have y3 := h3x.cell 3; have yf3 := h3x.frozen 3; simp at y0 y1 y2 y3
  clear h3x
  go_wp2_with fail
  clear y0 y1 y2 y3 yf0 yf1 yf2 yf3
  have h4F := st4_blk (a := .int .i64 0) (b := .slice none 0 0) (c := .int .i64 0) (d := .slice none 0 0) HX.out
  have HMF : Hid (Pure w (((((w0).setCell ⟨g3, 0, none⟩ (.int .i64 0)).setCell ⟨g3, 1, none⟩ (.slice none 0 0)).setCell ⟨g3, 2, none⟩ (.int .i64 0)).setCell ⟨g3, 3, none⟩ (.slice none 0 0))) := Lib.hid (Mod.trans' HPY.out (st4_mod (g := g3)) (fun i hi hlt => by omega))
  have HQS : Hid (QS (((((w0).setCell ⟨g3, 0, none⟩ (.int .i64 0)).setCell ⟨g3, 1, none⟩ (.slice none 0 0)).setCell ⟨g3, 2, none⟩ (.int .i64 0)).setCell ⟨g3, 3, none⟩ (.slice none 0 0)) (.mk 0 none 0 [] 0 none 0 [])) := Lib.hid (.mk Sl.nil_ Sl.nil_ (fun a ha => by cases ha))
  have HFC := Lib.hid ((show pieceQ [97, 110, 100] = (4, .mk 0 [] 0 []) from rfl))
  have x0 := h4F.cell 0; have x1 := h4F.cell 1; have x2 := h4F.cell 2; have x3 := h4F.cell 3; simp at x0 x1 x2 x3
  try simp only [Exit.inBlock, Exit.then]
  refine bodyPost_ret (v := .tuple #[.int .i64 4, .agg #[.int .i64 0, .slice none 0 0, .int .i64 0, .slice none 0 0]]) (by simp [results, Tryz.results183, go_sem, x0, x1, x2, x3]) rfl ?_
  exact ⟨.mk 0 none 0 [] 0 none 0 [], by rw [HFC.out]; rfl, HQS.out, by rw [HFC.out, QR.key_mk]; rfl, .mk (fun h => absurd rfl h) (fun a ha => by cases ha), HMF.out⟩
 have nand : (s == [97, 110, 100]) = false := by simpa using eand
 by_cases eor : s = [111, 114]
 ·subst eor
  have HX := Lib.hid (H3.out)
  have HPY := Lib.hid (HP0.out)
  have h3x := HX.out
  have y0 := h3x.cell 0; have yf0 := h3x.frozen 0; have y1 := h3x.cell 1; have yf1 := h3x.frozen 1; have y2 := h3x.cell 2; have yf2 := h3x.frozen 2; have y3 := h3x.cell 3; have yf3 := h3x.frozen 3; simp at y0 y1 y2 y3
  clear h3x
  go_wp2_with fail
  clear y0 y1 y2 y3 yf0 yf1 yf2 yf3
  have h4F := st4_blk (a := .int .i64 0) (b := .slice none 0 0) (c := .int .i64 0) (d := .slice none 0 0) HX.out
  have HMF : Hid (Pure w (((((w0).setCell ⟨g3, 0, none⟩ (.int .i64 0)).setCell ⟨g3, 1, none⟩ (.slice none 0 0)).setCell ⟨g3, 2, none⟩ (.int .i64 0)).setCell ⟨g3, 3, none⟩ (.slice none 0 0))) := Lib.hid (Mod.trans' HPY.out (st4_mod (g := g3)) (fun i hi hlt => by omega))
  have HQS : Hid (QS (((((w0).setCell ⟨g3, 0, none⟩ (.int .i64 0)).setCell ⟨g3, 1, none⟩ (.slice none 0 0)).setCell ⟨g3, 2, none⟩ (.int .i64 0)).setCell ⟨g3, 3, none⟩ (.slice none 0 0)) (.mk 0 none 0 [] 0 none 0 [])) := Lib.hid (.mk Sl.nil_ Sl.nil_ (fun a ha => by cases ha))
  have HFC := Lib.hid ((show pieceQ [111, 114] = (5, .mk 0 [] 0 []) from rfl))
  have x0 := h4F.cell 0; have x1 := h4F.cell 1; have x2 := h4F.cell 2; have x3 := h4F.cell 3; simp at x0 x1 x2 x3
  try simp only [Exit.inBlock, Exit.then]
  refine bodyPost_ret (v := .tuple #[.int .i64 5, .agg #[.int .i64 0, .slice none 0 0, .int .i64 0, .slice none 0 0]]) (by simp [results, Tryz.results183, go_sem, x0, x1, x2, x3]) rfl ?_
  exact ⟨.mk 0 none 0 [] 0 none 0 [], by rw [HFC.out]; rfl, HQS.out, by rw [HFC.out, QR.key_mk]; rfl, .mk (fun h => absurd rfl h) (fun a ha => by cases ha), HMF.out⟩
 have nor : (s == [111, 114]) = false := by simpa using eor
 by_cases enot : s = [110, 111, 116]
 ·subst enot
  have HX := Lib.hid (H3.out)
  have HPY := Lib.hid (HP0.out)
  have h3x := HX.out
  have y0 := h3x.cell 0; have yf0 := h3x.frozen 0; have y1 := h3x.cell 1; have yf1 := h3x.frozen 1; have y2 := h3x.cell 2; have yf2 := h3x.frozen 2; have y3 := h3x.cell 3; have yf3 := h3x.frozen 3; simp at y0 y1 y2 y3
  clear h3x
  go_wp2_with fail
  clear y0 y1 y2 y3 yf0 yf1 yf2 yf3
  have h4F := st4_blk (a := .int .i64 0) (b := .slice none 0 0) (c := .int .i64 0) (d := .slice none 0 0) HX.out
  have HMF : Hid (Pure w (((((w0).setCell ⟨g3, 0, none⟩ (.int .i64 0)).setCell ⟨g3, 1, none⟩ (.slice none 0 0)).setCell ⟨g3, 2, none⟩ (.int .i64 0)).setCell ⟨g3, 3, none⟩ (.slice none 0 0))) := Lib.hid (Mod.trans' HPY.out (st4_mod (g := g3)) (fun i hi hlt => by omega))
  have HQS : Hid (QS (((((w0).setCell ⟨g3, 0, none⟩ (.int .i64 0)).setCell ⟨g3, 1, none⟩ (.slice none 0 0)).setCell ⟨g3, 2, none⟩ (.int .i64 0)).setCell ⟨g3, 3, none⟩ (.slice none 0 0)) (.mk 0 none 0 [] 0 none 0 [])) := Lib.hid (.mk Sl.nil_ Sl.nil_ (fun a ha => by cases ha))
  have HFC := Lib.hid ((show pieceQ [110, 111, 116] = (6, .mk 0 [] 0 []) from rfl))
  have x0 := h4F.cell 0; have x1 := h4F.cell 1; have x2 := h4F.cell 2; have x3 := h4F.cell 3; simp at x0 x1 x2 x3
  try simp only [Exit.inBlock, Exit.then]
  refine bodyPost_ret (v := .tuple #[.int .i64 6, .agg #[.int .i64 0, .slice none 0 0, .int .i64 0, .slice none 0 0]]) (by simp [results, Tryz.results183, go_sem, x0, x1, x2, x3]) rfl ?_
  exact ⟨.mk 0 none 0 [] 0 none 0 [], by rw [HFC.out]; rfl, HQS.out, by rw [HFC.out, QR.key_mk]; rfl, .mk (fun h => absurd rfl h) (fun a ha => by cases ha), HMF.out⟩
 have nnot : (s == [110, 111, 116]) = false := by simpa using enot
 have HPR : Hid (pieceQ s = if patB s = true then (3, .mk 2 [s] 0 []) else match fstL 47 s with
  | some p => slashQ p.1 p.2
  | none => colonQ (headS 58 s) (restS 58 s)) := Lib.hid (by rw [HPQ.out, if_neg eall, if_neg eand, if_neg eor, if_neg enot])
 have HIP := Lib.hid (isPattern_calls w0 s (by omega))
 clear HPQ eall eand eor enot
 obtain ⟨pb, hpb⟩ : ∃ pb, patB s = pb := ⟨_, rfl⟩
 rw [hpb] at HPR HIP
 clear hpb
 go_wp2_with fail
 refine HIP.out.mono ?_
 rintro e w1 ⟨rfl, rfl⟩
 clear HIP nall nand nor nnot
 cases pb with
 | true =>
  have HX := Lib.hid (H3.out)
  have HPY := Lib.hid (HP0.out)
  have h3x := HX.out
  have h3z := h3x.alloc (.cells #[.string ⟨s.toArray⟩] 9)
  have hgw2 := h3x.lt
  have z0 := h3z.cell 0; have zf0 := h3z.frozen 0; have z1 := h3z.cell 1; have zf1 := h3z.frozen 1; have z2 := h3z.cell 2; have zf2 := h3z.frozen 2; have z3 := h3z.cell 3; have zf3 := h3z.frozen 3; simp at z0 z1 z2 z3
  clear h3z
  have y0 := h3x.cell 0; have yf0 := h3x.frozen 0; have y1 := h3x.cell 1; have yf1 := h3x.frozen 1; have y2 := h3x.cell 2; have yf2 := h3x.frozen 2; have y3 := h3x.cell 3; have yf3 := h3x.frozen 3; simp at y0 y1 y2 y3
  clear h3x
  go_wp2_with fail
  clear y0 y1 y2 y3 yf0 yf1 yf2 yf3
  clear z0 z1 z2 z3 zf0 zf1 zf2 zf3
  have hsb : Blk ((((((w0).setCell ⟨g3, 0, none⟩ (.int .i64 2)).setCell ⟨g3, 1, none⟩ (.slice (some ⟨w0.heap.size, 0, none⟩) 1 1)).setCell ⟨g3, 2, none⟩ (.int .i64 0)).setCell ⟨g3, 3, none⟩ (.slice none 0 0)).alloc (.cells #[.string ⟨s.toArray⟩] 9)) w0.heap.size 9 (strsV [s]).toArray := by
   have h := Blk.new (((((w0).setCell ⟨g3, 0, none⟩ (.int .i64 2)).setCell ⟨g3, 1, none⟩ (.slice (some ⟨w0.heap.size, 0, none⟩) 1 1)).setCell ⟨g3, 2, none⟩ (.int .i64 0)).setCell ⟨g3, 3, none⟩ (.slice none 0 0)) 9 #[.string ⟨s.toArray⟩]
   rw [show (((((w0).setCell ⟨g3, 0, none⟩ (.int .i64 2)).setCell ⟨g3, 1, none⟩ (.slice (some ⟨w0.heap.size, 0, none⟩) 1 1)).setCell ⟨g3, 2, none⟩ (.int .i64 0)).setCell ⟨g3, 3, none⟩ (.slice none 0 0)).heap.size = w0.heap.size by simp] at h
   exact h
  have h4F := (st4_blk (a := .int .i64 2) (b := .slice (some ⟨w0.heap.size, 0, none⟩) 1 1) (c := .int .i64 0) (d := .slice none 0 0) HX.out).alloc (.cells #[.string ⟨s.toArray⟩] 9)
  have HMF : Hid (Pure w ((((((w0).setCell ⟨g3, 0, none⟩ (.int .i64 2)).setCell ⟨g3, 1, none⟩ (.slice (some ⟨w0.heap.size, 0, none⟩) 1 1)).setCell ⟨g3, 2, none⟩ (.int .i64 0)).setCell ⟨g3, 3, none⟩ (.slice none 0 0)).alloc (.cells #[.string ⟨s.toArray⟩] 9))) := Lib.hid ((Mod.trans' HPY.out (st4_mod (g := g3)) (fun i hi hlt => by omega)).alloc (.cells #[.string ⟨s.toArray⟩] 9))
  have HQS : Hid (QS ((((((w0).setCell ⟨g3, 0, none⟩ (.int .i64 2)).setCell ⟨g3, 1, none⟩ (.slice (some ⟨w0.heap.size, 0, none⟩) 1 1)).setCell ⟨g3, 2, none⟩ (.int .i64 0)).setCell ⟨g3, 3, none⟩ (.slice none 0 0)).alloc (.cells #[.string ⟨s.toArray⟩] 9)) (.mk 2 (some ⟨w0.heap.size, 0, none⟩) 1 [s] 0 none 0 [])) := Lib.hid (qs_words hsb (by simp))
  have HFC := Lib.hid (HPR.out.trans (if_pos (by first | rfl | trivial)))
  have x0 := h4F.cell 0; have x1 := h4F.cell 1; have x2 := h4F.cell 2; have x3 := h4F.cell 3; simp at x0 x1 x2 x3
  try simp only [Exit.inBlock, Exit.then]
  refine bodyPost_ret (v := .tuple #[.int .i64 3, .agg #[.int .i64 2, .slice (some ⟨w0.heap.size, 0, none⟩) 1 1, .int .i64 0, .slice none 0 0]]) (by simp [results, Tryz.results183, go_sem, x0, x1, x2, x3]) rfl ?_
  exact ⟨.mk 2 (some ⟨w0.heap.size, 0, none⟩) 1 [s] 0 none 0 [], by rw [HFC.out]; rfl, HQS.out, by rw [HFC.out, QR.key_mk]; rfl, .mk (fun h => absurd rfl h) (fun a ha => by cases ha), HMF.out⟩
 | false =>
  have HP1 : Hid (pieceQ s = match fstL 47 s with
   | some p => slashQ p.1 p.2
   | none => colonQ (headS 58 s) (restS 58 s)) := Lib.hid (HPR.out.trans (if_neg (by first | decide | simp)))
  have HC := Lib.hid (cutB_calls w0 s 47 (HML.out _ HP0.out) (by omega))
  clear HPR
  go_wp2_with fail
  refine HC.out.mono ?_
  rintro e w1 ⟨rfl, hm1⟩
  have H31 := Lib.hid (H3.out.modp hm1)
  have HPW : Hid (Pure w w1) := Lib.hid (HP0.out.trans hm1)
  clear HC hm1 H3 HP0
  cases hf : fstL 47 s with
  | some p =>
   have eh : headS 47 s = p.1 := by unfold headS; rw [hf]
   have er : restS 47 s = p.2 := by unfold restS; rw [hf]
   have hpl : p.2.length ≤ s.length := by have := fstL_len hf; omega
   have HP2 : Hid (pieceQ s = slashQ p.1 p.2) := Lib.hid (by rw [HP1.out, hf])
   rw [eh, er]
   have HNT := Lib.hid (natural_calls w1 p.2 6 (by omega) (by omega))
   clear HP1 hf eh er
   obtain ⟨hd, rs⟩ := p
   simp only at HP2 HNT hpl ⊢
   go_wp2_with fail
   refine HNT.out.mono ?_
   rintro e w2 ⟨v, rfl, hv, hv1, hv2, hm2⟩
   have H32 := Lib.hid (H31.out.modp hm2)
   have HPX : Hid (Pure w w2) := Lib.hid (HPW.out.trans hm2)
   have hnq := natQ_of hv
   obtain ⟨rt, hrt⟩ : ∃ rt, ((numQ 6 rs).isSome && decide (0 ≤ v)) = rt := ⟨_, rfl⟩
   rw [hrt] at hnq ⊢
   have HNQ := Lib.hid hnq
   clear hm2 H31 HPW HNT hv hnq hrt
   cases rt with
   | false =>
    have HBAD : Hid (pieceQ s = (8, .mk 0 [] 0 [])) := Lib.hid (by rw [HP2.out]; unfold slashQ; rw [HNQ.out]; rfl)
    have HX := Lib.hid (H32.out)
    have HPY := Lib.hid (HPX.out)
    have h3x := HX.out
    have y0 := h3x.cell 0; have yf0 := h3x.frozen 0; have y1 := h3x.cell 1; have yf1 := h3x.frozen 1; have y2 := h3x.cell 2; have yf2 := h3x.frozen 2; have y3 := h3x.cell 3; have yf3 := h3x.frozen 3; simp at y0 y1 y2 y3
    clear h3x
    go_wp2_with fail
    clear y0 y1 y2 y3 yf0 yf1 yf2 yf3
    have h4F := st4_blk (a := .int .i64 0) (b := .slice none 0 0) (c := .int .i64 0) (d := .slice none 0 0) HX.out
    have HMF : Hid (Pure w (((((w2).setCell ⟨g3, 0, none⟩ (.int .i64 0)).setCell ⟨g3, 1, none⟩ (.slice none 0 0)).setCell ⟨g3, 2, none⟩ (.int .i64 0)).setCell ⟨g3, 3, none⟩ (.slice none 0 0))) := Lib.hid (Mod.trans' HPY.out (st4_mod (g := g3)) (fun i hi hlt => by omega))
    have HQS : Hid (QS (((((w2).setCell ⟨g3, 0, none⟩ (.int .i64 0)).setCell ⟨g3, 1, none⟩ (.slice none 0 0)).setCell ⟨g3, 2, none⟩ (.int .i64 0)).setCell ⟨g3, 3, none⟩ (.slice none 0 0)) (.mk 0 none 0 [] 0 none 0 [])) := Lib.hid (.mk Sl.nil_ Sl.nil_ (fun a ha => by cases ha))
    have HFC := Lib.hid (HBAD.out)
    have x0 := h4F.cell 0; have x1 := h4F.cell 1; have x2 := h4F.cell 2; have x3 := h4F.cell 3; simp at x0 x1 x2 x3
    try simp only [Exit.inBlock, Exit.then]
    refine bodyPost_ret (v := .tuple #[.int .i64 8, .agg #[.int .i64 0, .slice none 0 0, .int .i64 0, .slice none 0 0]]) (by simp [results, Tryz.results183, go_sem, x0, x1, x2, x3]) rfl ?_
    exact ⟨.mk 0 none 0 [] 0 none 0 [], by rw [HFC.out]; rfl, HQS.out, by rw [HFC.out, QR.key_mk]; rfl, .mk (fun h => absurd rfl h) (fun a ha => by cases ha), HMF.out⟩
   | true =>
    have hsl : pieceQ s = if hd = [119] then (7, .mk 4 [] v []) else if hd = [112, 114, 101] then (7, .mk 5 [] v []) else (8, q0) := by
     rw [HP2.out]; unfold slashQ; rw [HNQ.out]; rfl
    by_cases hw : hd = [119]
    ·have HBAD := Lib.hid (hsl.trans (if_pos hw))
     subst hw
     clear hsl HP2 HNQ
     have HX := Lib.hid (H32.out)
     have HPY := Lib.hid (HPX.out)
     have h3x := HX.out
     have y0 := h3x.cell 0; have yf0 := h3x.frozen 0; have y1 := h3x.cell 1; have yf1 := h3x.frozen 1; have y2 := h3x.cell 2; have yf2 := h3x.frozen 2; have y3 := h3x.cell 3; have yf3 := h3x.frozen 3; simp at y0 y1 y2 y3
     clear h3x
     go_wp2_with fail
     clear y0 y1 y2 y3 yf0 yf1 yf2 yf3
     have h4F := st4_blk (a := .int .i64 4) (b := .slice none 0 0) (c := .int .i64 v) (d := .slice none 0 0) HX.out
     have HMF : Hid (Pure w (((((w2).setCell ⟨g3, 0, none⟩ (.int .i64 4)).setCell ⟨g3, 1, none⟩ (.slice none 0 0)).setCell ⟨g3, 2, none⟩ (.int .i64 v)).setCell ⟨g3, 3, none⟩ (.slice none 0 0))) := Lib.hid (Mod.trans' HPY.out (st4_mod (g := g3)) (fun i hi hlt => by omega))
     have HQS : Hid (QS (((((w2).setCell ⟨g3, 0, none⟩ (.int .i64 4)).setCell ⟨g3, 1, none⟩ (.slice none 0 0)).setCell ⟨g3, 2, none⟩ (.int .i64 v)).setCell ⟨g3, 3, none⟩ (.slice none 0 0)) (.mk 4 none 0 [] v none 0 [])) := Lib.hid (.mk Sl.nil_ Sl.nil_ (fun a ha => by cases ha))
     have HFC := Lib.hid (HBAD.out)
     have x0 := h4F.cell 0; have x1 := h4F.cell 1; have x2 := h4F.cell 2; have x3 := h4F.cell 3; simp at x0 x1 x2 x3
     try simp only [Exit.inBlock, Exit.then]
     refine bodyPost_ret (v := .tuple #[.int .i64 7, .agg #[.int .i64 4, .slice none 0 0, .int .i64 v, .slice none 0 0]]) (by simp [results, Tryz.results183, go_sem, x0, x1, x2, x3]) rfl ?_
     exact ⟨.mk 4 none 0 [] v none 0 [], by rw [HFC.out]; rfl, HQS.out, by rw [HFC.out, QR.key_mk]; rfl, .mk (fun h => absurd rfl h) (fun a ha => by cases ha), HMF.out⟩
    ·have hwn : (hd == [119]) = false := by simpa using hw
     have hsl2 := hsl.trans (if_neg hw)
     by_cases hp : hd = [112, 114, 101]
     ·have HBAD := Lib.hid (hsl2.trans (if_pos hp))
      subst hp
      clear hsl hsl2 HP2 HNQ hw
      have HX := Lib.hid (H32.out)
      have HPY := Lib.hid (HPX.out)
      have h3x := HX.out
      have y0 := h3x.cell 0; have yf0 := h3x.frozen 0; have y1 := h3x.cell 1; have yf1 := h3x.frozen 1; have y2 := h3x.cell 2; have yf2 := h3x.frozen 2; have y3 := h3x.cell 3; have yf3 := h3x.frozen 3; simp at y0 y1 y2 y3
      clear h3x
      go_wp2_with fail
      clear y0 y1 y2 y3 yf0 yf1 yf2 yf3
      have h4F := st4_blk (a := .int .i64 5) (b := .slice none 0 0) (c := .int .i64 v) (d := .slice none 0 0) HX.out
      have HMF : Hid (Pure w (((((w2).setCell ⟨g3, 0, none⟩ (.int .i64 5)).setCell ⟨g3, 1, none⟩ (.slice none 0 0)).setCell ⟨g3, 2, none⟩ (.int .i64 v)).setCell ⟨g3, 3, none⟩ (.slice none 0 0))) := Lib.hid (Mod.trans' HPY.out (st4_mod (g := g3)) (fun i hi hlt => by omega))
      have HQS : Hid (QS (((((w2).setCell ⟨g3, 0, none⟩ (.int .i64 5)).setCell ⟨g3, 1, none⟩ (.slice none 0 0)).setCell ⟨g3, 2, none⟩ (.int .i64 v)).setCell ⟨g3, 3, none⟩ (.slice none 0 0)) (.mk 5 none 0 [] v none 0 [])) := Lib.hid (.mk Sl.nil_ Sl.nil_ (fun a ha => by cases ha))
      have HFC := Lib.hid (HBAD.out)
      have x0 := h4F.cell 0; have x1 := h4F.cell 1; have x2 := h4F.cell 2; have x3 := h4F.cell 3; simp at x0 x1 x2 x3
      try simp only [Exit.inBlock, Exit.then]
      refine bodyPost_ret (v := .tuple #[.int .i64 7, .agg #[.int .i64 5, .slice none 0 0, .int .i64 v, .slice none 0 0]]) (by simp [results, Tryz.results183, go_sem, x0, x1, x2, x3]) rfl ?_
      exact ⟨.mk 5 none 0 [] v none 0 [], by rw [HFC.out]; rfl, HQS.out, by rw [HFC.out, QR.key_mk]; rfl, .mk (fun h => absurd rfl h) (fun a ha => by cases ha), HMF.out⟩
     ·have hpn : (hd == [112, 114, 101]) = false := by simpa using hp
      have HBAD := Lib.hid (hsl2.trans (if_neg hp))
      clear hsl hsl2 HP2 HNQ hw hp
      have HX := Lib.hid (H32.out)
      have HPY := Lib.hid (HPX.out)
      have h3x := HX.out
      have y0 := h3x.cell 0; have yf0 := h3x.frozen 0; have y1 := h3x.cell 1; have yf1 := h3x.frozen 1; have y2 := h3x.cell 2; have yf2 := h3x.frozen 2; have y3 := h3x.cell 3; have yf3 := h3x.frozen 3; simp at y0 y1 y2 y3
      clear h3x
      go_wp2_with fail
      clear y0 y1 y2 y3 yf0 yf1 yf2 yf3
      have h4F := st4_blk (a := .int .i64 0) (b := .slice none 0 0) (c := .int .i64 0) (d := .slice none 0 0) HX.out
      have HMF : Hid (Pure w (((((w2).setCell ⟨g3, 0, none⟩ (.int .i64 0)).setCell ⟨g3, 1, none⟩ (.slice none 0 0)).setCell ⟨g3, 2, none⟩ (.int .i64 0)).setCell ⟨g3, 3, none⟩ (.slice none 0 0))) := Lib.hid (Mod.trans' HPY.out (st4_mod (g := g3)) (fun i hi hlt => by omega))
      have HQS : Hid (QS (((((w2).setCell ⟨g3, 0, none⟩ (.int .i64 0)).setCell ⟨g3, 1, none⟩ (.slice none 0 0)).setCell ⟨g3, 2, none⟩ (.int .i64 0)).setCell ⟨g3, 3, none⟩ (.slice none 0 0)) (.mk 0 none 0 [] 0 none 0 [])) := Lib.hid (.mk Sl.nil_ Sl.nil_ (fun a ha => by cases ha))
      have HFC := Lib.hid (HBAD.out)
      have x0 := h4F.cell 0; have x1 := h4F.cell 1; have x2 := h4F.cell 2; have x3 := h4F.cell 3; simp at x0 x1 x2 x3
      try simp only [Exit.inBlock, Exit.then]
      refine bodyPost_ret (v := .tuple #[.int .i64 8, .agg #[.int .i64 0, .slice none 0 0, .int .i64 0, .slice none 0 0]]) (by simp [results, Tryz.results183, go_sem, x0, x1, x2, x3]) rfl ?_
      exact ⟨.mk 0 none 0 [] 0 none 0 [], by rw [HFC.out]; rfl, HQS.out, by rw [HFC.out, QR.key_mk]; rfl, .mk (fun h => absurd rfl h) (fun a ha => by cases ha), HMF.out⟩
  | none =>
   have HP2 : Hid (pieceQ s = colonQ (headS 58 s) (restS 58 s)) := Lib.hid (by rw [HP1.out, hf])
   have HC2 := Lib.hid (cutB_calls w1 s 58 (HML.out _ HPW.out) (by omega))
   have hrl := restS_len 58 s
   clear HP1 hf
   go_wp2_with fail
   refine HC2.out.mono ?_
   rintro e w2 ⟨rfl, hm2⟩
   have H32 := Lib.hid (H31.out.modp hm2)
   have HPX : Hid (Pure w w2) := Lib.hid (HPW.out.trans hm2)
   clear HC2 hm2 H31 HPW
   generalize headS 58 s = hd at *
   generalize restS 58 s = rs at *
   generalize (fstL 58 s).isSome = fb at *
   have HNT := Lib.hid (natural_calls w2 rs 6 (by omega) (by omega))
   go_wp2_with fail
   refine HNT.out.mono ?_
   rintro e w3 ⟨v, rfl, hv, hv1, hv2, hm3⟩
   have H33 := Lib.hid (H32.out.modp hm3)
   have HPV : Hid (Pure w w3) := Lib.hid (HPX.out.trans hm3)
   have hnq := natQ_of hv
   obtain ⟨rt, hrt⟩ : ∃ rt, ((numQ 6 rs).isSome && decide (0 ≤ v)) = rt := ⟨_, rfl⟩
   rw [hrt] at hnq ⊢
   have HNQ := Lib.hid hnq
   clear hm3 H32 HPX HNT hv hnq hrt
   by_cases cowner : hd = [111, 119, 110, 101, 114]
   ·subst cowner
    have HK := Lib.hid (keyS_calls w3 rs (by omega))
    have HCO := Lib.hid (HP2.out.trans (colon_owner rs))
    obtain ⟨kb, hkb⟩ : ∃ kb, keyB rs = kb := ⟨_, rfl⟩
    rw [hkb] at HK HCO
    clear hkb HP2 HNQ
    go_wp2_with fail
    refine HK.out.mono ?_
    rintro e w4 ⟨rfl, rfl⟩
    clear HK
    cases kb with
    | true =>
     have HX := Lib.hid (H33.out)
     have HPY := Lib.hid (HPV.out)
     have h3x := HX.out
     have h3z := h3x.alloc (.cells #[.string ⟨rs.toArray⟩] 9)
     have hgw2 := h3x.lt
     have z0 := h3z.cell 0; have zf0 := h3z.frozen 0; have z1 := h3z.cell 1; have zf1 := h3z.frozen 1; have z2 := h3z.cell 2; have zf2 := h3z.frozen 2; have z3 := h3z.cell 3; have zf3 := h3z.frozen 3; simp at z0 z1 z2 z3
     clear h3z
     have y0 := h3x.cell 0; have yf0 := h3x.frozen 0; have y1 := h3x.cell 1; have yf1 := h3x.frozen 1; have y2 := h3x.cell 2; have yf2 := h3x.frozen 2; have y3 := h3x.cell 3; have yf3 := h3x.frozen 3; simp at y0 y1 y2 y3
     clear h3x
     go_wp2_with fail
     clear y0 y1 y2 y3 yf0 yf1 yf2 yf3
     clear z0 z1 z2 z3 zf0 zf1 zf2 zf3
     have hsb : Blk ((((((w3).setCell ⟨g3, 0, none⟩ (.int .i64 9)).setCell ⟨g3, 1, none⟩ (.slice (some ⟨w3.heap.size, 0, none⟩) 1 1)).setCell ⟨g3, 2, none⟩ (.int .i64 0)).setCell ⟨g3, 3, none⟩ (.slice none 0 0)).alloc (.cells #[.string ⟨rs.toArray⟩] 9)) w3.heap.size 9 (strsV [rs]).toArray := by
      have h := Blk.new (((((w3).setCell ⟨g3, 0, none⟩ (.int .i64 9)).setCell ⟨g3, 1, none⟩ (.slice (some ⟨w3.heap.size, 0, none⟩) 1 1)).setCell ⟨g3, 2, none⟩ (.int .i64 0)).setCell ⟨g3, 3, none⟩ (.slice none 0 0)) 9 #[.string ⟨rs.toArray⟩]
      rw [show (((((w3).setCell ⟨g3, 0, none⟩ (.int .i64 9)).setCell ⟨g3, 1, none⟩ (.slice (some ⟨w3.heap.size, 0, none⟩) 1 1)).setCell ⟨g3, 2, none⟩ (.int .i64 0)).setCell ⟨g3, 3, none⟩ (.slice none 0 0)).heap.size = w3.heap.size by simp] at h
      exact h
     have h4F := (st4_blk (a := .int .i64 9) (b := .slice (some ⟨w3.heap.size, 0, none⟩) 1 1) (c := .int .i64 0) (d := .slice none 0 0) HX.out).alloc (.cells #[.string ⟨rs.toArray⟩] 9)
     have HMF : Hid (Pure w ((((((w3).setCell ⟨g3, 0, none⟩ (.int .i64 9)).setCell ⟨g3, 1, none⟩ (.slice (some ⟨w3.heap.size, 0, none⟩) 1 1)).setCell ⟨g3, 2, none⟩ (.int .i64 0)).setCell ⟨g3, 3, none⟩ (.slice none 0 0)).alloc (.cells #[.string ⟨rs.toArray⟩] 9))) := Lib.hid ((Mod.trans' HPY.out (st4_mod (g := g3)) (fun i hi hlt => by omega)).alloc (.cells #[.string ⟨rs.toArray⟩] 9))
     have HQS : Hid (QS ((((((w3).setCell ⟨g3, 0, none⟩ (.int .i64 9)).setCell ⟨g3, 1, none⟩ (.slice (some ⟨w3.heap.size, 0, none⟩) 1 1)).setCell ⟨g3, 2, none⟩ (.int .i64 0)).setCell ⟨g3, 3, none⟩ (.slice none 0 0)).alloc (.cells #[.string ⟨rs.toArray⟩] 9)) (.mk 9 (some ⟨w3.heap.size, 0, none⟩) 1 [rs] 0 none 0 [])) := Lib.hid (qs_words hsb (by simp))
     have HFC := Lib.hid (HCO.out.trans (if_pos (by first | rfl | trivial | simp)))
     have x0 := h4F.cell 0; have x1 := h4F.cell 1; have x2 := h4F.cell 2; have x3 := h4F.cell 3; simp at x0 x1 x2 x3
     try simp only [Exit.inBlock, Exit.then]
     refine bodyPost_ret (v := .tuple #[.int .i64 3, .agg #[.int .i64 9, .slice (some ⟨w3.heap.size, 0, none⟩) 1 1, .int .i64 0, .slice none 0 0]]) (by simp [results, Tryz.results183, go_sem, x0, x1, x2, x3]) rfl ?_
     exact ⟨.mk 9 (some ⟨w3.heap.size, 0, none⟩) 1 [rs] 0 none 0 [], by rw [HFC.out]; rfl, HQS.out, by rw [HFC.out, QR.key_mk]; rfl, .mk (fun h => absurd rfl h) (fun a ha => by cases ha), HMF.out⟩
    | false =>
     have HX := Lib.hid (H33.out)
     have HPY := Lib.hid (HPV.out)
     have h3x := HX.out
     have y0 := h3x.cell 0; have yf0 := h3x.frozen 0; have y1 := h3x.cell 1; have yf1 := h3x.frozen 1; have y2 := h3x.cell 2; have yf2 := h3x.frozen 2; have y3 := h3x.cell 3; have yf3 := h3x.frozen 3; simp at y0 y1 y2 y3
     clear h3x
     go_wp2_with fail
     clear y0 y1 y2 y3 yf0 yf1 yf2 yf3
     have h4F := st4_blk (a := .int .i64 0) (b := .slice none 0 0) (c := .int .i64 0) (d := .slice none 0 0) HX.out
     have HMF : Hid (Pure w (((((w3).setCell ⟨g3, 0, none⟩ (.int .i64 0)).setCell ⟨g3, 1, none⟩ (.slice none 0 0)).setCell ⟨g3, 2, none⟩ (.int .i64 0)).setCell ⟨g3, 3, none⟩ (.slice none 0 0))) := Lib.hid (Mod.trans' HPY.out (st4_mod (g := g3)) (fun i hi hlt => by omega))
     have HQS : Hid (QS (((((w3).setCell ⟨g3, 0, none⟩ (.int .i64 0)).setCell ⟨g3, 1, none⟩ (.slice none 0 0)).setCell ⟨g3, 2, none⟩ (.int .i64 0)).setCell ⟨g3, 3, none⟩ (.slice none 0 0)) (.mk 0 none 0 [] 0 none 0 [])) := Lib.hid (.mk Sl.nil_ Sl.nil_ (fun a ha => by cases ha))
     have HFC := Lib.hid (HCO.out.trans (if_neg (by first | decide | simp)))
     have x0 := h4F.cell 0; have x1 := h4F.cell 1; have x2 := h4F.cell 2; have x3 := h4F.cell 3; simp at x0 x1 x2 x3
     try simp only [Exit.inBlock, Exit.then]
     refine bodyPost_ret (v := .tuple #[.int .i64 8, .agg #[.int .i64 0, .slice none 0 0, .int .i64 0, .slice none 0 0]]) (by simp [results, Tryz.results183, go_sem, x0, x1, x2, x3]) rfl ?_
     exact ⟨.mk 0 none 0 [] 0 none 0 [], by rw [HFC.out]; rfl, HQS.out, by rw [HFC.out, QR.key_mk]; rfl, .mk (fun h => absurd rfl h) (fun a ha => by cases ha), HMF.out⟩
   have downer : (hd == [111, 119, 110, 101, 114]) = false := by simpa using cowner
   by_cases cname : hd = [110, 97, 109, 101]
   ·subst cname
    have HK := Lib.hid (isPattern_calls w3 rs (by omega))
    have HCO := Lib.hid (HP2.out.trans (colon_name rs))
    obtain ⟨kb, hkb⟩ : ∃ kb, patB rs = kb := ⟨_, rfl⟩
    rw [hkb] at HK HCO
    clear hkb HP2 HNQ
    go_wp2_with fail
    refine HK.out.mono ?_
    rintro e w4 ⟨rfl, rfl⟩
    clear HK
    cases kb with
    | true =>
     have HX := Lib.hid (H33.out)
     have HPY := Lib.hid (HPV.out)
     have h3x := HX.out
     have h3z := h3x.alloc (.cells #[.string ⟨rs.toArray⟩] 9)
     have hgw2 := h3x.lt
     have z0 := h3z.cell 0; have zf0 := h3z.frozen 0; have z1 := h3z.cell 1; have zf1 := h3z.frozen 1; have z2 := h3z.cell 2; have zf2 := h3z.frozen 2; have z3 := h3z.cell 3; have zf3 := h3z.frozen 3; simp at z0 z1 z2 z3
     clear h3z
     have y0 := h3x.cell 0; have yf0 := h3x.frozen 0; have y1 := h3x.cell 1; have yf1 := h3x.frozen 1; have y2 := h3x.cell 2; have yf2 := h3x.frozen 2; have y3 := h3x.cell 3; have yf3 := h3x.frozen 3; simp at y0 y1 y2 y3
     clear h3x
     go_wp2_with fail
     clear y0 y1 y2 y3 yf0 yf1 yf2 yf3
     clear z0 z1 z2 z3 zf0 zf1 zf2 zf3
     have hsb : Blk ((((((w3).setCell ⟨g3, 0, none⟩ (.int .i64 11)).setCell ⟨g3, 1, none⟩ (.slice (some ⟨w3.heap.size, 0, none⟩) 1 1)).setCell ⟨g3, 2, none⟩ (.int .i64 0)).setCell ⟨g3, 3, none⟩ (.slice none 0 0)).alloc (.cells #[.string ⟨rs.toArray⟩] 9)) w3.heap.size 9 (strsV [rs]).toArray := by
      have h := Blk.new (((((w3).setCell ⟨g3, 0, none⟩ (.int .i64 11)).setCell ⟨g3, 1, none⟩ (.slice (some ⟨w3.heap.size, 0, none⟩) 1 1)).setCell ⟨g3, 2, none⟩ (.int .i64 0)).setCell ⟨g3, 3, none⟩ (.slice none 0 0)) 9 #[.string ⟨rs.toArray⟩]
      rw [show (((((w3).setCell ⟨g3, 0, none⟩ (.int .i64 11)).setCell ⟨g3, 1, none⟩ (.slice (some ⟨w3.heap.size, 0, none⟩) 1 1)).setCell ⟨g3, 2, none⟩ (.int .i64 0)).setCell ⟨g3, 3, none⟩ (.slice none 0 0)).heap.size = w3.heap.size by simp] at h
      exact h
     have h4F := (st4_blk (a := .int .i64 11) (b := .slice (some ⟨w3.heap.size, 0, none⟩) 1 1) (c := .int .i64 0) (d := .slice none 0 0) HX.out).alloc (.cells #[.string ⟨rs.toArray⟩] 9)
     have HMF : Hid (Pure w ((((((w3).setCell ⟨g3, 0, none⟩ (.int .i64 11)).setCell ⟨g3, 1, none⟩ (.slice (some ⟨w3.heap.size, 0, none⟩) 1 1)).setCell ⟨g3, 2, none⟩ (.int .i64 0)).setCell ⟨g3, 3, none⟩ (.slice none 0 0)).alloc (.cells #[.string ⟨rs.toArray⟩] 9))) := Lib.hid ((Mod.trans' HPY.out (st4_mod (g := g3)) (fun i hi hlt => by omega)).alloc (.cells #[.string ⟨rs.toArray⟩] 9))
     have HQS : Hid (QS ((((((w3).setCell ⟨g3, 0, none⟩ (.int .i64 11)).setCell ⟨g3, 1, none⟩ (.slice (some ⟨w3.heap.size, 0, none⟩) 1 1)).setCell ⟨g3, 2, none⟩ (.int .i64 0)).setCell ⟨g3, 3, none⟩ (.slice none 0 0)).alloc (.cells #[.string ⟨rs.toArray⟩] 9)) (.mk 11 (some ⟨w3.heap.size, 0, none⟩) 1 [rs] 0 none 0 [])) := Lib.hid (qs_words hsb (by simp))
     have HFC := Lib.hid (HCO.out.trans (if_pos (by first | rfl | trivial | simp)))
     have x0 := h4F.cell 0; have x1 := h4F.cell 1; have x2 := h4F.cell 2; have x3 := h4F.cell 3; simp at x0 x1 x2 x3
     try simp only [Exit.inBlock, Exit.then]
     refine bodyPost_ret (v := .tuple #[.int .i64 3, .agg #[.int .i64 11, .slice (some ⟨w3.heap.size, 0, none⟩) 1 1, .int .i64 0, .slice none 0 0]]) (by simp [results, Tryz.results183, go_sem, x0, x1, x2, x3]) rfl ?_
     exact ⟨.mk 11 (some ⟨w3.heap.size, 0, none⟩) 1 [rs] 0 none 0 [], by rw [HFC.out]; rfl, HQS.out, by rw [HFC.out, QR.key_mk]; rfl, .mk (fun h => absurd rfl h) (fun a ha => by cases ha), HMF.out⟩
    | false =>
     have HX := Lib.hid (H33.out)
     have HPY := Lib.hid (HPV.out)
     have h3x := HX.out
     have y0 := h3x.cell 0; have yf0 := h3x.frozen 0; have y1 := h3x.cell 1; have yf1 := h3x.frozen 1; have y2 := h3x.cell 2; have yf2 := h3x.frozen 2; have y3 := h3x.cell 3; have yf3 := h3x.frozen 3; simp at y0 y1 y2 y3
     clear h3x
     go_wp2_with fail
     clear y0 y1 y2 y3 yf0 yf1 yf2 yf3
     have h4F := st4_blk (a := .int .i64 0) (b := .slice none 0 0) (c := .int .i64 0) (d := .slice none 0 0) HX.out
     have HMF : Hid (Pure w (((((w3).setCell ⟨g3, 0, none⟩ (.int .i64 0)).setCell ⟨g3, 1, none⟩ (.slice none 0 0)).setCell ⟨g3, 2, none⟩ (.int .i64 0)).setCell ⟨g3, 3, none⟩ (.slice none 0 0))) := Lib.hid (Mod.trans' HPY.out (st4_mod (g := g3)) (fun i hi hlt => by omega))
     have HQS : Hid (QS (((((w3).setCell ⟨g3, 0, none⟩ (.int .i64 0)).setCell ⟨g3, 1, none⟩ (.slice none 0 0)).setCell ⟨g3, 2, none⟩ (.int .i64 0)).setCell ⟨g3, 3, none⟩ (.slice none 0 0)) (.mk 0 none 0 [] 0 none 0 [])) := Lib.hid (.mk Sl.nil_ Sl.nil_ (fun a ha => by cases ha))
     have HFC := Lib.hid (HCO.out.trans (if_neg (by first | decide | simp)))
     have x0 := h4F.cell 0; have x1 := h4F.cell 1; have x2 := h4F.cell 2; have x3 := h4F.cell 3; simp at x0 x1 x2 x3
     try simp only [Exit.inBlock, Exit.then]
     refine bodyPost_ret (v := .tuple #[.int .i64 8, .agg #[.int .i64 0, .slice none 0 0, .int .i64 0, .slice none 0 0]]) (by simp [results, Tryz.results183, go_sem, x0, x1, x2, x3]) rfl ?_
     exact ⟨.mk 0 none 0 [] 0 none 0 [], by rw [HFC.out]; rfl, HQS.out, by rw [HFC.out, QR.key_mk]; rfl, .mk (fun h => absurd rfl h) (fun a ha => by cases ha), HMF.out⟩
   have dname : (hd == [110, 97, 109, 101]) = false := by simpa using cname
   by_cases cfrom : hd = [102, 114, 111, 109]
   ·subst cfrom
    have hco := HP2.out.trans (colon_from rs)
    rw [HNQ.out] at hco
    have HCO := Lib.hid hco
    clear hco HP2 HNQ
    cases rt with
    | true =>
     have HX := Lib.hid (H33.out)
     have HPY := Lib.hid (HPV.out)
     have h3x := HX.out
     have y0 := h3x.cell 0; have yf0 := h3x.frozen 0; have y1 := h3x.cell 1; have yf1 := h3x.frozen 1; have y2 := h3x.cell 2; have yf2 := h3x.frozen 2; have y3 := h3x.cell 3; have yf3 := h3x.frozen 3; simp at y0 y1 y2 y3
     clear h3x
     go_wp2_with fail
     clear y0 y1 y2 y3 yf0 yf1 yf2 yf3
     have h4F := st4_blk (a := .int .i64 12) (b := .slice none 0 0) (c := .int .i64 v) (d := .slice none 0 0) HX.out
     have HMF : Hid (Pure w (((((w3).setCell ⟨g3, 0, none⟩ (.int .i64 12)).setCell ⟨g3, 1, none⟩ (.slice none 0 0)).setCell ⟨g3, 2, none⟩ (.int .i64 v)).setCell ⟨g3, 3, none⟩ (.slice none 0 0))) := Lib.hid (Mod.trans' HPY.out (st4_mod (g := g3)) (fun i hi hlt => by omega))
     have HQS : Hid (QS (((((w3).setCell ⟨g3, 0, none⟩ (.int .i64 12)).setCell ⟨g3, 1, none⟩ (.slice none 0 0)).setCell ⟨g3, 2, none⟩ (.int .i64 v)).setCell ⟨g3, 3, none⟩ (.slice none 0 0)) (.mk 12 none 0 [] v none 0 [])) := Lib.hid (.mk Sl.nil_ Sl.nil_ (fun a ha => by cases ha))
     have HFC := Lib.hid ((show pieceQ s = (3, .mk 12 [] v []) from by have h := HCO.out; simpa using h))
     have x0 := h4F.cell 0; have x1 := h4F.cell 1; have x2 := h4F.cell 2; have x3 := h4F.cell 3; simp at x0 x1 x2 x3
     try simp only [Exit.inBlock, Exit.then]
     refine bodyPost_ret (v := .tuple #[.int .i64 3, .agg #[.int .i64 12, .slice none 0 0, .int .i64 v, .slice none 0 0]]) (by simp [results, Tryz.results183, go_sem, x0, x1, x2, x3]) rfl ?_
     exact ⟨.mk 12 none 0 [] v none 0 [], by rw [HFC.out]; rfl, HQS.out, by rw [HFC.out, QR.key_mk]; rfl, .mk (fun h => absurd rfl h) (fun a ha => by cases ha), HMF.out⟩
    | false =>
     have HX := Lib.hid (H33.out)
     have HPY := Lib.hid (HPV.out)
     have h3x := HX.out
     have y0 := h3x.cell 0; have yf0 := h3x.frozen 0; have y1 := h3x.cell 1; have yf1 := h3x.frozen 1; have y2 := h3x.cell 2; have yf2 := h3x.frozen 2; have y3 := h3x.cell 3; have yf3 := h3x.frozen 3; simp at y0 y1 y2 y3
     clear h3x
     go_wp2_with fail
     clear y0 y1 y2 y3 yf0 yf1 yf2 yf3
     have h4F := st4_blk (a := .int .i64 0) (b := .slice none 0 0) (c := .int .i64 0) (d := .slice none 0 0) HX.out
     have HMF : Hid (Pure w (((((w3).setCell ⟨g3, 0, none⟩ (.int .i64 0)).setCell ⟨g3, 1, none⟩ (.slice none 0 0)).setCell ⟨g3, 2, none⟩ (.int .i64 0)).setCell ⟨g3, 3, none⟩ (.slice none 0 0))) := Lib.hid (Mod.trans' HPY.out (st4_mod (g := g3)) (fun i hi hlt => by omega))
     have HQS : Hid (QS (((((w3).setCell ⟨g3, 0, none⟩ (.int .i64 0)).setCell ⟨g3, 1, none⟩ (.slice none 0 0)).setCell ⟨g3, 2, none⟩ (.int .i64 0)).setCell ⟨g3, 3, none⟩ (.slice none 0 0)) (.mk 0 none 0 [] 0 none 0 [])) := Lib.hid (.mk Sl.nil_ Sl.nil_ (fun a ha => by cases ha))
     have HFC := Lib.hid ((show pieceQ s = (8, q0) from by have h := HCO.out; simpa using h))
     have x0 := h4F.cell 0; have x1 := h4F.cell 1; have x2 := h4F.cell 2; have x3 := h4F.cell 3; simp at x0 x1 x2 x3
     try simp only [Exit.inBlock, Exit.then]
     refine bodyPost_ret (v := .tuple #[.int .i64 8, .agg #[.int .i64 0, .slice none 0 0, .int .i64 0, .slice none 0 0]]) (by simp [results, Tryz.results183, go_sem, x0, x1, x2, x3]) rfl ?_
     exact ⟨.mk 0 none 0 [] 0 none 0 [], by rw [HFC.out]; rfl, HQS.out, by rw [HFC.out, QR.key_mk]; rfl, .mk (fun h => absurd rfl h) (fun a ha => by cases ha), HMF.out⟩
   have dfrom : (hd == [102, 114, 111, 109]) = false := by simpa using cfrom
   by_cases cuntil : hd = [117, 110, 116, 105, 108]
   ·subst cuntil
    have hco := HP2.out.trans (colon_until rs)
    rw [HNQ.out] at hco
    have HCO := Lib.hid hco
    clear hco HP2 HNQ
    cases rt with
    | true =>
     have HX := Lib.hid (H33.out)
     have HPY := Lib.hid (HPV.out)
     have h3x := HX.out
     have y0 := h3x.cell 0; have yf0 := h3x.frozen 0; have y1 := h3x.cell 1; have yf1 := h3x.frozen 1; have y2 := h3x.cell 2; have yf2 := h3x.frozen 2; have y3 := h3x.cell 3; have yf3 := h3x.frozen 3; simp at y0 y1 y2 y3
     clear h3x
     go_wp2_with fail
     clear y0 y1 y2 y3 yf0 yf1 yf2 yf3
     have h4F := st4_blk (a := .int .i64 13) (b := .slice none 0 0) (c := .int .i64 v) (d := .slice none 0 0) HX.out
     have HMF : Hid (Pure w (((((w3).setCell ⟨g3, 0, none⟩ (.int .i64 13)).setCell ⟨g3, 1, none⟩ (.slice none 0 0)).setCell ⟨g3, 2, none⟩ (.int .i64 v)).setCell ⟨g3, 3, none⟩ (.slice none 0 0))) := Lib.hid (Mod.trans' HPY.out (st4_mod (g := g3)) (fun i hi hlt => by omega))
     have HQS : Hid (QS (((((w3).setCell ⟨g3, 0, none⟩ (.int .i64 13)).setCell ⟨g3, 1, none⟩ (.slice none 0 0)).setCell ⟨g3, 2, none⟩ (.int .i64 v)).setCell ⟨g3, 3, none⟩ (.slice none 0 0)) (.mk 13 none 0 [] v none 0 [])) := Lib.hid (.mk Sl.nil_ Sl.nil_ (fun a ha => by cases ha))
     have HFC := Lib.hid ((show pieceQ s = (3, .mk 13 [] v []) from by have h := HCO.out; simpa using h))
     have x0 := h4F.cell 0; have x1 := h4F.cell 1; have x2 := h4F.cell 2; have x3 := h4F.cell 3; simp at x0 x1 x2 x3
     try simp only [Exit.inBlock, Exit.then]
     refine bodyPost_ret (v := .tuple #[.int .i64 3, .agg #[.int .i64 13, .slice none 0 0, .int .i64 v, .slice none 0 0]]) (by simp [results, Tryz.results183, go_sem, x0, x1, x2, x3]) rfl ?_
     exact ⟨.mk 13 none 0 [] v none 0 [], by rw [HFC.out]; rfl, HQS.out, by rw [HFC.out, QR.key_mk]; rfl, .mk (fun h => absurd rfl h) (fun a ha => by cases ha), HMF.out⟩
    | false =>
     have HX := Lib.hid (H33.out)
     have HPY := Lib.hid (HPV.out)
     have h3x := HX.out
     have y0 := h3x.cell 0; have yf0 := h3x.frozen 0; have y1 := h3x.cell 1; have yf1 := h3x.frozen 1; have y2 := h3x.cell 2; have yf2 := h3x.frozen 2; have y3 := h3x.cell 3; have yf3 := h3x.frozen 3; simp at y0 y1 y2 y3
     clear h3x
     go_wp2_with fail
     clear y0 y1 y2 y3 yf0 yf1 yf2 yf3
     have h4F := st4_blk (a := .int .i64 0) (b := .slice none 0 0) (c := .int .i64 0) (d := .slice none 0 0) HX.out
     have HMF : Hid (Pure w (((((w3).setCell ⟨g3, 0, none⟩ (.int .i64 0)).setCell ⟨g3, 1, none⟩ (.slice none 0 0)).setCell ⟨g3, 2, none⟩ (.int .i64 0)).setCell ⟨g3, 3, none⟩ (.slice none 0 0))) := Lib.hid (Mod.trans' HPY.out (st4_mod (g := g3)) (fun i hi hlt => by omega))
     have HQS : Hid (QS (((((w3).setCell ⟨g3, 0, none⟩ (.int .i64 0)).setCell ⟨g3, 1, none⟩ (.slice none 0 0)).setCell ⟨g3, 2, none⟩ (.int .i64 0)).setCell ⟨g3, 3, none⟩ (.slice none 0 0)) (.mk 0 none 0 [] 0 none 0 [])) := Lib.hid (.mk Sl.nil_ Sl.nil_ (fun a ha => by cases ha))
     have HFC := Lib.hid ((show pieceQ s = (8, q0) from by have h := HCO.out; simpa using h))
     have x0 := h4F.cell 0; have x1 := h4F.cell 1; have x2 := h4F.cell 2; have x3 := h4F.cell 3; simp at x0 x1 x2 x3
     try simp only [Exit.inBlock, Exit.then]
     refine bodyPost_ret (v := .tuple #[.int .i64 8, .agg #[.int .i64 0, .slice none 0 0, .int .i64 0, .slice none 0 0]]) (by simp [results, Tryz.results183, go_sem, x0, x1, x2, x3]) rfl ?_
     exact ⟨.mk 0 none 0 [] 0 none 0 [], by rw [HFC.out]; rfl, HQS.out, by rw [HFC.out, QR.key_mk]; rfl, .mk (fun h => absurd rfl h) (fun a ha => by cases ha), HMF.out⟩
   have duntil : (hd == [117, 110, 116, 105, 108]) = false := by simpa using cuntil
   by_cases ckind : hd = [107, 105, 110, 100]
   ·subst ckind
    have HCO := Lib.hid (HP2.out.trans (colon_kind rs))
    clear HP2 HNQ
    go_wp2_with fail
    go_loopg [14] 4 (fun gk i wr => ∃ j : Nat, 5 - j = gk ∧ 1 ≤ j ∧ j ≤ 5 ∧ i = .int .i64 (j : Int) ∧ (∀ t : Nat, 1 ≤ t → t < j → kwQ t ≠ rs) ∧ w3 = wr)
    case atStart => exact ⟨1, by omega, by omega, by omega, rfl, fun t h1 h2 => by omega, rfl⟩
    case round =>
     obtain ⟨j, rfl, hj1, hj5, rfl, hno, rfl⟩ := hrel
     have HNO := Lib.hid hno
     clear hno
     by_cases hlt : j < 5
     ·have HKW := Lib.hid (kindWordQ_calls w3 (j : Int))
      go_wp2_with fail
      refine HKW.out.mono ?_
      rintro e w3 ⟨rfl, rfl⟩
      clear HKW
      by_cases heq : kwQ (j : Int) = rs
      ·have hki := knd_at hj1 (by omega) heq
       have hkb : (kwQ (j : Int) == rs) = true := by simpa using heq
       have HFK := Lib.hid (HCO.out.trans (by rw [if_pos (by rw [hki]; omega), hki]))
       clear heq hki
       have HX := Lib.hid (H33.out)
       have HPY := Lib.hid (HPV.out)
       have h3x := HX.out
       have y0 := h3x.cell 0; have yf0 := h3x.frozen 0; have y1 := h3x.cell 1; have yf1 := h3x.frozen 1; have y2 := h3x.cell 2; have yf2 := h3x.frozen 2; have y3 := h3x.cell 3; have yf3 := h3x.frozen 3; simp at y0 y1 y2 y3
       clear h3x
       go_wp2_with fail
       clear y0 y1 y2 y3 yf0 yf1 yf2 yf3
       have h4F := st4_blk (a := .int .i64 10) (b := .slice none 0 0) (c := .int .i64 (j : Int)) (d := .slice none 0 0) HX.out
       have HMF : Hid (Pure w (((((w3).setCell ⟨g3, 0, none⟩ (.int .i64 10)).setCell ⟨g3, 1, none⟩ (.slice none 0 0)).setCell ⟨g3, 2, none⟩ (.int .i64 (j : Int))).setCell ⟨g3, 3, none⟩ (.slice none 0 0))) := Lib.hid (Mod.trans' HPY.out (st4_mod (g := g3)) (fun i hi hlt => by omega))
       have HQS : Hid (QS (((((w3).setCell ⟨g3, 0, none⟩ (.int .i64 10)).setCell ⟨g3, 1, none⟩ (.slice none 0 0)).setCell ⟨g3, 2, none⟩ (.int .i64 (j : Int))).setCell ⟨g3, 3, none⟩ (.slice none 0 0)) (.mk 10 none 0 [] (j : Int) none 0 [])) := Lib.hid (.mk Sl.nil_ Sl.nil_ (fun a ha => by cases ha))
       have HFC := Lib.hid (HFK.out)
       have x0 := h4F.cell 0; have x1 := h4F.cell 1; have x2 := h4F.cell 2; have x3 := h4F.cell 3; simp at x0 x1 x2 x3
       try simp only [Exit.inBlock, Exit.then]
       refine bodyPost_ret (v := .tuple #[.int .i64 3, .agg #[.int .i64 10, .slice none 0 0, .int .i64 (j : Int), .slice none 0 0]]) (by simp [results, Tryz.results183, go_sem, x0, x1, x2, x3]) rfl ?_
       exact ⟨.mk 10 none 0 [] (j : Int) none 0 [], by rw [HFC.out]; rfl, HQS.out, by rw [HFC.out, QR.key_mk]; rfl, .mk (fun h => absurd rfl h) (fun a ha => by cases ha), HMF.out⟩
      ·have hkb : (kwQ (j : Int) == rs) = false := by simpa using heq
       have HN2 : Hid (∀ t : Nat, 1 ≤ t → t < j + 1 → kwQ t ≠ rs) := Lib.hid (by
        intro t h1 h2
        by_cases h : t < j
        ·exact HNO.out t h1 h
        ·have e : t = j := by omega
         rw [e]
         exact heq)
       clear heq
       go_wp2_with fail
       go_roundg (5 - (j + 1))
       case measure => omega
       case rel => exact ⟨j + 1, rfl, by omega, by omega, by simp, HN2.out, rfl⟩
     ·have e5 : j = 5 := by omega
      subst e5
      have HFK := Lib.hid (HCO.out.trans (if_neg (by rw [knd_none HNO.out]; simp)))
      clear HCO
      have HX := Lib.hid (H33.out)
      have HPY := Lib.hid (HPV.out)
      have h3x := HX.out
      have y0 := h3x.cell 0; have yf0 := h3x.frozen 0; have y1 := h3x.cell 1; have yf1 := h3x.frozen 1; have y2 := h3x.cell 2; have yf2 := h3x.frozen 2; have y3 := h3x.cell 3; have yf3 := h3x.frozen 3; simp at y0 y1 y2 y3
      clear h3x
      go_wp2_with fail
      clear y0 y1 y2 y3 yf0 yf1 yf2 yf3
      have h4F := st4_blk (a := .int .i64 0) (b := .slice none 0 0) (c := .int .i64 0) (d := .slice none 0 0) HX.out
      have HMF : Hid (Pure w (((((w3).setCell ⟨g3, 0, none⟩ (.int .i64 0)).setCell ⟨g3, 1, none⟩ (.slice none 0 0)).setCell ⟨g3, 2, none⟩ (.int .i64 0)).setCell ⟨g3, 3, none⟩ (.slice none 0 0))) := Lib.hid (Mod.trans' HPY.out (st4_mod (g := g3)) (fun i hi hlt => by omega))
      have HQS : Hid (QS (((((w3).setCell ⟨g3, 0, none⟩ (.int .i64 0)).setCell ⟨g3, 1, none⟩ (.slice none 0 0)).setCell ⟨g3, 2, none⟩ (.int .i64 0)).setCell ⟨g3, 3, none⟩ (.slice none 0 0)) (.mk 0 none 0 [] 0 none 0 [])) := Lib.hid (.mk Sl.nil_ Sl.nil_ (fun a ha => by cases ha))
      have HFC := Lib.hid (HFK.out)
      have x0 := h4F.cell 0; have x1 := h4F.cell 1; have x2 := h4F.cell 2; have x3 := h4F.cell 3; simp at x0 x1 x2 x3
      try simp only [Exit.inBlock, Exit.then]
      refine bodyPost_ret (v := .tuple #[.int .i64 8, .agg #[.int .i64 0, .slice none 0 0, .int .i64 0, .slice none 0 0]]) (by simp [results, Tryz.results183, go_sem, x0, x1, x2, x3]) rfl ?_
      exact ⟨.mk 0 none 0 [] 0 none 0 [], by rw [HFC.out]; rfl, HQS.out, by rw [HFC.out, QR.key_mk]; rfl, .mk (fun h => absurd rfl h) (fun a ha => by cases ha), HMF.out⟩
   have dkind : (hd == [107, 105, 110, 100]) = false := by simpa using ckind
   have HBAD := Lib.hid (HP2.out.trans (colon_else rs cowner cname cfrom cuntil ckind))
   clear HP2 HNQ cowner cname cfrom cuntil ckind
   have HX := Lib.hid (H33.out)
   have HPY := Lib.hid (HPV.out)
   have h3x := HX.out
   have y0 := h3x.cell 0; have yf0 := h3x.frozen 0; have y1 := h3x.cell 1; have yf1 := h3x.frozen 1; have y2 := h3x.cell 2; have yf2 := h3x.frozen 2; have y3 := h3x.cell 3; have yf3 := h3x.frozen 3; simp at y0 y1 y2 y3
   clear h3x
   go_wp2_with fail
   clear y0 y1 y2 y3 yf0 yf1 yf2 yf3
   have h4F := st4_blk (a := .int .i64 0) (b := .slice none 0 0) (c := .int .i64 0) (d := .slice none 0 0) HX.out
   have HMF : Hid (Pure w (((((w3).setCell ⟨g3, 0, none⟩ (.int .i64 0)).setCell ⟨g3, 1, none⟩ (.slice none 0 0)).setCell ⟨g3, 2, none⟩ (.int .i64 0)).setCell ⟨g3, 3, none⟩ (.slice none 0 0))) := Lib.hid (Mod.trans' HPY.out (st4_mod (g := g3)) (fun i hi hlt => by omega))
   have HQS : Hid (QS (((((w3).setCell ⟨g3, 0, none⟩ (.int .i64 0)).setCell ⟨g3, 1, none⟩ (.slice none 0 0)).setCell ⟨g3, 2, none⟩ (.int .i64 0)).setCell ⟨g3, 3, none⟩ (.slice none 0 0)) (.mk 0 none 0 [] 0 none 0 [])) := Lib.hid (.mk Sl.nil_ Sl.nil_ (fun a ha => by cases ha))
   have HFC := Lib.hid (HBAD.out)
   have x0 := h4F.cell 0; have x1 := h4F.cell 1; have x2 := h4F.cell 2; have x3 := h4F.cell 3; simp at x0 x1 x2 x3
   try simp only [Exit.inBlock, Exit.then]
   refine bodyPost_ret (v := .tuple #[.int .i64 8, .agg #[.int .i64 0, .slice none 0 0, .int .i64 0, .slice none 0 0]]) (by simp [results, Tryz.results183, go_sem, x0, x1, x2, x3]) rfl ?_
   exact ⟨.mk 0 none 0 [] 0 none 0 [], by rw [HFC.out]; rfl, HQS.out, by rw [HFC.out, QR.key_mk]; rfl, .mk (fun h => absurd rfl h) (fun a ha => by cases ha), HMF.out⟩

end Go.Proofs.YtnfflgicngeekaaGreatDoor

/- The reader of a search's text: how it lies in memory, and what its steps say in plain words. -/
namespace Go.Proofs.YtnfflgicngeekaaGreatDoor
set_option linter.unusedVariables false
set_option linter.unusedSimpArgs false
open Go.RowKit
/-- The cells of a reader: the text, the place, the token (kind, place, search). -/
def rdC (s : Str) (p : Nat) (kd : Int) (tp : Nat) (q : QR) : Array Value :=
 #[.string ⟨s.toArray⟩, .int .i64 (p : Int), .int .i64 kd, .int .i64 (tp : Int)] ++ (qC q).toArray
theorem skp_blank {s : Str} {a : Nat} (h : a < s.length) (hb : blkC s[a] = true) : skpQ s a = skpQ s (a + 1) := by
 unfold skpQ
 rw [List.drop_eq_getElem_cons h, List.takeWhile_cons_of_pos hb, List.length_cons]
 omega
theorem skp_stop {s : Str} {a : Nat} (h : a < s.length) (hb : blkC s[a] = false) : skpQ s a = a := by
 unfold skpQ
 rw [List.drop_eq_getElem_cons h, List.takeWhile_cons_of_neg (by rw [hb]; simp)]
 rfl
theorem skp_end {s : Str} {a : Nat} (h : s.length ≤ a) : skpQ s a = a := by
 unfold skpQ
 rw [List.drop_eq_nil_of_le h]
 rfl
end Go.Proofs.YtnfflgicngeekaaGreatDoor

/- What reading a part of a search takes (plain): at least one token. -/
namespace Go.Proofs.YtnfflgicngeekaaGreatDoor
set_option linter.unusedVariables false
set_option linter.unusedSimpArgs false
open Go.RowKit
theorem kdL_ne {L : List Tk} (h : kdL L ≠ 0) : L.length = L.tail.length + 1 := by
 cases L with
 | nil => exact absurd rfl h
 | cons t l => simp
/-- A part takes at least one token. -/
def LenP (f : List Tk → PR) : Prop := ∀ L q l, f L = .inr (q, l) → l.length + 1 ≤ L.length
theorem closeP_inr {r : PR} {q : Qry} {l : List Tk} (h : closeP r = .inr (q, l)) : ∃ m, r = .inr (q, m) ∧ kdL m = 2 ∧ l = m.tail := by
 cases r with
 | inl m => cases h
 | inr p =>
  obtain ⟨a, m⟩ := p
  unfold closeP at h
  by_cases h2 : kdL m = 2
  ·simp only [h2] at h
   injection h with h
   injection h with h3 h4
   subst h3 h4
   exact ⟨m, rfl, h2, rfl⟩
  ·simp only [h2] at h
   cases h
theorem pPart_len {rec : List Tk → PR} (hr : LenP rec) : LenP (pPart rec) := by
 intro L q l h
 unfold pPart at h
 by_cases h3 : kdL L = 3
 ·rw [if_pos h3] at h
  injection h with h
  injection h with _ h5
  subst h5
  have := kdL_ne (L := L) (by omega)
  omega
 ·rw [if_neg h3] at h
  by_cases h1 : kdL L = 1
  ·rw [if_pos h1] at h
   obtain ⟨m, hm, h2, rfl⟩ := closeP_inr h
   have := hr _ _ _ hm
   have h6 := kdL_ne (L := L) (by omega)
   have h7 := kdL_ne (L := m) (by omega)
   omega
  ·rw [if_neg h1] at h
   cases h
theorem pNearL_len {rec : List Tk → PR} (hr : LenP rec) : ∀ (f : Nat) (a : Qry) (L : List Tk) (q : Qry) (l : List Tk), pNearL rec f a L = .inr (q, l) → l.length ≤ L.length
 | 0, _, _, _, _, h => by cases h
 | f + 1, a, L, q, l, h => by
  unfold pNearL at h
  by_cases h7 : kdL L = 7
  ·rw [if_pos h7] at h
   cases hp : pPart rec L.tail with
   | inl m => rw [hp] at h; cases h
   | inr p =>
    obtain ⟨b, m⟩ := p
    rw [hp] at h
    have h1 := pPart_len hr _ _ _ hp
    have h2 := pNearL_len hr f _ _ _ _ h
    have h6 := kdL_ne (L := L) (by omega)
    omega
  ·rw [if_neg h7] at h
   injection h with h
   injection h with _ h5
   subst h5
   exact Nat.le_refl _
theorem pNear_len {rec : List Tk → PR} (hr : LenP rec) (f : Nat) : LenP (pNear rec f) := by
 intro L q l h
 unfold pNear at h
 cases hp : pPart rec L with
 | inl m => rw [hp] at h; cases h
 | inr p =>
  obtain ⟨b, m⟩ := p
  rw [hp] at h
  have h1 := pPart_len hr _ _ _ hp
  have h2 := pNearL_len hr f _ _ _ _ h
  omega
theorem pNot_len {rec : List Tk → PR} (hr : LenP rec) (f : Nat) : LenP (pNot rec f) := by
 intro L q l h
 unfold pNot at h
 cases hp : pNear rec f (L.drop (notL L)) with
 | inl m => rw [hp] at h; cases h
 | inr p =>
  obtain ⟨b, m⟩ := p
  rw [hp] at h
  injection h with h
  injection h with _ h5
  subst h5
  have h1 := pNear_len hr f _ _ _ hp
  rw [List.length_drop] at h1
  omega
theorem pSevL_len {kind between : Int} {el : List Tk → PR} (h0 : between ≠ 0) (he : LenP el) : ∀ (f : Nat) (a : List Qry) (L : List Tk) (q : Qry) (l : List Tk), pSevL kind between el f a L = .inr (q, l) → l.length ≤ L.length
 | 0, _, _, _, _, h => by cases h
 | f + 1, a, L, q, l, h => by
  unfold pSevL at h
  by_cases h7 : kdL L = between
  ·rw [if_pos h7] at h
   cases hp : el L.tail with
   | inl m => rw [hp] at h; cases h
   | inr p =>
    obtain ⟨b, m⟩ := p
    rw [hp] at h
    have h1 := he _ _ _ hp
    have h2 := pSevL_len h0 he f _ _ _ _ h
    have h6 := kdL_ne (L := L) (by omega)
    omega
  ·rw [if_neg h7] at h
   injection h with h
   injection h with _ h5
   subst h5
   exact Nat.le_refl _
theorem pSev_len {kind between : Int} {el : List Tk → PR} (h0 : between ≠ 0) (he : LenP el) (f : Nat) : LenP (pSev kind between el f) := by
 intro L q l h
 unfold pSev at h
 cases hp : el L with
 | inl m => rw [hp] at h; cases h
 | inr p =>
  obtain ⟨b, m⟩ := p
  rw [hp] at h
  have h1 := he _ _ _ hp
  by_cases h7 : kdL m = between
  ·simp only [h7, if_true] at h
   have h2 := pSevL_len h0 he f _ _ _ _ h
   omega
  ·simp only [h7, if_false] at h
   injection h with h
   injection h with _ h5
   subst h5
   exact h1
theorem pOr_len : ∀ f : Nat, LenP (pOr f)
 | 0 => by intro L q l h; cases h
 | f + 1 => by
  show LenP (pSev 7 5 (pSev 6 4 (pNot (pOr f) f) f) f)
  exact pSev_len (by decide) (pSev_len (by decide) (pNot_len (pOr_len f) f) f) f

end Go.Proofs.YtnfflgicngeekaaGreatDoor

/- The reader of a search's text: its state, and what stays as it was where searches are gathered. -/
namespace Go.Proofs.YtnfflgicngeekaaGreatDoor
set_option linter.unusedVariables false
set_option linter.unusedSimpArgs false
open Go.RowKit
theorem stpC_set (c : UInt8) : ([32, 10, 40, 41, 34] : Str).contains c = stpC c := by
 unfold stpC
 rw [Bool.eq_iff_iff]
 simp
theorem wordQ_idx : ∀ t : Str, -1 ≤ Lib.indexAny t [32, 10, 40, 41, 34] ∧ ((wordQ t).length : Int) = if Lib.indexAny t [32, 10, 40, 41, 34] < 0 then (t.length : Int) else Lib.indexAny t [32, 10, 40, 41, 34]
 | [] => ⟨by decide, rfl⟩
 | c :: t => by
  obtain ⟨h0, h⟩ := wordQ_idx t
  unfold Lib.indexAny
  rw [stpC_set]
  unfold wordQ
  rw [List.takeWhile_cons]
  cases hc : stpC c
  ·simp only [Bool.not_false, if_true, List.length_cons, Bool.false_eq_true, if_false]
   change ((wordQ t).length : Int) = _ at h
   rw [show (List.takeWhile (fun d => !stpC d) t) = wordQ t from rfl]
   generalize Lib.indexAny t [32, 10, 40, 41, 34] = n at *
   by_cases hn : n = -1
   ·subst hn
    simp at h ⊢
    omega
   ·have hb : (n == -1) = false := by simpa using hn
    rw [hb]
    simp only [Bool.false_eq_true, if_false]
    rw [if_neg (by omega)] at h ⊢
    omega
  ·simp
theorem wordQ_sub (t : Str) : wordQ t = t.take (wordQ t).length := List.prefix_iff_eq_take.1 (List.takeWhile_prefix _)
theorem piece_args (s : Str) : (pieceQ s).2.args = [] ∧ ((pieceQ s).1 = 7 → (pieceQ s).2.words = []) := by
 unfold pieceQ slashQ colonQ
 repeat' split
 all_goals first | exact ⟨rfl, fun _ => rfl⟩ | exact ⟨rfl, fun h => absurd h (by decide)⟩ | exact ⟨rfl, fun h => by simp at h⟩
theorem phrase_args (s : Str) : (phraseQ s).2.args = [] ∧ (phraseQ s).1 ≠ 7 := by
 unfold phraseQ
 split
 ·exact ⟨rfl, by decide⟩
 ·exact ⟨rfl, show (3 : Int) ≠ 7 by decide⟩
theorem tok_args (s : Str) : (tokQ s).2.1.args = [] ∧ ((tokQ s).1 = 7 → (tokQ s).2.1.words = []) := by
 cases s with
 | nil => exact ⟨rfl, fun h => absurd h (by decide)⟩
 | cons c t =>
  show (tokC c t).2.1.args = [] ∧ ((tokC c t).1 = 7 → (tokC c t).2.1.words = [])
  unfold tokC
  split
  ·exact ⟨rfl, fun h => absurd h (by decide)⟩
  ·split
   ·exact ⟨rfl, fun h => absurd h (by decide)⟩
   ·split
    ·split
     ·exact ⟨rfl, fun h => absurd h (by decide)⟩
     ·rename_i p _
      exact ⟨(phrase_args p.1).1, fun h => absurd h (phrase_args p.1).2⟩
    ·exact piece_args _
/-- What next leads to. -/
def NxP (w : World) (g : Nat) (s : Str) (p : Nat) (e : Ending) (w' : World) : Prop := ∃ qr : QR, e = .returned (.tuple #[]) ∧ Blk w' g 136 (rdC s (nextQ s p).2 (nextQ s p).1.kind (nextQ s p).1.pos qr) ∧ qr.key = (nextQ s p).1.q ∧ QS w' qr ∧ Mod (· = g) w w'
/-- The reader is at a list of tokens: it holds the first, the others are what is read from its place on. -/
def RdrS (w : World) (g : Nat) (s : Str) (L : List Tk) : Prop :=
 ∃ (p : Nat) (qr : QR) (t : Tk) (l : List Tk), L = t :: l ∧ Blk w g 136 (rdC s p t.kind t.pos qr) ∧ p ≤ s.length ∧ QS w qr ∧ qr.key = t.q ∧ t.q.args = [] ∧ (t.kind = 7 → t.q.words = []) ∧ (t.kind ≠ 0 → t.kind ≠ 8 → l = toksQ s p)
def NrP (w : World) (g : Nat) (s : Str) (L : List Tk) (e : Ending) (w' : World) : Prop := e = .returned (.tuple #[]) ∧ RdrS w' g s L ∧ Mod (· = g) w w'
theorem NxP.rds {w : World} {g : Nat} {s : Str} {p : Nat} {e : Ending} {w' : World} (h : NxP w g s p e w') (hp : p ≤ s.length) : NrP w g s (toksQ s p) e w' := by
 obtain ⟨qr, he, hB, hk, hQ, hm⟩ := h
 exact ⟨he, ⟨(nextQ s p).2, qr, (nextQ s p).1, if (nextQ s p).1.kind = 0 ∨ (nextQ s p).1.kind = 8 then [] else toksQ s (nextQ s p).2, by rw [toks_eq s hp]; split <;> rfl, hB, (next_len s hp).1, hQ, hk, (tok_args _).1, (tok_args _).2, fun h1 h2 => if_neg (by simp [h1, h2])⟩, hm⟩
/-- Rows of searches within a search lie in no block of S. -/
inductive QN (S : Nat → Prop) : QR → Prop
 | mk {k : Int} {A : Option Addr} {c : Nat} {ws : List Str} {n : Int} {B : Option Addr} {d : Nat} {xs : List QR} (h : xs ≠ [] → ∀ g off, B = some ⟨g, off, none⟩ → ¬ S g) (hs : ∀ a ∈ xs, QN S a) : QN S (.mk k A c ws n B d xs)
theorem QN.leaf {S : Nat → Prop} {q : QR} (h : q.key.args = []) : QN S q := by
 obtain ⟨k, A, c, ws, n, B, d, xs⟩ := q
 have hx : xs = [] := by
  rw [QR.key_mk] at h
  exact List.map_eq_nil_iff.1 h
 subst hx
 exact .mk (fun h => absurd rfl h) (fun a ha => by cases ha)
theorem QFr.leaf {base : Nat} {q : QR} (h : q.key.args = []) : QFr base q := by
 obtain ⟨k, A, c, ws, n, B, d, xs⟩ := q
 have hx : xs = [] := by
  rw [QR.key_mk] at h
  exact List.map_eq_nil_iff.1 h
 subst hx
 exact .mk (fun h => absurd rfl h) (fun a ha => by cases ha)
theorem QN.old {S : Nat → Prop} {base : Nat} {q : QR} (h : QFr base q) (hS : ∀ k, S k → k < base) : QN S q := by
 induction h with
 | mk hb hs ih =>
  refine .mk (fun hx g off he hg => ?_) ih
  obtain ⟨g', off', he', hle⟩ := hb hx
  rw [he] at he'
  injection he' with he'
  injection he' with he'
  subst he'
  have := hS _ hg
  omega
theorem QN.new {S : Nat → Prop} {w : World} {q : QR} (h : QS w q) (hS : ∀ k, S k → w.heap.size ≤ k) : QN S q := by
 induction h with
 | mk hw ha hs ih =>
  rename_i k A c ws n B d xs
  refine .mk (fun hx g off he hg => ?_) ih
  have hl : 0 < xs.length := by cases xs with | nil => exact absurd rfl hx | cons a t => simp
  obtain ⟨B', n', d', e2, hle, hc, hl2, hr⟩ := ha
  injection e2 with e3 e4 e5
  subst e3 e4 e5
  obtain ⟨g', off', he', hr⟩ := hr hl
  rw [he] at he'
  injection he' with he'
  injection he' with he'
  subst he'
  have h1 := hr.lt
  have h2 := hS _ hg
  omega
theorem QS.modN {w w' : World} {S : Nat → Prop} {q : QR} (h : QS w q) (hn : QN S q) (hm : Mod S w w') (h1 : ∀ g arr fr, w.heap[g]? = some (.cells arr 9 fr) → ¬ S g) : QS w' q := by
 induction h with
 | mk hw ha hs ih =>
  rename_i k A c ws n B d xs
  cases hn with
  | mk hb hx =>
   refine .mk (hw.mod hm h1) ?_ (fun a hm => ih a hm (hx a hm))
   cases xs with
   | nil => exact ⟨B, 0, d, rfl, Nat.zero_le _, by obtain ⟨_, _, _, e2, _, hc, _⟩ := ha; injection e2 with _ _ e5; omega, rfl, fun h => absurd h (by decide)⟩
   | cons x t =>
    obtain ⟨B', n', d', he, hle, hc, hl, hr⟩ := ha
    injection he with e1 e2 e3
    subst e1 e2 e3
    refine ⟨B, _, d, rfl, hle, hc, hl, fun h0 => ?_⟩
    obtain ⟨g, off, hB, hrow⟩ := hr h0
    exact ⟨g, off, hB, hrow.mod hm (hb (by simp) g off hB)⟩
/-- Behind a step of the reader. -/
theorem Sl.rd {w w' : World} {g : Nat} {cs : Array Value} {size : Nat} {v : Value} {xs : List Value} {e : TypeId} (h : Sl w e size v xs) (hB : Blk w g 136 cs) (hm : Mod (· = g) w w') (hne : e ≠ 136) : Sl w' e size v xs :=
 Sl.mod h hm (fun g' arr fr hg he => by
  subst he
  unfold Blk at hB
  rw [hB] at hg
  injection hg with hg
  injection hg with _ hg
  exact hne hg.symm)
theorem QS.rd {w w' : World} {g : Nat} {cs : Array Value} {q : QR} (h : QS w q) (hB : Blk w g 136 cs) (hm : Mod (· = g) w w') : QS w' q := by
 induction h with
 | mk hw ha hs ih => exact .mk (Sl.rd hw hB hm (by decide)) (Sl.rd ha hB hm (by decide)) ih
theorem RdrS.blk {w : World} {g : Nat} {s : Str} {L : List Tk} (h : RdrS w g s L) : ∃ cs, Blk w g 136 cs := by
 obtain ⟨p, qr, t, l, _, h, _⟩ := h
 exact ⟨_, h⟩
theorem RdrS.lt {w : World} {g : Nat} {s : Str} {L : List Tk} (h : RdrS w g s L) : g < w.heap.size := by
 obtain ⟨cs, h⟩ := h.blk
 exact h.lt
/-- Where other blocks than the reader's and those of strings have been written. -/
theorem RdrS.mod {w w' : World} {g : Nat} {s : Str} {L : List Tk} {S : Nat → Prop} (h : RdrS w g s L) (hm : Mod S w w') (hg : ¬ S g) (h1 : ∀ g arr fr, w.heap[g]? = some (.cells arr 9 fr) → ¬ S g) : RdrS w' g s L := by
 obtain ⟨p, qr, t, l, a1, a2, a3, a4, a5, a6, a7, a8⟩ := h
 exact ⟨p, qr, t, l, a1, a2.mod hm hg, a3, a4.modN (QN.leaf (by rw [a5]; exact a6)) hm h1, a5, a6, a7, a8⟩
theorem RdrS.pure {w w' : World} {g : Nat} {s : Str} {L : List Tk} (h : RdrS w g s L) (hm : Pure w w') : RdrS w' g s L := h.mod hm (fun h => h) (fun _ _ _ _ h => h)
/-- What reading a part of a search hands back. -/
def PrP (w : World) (g : Nat) (s : Str) (r : PR) (e : Ending) (w' : World) : Prop := ∃ (qr : QR) (b : Bool) (l : List Tk), e = .returned (.tuple #[qA qr, .bool b]) ∧ RdrS w' g s l ∧ Mod (· = g) w w' ∧ (b = false → r = .inl l) ∧ (b = true → r = .inr (qr.key, l) ∧ QS w' qr ∧ QFr w.heap.size qr)

end Go.Proofs.YtnfflgicngeekaaGreatDoor

/-
 DERIVED: THE SHELF's CONTRACTS AT THIS DUMP, IN PLAIN WORDS (tools/lay-plain.mjs out of 'YtnfflgicngeekaaGreatDoorLayInt.lean', which tools/lay-shelf.mjs wrote): THE SAME DECLARATIONS UNDER THE SAME NAMES: 'import', 'namespace', 'open', 'def', 'theorem' AND NOTHING ELSE: no command of the shelf's: FOR A HAND-IN. Each laying: the table of numbers ('.._ren') and one theorem, a field a fact of the dump's own or the kernel's comparison; each contract: ONE APPLICATION.
-/
namespace Go.Proofs
open Go.Shelf
def Tryz.lays189_ren : Go.Shelf.Ren := ⟨fun | 189 => 252 | 125 => 279 | 257 => 278 | 128 => 302 | 129 => 264 | 294 => 294 | 295 => 295 | 296 => 296 | 297 => 297 | 298 => 298 | 299 => 299 | 216 => 291 | 300 => 300 | 301 => 301 | 328 => 309 | 329 => 310 | 330 => 311 | 331 => 312 | 332 => 313 | 215 => 308 | 343 => 321 | n => n, fun | 28 => 22 | 3 => 3 | 46 => 180 | 0 => 0 | 51 => 221 | 53 => 224 | 4 => 4 | 183 => 292 | 182 => 291 | 131 => 153 | 5 => 5 | 9 => 9 | 218 => 306 | 222 => 310 | 228 => 329 | 229 => 127 | n => n, fun | n => n⟩
theorem Tryz.lays189 : Go.Proofs.Lays.n189 Tryz.prog Tryz.lays189_ren := {
 mixed := by kernel_rfl
 f125 := Tryz.func279.trans (congrArg some (by kernel_rfl))
 f128 := Tryz.func302.trans (congrArg some (by kernel_rfl))
 f129 := Tryz.func264.trans (congrArg some (by kernel_rfl))
 f189 := Tryz.func252.trans (congrArg some (by kernel_rfl))
 f215 := Tryz.func308.trans (congrArg some (by kernel_rfl))
 f216 := Tryz.func291.trans (congrArg some (by kernel_rfl))
 f257 := Tryz.func278.trans (congrArg some (by kernel_rfl))
 f294 := Tryz.func294.trans (congrArg some (by kernel_rfl))
 f295 := Tryz.func295.trans (congrArg some (by kernel_rfl))
 f296 := Tryz.func296.trans (congrArg some (by kernel_rfl))
 f297 := Tryz.func297.trans (congrArg some (by kernel_rfl))
 f298 := Tryz.func298.trans (congrArg some (by kernel_rfl))
 f299 := Tryz.func299.trans (congrArg some (by kernel_rfl))
 f300 := Tryz.func300.trans (congrArg some (by kernel_rfl))
 f301 := Tryz.func301.trans (congrArg some (by kernel_rfl))
 f328 := Tryz.func309.trans (congrArg some (by kernel_rfl))
 f329 := Tryz.func310.trans (congrArg some (by kernel_rfl))
 f330 := Tryz.func311.trans (congrArg some (by kernel_rfl))
 f331 := Tryz.func312.trans (congrArg some (by kernel_rfl))
 f332 := Tryz.func313.trans (congrArg some (by kernel_rfl))
 f343 := Tryz.func321.trans (congrArg some (by kernel_rfl))
 t0 := Tryz.underlying0
 a0 := Tryz.isAgg0
 z0 := Tryz.sizeOf0
 v0 := Tryz.zeroValue0
 t3 := Tryz.underlying3
 a3 := Tryz.isAgg3
 z3 := Tryz.sizeOf3
 v3 := Tryz.zeroValue3
 t4 := Tryz.underlying4
 a4 := Tryz.isAgg4
 z4 := Tryz.sizeOf4
 v4 := Tryz.zeroValue4
 t5 := Tryz.underlying5
 a5 := Tryz.isAgg5
 z5 := Tryz.sizeOf5
 v5 := Tryz.zeroValue5
 t9 := Tryz.underlying9
 a9 := Tryz.isAgg9
 z9 := Tryz.sizeOf9
 v9 := Tryz.zeroValue9
 t28 := Tryz.underlying22
 a28 := Tryz.isAgg22
 z28 := Tryz.sizeOf22
 v28 := Tryz.zeroValue22
 t46 := Tryz.underlying180
 a46 := Tryz.isAgg180
 z46 := Tryz.sizeOf180
 v46 := Tryz.zeroValue180
 t51 := Tryz.underlying221
 a51 := Tryz.isAgg221
 z51 := Tryz.sizeOf221
 v51 := Tryz.zeroValue221
 t53 := Tryz.underlying224
 a53 := Tryz.isAgg224
 z53 := Tryz.sizeOf224
 v53 := Tryz.zeroValue224
 t131 := Tryz.underlying153
 a131 := Tryz.isAgg153
 z131 := Tryz.sizeOf153
 v131 := Tryz.zeroValue153
 t182 := Tryz.underlying291
 a182 := Tryz.isAgg291
 z182 := Tryz.sizeOf291
 v182 := Tryz.zeroValue291
 t183 := Tryz.underlying292
 a183 := Tryz.isAgg292
 z183 := Tryz.sizeOf292
 v183 := Tryz.zeroValue292
 t218 := Tryz.underlying306
 a218 := Tryz.isAgg306
 z218 := Tryz.sizeOf306
 v218 := Tryz.zeroValue306
 t222 := Tryz.underlying310
 a222 := Tryz.isAgg310
 z222 := Tryz.sizeOf310
 v222 := Tryz.zeroValue310
 t228 := Tryz.underlying329
 a228 := Tryz.isAgg329
 z228 := Tryz.sizeOf329
 v228 := Tryz.zeroValue329
 t229 := Tryz.underlying127
 a229 := Tryz.isAgg127
 z229 := Tryz.sizeOf127
 v229 := Tryz.zeroValue127 }
def Tryz.laysNm220_ren : Go.Shelf.Ren := ⟨fun | 20 => 253 | n => n, fun | 22 => 22 | 3 => 3 | 4 => 4 | 0 => 0 | n => n, fun | n => n⟩
theorem Tryz.laysNm220 : Go.Proofs.Lays2.n20 Tryz.prog Tryz.laysNm220_ren := {
 mixed := by kernel_rfl
 f20 := Tryz.func253.trans (congrArg some (by kernel_rfl))
 t0 := Tryz.underlying0
 a0 := Tryz.isAgg0
 z0 := Tryz.sizeOf0
 v0 := Tryz.zeroValue0
 t3 := Tryz.underlying3
 a3 := Tryz.isAgg3
 z3 := Tryz.sizeOf3
 v3 := Tryz.zeroValue3
 t4 := Tryz.underlying4
 a4 := Tryz.isAgg4
 z4 := Tryz.sizeOf4
 v4 := Tryz.zeroValue4
 t22 := Tryz.underlying22
 a22 := Tryz.isAgg22
 z22 := Tryz.sizeOf22
 v22 := Tryz.zeroValue22
 i3 := by kernel_rfl }
end Go.Proofs

/- slices.Sort, Compact of numbers that the call owns (the shelf's contracts in my words). -/
namespace Go.Proofs.YtnfflgicngeekaaGreatDoor
set_option linter.unusedVariables false
set_option linter.unusedSimpArgs false
open Go.RowKit
open Go.Sort
section
variable {α : Type} [Inhabited α] {enc : α → Value} {w : World} {base g cap n : Nat} {e : TypeId} {os : Array Obj} {cur : Array Value} {ss ts : List α}
/-- The cells of an own row, as the shelf's contracts ask for them. -/
theorem holdsE (hb : w.heap[g]? = some (.cells cur e (0, 0))) (ht : cur.toList.take ss.length = ss.map enc) : Holds enc w g 0 ss.toArray := by
 intro j hj
 rw [List.size_toArray] at hj
 constructor
 ·have h : cur[j]? = some (enc ss[j]) := by
   rw [← Array.getElem?_toList, ← List.getElem?_take_of_lt hj, ht]
   simp [hj]
  simp [World.cell?, hb, h, hj]
 ·simp [World.frozen?, hb]
/-- Behind a call that has written the row anew: all else is as it was, and the slice owns the new elements. -/
theorem putE_mod (d : Array α) : Mod (fun k => k = g) w (grow (putRow enc (Sort.ahead w n) g 0 d) os) := by
 refine ⟨rfl, rfl, rfl, by simp, fun k hk hne => ?_⟩
 rw [heap_grow_old _ _ (by simpa using hk)]
 have hgk : g ≠ k := fun h => hne h.symm
 simp [putRow, mapBlock, Sort.ahead, Array.getElem?_modify, hgk]
theorem putE_own (hl : ts.length = ss.length) (hbase : base ≤ g) (hb : w.heap[g]? = some (.cells cur e (0, 0))) (h1 : ss.length ≤ cap) (h2 : cap ≤ maxLen) (h3 : cur.size = cap * 1) :
  (grow (putRow enc (Sort.ahead w n) g 0 ts.toArray) os).ownsRow base e 1 (.slice (some ⟨g, 0, none⟩) ss.length cap) ss.length (ts.map enc) := by
 have hnew : (grow (putRow enc (Sort.ahead w n) g 0 ts.toArray) os).heap[g]? = some (.cells (putCells enc 0 ts.toArray cur) e (0, 0)) := by
  rw [heap_grow_old _ _ (by simpa using (Array.getElem?_eq_some_iff.1 hb).1)]
  simp [putRow, mapBlock, Sort.ahead, Array.getElem?_modify, hb, onCells]
 refine ⟨by simp [hl], .inr ⟨g, cap, _, rfl, hbase, hnew, h1, h2, by simp [putCells, h3], ?_⟩⟩
 rw [Nat.mul_one, ← hl]
 refine List.ext_getElem? fun j => ?_
 rcases Nat.lt_or_ge j ts.length with hj | hj
 ·rw [List.getElem?_take_of_lt hj, Array.getElem?_toList]
  simp [putCells, hj, show j < cur.size by omega]
 ·rw [List.getElem?_take_eq_none hj, List.getElem?_eq_none (by simpa using hj)]
end
def ivQ (l : List Int) : List Value := l.map (.int .i64)
theorem ivQ_cast (l : List Nat) : ivQ (castI l) = nvQ l := castI_V l
def SameRowI (w : World) (base : Nat) (v : Value) (ss : List Int) (e : Ending) (w' : World) : Prop :=
 e = .returned (.tuple #[]) ∧ w'.ownsRow base 3 1 v ss.length (ivQ ss) ∧ Mod (fun k => v.ownBlock = some k) w w'
theorem sortI_calls (w : World) (v : Value) (n base : Nat) (ss : List Int) (hown : w.ownsRow base 3 1 v n (ivQ ss)) (hl : ss.length ≤ 100000000) :
  Calls Tryz.prog 252 #[v] w (SameRowI w base v (ss.mergeSort fun x y => decide (x ≤ y))) := by
 have hn : n = ss.length := by have := hown.1; simp [ivQ] at this; omega
 subst hn
 rcases hown.2 with ⟨rfl, h0⟩ | ⟨g, cap, cur, rfl, hbase, hb, h1, h2, h3, h4⟩
 ·have e : ss = [] := List.eq_nil_of_length_eq_zero h0
  subst e
  refine (Any.slices_Sort_int_none Tryz.lays189 none 0 w).mono ?_
  rintro e w' ⟨rfl, rfl⟩
  exact ⟨rfl, by simpa using hown, Mod.refl _ _⟩
 ·refine (Any.slices_Sort_int Tryz.lays189 g 0 cap ss w (holdsE hb (by simpa [ivQ] using h4)) (lt_of_heap hb) (by omega)).mono ?_
  rintro e w' ⟨rfl, nn, os, rfl⟩
  refine ⟨rfl, ?_, (putE_mod _).mono (fun k hk => by rw [hk]; rfl)⟩
  have := putE_own (enc := Value.int .i64) (n := nn) (os := os) (ts := ss.mergeSort fun x y => decide (x ≤ y)) (ss := ss) (by simp) hbase hb h1 h2 h3
  simpa [ivQ] using this
/-- What Compact hands back. -/
def CompactPostI (w : World) (base : Nat) (v : Value) (ss : List Int) (e : Ending) (w' : World) : Prop :=
 ∃ v', e = .returned v' ∧ w'.ownsRow base 3 1 v' (Lib.compact ss).length (ivQ (Lib.compact ss)) ∧ v'.ownBlock = v.ownBlock ∧ Mod (fun k => v.ownBlock = some k) w w'
theorem own_shrinkI {w : World} {base g cap n m : Nat} {e : TypeId} {xs : List Value} (h : w.ownsRow base e 1 (.slice (some ⟨g, 0, none⟩) n cap) n xs) (hm : m ≤ n) : w.ownsRow base e 1 (.slice (some ⟨g, 0, none⟩) m cap) m (xs.take m) := by
 rcases h.2 with ⟨h0, _⟩ | ⟨g', cap', cur, hv, hbase, hb, h1, h2, h3, h4⟩
 ·cases h0
 ·cases hv
  have := h.1
  refine ⟨by simp; omega, .inr ⟨g, cap, cur, rfl, hbase, hb, by omega, h2, h3, ?_⟩⟩
  rw [← h4, List.take_take]
  congr 1
  omega
theorem compactI_le (ss : List Int) : (Lib.compact ss).length ≤ ss.length := by
 unfold Lib.compact Lib.compactUpTo
 rw [List.length_map]
 have := List.length_filter_le (Lib.keeps ss.toArray) (List.range ss.length)
 simpa using this
theorem compactI_calls (w : World) (v : Value) (n base : Nat) (ss : List Int) (hown : w.ownsRow base 3 1 v n (ivQ ss)) (hl : ss.length ≤ 100000000) :
  Calls Tryz.prog 253 #[v] w (CompactPostI w base v ss) := by
 have hn : n = ss.length := by have := hown.1; simp [ivQ] at this; omega
 subst hn
 rcases hown.2 with ⟨rfl, h0⟩ | ⟨g, cap, cur, rfl, hbase, hb, h1, h2, h3, h4⟩
 ·have e : ss = [] := List.eq_nil_of_length_eq_zero h0
  subst e
  refine (Any.slices_Compact_int_empty Tryz.laysNm220 none 0 w).mono ?_
  rintro e w' ⟨rfl, rfl⟩
  exact ⟨_, rfl, hown, rfl, Mod.refl _ _⟩
 ·refine (Any.slices_Compact_int Tryz.laysNm220 g 0 cap ss w (holdsE hb (by simpa [ivQ] using h4)) (by omega) h1).mono ?_
  rintro e w' ⟨rfl, nn, rfl⟩
  have e0 : ∀ W : World, W = grow W #[] := fun W => by simp [grow]
  rw [e0 (putRow _ _ _ _ _)]
  have hcl := compactI_le ss
  refine ⟨_, rfl, ?_, rfl, (putE_mod _).mono (fun k hk => by rw [hk]; rfl)⟩
  have h := putE_own (enc := Value.int .i64) (n := nn) (os := #[]) (ts := Lib.compact ss ++ List.replicate (ss.length - (Lib.compact ss).length) 0) (ss := ss) (by simp; omega) hbase hb h1 h2 h3
  have h2 := own_shrinkI h hcl
  rw [List.map_append, List.take_left' (by simp)] at h2
  exact h2

end Go.Proofs.YtnfflgicngeekaaGreatDoor

/- Rows of places that are being made, in memory. -/
namespace Go.Proofs.YtnfflgicngeekaaGreatDoor
set_option linter.unusedVariables false
set_option linter.unusedSimpArgs false
open Go.RowKit
/-- The slices us read as the rows rs. -/
def RowsU (w : World) (us : List Value) (rs : List (List Nat)) : Prop := us.length = rs.length ∧ ∀ i, (h : i < rs.length) → ∃ u, us[i]? = some u ∧ Sl w 3 1 u (nvQ rs[i]) ∧ NilOkI u
/-- A row of rows that is being made: the first ones are there, the others are nil. -/
def OutB (w : World) (g : Nat) (us : List Value) (W : Nat) : Prop := Blk w g 22 (us ++ List.replicate (W - us.length) (Value.slice none 0 0)).toArray
def RnP (w : World) (W : Nat) (F : Nat → Nat → Bool) (e : Ending) (w' : World) : Prop := ∃ v, e = .returned v ∧ SlI w' v (rowsQ W F) ∧ Pure w w'
variable {w w' : World} {us : List Value} {rs : List (List Nat)} {u : Value} {r : List Nat} {W g : Nat}
theorem nilI : Sl w 3 1 (Value.slice none 0 0) (nvQ []) ∧ NilOkI (Value.slice none 0 0) := ⟨Sl.nil_, fun n c h => by cases h; exact ⟨rfl, rfl⟩⟩
theorem rowsQ_tail {W k : Nat} {F : Nat → Nat → Bool} (hk : k ≤ W) (h : ∀ i, k ≤ i → i < W → rowQ W (F i) = []) : (rowsQ W F).take k ++ List.replicate (W - k) [] = rowsQ W F := by
 refine List.ext_getElem (by simp [rowsQ_len]; omega) fun i h1 h2 => ?_
 rw [rowsQ_at]
 have hi : i < W := by rw [rowsQ_len] at h2; exact h2
 by_cases hlt : i < k
 ·rw [List.getElem_append_left (by simp [rowsQ_len]; omega), List.getElem_take, rowsQ_at]
 ·rw [List.getElem_append_right (by simp [rowsQ_len]; omega), List.getElem_replicate, h i (by omega) hi]
theorem OutB.all (h : OutB w g us W) (hl : us.length ≤ W) : OutB w g (us ++ List.replicate (W - us.length) (Value.slice none 0 0)) W := by
 unfold OutB at *
 rw [show W - (us ++ List.replicate (W - us.length) (Value.slice none 0 0)).length = 0 by simp; omega, List.replicate_zero, List.append_nil]
 exact h
theorem RowsU.nil : RowsU w [] [] := ⟨rfl, fun i h => absurd h (Nat.not_lt_zero _)⟩
theorem RowsU.snoc (h : RowsU w us rs) (hs : Sl w 3 1 u (nvQ r)) (hn : NilOkI u) : RowsU w (us ++ [u]) (rs ++ [r]) := by
 obtain ⟨h1, h2⟩ := h
 refine ⟨by simp [h1], fun i hi => ?_⟩
 by_cases hlt : i < rs.length
 ·obtain ⟨x, hx, a, b⟩ := h2 i hlt
  refine ⟨x, by rw [List.getElem?_append_left (by omega)]; exact hx, ?_, b⟩
  rw [List.getElem_append_left hlt]
  exact a
 ·have hi' : i = rs.length := by simp at hi; omega
  subst hi'
  refine ⟨u, by rw [← h1]; simp, ?_, hn⟩
  simpa using hs
theorem RowsU.nils (h : RowsU w us rs) : ∀ n, RowsU w (us ++ List.replicate n (Value.slice none 0 0)) (rs ++ List.replicate n [])
 | 0 => by simpa using h
 | n + 1 => by
  rw [List.replicate_succ', ← List.append_assoc, List.replicate_succ', ← List.append_assoc]
  exact (RowsU.nils h n).snoc (nilI (w := w)).1 (nilI (w := w)).2
theorem RowsU.mod {S : Nat → Prop} (h : RowsU w us rs) (hm : Mod S w w') (hs : ∀ g arr fr, w.heap[g]? = some (.cells arr 3 fr) → ¬ S g) : RowsU w' us rs :=
 ⟨h.1, fun i hi => by obtain ⟨x, hx, a, b⟩ := h.2 i hi; exact ⟨x, hx, a.mod hm hs, b⟩⟩
theorem RowsU.pure (h : RowsU w us rs) (hm : Pure w w') : RowsU w' us rs := h.mod hm (fun _ _ _ _ h => h)
/-- A store into a row of rows. -/
theorem RowsU.set {t : TypeId} {cs : Array Value} (h : RowsU w us rs) (hB : Blk w g t cs) (hne : 3 ≠ t) (j : Nat) (v : Value) : RowsU (w.setCell ⟨g, j, none⟩ v) us rs :=
 ⟨h.1, fun i hi => by obtain ⟨x, hx, a, b⟩ := h.2 i hi; exact ⟨x, hx, a.set_ne hB hne v, b⟩⟩
theorem OutB.lt (h : OutB w g us W) : g < w.heap.size := Blk.lt h
theorem OutB.mod {S : Nat → Prop} (h : OutB w g us W) (hm : Mod S w w') (hg : ¬ S g) : OutB w' g us W := Blk.mod h hm hg
theorem OutB.snoc {k : Nat} (h : OutB w g us W) (hk : k = us.length) (hl : us.length < W) (v : Value) : OutB (w.setCell ⟨g, k, none⟩ v) g (us ++ [v]) W := by
 subst hk
 have h1 := Blk.set h us.length v
 unfold OutB
 rw [show W - us.length = (W - (us ++ [v]).length) + 1 by simp; omega, List.replicate_succ] at h1
 have e : (us ++ Value.slice none 0 0 :: List.replicate (W - (us ++ [v]).length) (Value.slice none 0 0)).toArray.setIfInBounds us.length v = (us ++ [v] ++ List.replicate (W - (us ++ [v]).length) (Value.slice none 0 0)).toArray := by
  rw [List.setIfInBounds_toArray, List.set_append_right _ _ (Nat.le_refl _), Nat.sub_self, List.set_cons_zero, List.append_assoc]
  rfl
 rw [e] at h1
 exact h1
theorem OutB.cellk {k : Nat} (h : OutB w g us W) (hk : k = us.length) (hl : us.length < W) : w.cell? ⟨g, k, none⟩ = some (.slice none 0 0) ∧ w.frozen? ⟨g, k, none⟩ = false := by
 subst hk
 refine ⟨?_, Blk.frozen h _⟩
 rw [Blk.cell h, List.getElem?_toArray, List.getElem?_append_right (Nat.le_refl _), Nat.sub_self, List.getElem?_replicate, if_pos (by omega)]
theorem OutB.skip (h : OutB w g us W) (hl : us.length < W) : OutB w g (us ++ [Value.slice none 0 0]) W := by
 unfold OutB at *
 rw [show W - us.length = (W - (us ++ [Value.slice none 0 0]).length) + 1 by simp; omega, List.replicate_succ] at h
 rw [List.append_assoc]
 exact h
theorem OutB.new (w : World) (W : Nat) : OutB (w.alloc (.cells (List.replicate W (Value.slice none 0 0)).toArray 22)) w.heap.size [] W := by
 unfold OutB
 simpa using Blk.new w 22 (List.replicate W (Value.slice none 0 0)).toArray
/-- Rows that are whole, as a slice. -/
theorem OutB.sl (h : OutB w g us W) (hr : RowsU w us rs) (hW : rs.length = W) (hb : W ≤ 1000000) : SlI w (.slice (some ⟨g, 0, none⟩) W W) rs := by
 have hl := hr.1
 unfold OutB at h
 rw [show W - us.length = 0 by omega, List.replicate_zero, List.append_nil] at h
 exact ⟨us, ⟨_, _, _, rfl, Nat.le_refl _, by omega, by omega, fun _ => ⟨g, 0, rfl, h.row0⟩⟩, hl, hr.2⟩
theorem SlI.two {g : Nat} {u v : Value} {a b : List Nat} (h : Blk w g 22 #[u, v]) (hu : Sl w 3 1 u (nvQ a) ∧ NilOkI u) (hv : Sl w 3 1 v (nvQ b) ∧ NilOkI v) : SlI w (.slice (some ⟨g, 0, none⟩) 2 2) [a, b] := by
 refine ⟨[u, v], ⟨_, _, _, rfl, Nat.le_refl _, by omega, rfl, fun _ => ⟨g, 0, rfl, Blk.row0 h⟩⟩, rfl, fun i hi => ?_⟩
 match i, hi with
 | 0, _ => exact ⟨u, rfl, hu.1, hu.2⟩
 | 1, _ => exact ⟨v, rfl, hv.1, hv.2⟩
theorem own_NilOk {base n : Nat} {v : Value} {xs : List Value} (h : w.ownsRow base 3 1 v n xs) : NilOkI v := by
 intro m c hv
 rcases h.2 with ⟨h1, h2⟩ | ⟨g, cap, cur, h1, _⟩
 ·rw [h1] at hv; cases hv; exact ⟨rfl, rfl⟩
 ·rw [h1] at hv; cases hv

end Go.Proofs.YtnfflgicngeekaaGreatDoor
