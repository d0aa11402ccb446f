/- Texts of the proof of LayoutTexts, put together: RfA. -/
import Derived.Test.YtaidkmnbjbnciaaGreatDoorLayoutTextsZ32
import Derived.Test.YtaidkmnbjbnciaaGreatDoorLayoutTextsZ34
import Derived.Test.YtaidkmnbjbnciaaGreatDoorLayoutTextsZ36
/- The closure of LayoutRead of the reference, for any line. -/
namespace Go.Proofs.YtaidkmnbjbnciaaGreatDoor
set_option linter.unusedVariables false
set_option linter.unusedSimpArgs false
open Go.RowKit

/-- A layout under way in block gl: u and v stand in its fields, va and vr are its rows. -/
def RdJ (W : World) (base gl : Nat) (u v va vr : Value) (al : List AskR) (rs : List RulR) : Prop :=
 Blk W gl 29 #[u, v] ∧ W.ownsRow base 99 4 va al.length (askV al) ∧ W.ownsRow base 103 5 vr rs.length (rulV rs) ∧ AskS W al
section
variable {W W' : World} {base gl n5 : Nat} {u v va vr v5 : Value} {al al5 : List AskR} {rs rs5 : List RulR}
theorem RdJ.pure (h : RdJ W base gl u v va vr al rs) (hm : Pure W W') : RdJ W' base gl u v va vr al rs := ⟨h.1.modp hm, own_pure h.2.1 hm, own_pure h.2.2.1 hm, h.2.2.2.pure hm⟩
theorem RdJ.rewA (h : RdJ W base gl u v va vr al rs) (hg : W.grownBy W' va.ownBlock) (ho5 : W'.ownsRow base 99 4 v5 n5 (askV al5)) (hn : n5 = al5.length) (hs : AskS W al5) : RdJ W' base gl u v v5 vr al5 rs := by
 subst hn
 exact ⟨h.1.mod (mod_grown hg) (fun hv => by have h2 := h.1; unfold Blk at h2; exact absurd (own_ty h.2.1 hv h2) (by decide)), ho5, own_grown h.2.2.1 h.2.1 (by decide) hg, hs.grown h.2.1 (by decide) hg⟩
theorem RdJ.rewR (h : RdJ W base gl u v va vr al rs) (hg : W.grownBy W' vr.ownBlock) (ho5 : W'.ownsRow base 103 5 v5 n5 (rulV rs5)) (hn : n5 = rs5.length) : RdJ W' base gl u v va v5 al rs5 := by
 subst hn
 exact ⟨h.1.mod (mod_grown hg) (fun hv => by have h2 := h.1; unfold Blk at h2; exact absurd (own_ty h.2.2.1 hv h2) (by decide)), own_grown h.2.1 h.2.2.1 (by decide) hg, ho5, h.2.2.2.grown h.2.2.1 (by decide) hg⟩
theorem RdJ.sto {i : Nat} {x : Value} (h : RdJ W base gl u v va vr al rs) : Mod (· = gl) W (W.setCell ⟨gl, i, none⟩ x) := (Mod.refl (· = gl) W).setCell (.inl rfl) _
theorem RdJ.other (h : RdJ W base gl u v va vr al rs) (hm : Mod (· = gl) W W') {c : Array Value} (hB : Blk W' gl 29 c) {u' v' : Value} (hc : c = #[u', v']) : RdJ W' base gl u' v' va vr al rs := by
 subst hc
 exact ⟨hB, own_mod h.2.1 hm (fun i hi he => by subst he; exact absurd (own_ty h.2.1 hi h.1) (by decide)), own_mod h.2.2.1 hm (fun i hi he => by subst he; exact absurd (own_ty h.2.2.1 hi h.1) (by decide)), fun x hx => (h.2.2.2 x hx).mod hm (fun k arr fr hk => blk_tyR h.1 hk (by decide))⟩
theorem RdJ.storeA (h : RdJ W base gl u v va vr al rs) : RdJ (W.setCell ⟨gl, 0, none⟩ va) base gl va v va vr al rs := h.other h.sto (h.1.set 0 va) (by simp)
theorem RdJ.storeR (h : RdJ W base gl u v va vr al rs) : RdJ (W.setCell ⟨gl, 1, none⟩ vr) base gl u vr va vr al rs := h.other h.sto (h.1.set 1 vr) (by simp)
end
/-- A field more. -/
def RdX (W : World) (base gl : Nat) (v vr : Value) (al : List AskR) (rs : List RulR) : Prop := ∃ (g5 c5 : Nat), RdJ W base gl (.slice (some ⟨g5, 0, none⟩) al.length c5) v (.slice (some ⟨g5, 0, none⟩) al.length c5) vr al rs
theorem RdX.pure {W W' : World} {base gl : Nat} {v vr : Value} {al : List AskR} {rs : List RulR} (h : RdX W base gl v vr al rs) (hm : Pure W W') : RdX W' base gl v vr al rs := by
 obtain ⟨g5, c5, h⟩ := h
 exact ⟨g5, c5, h.pure hm⟩
theorem RdX.of {W : World} {base gl g5 c5 n5 : Nat} {v vr : Value} {al : List AskR} {rs : List RulR} (h : RdJ W base gl (.slice (some ⟨g5, 0, none⟩) n5 c5) v (.slice (some ⟨g5, 0, none⟩) n5 c5) vr al rs) (hn : n5 = al.length) : RdX W base gl v vr al rs := by
 subst hn
 exact ⟨g5, c5, h⟩
theorem spw_calls (w : World) : Calls Tryz.prog 66 #[] w (SlPost w 3 sp3) := by
 go_enter Tryz.func66, Tryz.ntmps66
 go_wp2_with fail
 go_ret
 exact ⟨_, _, rfl, (blkSl3 (ss := sp3) (Blk.new w 9 _)).pure (Mod.refl _ _), (Mod.refl _ _).alloc _⟩
def kdI (s : Str) : Int := if s = wOne then 0 else if s = wMany then 1 else -1
theorem kdI_idx (s : Str) : idxQ (fun x => s == x) [wOne, wMany] 0 = kdI s := by
 unfold kdI
 by_cases h0 : s = wOne
 ·subst h0; decide
 by_cases h1 : s = wMany
 ·subst h1; decide
 have e0 : (s == wOne) = false := by simpa using h0
 have e1 : (s == wMany) = false := by simpa using h1
 simp [idxQ, e0, e1, h0, h1]
def rkI (s : Str) : Int := if s = wNeeds then 0 else if s = wBars then 1 else -1
theorem rkI_idx (s : Str) : idxQ (fun x => s == x) [wNeeds, wBars] 0 = rkI s := by
 unfold rkI
 by_cases h0 : s = wNeeds
 ·subst h0; decide
 by_cases h1 : s = wBars
 ·subst h1; decide
 have e0 : (s == wNeeds) = false := by simpa using h0
 have e1 : (s == wBars) = false := by simpa using h1
 simp [idxQ, e0, e1, h0, h1]
theorem rinI_calls (w : World) (n lo hi : Int) : Calls Tryz.prog 63 #[.int .i64 n, .int .i64 lo, .int .i64 hi] w (BoolPost w (decide (lo ≤ n) && decide (n ≤ hi))) := by
 go_enter Tryz.func63, Tryz.ntmps63
 by_cases h : lo ≤ n
 ·go_wp2_with fail
  go_ret
  exact BoolPost.of (by simp [h]) (Mod.refl _ _)
 ·go_wp2_with fail
  go_ret
  exact BoolPost.of (by rw [decide_eq_false (show ¬ lo ≤ n by omega)]; rfl) (Mod.refl _ _)
/-- The line is one of a field, of a rule. -/
def isA (ws : List Str) (rs : List RulR) : Bool := decide (ws.getD 0 [] = wAsk) && (decide (4 ≤ ws.length) && decide (rs.length = 0))
def isR (ws : List Str) : Bool := decide (ws.getD 0 [] = wRule) && (decide (5 ≤ ws.length) && decide (ws.length ≤ 6))

set_option maxRecDepth 100000 in
set_option maxHeartbeats 16000000 in
theorem rf1_calls (w : World) (base gl k : Nat) (S : RdS) (l : Str) (hk : k ≤ 100000) (hl : l.length ≤ 100000) (hM : MlnS w) (hI : RdI base gl k S w) :
  Calls Tryz.prog 74 #[.string ⟨l.toArray⟩, .pointer (some ⟨gl, 0, none⟩)] w (TkPost base (RdI base gl (k + 1)) (refLn S l) w) := by
 have HSP := Lib.hid (split_calls w l [32] hM (by omega) (by decide))
 obtain ⟨qs, rs⟩ := S
 obtain ⟨A0, c0, A2, c2, al, h1, h2, h3, h4, h5, h6, h7⟩ := hI
 simp only at h1 h2 h3 h5 h6
 have hJ : RdJ w base gl (.slice A0 al.length c0) (.slice A2 rs.length c2) (.slice A0 al.length c0) (.slice A2 rs.length c2) al rs := ⟨h1, h2, h3, h4⟩
 have HQ := Lib.hid h5
 have hglw := h1.lt
 have hwc : (Lib.split l [32]).length ≤ l.length + 1 := by rw [split_byte]; exact spl_count 32 _
 have hw1 : 1 ≤ (Lib.split l [32]).length := by
  rw [split_byte]
  have := spl_ne 32 l
  cases h : spl 32 l with
  | nil => exact absurd h this
  | cons a t => simp
 have HRF : Hid (refLn ⟨qs, rs⟩ l = if [] ∈ Lib.split l [32] then none else if isA (Lib.split l [32]) rs = true then
   (if ((Lib.split l [32]).getD 2 [] = wOne ∨ (Lib.split l [32]).getD 2 [] = wMany) ∧ 0 ≤ sprdIx ((Lib.split l [32]).getD 3 []) then some ⟨qs ++ [((Lib.split l [32]).getD 1 [], (Lib.split l [32]).drop 4, decide ((Lib.split l [32]).getD 2 [] = wMany), sprdIx ((Lib.split l [32]).getD 3 []))], rs⟩ else none)
  else if isR (Lib.split l [32]) = true then
   (if (Lib.split l [32]).getD 1 [] = wNeeds ∨ (Lib.split l [32]).getD 1 [] = wBars then some ⟨qs, rs ++ [⟨if (Lib.split l [32]).getD 1 [] = wBars then 2 else 1, (Lib.split l [32]).getD 2 [], (Lib.split l [32]).getD 3 [], (Lib.split l [32]).getD 4 [], (Lib.split l [32]).getD 5 []⟩]⟩ else none)
  else none) := Lib.hid (by
   unfold refLn wordsL
   generalize Lib.split l [32] = ws
   have e1 : (ws.getD 0 [] = wAsk ∧ 4 ≤ ws.length ∧ rs = []) ↔ isA ws rs = true := by unfold isA; simp
   have e2 : (ws.getD 0 [] = wRule ∧ (ws.length = 5 ∨ ws.length = 6)) ↔ isR ws = true := by
    unfold isR
    simp only [Bool.and_eq_true, decide_eq_true_eq]
    constructor
    ·rintro ⟨a, b⟩; exact ⟨a, by omega⟩
    ·rintro ⟨a, b⟩; exact ⟨a, by omega⟩
   simp only [e1, e2])
 clear hM h1 h2 h3 h4 h5
 generalize refLn ⟨qs, rs⟩ l = o at *
 generalize Lib.split l [32] = ws at *
 have hwl : ws.length ≤ 100001 := by omega
 clear hwc hl
 go_enter Tryz.func74, Tryz.ntmps74
 go_wp2_with fail
 refine HSP.out.mono ?_
 rintro e w2 ⟨rfl, rfl⟩
 have HB2 := Lib.hid (Blk.new w 9 (strsV ws).toArray)
 have hpa : Pure w (w.alloc (.cells (strsV ws).toArray 9)) := (Mod.refl _ _).alloc _
 have HJ2 := Lib.hid (hJ.pure hpa)
 have HM2 := Lib.hid hpa
 clear hpa HSP hJ
 generalize (w.alloc (.cells (strsV ws).toArray 9)) = w3 at *
 generalize hgW : w.heap.size = g at *
 have hgw := Nat.le_of_eq hgW
 have hgw2 := Nat.le_of_eq hgW.symm
 clear hgW
 have HCN := Lib.hid (containsQs_calls w3 (.slice (some ⟨g, 0, none⟩) ws.length ws.length) ws [] ⟨_, _, _, rfl, Nat.le_refl _, by omega, by simp [strsV], fun _ => ⟨g, 0, rfl, HB2.out.row0⟩⟩)
 rw [any_memT] at HCN
 by_cases hin : [] ∈ ws
 ·have h1 : decide (([] : Str) ∈ ws) = true := decide_eq_true hin
  rw [h1] at HCN
  have HF1 : Hid (o = none) := Lib.hid (by rw [HRF.out, if_pos hin])
  clear h1 hin HRF
  go_wp2_with fail
  refine HCN.out.mono ?_
  rintro e w4 ⟨rfl, hm⟩
  have HM4 : Hid (Pure w w4) := Lib.hid (HM2.out.trans hm)
  clear HCN hm
  go_wp2_with fail
  go_ret
  rw [HF1.out]
  exact ⟨rfl, KeepS.of_pure HM4.out, fun S' h => by cases h⟩
 ·have h1 : decide (([] : Str) ∈ ws) = false := decide_eq_false hin
  rw [h1] at HCN
  rw [if_neg hin] at HRF
  clear h1 hin
  go_wp2_with fail
  refine HCN.out.mono ?_
  rintro e w4 ⟨rfl, hm⟩
  have HM4 := Lib.hid (HM2.out.trans hm)
  have HJ4 := Lib.hid (HJ2.out.pure hm)
  have HB4 := Lib.hid (HB2.out.modp hm)
  clear HCN hm HJ2 HB2 HM2
  generalize hn : ws.length = n at *
  obtain ⟨a0, t0, rfl⟩ : ∃ a0 t0, ws = a0 :: t0 := by
   cases ws with
   | nil => simp at hn; omega
   | cons a t => exact ⟨a, t, rfl⟩
  have HN := Lib.hid hn
  clear hn
  obtain ⟨n2, hn2⟩ : ∃ n2, rs.length = n2 := ⟨_, rfl⟩
  have HN2 := Lib.hid hn2
  have i0 : (0 : Int) < (n : Int) := by omega
  have j0 : 0 < n := by omega
  go_upto_region 4 with (fail)
  have hJB := HJ4.out.1
  rw [hn2] at hJB
  have d0 := HB4.out.cell 0
  simp [strsV] at d0
  have x0 := hJB.cell 0; have x1 := hJB.cell 1; simp at x0 x1
  clear hJB hn2
  go_cut [13] (fun p wx => p = .bool (isA (a0 :: t0) rs) ∧ wx = w4)
  case first =>
   have HBE : Hid (isA (a0 :: t0) rs = (decide (a0 = wAsk) && (decide (4 ≤ n) && decide (n2 = 0)))) := Lib.hid (by unfold isA; rw [HN.out, HN2.out]; rfl)
   generalize isA (a0 :: t0) rs = bb at *
   by_cases e0 : a0 = wAsk
   ·subst e0
    by_cases e1 : 4 ≤ n
    ·have e1i : (4 : Int) ≤ (n : Int) := by omega
     by_cases e2 : n2 = 0
     ·subst e2
      have HB : Hid (bb = true) := Lib.hid (by rw [HBE.out]; simp [e1])
      unfold wAsk at *
      clear HRF HBE
      go_wp2_with fail
      go_meet
      exact ⟨by rw [HB.out], rfl⟩
     ·have f2 : ((n2 : Int) == 0) = false := by rw [← Bool.not_eq_true, beq_iff_eq]; omega
      have HB : Hid (bb = false) := Lib.hid (by rw [HBE.out]; simp [e2])
      unfold wAsk at *
      clear HRF HBE
      go_wp2_with fail
      go_meet
      exact ⟨by rw [HB.out], rfl⟩
    ·have e1i : ¬ (4 : Int) ≤ (n : Int) := by omega
     have HB : Hid (bb = false) := Lib.hid (by rw [HBE.out]; simp [e1])
     unfold wAsk at *
     clear HRF HBE e1
     go_wp2_with fail
     go_meet
     exact ⟨by rw [HB.out], rfl⟩
   ·have f0 : (a0 == [97, 115, 107]) = false := by simpa [wAsk] using e0
    have f0' : (a0 != [97, 115, 107]) = true := by simpa [wAsk] using e0
    have HB : Hid (bb = false) := Lib.hid (by rw [HBE.out]; simp [e0])
    clear e0 HRF HBE
    go_wp2_with fail
    go_meet
    exact ⟨by rw [HB.out], rfl⟩
  case rest =>
   obtain ⟨rfl, hwc⟩ := hcut
   replace hwc := hwc.symm
   subst hwc
   cases hba : isA (a0 :: t0) rs
   ·rw [hba] at HRF
    have HO : Hid (o = if isR (a0 :: t0) = true then (if (a0 :: t0).getD 1 [] = wNeeds ∨ (a0 :: t0).getD 1 [] = wBars then some ⟨qs, rs ++ [⟨if (a0 :: t0).getD 1 [] = wBars then 2 else 1, (a0 :: t0).getD 2 [], (a0 :: t0).getD 3 [], (a0 :: t0).getD 4 [], (a0 :: t0).getD 5 []⟩]⟩ else none) else none) := Lib.hid (by
     have h := HRF.out
     rw [if_neg (by decide)] at h
     exact h)
    clear HRF hba
    have HIN := Lib.hid (fun W => rinI_calls W (n : Int) 5 6)
    go_upto_region 8 with (fail)
    go_cut [59] (fun p wx => p = .bool (isR (a0 :: t0)) ∧ Pure w4 wx)
    case first =>
     have HBE : Hid (isR (a0 :: t0) = (decide (a0 = wRule) && (decide (5 ≤ n) && decide (n ≤ 6)))) := Lib.hid (by unfold isR; rw [HN.out]; rfl)
     generalize isR (a0 :: t0) = bb at *
     by_cases e0 : a0 = wRule
     ·subst e0
      have HB : Hid ((decide ((5 : Int) ≤ (n : Int)) && decide ((n : Int) ≤ 6)) = bb) := Lib.hid (by
       rw [HBE.out, Bool.eq_iff_iff]
       simp
       omega)
      have HIN2 := Lib.hid (HIN.out w4)
      rw [HB.out] at HIN2
      unfold wRule at *
      clear HBE HO HIN HB
      go_wp2_with fail
      refine HIN2.out.mono ?_
      rintro e w5 ⟨rfl, hm⟩
      go_wp2_with fail
      go_meet
      exact ⟨rfl, hm⟩
     ·have f0 : (a0 == [114, 117, 108, 101]) = false := by simpa [wRule] using e0
      have f0' : (a0 != [114, 117, 108, 101]) = true := by simpa [wRule] using e0
      have HB : Hid (bb = false) := Lib.hid (by rw [HBE.out]; simp [e0])
      clear e0 HBE HO
      go_wp2_with fail
      go_meet
      exact ⟨by rw [HB.out], Mod.refl _ _⟩
    case rest =>
     obtain ⟨rfl, hm⟩ := hcut
     obtain ⟨w5, hw5⟩ : ∃ W, W = wc := ⟨wc, rfl⟩
     subst hw5
     replace HJ4 := Lib.hid (HJ4.out.pure hm)
     replace HB4 := Lib.hid (HB4.out.modp hm)
     replace HM4 := Lib.hid (HM4.out.trans hm)
     clear hm HIN d0 x0 x1
     cases hbr : isR (a0 :: t0)
     ·rw [hbr] at HO
      have HF1 : Hid (o = none) := Lib.hid (by rw [HO.out, if_neg (by decide)])
      clear HO hbr
      go_wp2_with fail
      go_ret
      rw [HF1.out]
      exact ⟨rfl, KeepS.of_pure HM4.out, fun S' h => by cases h⟩
     ·rw [hbr, if_pos rfl] at HO
      obtain ⟨a1, a2, a3, a4, t, rfl⟩ : ∃ a1 a2 a3 a4 t, t0 = a1 :: a2 :: a3 :: a4 :: t := by
       have hl := HN.out
       have h4 : 5 ≤ n := by unfold isR at hbr; simp [HN.out] at hbr; rw [HN.out] at hl; simp at hl; omega
       match t0, hl with
       | a1 :: a2 :: a3 :: a4 :: t, _ => exact ⟨a1, a2, a3, a4, t, rfl⟩
       | [], h => simp at h; omega
       | [_], h => simp at h; omega
       | [_, _], h => simp at h; omega
       | [_, _, _], h => simp at h; omega
      have hn6 : n ≤ 6 := by unfold isR at hbr; rw [HN.out] at hbr; simp at hbr; omega
      obtain ⟨th, hth⟩ : ∃ th, t.getD 0 [] = th := ⟨_, rfl⟩
      have HTH := Lib.hid hth
      obtain ⟨rk, hrk⟩ : ∃ rk, rkI a1 = rk := ⟨_, rfl⟩
      have HOK : Hid ((0 < 1 + rk → o = some ⟨qs, rs ++ [⟨1 + rk, a2, a3, a4, th⟩]⟩) ∧ (¬ 0 < 1 + rk → o = none)) := Lib.hid (by
       have h9 : o = if a1 = wNeeds ∨ a1 = wBars then some ⟨qs, rs ++ [⟨if a1 = wBars then 2 else 1, a2, a3, a4, t.getD 0 []⟩]⟩ else none := by
        rw [HO.out]
        cases t <;> rfl
       rw [hth] at h9
       rw [h9, ← hrk]
       unfold rkI
       by_cases h0 : a1 = wNeeds
       ·subst h0; exact ⟨fun _ => rfl, fun h => absurd (by decide) h⟩
       by_cases h1 : a1 = wBars
       ·subst h1; exact ⟨fun _ => rfl, fun h => absurd (by decide) h⟩
       rw [if_neg h0, if_neg h1, if_neg (fun h => h.elim h0 h1)]
       exact ⟨fun h => absurd h (by decide), fun _ => rfl⟩)
      have hr1 : -1 ≤ rk ∧ rk ≤ 1 := by
       rw [← hrk]; unfold rkI
       split
       ·decide
       ·split <;> decide
      obtain ⟨hr1, hr2⟩ := hr1
      have HIX : Hid (∀ W g0, Blk W g0 9 #[.string ⟨#[110, 101, 101, 100, 115]⟩, .string ⟨#[98, 97, 114, 115]⟩] → Calls Tryz.prog 76 #[.slice (some ⟨g0, 0, none⟩) 2 2, .string ⟨a1.toArray⟩] W (IntPost W rk)) := Lib.hid (fun W g0 h => by
       have := indexQs_calls W _ [wNeeds, wBars] a1 (blkSl3 h)
       rwa [rkI_idx, hrk] at this)
      have HNT : Hid (n = t.length + 5) := Lib.hid (by rw [← HN.out]; rfl)
      have hnt1 := Nat.le_of_eq HNT.out
      have hnt2 := Nat.le_of_eq HNT.out.symm
      have i1 : (1 : Int) < (n : Int) := by omega
      have i2 : (2 : Int) < (n : Int) := by omega
      have i3 : (3 : Int) < (n : Int) := by omega
      have i4 : (4 : Int) < (n : Int) := by omega
      have j1 : 1 < n := by omega
      have j2 : 2 < n := by omega
      have j3 : 3 < n := by omega
      have j4 : 4 < n := by omega
      clear hth hrk HO hbr
      have HBA := Lib.hid (HB4.out.alloc (.cells #[.string ⟨#[110, 101, 101, 100, 115]⟩, .string ⟨#[98, 97, 114, 115]⟩] 9))
      have HBN := Lib.hid (Blk.new w5 9 #[.string ⟨#[110, 101, 101, 100, 115]⟩, .string ⟨#[98, 97, 114, 115]⟩])
      have hpn := pure_alloc w5 (.cells #[.string ⟨#[110, 101, 101, 100, 115]⟩, .string ⟨#[98, 97, 114, 115]⟩] 9)
      have HPN := Lib.hid hpn
      have d1 := HBA.out.cell 1
      simp [strsV] at d1
      clear hpn
      go_wp2_with fail
      refine (HIX.out _ _ HBN.out).mono ?_
      rintro e w6 ⟨rfl, hm⟩
      replace HB4 := Lib.hid (HBA.out.modp hm)
      replace HJ4 := Lib.hid ((HJ4.out.pure HPN.out).pure hm)
      replace HM4 := Lib.hid ((HM4.out.trans HPN.out).trans hm)
      have hg4 := HB4.out.lt
      clear hm HIX HBA HBN HPN d1
      go_upto_region 10 with (fail)
      obtain ⟨kd, hkd⟩ : ∃ kd, 1 + rk = kd := ⟨_, rfl⟩
      rw [hkd] at HOK ⊢
      clear hkd hr1 hr2
      have HGs := Lib.hid (show ∀ (D : Nat → Bool) (zzi : Nat) (zq zq' : World), (fun _ zq => (fun Z => Blk Z g 9 (strsV (a0 :: a1 :: a2 :: a3 :: a4 :: t)).toArray) zq) D zq → Mod (fun _ => False) zq zq' → (fun _ zq => (fun Z => Blk Z g 9 (strsV (a0 :: a1 :: a2 :: a3 :: a4 :: t)).toArray) zq) (upd D zzi true) zq' from by intro D zzi zq zq' h hm; (exact h.modp hm))
      refine wp_region_inv (by kernel_rfl) (by kernel_rfl) (InvF (R := Mod (fun _ => False)) [.is (.int .i64 kd),
        .is (.slice (some ⟨g, 0, none⟩) n n),
        .is (.pointer (some ⟨g, 2, none⟩)),
        .is (.string ⟨a2.toArray⟩),
        .is (.slice (some ⟨g, 0, none⟩) n n),
        .is (.pointer (some ⟨g, 3, none⟩)),
        .is (.string ⟨a3.toArray⟩),
        .is (.slice (some ⟨g, 0, none⟩) n n),
        .is (.pointer (some ⟨g, 4, none⟩)),
        .is (.string ⟨a4.toArray⟩),
        .is (.agg #[.int .i64 kd, .string ⟨a2.toArray⟩, .string ⟨a3.toArray⟩, .string ⟨a4.toArray⟩, .string ⟨#[]⟩]),
        ⟨fun zv zw => ∃ (g_11 : Nat), zv = .pointer (some ⟨g_11, 0, none⟩) ∧ w6.heap.size ≤ g_11 ∧ Blk zw g_11 103 #[.int .i64 0, .string ⟨#[]⟩, .string ⟨#[]⟩, .string ⟨#[]⟩, .string ⟨#[]⟩], (by rintro zv zw zx ⟨g_11, rfl, c0, q0⟩ hm; exact ⟨g_11, rfl, c0, (q0.modp hm)⟩), none, some 12⟩,
        ⟨fun zv zw => ∃ (g_12 : Nat), zv = .pointer (some ⟨g_12, 0, none⟩) ∧ w6.heap.size ≤ g_12 ∧ Blk zw g_12 103 #[.int .i64 kd, .string ⟨a2.toArray⟩, .string ⟨a3.toArray⟩, .string ⟨a4.toArray⟩, .string ⟨#[]⟩], (by rintro zv zw zx ⟨g_12, rfl, c0, q0⟩ hm; exact ⟨g_12, rfl, c0, (q0.modp hm)⟩), some 11, none⟩]
        (PB w6 (fun _ => False) w6.heap.size (fun _ zq => (fun Z => Blk Z g 9 (strsV (a0 :: a1 :: a2 :: a3 :: a4 :: t)).toArray) zq))) (InvF.start (PB.start (Mod.refl _ _) (Nat.le_refl _) (HB4.out.drew))) ?_ ?_
      ·refine .cons ?_ (.cons ?_ (.cons ?_ (.cons ?_ (.cons ?_ (.cons ?_ (.cons ?_ (.cons ?_ (.cons ?_ (.cons ?_ (.cons ?_ (.cons ?_ (.cons ?_ .nil))))))))))))
       ·intro D V zw1 a hR hI K hK
        obtain ⟨hM1, hB1, hG1⟩ := hI.1
        have ze7 := hR.frame.other (t := 7) (by kernel_rfl) rfl
        rw [if_pos (by rfl)]
        go_simp
        exact hK (.int .i64 kd) _ (hI.next hR (by kernel_rfl) (Mod.refl _ _) (PB.quiet hI.1 (Mod.refl _ _) (HGs.out D 0 zw1 zw1 (hI.1).g (Mod.refl _ _))) (upd_same V 0 _))
       ·intro D V zw1 a hR hI K hK
        obtain ⟨hM1, hB1, hG1⟩ := hI.1
        have ze4 := hR.frame.other (t := 4) (by kernel_rfl) rfl
        rw [if_pos (by rfl)]
        go_simp
        exact hK (.slice (some ⟨g, 0, none⟩) n n) _ (hI.next hR (by kernel_rfl) (Mod.refl _ _) (PB.quiet hI.1 (Mod.refl _ _) (HGs.out D 1 zw1 zw1 (hI.1).g (Mod.refl _ _))) (upd_same V 1 _))
       ·intro D V zw1 a hR hI K hK
        obtain ⟨hM1, hB1, hG1⟩ := hI.1
        have zd1 := hR.pred 1 (by kernel_rfl)
        have zF1 : V 1 = .slice (some ⟨g, 0, none⟩) n n := hI.2 1 zd1 rfl
        have zf1 := zF1; clear zF1
        have ze76 := hR.frame.done (t := 76) (j := 1) (by kernel_rfl) hR.ok zd1
        rw [if_pos (by rfl)]
        go_simp
        exact hK (.pointer (some ⟨g, 2, none⟩)) _ (hI.next hR (by kernel_rfl) (Mod.refl _ _) (PB.quiet hI.1 (Mod.refl _ _) (HGs.out D 2 zw1 zw1 (hI.1).g (Mod.refl _ _))) (upd_same V 2 _))
       ·intro D V zw1 a hR hI K hK
        obtain ⟨hM1, hB1, hG1⟩ := hI.1
        have zd2 := hR.pred 2 (by kernel_rfl)
        have zF2 : V 2 = .pointer (some ⟨g, 2, none⟩) := hI.2 2 zd2 rfl
        have zf2 := zF2; clear zF2
        have ze77 := hR.frame.done (t := 77) (j := 2) (by kernel_rfl) hR.ok zd2
        have zx0 := hG1.cell 2; simp [strsV] at zx0
        rw [if_pos (by rfl)]
        go_simp
        exact hK (.string ⟨a2.toArray⟩) _ (hI.next hR (by kernel_rfl) (Mod.refl _ _) (PB.quiet hI.1 (Mod.refl _ _) (HGs.out D 3 zw1 zw1 (hI.1).g (Mod.refl _ _))) (upd_same V 3 _))
       ·intro D V zw1 a hR hI K hK
        obtain ⟨hM1, hB1, hG1⟩ := hI.1
        have ze4 := hR.frame.other (t := 4) (by kernel_rfl) rfl
        rw [if_pos (by rfl)]
        go_simp
        exact hK (.slice (some ⟨g, 0, none⟩) n n) _ (hI.next hR (by kernel_rfl) (Mod.refl _ _) (PB.quiet hI.1 (Mod.refl _ _) (HGs.out D 4 zw1 zw1 (hI.1).g (Mod.refl _ _))) (upd_same V 4 _))
       ·intro D V zw1 a hR hI K hK
        obtain ⟨hM1, hB1, hG1⟩ := hI.1
        have zd4 := hR.pred 4 (by kernel_rfl)
        have zF4 : V 4 = .slice (some ⟨g, 0, none⟩) n n := hI.2 4 zd4 rfl
        have zf4 := zF4; clear zF4
        have ze79 := hR.frame.done (t := 79) (j := 4) (by kernel_rfl) hR.ok zd4
        rw [if_pos (by rfl)]
        go_simp
        exact hK (.pointer (some ⟨g, 3, none⟩)) _ (hI.next hR (by kernel_rfl) (Mod.refl _ _) (PB.quiet hI.1 (Mod.refl _ _) (HGs.out D 5 zw1 zw1 (hI.1).g (Mod.refl _ _))) (upd_same V 5 _))
       ·intro D V zw1 a hR hI K hK
        obtain ⟨hM1, hB1, hG1⟩ := hI.1
        have zd5 := hR.pred 5 (by kernel_rfl)
        have zF5 : V 5 = .pointer (some ⟨g, 3, none⟩) := hI.2 5 zd5 rfl
        have zf5 := zF5; clear zF5
        have ze80 := hR.frame.done (t := 80) (j := 5) (by kernel_rfl) hR.ok zd5
        have zx0 := hG1.cell 3; simp [strsV] at zx0
        rw [if_pos (by rfl)]
        go_simp
        exact hK (.string ⟨a3.toArray⟩) _ (hI.next hR (by kernel_rfl) (Mod.refl _ _) (PB.quiet hI.1 (Mod.refl _ _) (HGs.out D 6 zw1 zw1 (hI.1).g (Mod.refl _ _))) (upd_same V 6 _))
       ·intro D V zw1 a hR hI K hK
        obtain ⟨hM1, hB1, hG1⟩ := hI.1
        have ze4 := hR.frame.other (t := 4) (by kernel_rfl) rfl
        rw [if_pos (by rfl)]
        go_simp
        exact hK (.slice (some ⟨g, 0, none⟩) n n) _ (hI.next hR (by kernel_rfl) (Mod.refl _ _) (PB.quiet hI.1 (Mod.refl _ _) (HGs.out D 7 zw1 zw1 (hI.1).g (Mod.refl _ _))) (upd_same V 7 _))
       ·intro D V zw1 a hR hI K hK
        obtain ⟨hM1, hB1, hG1⟩ := hI.1
        have zd7 := hR.pred 7 (by kernel_rfl)
        have zF7 : V 7 = .slice (some ⟨g, 0, none⟩) n n := hI.2 7 zd7 rfl
        have zf7 := zF7; clear zF7
        have ze82 := hR.frame.done (t := 82) (j := 7) (by kernel_rfl) hR.ok zd7
        rw [if_pos (by rfl)]
        go_simp
        exact hK (.pointer (some ⟨g, 4, none⟩)) _ (hI.next hR (by kernel_rfl) (Mod.refl _ _) (PB.quiet hI.1 (Mod.refl _ _) (HGs.out D 8 zw1 zw1 (hI.1).g (Mod.refl _ _))) (upd_same V 8 _))
       ·intro D V zw1 a hR hI K hK
        obtain ⟨hM1, hB1, hG1⟩ := hI.1
        have zd8 := hR.pred 8 (by kernel_rfl)
        have zF8 : V 8 = .pointer (some ⟨g, 4, none⟩) := hI.2 8 zd8 rfl
        have zf8 := zF8; clear zF8
        have ze83 := hR.frame.done (t := 83) (j := 8) (by kernel_rfl) hR.ok zd8
        have zx0 := hG1.cell 4; simp [strsV] at zx0
        rw [if_pos (by rfl)]
        go_simp
        exact hK (.string ⟨a4.toArray⟩) _ (hI.next hR (by kernel_rfl) (Mod.refl _ _) (PB.quiet hI.1 (Mod.refl _ _) (HGs.out D 9 zw1 zw1 (hI.1).g (Mod.refl _ _))) (upd_same V 9 _))
       ·intro D V zw1 a hR hI K hK
        obtain ⟨hM1, hB1, hG1⟩ := hI.1
        have zd0 := hR.pred 0 (by kernel_rfl)
        have zF0 : V 0 = .int .i64 kd := hI.2 0 zd0 rfl
        have zf0 := zF0; clear zF0
        have zd3 := hR.pred 3 (by kernel_rfl)
        have zF3 : V 3 = .string ⟨a2.toArray⟩ := hI.2 3 zd3 rfl
        have zf3 := zF3; clear zF3
        have zd6 := hR.pred 6 (by kernel_rfl)
        have zF6 : V 6 = .string ⟨a3.toArray⟩ := hI.2 6 zd6 rfl
        have zf6 := zF6; clear zF6
        have zd9 := hR.pred 9 (by kernel_rfl)
        have zF9 : V 9 = .string ⟨a4.toArray⟩ := hI.2 9 zd9 rfl
        have zf9 := zF9; clear zF9
        have ze75 := hR.frame.done (t := 75) (j := 0) (by kernel_rfl) hR.ok zd0
        have ze78 := hR.frame.done (t := 78) (j := 3) (by kernel_rfl) hR.ok zd3
        have ze81 := hR.frame.done (t := 81) (j := 6) (by kernel_rfl) hR.ok zd6
        have ze84 := hR.frame.done (t := 84) (j := 9) (by kernel_rfl) hR.ok zd9
        rw [if_pos (by rfl)]
        go_simp
        exact hK (_) _ (hI.next hR (by kernel_rfl) (Mod.refl _ _) (PB.quiet hI.1 (Mod.refl _ _) (HGs.out D 10 zw1 zw1 (hI.1).g (Mod.refl _ _))) (upd_same V 10 _))
       ·intro D V zw1 a hR hI K hK
        obtain ⟨hM1, hB1, hG1⟩ := hI.1
        rw [if_pos (by rfl)]
        go_simp
        exact hK (_) _ (hI.next hR (by kernel_rfl) ((Mod.refl _ _).alloc _) (PB.quiet hI.1 (pure_alloc _ _) (HGs.out D 11 _ _ (hI.1).g ((Mod.refl _ _).alloc _))) (⟨_, upd_same V 11 _, (by omega), (Blk.new _ _ _)⟩))
       ·intro D V zw1 a hR hI K hK
        obtain ⟨hM1, hB1, hG1⟩ := hI.1
        have zd11 := hR.pred 11 (by kernel_rfl)
        have zF11 : ∃ (g_11 : Nat), V 11 = .pointer (some ⟨g_11, 0, none⟩) ∧ w6.heap.size ≤ g_11 ∧ Blk zw1 g_11 103 #[.int .i64 0, .string ⟨#[]⟩, .string ⟨#[]⟩, .string ⟨#[]⟩, .string ⟨#[]⟩] := hI.2 11 zd11 (by show (!D 12) = true; rw [hR.not]; rfl)
        obtain ⟨g_11, zf11, c11_0, b11_0⟩ := zF11
        have zd10 := hR.pred 10 (by kernel_rfl)
        have zF10 : V 10 = .agg #[.int .i64 kd, .string ⟨a2.toArray⟩, .string ⟨a3.toArray⟩, .string ⟨a4.toArray⟩, .string ⟨#[]⟩] := hI.2 10 zd10 rfl
        have zf10 := zF10; clear zF10
        have ze8 := hR.frame.done (t := 8) (j := 11) (by kernel_rfl) hR.ok zd11
        have ze85 := hR.frame.done (t := 85) (j := 10) (by kernel_rfl) hR.ok zd10
        rw [if_pos (by rfl)]
        have zx0 := b11_0.cell 0; have zy0 := b11_0.frozen 0
        have zx1 := b11_0.cell 1; have zy1 := b11_0.frozen 1
        have zx2 := b11_0.cell 2; have zy2 := b11_0.frozen 2
        have zx3 := b11_0.cell 3; have zy3 := b11_0.frozen 3
        have zx4 := b11_0.cell 4; have zy4 := b11_0.frozen 4
        simp at zx0 zy0 zx1 zy1 zx2 zy2 zx3 zy3 zx4 zy4
        go_simp
        refine hK undef _ (InvF.last ?_ ?_ ?_)
        ·exact ⟨(((((hM1.setCell (.inr (by show _ ≤ g_11; omega)) _).setCell (.inr (by show _ ≤ g_11; omega)) _).setCell (.inr (by show _ ≤ g_11; omega)) _).setCell (.inr (by show _ ≤ g_11; omega)) _).setCell (.inr (by show _ ≤ g_11; omega)) _), (by simpa using hB1), (((((hG1.far (by show g ≠ g_11; omega) _).far (by show g ≠ g_11; omega) _).far (by show g ≠ g_11; omega) _).far (by show g ≠ g_11; omega) _).far (by show g ≠ g_11; omega) _)⟩
        ·exact ⟨g_11, (upd_ne V (i := 12) (k := 11) undef (by omega)).trans zf11, (by first | assumption | omega), (by have hset := (((((b11_0.set 0 (.int .i64 kd)).set 1 (.string ⟨a2.toArray⟩)).set 2 (.string ⟨a3.toArray⟩)).set 3 (.string ⟨a4.toArray⟩)).set 4 (.string ⟨#[]⟩)); simpa using hset)⟩
        ·intro k hk hDk hlv
         have hkl := hR.lt k hDk
         have hv := hI.2 k hDk (liveB_of hlv)
         match k, hk, hDk, hlv, hkl, hv with
         | 0, _, _, _, _, hv => exact hv
         | 1, _, _, _, _, hv => exact hv
         | 2, _, _, _, _, hv => exact hv
         | 3, _, _, _, _, hv => exact hv
         | 4, _, _, _, _, hv => exact hv
         | 5, _, _, _, _, hv => exact hv
         | 6, _, _, _, _, hv => exact hv
         | 7, _, _, _, _, hv => exact hv
         | 8, _, _, _, _, hv => exact hv
         | 9, _, _, _, _, hv => exact hv
         | 10, _, _, _, _, hv => exact hv
         | 11, _, _, hlv, _, _ => exact absurd hlv (by show ¬ (!upd D 12 true 12) = true; rw [upd_same]; decide)
         | 12, hk, _, _, _, _ => exact absurd rfl hk
         | k + 13, _, _, _, hkl, _ => exact absurd hkl (by simp)
      ·intro D V w7 hD hI
       obtain ⟨hM1, hB1, hG1⟩ := hI.1
       have hMx := hM1
       clear hM1
       have hBx := hB1
       clear hB1
       have hGx := hG1
       clear hG1
       have zF0 : V 0 = .int .i64 kd := hI.2 0 (hD 0 (by decide)) rfl
       have zf0 := zF0; clear zF0
       have zF1 : V 1 = .slice (some ⟨g, 0, none⟩) n n := hI.2 1 (hD 1 (by decide)) rfl
       have zf1 := zF1; clear zF1
       have zF2 : V 2 = .pointer (some ⟨g, 2, none⟩) := hI.2 2 (hD 2 (by decide)) rfl
       have zf2 := zF2; clear zF2
       have zF3 : V 3 = .string ⟨a2.toArray⟩ := hI.2 3 (hD 3 (by decide)) rfl
       have zf3 := zF3; clear zF3
       have zF4 : V 4 = .slice (some ⟨g, 0, none⟩) n n := hI.2 4 (hD 4 (by decide)) rfl
       have zf4 := zF4; clear zF4
       have zF5 : V 5 = .pointer (some ⟨g, 3, none⟩) := hI.2 5 (hD 5 (by decide)) rfl
       have zf5 := zF5; clear zF5
       have zF6 : V 6 = .string ⟨a3.toArray⟩ := hI.2 6 (hD 6 (by decide)) rfl
       have zf6 := zF6; clear zF6
       have zF7 : V 7 = .slice (some ⟨g, 0, none⟩) n n := hI.2 7 (hD 7 (by decide)) rfl
       have zf7 := zF7; clear zF7
       have zF8 : V 8 = .pointer (some ⟨g, 4, none⟩) := hI.2 8 (hD 8 (by decide)) rfl
       have zf8 := zF8; clear zF8
       have zF9 : V 9 = .string ⟨a4.toArray⟩ := hI.2 9 (hD 9 (by decide)) rfl
       have zf9 := zF9; clear zF9
       have zF10 : V 10 = .agg #[.int .i64 kd, .string ⟨a2.toArray⟩, .string ⟨a3.toArray⟩, .string ⟨a4.toArray⟩, .string ⟨#[]⟩] := hI.2 10 (hD 10 (by decide)) rfl
       have zf10 := zF10; clear zF10
       have zF12 : ∃ (g_12 : Nat), V 11 = .pointer (some ⟨g_12, 0, none⟩) ∧ w6.heap.size ≤ g_12 ∧ Blk w7 g_12 103 #[.int .i64 kd, .string ⟨a2.toArray⟩, .string ⟨a3.toArray⟩, .string ⟨a4.toArray⟩, .string ⟨#[]⟩] := hI.2 12 (hD 12 (by decide)) rfl
       obtain ⟨g_12, zf12, c12_0, b12_0⟩ := zF12
       clear hI hD HGs
       simp only [frAll, Act.put, List.setIfInBounds_toArray, List.set_cons_zero, List.set_cons_succ, Nat.zero_add, Nat.reduceAdd, zf0, zf1, zf2, zf3, zf4, zf5, zf6, zf7, zf8, zf9, zf10, zf12]
       clear zf0 zf1 zf2 zf3 zf4 zf5 zf6 zf7 zf8 zf9 zf10 zf12
       clear V D
       have HP7 := Lib.hid hMx
       replace HB4 := Lib.hid hGx
       have HX7 := Lib.hid b12_0
       have hgs := b12_0.lt
       have hx7 := c12_0
       clear hMx hBx hGx b12_0 c12_0
       generalize g_12 = g4 at *
       have hgw7 := HP7.out.size
       have hX := HX7.out
       have x0 := hX.cell 0; have xf0 := hX.frozen 0; have x1 := hX.cell 1; have xf1 := hX.frozen 1; have x2 := hX.cell 2; have xf2 := hX.frozen 2; have x3 := hX.cell 3; have xf3 := hX.frozen 3; have x4 := hX.cell 4; have xf4 := hX.frozen 4; simp at x0 x1 x2 x3 x4
       clear hX
       go_upto_if 88 with (fail)
       go_cut [] (fun wx => Blk wx g4 103 #[.int .i64 kd, .string ⟨a2.toArray⟩, .string ⟨a3.toArray⟩, .string ⟨a4.toArray⟩, .string ⟨th.toArray⟩] ∧ Pure w6 wx)
       case first =>
        by_cases h6 : n = 6
        ·obtain ⟨a5, rfl⟩ : ∃ a5, t = [a5] := List.length_eq_one_iff.1 (by omega)
         have HT5 : Hid (a5 = th) := Lib.hid HTH.out
         subst h6
         have d5 := HB4.out.cell 5
         simp [strsV] at d5
         go_wp2_with fail
         go_meet
         exact ⟨by have h := HX7.out.set 4 (.string ⟨a5.toArray⟩); rw [← HT5.out]; simpa using h, HP7.out.setCell (p := ⟨g4, 4, none⟩) (.inr (by show w6.heap.size ≤ g4; omega)) _⟩
        ·have hn5 : n = 5 := by omega
         subst hn5
         have htn : t = [] := List.eq_nil_of_length_eq_zero (by omega)
         subst htn
         have HT5 : Hid (([] : Str) = th) := Lib.hid HTH.out
         go_wp2_with fail
         go_meet
         exact ⟨by rw [← HT5.out]; exact HX7.out, HP7.out⟩
       case rest =>
        clear HX7 HP7 x0 x1 x2 x3 x4 xf0 xf1 xf2 xf3 xf4
        obtain ⟨hX, hm⟩ := hcut
        obtain ⟨w8, hw8⟩ : ∃ W, W = wc := ⟨wc, rfl⟩
        subst hw8
        have HX8 := Lib.hid hX
        replace HJ4 := Lib.hid (HJ4.out.pure hm)
        replace HM4 := Lib.hid (HM4.out.trans hm)
        clear hX hm HTH HB4 HNT
        have hJB := HJ4.out.1
        have hX := HX8.out
        have x0 := hJB.cell 0; have x1 := hJB.cell 1; simp at x0 x1
        have y0 := hX.cell 0; have y1 := hX.cell 1; have y2 := hX.cell 2; have y3 := hX.cell 3; have y4 := hX.cell 4; simp at y0 y1 y2 y3 y4
        clear hJB hX
        obtain ⟨i0, hi0, hz0, hz1, hz2⟩ := info_parts info_rule
        have hownS := HJ4.out.2.2.1
        have hmS := HM4.out
        generalize hn2 : rs.length = n2 at *
        generalize hn0 : al.length = n0 at *
        replace HN2 := Lib.hid hn2
        have HN0 := Lib.hid hn0
        clear hn2 hn0
        go_upto_region 13 with (fail)
        go_wp2_with ((at_builtin; refine wpList_append_lies _ rfl _ _ _ rfl base 103 i0 _ 5 72 Tryz.underlying27 hi0 hz0 hz1 hz2 rfl (by omega) (.slice A2 n2 c2) n2 (rulV rs) rfl (hownS.alloc _) ⟨w8.heap.size, 0, none⟩ 1 1 [.int .i64 kd, .string ⟨a2.toArray⟩, .string ⟨a3.toArray⟩, .string ⟨a4.toArray⟩, .string ⟨th.toArray⟩] rfl rfl (World.news_of_block (cs := #[.int .i64 kd, .string ⟨a2.toArray⟩, .string ⟨a3.toArray⟩, .string ⟨a4.toArray⟩, .string ⟨th.toArray⟩]) (t := 103) (fr := (0, 0)) (heap_alloc_new w8 _)) (by simp [Value.oneCell']) (by omega) (by simp [maxLen]; omega) (by omega) (by have := hmS.size; simp; omega) (w8.heap.size + 1) (by simp) ?_; intro g5 cap5 w5 hown5 hgrow hat hlt5); have hB6 := (HJ4.out.1.alloc (.cells #[.int .i64 kd, .string ⟨a2.toArray⟩, .string ⟨a3.toArray⟩, .string ⟨a4.toArray⟩, .string ⟨th.toArray⟩] 103)).mod (mod_grown hgrow) (fun hv => by have h2 := HJ4.out.1.alloc (.cells #[.int .i64 kd, .string ⟨a2.toArray⟩, .string ⟨a3.toArray⟩, .string ⟨a4.toArray⟩, .string ⟨th.toArray⟩] 103); unfold Blk at h2; exact absurd (own_ty (HJ4.out.2.2.1.alloc (.cells #[.int .i64 kd, .string ⟨a2.toArray⟩, .string ⟨a3.toArray⟩, .string ⟨a4.toArray⟩, .string ⟨th.toArray⟩] 103)) hv h2) (by decide)); have q1 := hB6.cell 1; have q2 := hB6.frozen 1; simp at q1)
        go_ret
        have HOA := HJ4.out.2.2.1.alloc (.cells #[.int .i64 kd, .string ⟨a2.toArray⟩, .string ⟨a3.toArray⟩, .string ⟨a4.toArray⟩, .string ⟨th.toArray⟩] 103)
        have hpal := pure_alloc w8 (.cells #[.int .i64 kd, .string ⟨a2.toArray⟩, .string ⟨a3.toArray⟩, .string ⟨a4.toArray⟩, .string ⟨th.toArray⟩] 103)
        have K1 : KeepS base w8 w5 := (KeepS.of_pure hpal).trans (KeepS.grown HOA hgrow (by decide))
        have hJ5 : RdJ w5 base gl (.slice A0 n0 c0) (.slice A2 n2 c2) (.slice A0 n0 c0) (.slice (some ⟨g5, 0, none⟩) (n2 + 1) cap5) al (rs ++ [⟨kd, a2, a3, a4, th⟩]) := RdJ.rewR (n5 := n2 + 1) (vr := .slice A2 n2 c2) (HJ4.out.pure hpal) hgrow (by rw [rulV_snoc]; exact hown5) (by rw [List.length_append, HN2.out]; rfl)
        have K2 : KeepS base w5 (w5.setCell ⟨gl, 1, none⟩ (.slice (some ⟨g5, 0, none⟩) (n2 + 1) cap5)) := KeepS.of_one hJ5.sto h7 hJ5.1 (by decide)
        have hJ6 := hJ5.storeR
        by_cases hkd : 0 < kd
        ·rw [HOK.out.1 hkd]
         refine ⟨by rw [decide_eq_true hkd]; rfl, (KeepS.of_pure HM4.out).trans (K1.trans K2), fun S' hS => ?_⟩
         cases hS
         refine ⟨A0, c0, some ⟨g5, 0, none⟩, cap5, al, ?_, ?_, ?_, hJ6.2.2.2, HQ.out, ?_, h7⟩
         ·rw [HN0.out]
          show Blk _ gl _ #[_, .slice _ (rs ++ [(⟨kd, a2, a3, a4, th⟩ : RulR)]).length _]
          rw [List.length_append, HN2.out]
          exact hJ6.1
         ·have := hJ6.2.1; rw [HN0.out] at this ⊢; exact this
         ·have := hJ6.2.2.1
          show World.ownsRow _ base _ 5 (.slice _ (rs ++ [(⟨kd, a2, a3, a4, th⟩ : RulR)]).length _) (rs ++ [(⟨kd, a2, a3, a4, th⟩ : RulR)]).length _
          rw [List.length_append, HN2.out] at this ⊢
          exact this
         ·simp only [List.length_append, HN0.out, HN2.out, List.length_singleton]
          omega
        ·rw [HOK.out.2 (by omega)]
         exact ⟨by rw [decide_eq_false hkd]; rfl, (KeepS.of_pure HM4.out).trans (K1.trans K2), fun S' hS => (by cases hS)⟩
   ·rw [hba] at HRF
    obtain ⟨a1, a2, a3, t, rfl⟩ : ∃ a1 a2 a3 t, t0 = a1 :: a2 :: a3 :: t := by
     have hl := HN.out
     have h4 : 4 ≤ n := by unfold isA at hba; simp [HN.out] at hba; rw [HN.out] at hl; simp at hl; omega
     match t0, hl with
     | a1 :: a2 :: a3 :: t, _ => exact ⟨a1, a2, a3, t, rfl⟩
     | [], h => simp at h; omega
     | [_], h => simp at h; omega
     | [_, _], h => simp at h; omega
    obtain ⟨kd, hkd⟩ : ∃ kd, kdI a2 = kd := ⟨_, rfl⟩
    obtain ⟨sp, hsp⟩ : ∃ sp, sprdIx a3 = sp := ⟨_, rfl⟩
    obtain ⟨mb, hmb⟩ : ∃ mb, (kd == 1) = mb := ⟨_, rfl⟩
    have HMB := Lib.hid hmb
    have HIX1 : Hid (∀ W g0, Blk W g0 9 #[.string ⟨#[111, 110, 101]⟩, .string ⟨#[109, 97, 110, 121]⟩] → Calls Tryz.prog 76 #[.slice (some ⟨g0, 0, none⟩) 2 2, .string ⟨a2.toArray⟩] W (IntPost W kd)) := Lib.hid (fun W g0 h => by
     have := indexQs_calls W _ [wOne, wMany] a2 (blkSl3 h)
     rwa [kdI_idx, hkd] at this)
    have HIX2 : Hid (∀ W v, Sl W 9 1 v (strsV sp3) → Calls Tryz.prog 76 #[v, .string ⟨a3.toArray⟩] W (IntPost W sp)) := Lib.hid (fun W v h => by
     have := indexQs_calls W v sp3 a3 h
     rwa [sprdIx_idx, hsp] at this)
    have hcnd : ((a2 = wOne ∨ a2 = wMany) ↔ 0 ≤ kd) ∧ decide (a2 = wMany) = mb := by
     rw [← hmb, ← hkd]
     unfold kdI
     by_cases h0 : a2 = wOne
     ·subst h0; exact ⟨by decide, by decide⟩
     by_cases h1 : a2 = wMany
     ·subst h1; exact ⟨by decide, by decide⟩
     rw [if_neg h0, if_neg h1]
     exact ⟨by simp [h0, h1], by simp [h1]⟩
    have HOK : Hid ((0 ≤ kd → 0 ≤ sp → o = some ⟨qs ++ [(a1, t, mb, sp)], rs⟩) ∧ (¬ (0 ≤ kd ∧ 0 ≤ sp) → o = none)) := Lib.hid (by
     have h := HRF.out
     rw [if_pos rfl] at h
     have h9 : o = if (a2 = wOne ∨ a2 = wMany) ∧ 0 ≤ sprdIx a3 then some ⟨qs ++ [(a1, t, decide (a2 = wMany), sprdIx a3)], rs⟩ else none := h
     rw [hsp, hcnd.2] at h9
     refine ⟨fun h1 h2 => ?_, fun h1 => ?_⟩
     ·rw [h9, if_pos ⟨hcnd.1.2 h1, h2⟩]
     ·rw [h9, if_neg (fun h2 => h1 ⟨hcnd.1.1 h2.1, h2.2⟩)])
    have HNT : Hid (n = t.length + 4) := Lib.hid (by rw [← HN.out]; rfl)
    have hnt1 := Nat.le_of_eq HNT.out
    have hnt2 := Nat.le_of_eq HNT.out.symm
    have i1 : (1 : Int) < (n : Int) := by omega
    have i2 : (2 : Int) < (n : Int) := by omega
    have i3 : (3 : Int) < (n : Int) := by omega
    have j1 : 1 < n := by omega
    have j2 : 2 < n := by omega
    have j3 : 3 < n := by omega
    have i4 : (4 : Int) ≤ (n : Int) := by omega
    have j4 : 4 ≤ n := by omega
    clear hkd hsp hmb hcnd HRF hba d0
    go_upto_region 5 with (fail)
    have HGs := Lib.hid (show ∀ (D : Nat → Bool) (zzi : Nat) (zq zq' : World), (fun _ zq => (fun Z => Blk Z g 9 (strsV (a0 :: a1 :: a2 :: a3 :: t)).toArray) zq) D zq → Mod (fun _ => False) zq zq' → (fun _ zq => (fun Z => Blk Z g 9 (strsV (a0 :: a1 :: a2 :: a3 :: t)).toArray) zq) (upd D zzi true) zq' from by intro D zzi zq zq' h hm; (exact h.modp hm))
    refine wp_region_inv (by kernel_rfl) (by kernel_rfl) (InvF (R := Mod (fun _ => False)) [⟨fun zv zw => ∃ (g_0 : Nat), zv = .slice (some ⟨g_0, 0, none⟩) 2 2 ∧ w4.heap.size ≤ g_0 ∧ Blk zw g_0 9 #[(.string { data := #[111, 110, 101] }), (.string { data := #[109, 97, 110, 121] })], (by rintro zv zw zx ⟨g_0, rfl, c0, q0⟩ hm; exact ⟨g_0, rfl, c0, (q0.modp hm)⟩), none, some 4⟩,
      .is (.slice (some ⟨g, 0, none⟩) n n),
      .is (.pointer (some ⟨g, 2, none⟩)),
      .is (.string ⟨a2.toArray⟩),
      .is (.int .i64 kd),
      ⟨fun zv zw => ∃ (A_5 : Option Addr) (c_5 : Nat), zv = .slice A_5 3 c_5 ∧ Sl zw 9 1 (.slice A_5 3 c_5) (strsV sp3), (by rintro zv zw zx ⟨A_5, c_5, rfl, q0⟩ hm; exact ⟨A_5, c_5, rfl, (q0.pure hm)⟩), none, some 9⟩,
      .is (.slice (some ⟨g, 0, none⟩) n n),
      .is (.pointer (some ⟨g, 3, none⟩)),
      .is (.string ⟨a3.toArray⟩),
      .is (.int .i64 sp),
      .is (.int .i64 kd),
      .is (.int .i64 sp)]
      (PB w4 (fun _ => False) w4.heap.size (fun _ zq => (fun Z => Blk Z g 9 (strsV (a0 :: a1 :: a2 :: a3 :: t)).toArray) zq))) (InvF.start (PB.start (Mod.refl _ _) (Nat.le_refl _) (HB4.out.drew))) ?_ ?_
    ·refine .cons ?_ (.cons ?_ (.cons ?_ (.cons ?_ (.cons ?_ (.cons ?_ (.cons ?_ (.cons ?_ (.cons ?_ (.cons ?_ (.cons ?_ (.cons ?_ .nil)))))))))))
     ·intro D V zw1 a hR hI K hK
      obtain ⟨hM1, hB1, hG1⟩ := hI.1
      rw [if_pos (by rfl)]
      go_simp
      exact hK (_) _ (hI.next hR (by kernel_rfl) ((Mod.refl _ _).alloc _) (PB.quiet hI.1 (pure_alloc _ _) (HGs.out D 0 _ _ (hI.1).g ((Mod.refl _ _).alloc _))) (⟨_, upd_same V 0 _, (by omega), (Blk.new _ _ _)⟩))
     ·intro D V zw1 a hR hI K hK
      obtain ⟨hM1, hB1, hG1⟩ := hI.1
      have ze4 := hR.frame.other (t := 4) (by kernel_rfl) rfl
      rw [if_pos (by rfl)]
      go_simp
      exact hK (.slice (some ⟨g, 0, none⟩) n n) _ (hI.next hR (by kernel_rfl) (Mod.refl _ _) (PB.quiet hI.1 (Mod.refl _ _) (HGs.out D 1 zw1 zw1 (hI.1).g (Mod.refl _ _))) (upd_same V 1 _))
     ·intro D V zw1 a hR hI K hK
      obtain ⟨hM1, hB1, hG1⟩ := hI.1
      have zd1 := hR.pred 1 (by kernel_rfl)
      have zF1 : V 1 = .slice (some ⟨g, 0, none⟩) n n := hI.2 1 zd1 rfl
      have zf1 := zF1; clear zF1
      have ze30 := hR.frame.done (t := 30) (j := 1) (by kernel_rfl) hR.ok zd1
      rw [if_pos (by rfl)]
      go_simp
      exact hK (.pointer (some ⟨g, 2, none⟩)) _ (hI.next hR (by kernel_rfl) (Mod.refl _ _) (PB.quiet hI.1 (Mod.refl _ _) (HGs.out D 2 zw1 zw1 (hI.1).g (Mod.refl _ _))) (upd_same V 2 _))
     ·intro D V zw1 a hR hI K hK
      obtain ⟨hM1, hB1, hG1⟩ := hI.1
      have zd2 := hR.pred 2 (by kernel_rfl)
      have zF2 : V 2 = .pointer (some ⟨g, 2, none⟩) := hI.2 2 zd2 rfl
      have zf2 := zF2; clear zF2
      have ze31 := hR.frame.done (t := 31) (j := 2) (by kernel_rfl) hR.ok zd2
      have zx0 := hG1.cell 2; simp [strsV] at zx0
      rw [if_pos (by rfl)]
      go_simp
      exact hK (.string ⟨a2.toArray⟩) _ (hI.next hR (by kernel_rfl) (Mod.refl _ _) (PB.quiet hI.1 (Mod.refl _ _) (HGs.out D 3 zw1 zw1 (hI.1).g (Mod.refl _ _))) (upd_same V 3 _))
     ·intro D V zw1 a hR hI K hK
      obtain ⟨hM1, hB1, hG1⟩ := hI.1
      have zd0 := hR.pred 0 (by kernel_rfl)
      have zF0 : ∃ (g_0 : Nat), V 0 = .slice (some ⟨g_0, 0, none⟩) 2 2 ∧ w4.heap.size ≤ g_0 ∧ Blk zw1 g_0 9 #[(.string { data := #[111, 110, 101] }), (.string { data := #[109, 97, 110, 121] })] := hI.2 0 zd0 (by show (!D 4) = true; rw [hR.not]; rfl)
      obtain ⟨g_0, zf0, c0_0, b0_0⟩ := zF0
      have zd3 := hR.pred 3 (by kernel_rfl)
      have zF3 : V 3 = .string ⟨a2.toArray⟩ := hI.2 3 zd3 rfl
      have zf3 := zF3; clear zF3
      have ze29 := hR.frame.done (t := 29) (j := 0) (by kernel_rfl) hR.ok zd0
      have ze32 := hR.frame.done (t := 32) (j := 3) (by kernel_rfl) hR.ok zd3
      rw [if_pos (by rfl)]
      go_simp
      refine (HIX1.out _ _ b0_0).mono ?_
      rintro e zw2 ⟨rfl, hm2⟩
      exact hK (.int .i64 kd) _ (hI.next hR (by kernel_rfl) hm2 (PB.quiet hI.1 hm2 (HGs.out D 4 _ _ (hI.1).g hm2)) (upd_same V 4 _))
     ·intro D V zw1 a hR hI K hK
      obtain ⟨hM1, hB1, hG1⟩ := hI.1
      rw [if_pos (by rfl)]
      go_simp
      refine (spw_calls _).mono ?_
      rintro e zw2 ⟨A_0, c_0, rfl, hsl, hm2⟩
      exact hK (.slice A_0 3 c_0) _ (hI.next hR (by kernel_rfl) hm2 (PB.quiet hI.1 hm2 (HGs.out D 5 _ _ (hI.1).g hm2)) (⟨A_0, c_0, upd_same V 5 _, hsl⟩))
     ·intro D V zw1 a hR hI K hK
      obtain ⟨hM1, hB1, hG1⟩ := hI.1
      have ze4 := hR.frame.other (t := 4) (by kernel_rfl) rfl
      rw [if_pos (by rfl)]
      go_simp
      exact hK (.slice (some ⟨g, 0, none⟩) n n) _ (hI.next hR (by kernel_rfl) (Mod.refl _ _) (PB.quiet hI.1 (Mod.refl _ _) (HGs.out D 6 zw1 zw1 (hI.1).g (Mod.refl _ _))) (upd_same V 6 _))
     ·intro D V zw1 a hR hI K hK
      obtain ⟨hM1, hB1, hG1⟩ := hI.1
      have zd6 := hR.pred 6 (by kernel_rfl)
      have zF6 : V 6 = .slice (some ⟨g, 0, none⟩) n n := hI.2 6 zd6 rfl
      have zf6 := zF6; clear zF6
      have ze35 := hR.frame.done (t := 35) (j := 6) (by kernel_rfl) hR.ok zd6
      rw [if_pos (by rfl)]
      go_simp
      exact hK (.pointer (some ⟨g, 3, none⟩)) _ (hI.next hR (by kernel_rfl) (Mod.refl _ _) (PB.quiet hI.1 (Mod.refl _ _) (HGs.out D 7 zw1 zw1 (hI.1).g (Mod.refl _ _))) (upd_same V 7 _))
     ·intro D V zw1 a hR hI K hK
      obtain ⟨hM1, hB1, hG1⟩ := hI.1
      have zd7 := hR.pred 7 (by kernel_rfl)
      have zF7 : V 7 = .pointer (some ⟨g, 3, none⟩) := hI.2 7 zd7 rfl
      have zf7 := zF7; clear zF7
      have ze36 := hR.frame.done (t := 36) (j := 7) (by kernel_rfl) hR.ok zd7
      have zx0 := hG1.cell 3; simp [strsV] at zx0
      rw [if_pos (by rfl)]
      go_simp
      exact hK (.string ⟨a3.toArray⟩) _ (hI.next hR (by kernel_rfl) (Mod.refl _ _) (PB.quiet hI.1 (Mod.refl _ _) (HGs.out D 8 zw1 zw1 (hI.1).g (Mod.refl _ _))) (upd_same V 8 _))
     ·intro D V zw1 a hR hI K hK
      obtain ⟨hM1, hB1, hG1⟩ := hI.1
      have zd5 := hR.pred 5 (by kernel_rfl)
      have zF5 : ∃ (A_5 : Option Addr) (c_5 : Nat), V 5 = .slice A_5 3 c_5 ∧ Sl zw1 9 1 (.slice A_5 3 c_5) (strsV sp3) := hI.2 5 zd5 (by show (!D 9) = true; rw [hR.not]; rfl)
      obtain ⟨A_5, c_5, zf5, b5_0⟩ := zF5
      have zd8 := hR.pred 8 (by kernel_rfl)
      have zF8 : V 8 = .string ⟨a3.toArray⟩ := hI.2 8 zd8 rfl
      have zf8 := zF8; clear zF8
      have ze34 := hR.frame.done (t := 34) (j := 5) (by kernel_rfl) hR.ok zd5
      have ze37 := hR.frame.done (t := 37) (j := 8) (by kernel_rfl) hR.ok zd8
      rw [if_pos (by rfl)]
      go_simp
      refine (HIX2.out _ _ b5_0).mono ?_
      rintro e zw2 ⟨rfl, hm2⟩
      exact hK (.int .i64 sp) _ (hI.next hR (by kernel_rfl) hm2 (PB.quiet hI.1 hm2 (HGs.out D 9 _ _ (hI.1).g hm2)) (upd_same V 9 _))
     ·intro D V zw1 a hR hI K hK
      obtain ⟨hM1, hB1, hG1⟩ := hI.1
      have zd4 := hR.pred 4 (by kernel_rfl)
      have zF4 : V 4 = .int .i64 kd := hI.2 4 zd4 rfl
      have zf4 := zF4; clear zF4
      have ze33 := hR.frame.done (t := 33) (j := 4) (by kernel_rfl) hR.ok zd4
      rw [if_pos (by rfl)]
      go_simp
      exact hK (.int .i64 kd) _ (hI.next hR (by kernel_rfl) (Mod.refl _ _) (PB.quiet hI.1 (Mod.refl _ _) (HGs.out D 10 zw1 zw1 (hI.1).g (Mod.refl _ _))) (upd_same V 10 _))
     ·intro D V zw1 a hR hI K hK
      obtain ⟨hM1, hB1, hG1⟩ := hI.1
      have zd9 := hR.pred 9 (by kernel_rfl)
      have zF9 : V 9 = .int .i64 sp := hI.2 9 zd9 rfl
      have zf9 := zF9; clear zF9
      have ze38 := hR.frame.done (t := 38) (j := 9) (by kernel_rfl) hR.ok zd9
      rw [if_pos (by rfl)]
      go_simp
      exact hK (.int .i64 sp) _ (hI.next hR (by kernel_rfl) (Mod.refl _ _) (PB.quiet hI.1 (Mod.refl _ _) (HGs.out D 11 zw1 zw1 (hI.1).g (Mod.refl _ _))) (upd_same V 11 _))
    ·intro D V w5 hD hI
     obtain ⟨hM1, hB1, hG1⟩ := hI.1
     have hMx := hM1
     clear hM1
     have hBx := hB1
     clear hB1
     have hGx := hG1
     clear hG1
     have zF1 : V 1 = .slice (some ⟨g, 0, none⟩) n n := hI.2 1 (hD 1 (by decide)) rfl
     have zf1 := zF1; clear zF1
     have zF2 : V 2 = .pointer (some ⟨g, 2, none⟩) := hI.2 2 (hD 2 (by decide)) rfl
     have zf2 := zF2; clear zF2
     have zF3 : V 3 = .string ⟨a2.toArray⟩ := hI.2 3 (hD 3 (by decide)) rfl
     have zf3 := zF3; clear zF3
     have zF4 : V 4 = .int .i64 kd := hI.2 4 (hD 4 (by decide)) rfl
     have zf4 := zF4; clear zF4
     have zF6 : V 6 = .slice (some ⟨g, 0, none⟩) n n := hI.2 6 (hD 6 (by decide)) rfl
     have zf6 := zF6; clear zF6
     have zF7 : V 7 = .pointer (some ⟨g, 3, none⟩) := hI.2 7 (hD 7 (by decide)) rfl
     have zf7 := zF7; clear zF7
     have zF8 : V 8 = .string ⟨a3.toArray⟩ := hI.2 8 (hD 8 (by decide)) rfl
     have zf8 := zF8; clear zF8
     have zF9 : V 9 = .int .i64 sp := hI.2 9 (hD 9 (by decide)) rfl
     have zf9 := zF9; clear zF9
     have zF10 : V 10 = .int .i64 kd := hI.2 10 (hD 10 (by decide)) rfl
     have zf10 := zF10; clear zF10
     have zF11 : V 11 = .int .i64 sp := hI.2 11 (hD 11 (by decide)) rfl
     have zf11 := zF11; clear zF11
     clear hI hD HGs
     simp only [frAll, Act.put, List.setIfInBounds_toArray, List.set_cons_zero, List.set_cons_succ, Nat.zero_add, Nat.reduceAdd, zf1, zf2, zf3, zf4, zf6, zf7, zf8, zf9, zf10, zf11]
     clear zf1 zf2 zf3 zf4 zf6 zf7 zf8 zf9 zf10 zf11
     generalize V 0 = u0
     generalize V 5 = u5
     clear V D
     have HB5 := Lib.hid hGx
     have HJ5 := Lib.hid (HJ4.out.pure hMx)
     have HM5 := Lib.hid (HM4.out.trans hMx)
     have HOL := Lib.hid (fun i hi => (HJ5.out.2.1.lt i hi).2)
     have HSG : Hid (base ≤ gl ∧ ¬ StrBk w5 gl) := Lib.hid ⟨h7, fun ⟨arr, fr, hs⟩ => by have h2 := HJ5.out.1; unfold Blk at h2; rw [h2] at hs; cases hs⟩
     have hg5 := HB5.out.lt
     clear hMx hBx hGx HB4 HJ4 HM4
     clear i1 i2 i3 i4 i0
     obtain ⟨i0, hi0, hz0, hz1, hz2⟩ := info_parts info_ask
     obtain ⟨m, hm0⟩ : ∃ m, t.length = m := ⟨_, rfl⟩
     have HTN := Lib.hid hm0
     have hnt := HNT.out
     rw [hm0] at hnt
     subst hnt
     clear hm0 HNT
     have i1 : (1 : Int) < (m : Int) + 4 := by omega
     have i4 : (4 : Int) ≤ (m : Int) + 4 := by omega
     go_upto_region 6 with (fail)
     by_cases hzm : m = 0
     ·subst hzm
      have ht : t = [] := List.eq_nil_of_length_eq_zero HTN.out
      have HC4 := Lib.hid (trivial : True)
      have HXS : Hid (∀ W, Blk W g 9 (strsV (a0 :: a1 :: a2 :: a3 :: t)).toArray → Sl W 9 1 (.slice (some ⟨g, 0, none⟩) t.length 0) (strsV t)) := Lib.hid (fun W h => by subst ht; exact ⟨_, _, _, rfl, by simp, by omega, by simp [strsV], fun h => absurd h (by simp)⟩)
      clear ht
      simp only [Nat.zero_add] at *
      have HGs := Lib.hid (show ∀ (D : Nat → Bool) (zzi : Nat) (zq zq' : World), zzi ≠ 12 → (fun D zq => (D 12 = false → (fun Z => RdJ Z base gl (.slice A0 al.length c0) (.slice A2 rs.length c2) (.slice A0 al.length c0) (.slice A2 rs.length c2) al rs) zq) ∧ (fun Z => Blk Z g 9 (strsV (a0 :: a1 :: a2 :: a3 :: t)).toArray) zq) D zq → Mod (fun _ => False) zq zq' → (fun D zq => (D 12 = false → (fun Z => RdJ Z base gl (.slice A0 al.length c0) (.slice A2 rs.length c2) (.slice A0 al.length c0) (.slice A2 rs.length c2) al rs) zq) ∧ (fun Z => Blk Z g 9 (strsV (a0 :: a1 :: a2 :: a3 :: t)).toArray) zq) (upd D zzi true) zq' from by intro D zzi zq zq' hi hh hm; refine ⟨fun hs => ?_, ?_⟩; (rw [upd_ne _ _ (Ne.symm hi)] at hs; have h := hh.1 hs; (exact h.pure hm)); (have h := hh.2; (exact h.modp hm)))
      refine wp_region_inv (by kernel_rfl) (by kernel_rfl) (InvF (R := Mod (fun _ => False)) [.is (.pointer (some ⟨gl, 0, none⟩)),
        .is (.slice A0 al.length c0),
        .is (.slice (some ⟨g, 0, none⟩) 4 4),
        .is (.pointer (some ⟨g, 1, none⟩)),
        .is (.string ⟨a1.toArray⟩),
        .is (.int .i64 kd),
        .is (.bool mb),
        .is (.int .i64 sp),
        .is (.slice (some ⟨g, 0, none⟩) 4 4),
        .is (.slice (some ⟨g, 0, none⟩) 0 0),
        .is (.agg #[.string ⟨a1.toArray⟩, .slice (some ⟨g, 0, none⟩) 0 0, .bool mb, .int .i64 sp]),
        ⟨fun zv zw => ∃ (g_11 : Nat), zv = .slice (some ⟨g_11, 0, none⟩) 1 1 ∧ w5.heap.size ≤ g_11 ∧ Blk zw g_11 99 #[.string ⟨a1.toArray⟩, .slice (some ⟨g, 0, none⟩) 0 0, .bool mb, .int .i64 sp], (by rintro zv zw zx ⟨g_11, rfl, c0, q0⟩ hm; exact ⟨g_11, rfl, c0, (q0.modp hm)⟩), none, some 12⟩,
        ⟨fun zv zw => ∃ (g_12 : Nat) (c_12 : Nat), zv = .slice (some ⟨g_12, 0, none⟩) (al.length + 1) c_12 ∧ RdJ zw base gl (.slice A0 al.length c0) (.slice A2 rs.length c2) (.slice (some ⟨g_12, 0, none⟩) (al.length + 1) c_12) (.slice A2 rs.length c2) (al ++ [⟨a1, some ⟨g, 0, none⟩, 0, t, mb, sp⟩]) rs, (by rintro zv zw zx ⟨g_12, c_12, rfl, q0⟩ hm; exact ⟨g_12, c_12, rfl, (q0.pure hm)⟩), none, some 14⟩,
        .is (.pointer (some ⟨gl, 0, none⟩)),
        ⟨fun zv zw => zv = undef ∧ RdX zw base gl (.slice A2 rs.length c2) (.slice A2 rs.length c2) (al ++ [⟨a1, some ⟨g, 0, none⟩, 0, t, mb, sp⟩]) rs, (by rintro zv zw zx ⟨rfl, q0⟩ hm; exact ⟨rfl, (q0.pure hm)⟩), none, none⟩]
        (PB w5 (fun k => base ≤ k ∧ ¬ StrBk w5 k) w5.heap.size (fun D zq => (D 12 = false → (fun Z => RdJ Z base gl (.slice A0 al.length c0) (.slice A2 rs.length c2) (.slice A0 al.length c0) (.slice A2 rs.length c2) al rs) zq) ∧ (fun Z => Blk Z g 9 (strsV (a0 :: a1 :: a2 :: a3 :: t)).toArray) zq))) (InvF.start (PB.start (Mod.refl _ _) (Nat.le_refl _) (⟨fun _ => HJ5.out.pure ((Mod.refl _ _).drew), HB5.out.drew⟩))) ?_ ?_
      ·refine .cons ?_ (.cons ?_ (.cons ?_ (.cons ?_ (.cons ?_ (.cons ?_ (.cons ?_ (.cons ?_ (.cons ?_ (.cons ?_ (.cons ?_ (.cons ?_ (.cons ?_ (.cons ?_ (.cons ?_ .nil))))))))))))))
       ·intro D V zw1 a hR hI K hK
        obtain ⟨hM1, hB1, hG1⟩ := hI.1
        obtain ⟨hGK, hG1⟩ := hG1
        have ze1 := hR.frame.other (t := 1) (by kernel_rfl) rfl
        rw [if_pos (by rfl)]
        go_simp
        exact hK (.pointer (some ⟨gl, 0, none⟩)) _ (hI.next hR (by kernel_rfl) (Mod.refl _ _) (PB.quiet hI.1 (Mod.refl _ _) (HGs.out D 0 zw1 zw1 (by omega) (hI.1).g (Mod.refl _ _))) (upd_same V 0 _))
       ·intro D V zw1 a hR hI K hK
        obtain ⟨hM1, hB1, hG1⟩ := hI.1
        obtain ⟨hGK, hG1⟩ := hG1
        have zd0 := hR.pred 0 (by kernel_rfl)
        have zF0 : V 0 = .pointer (some ⟨gl, 0, none⟩) := hI.2 0 zd0 rfl
        have zf0 := zF0; clear zF0
        have ze39 := hR.frame.done (t := 39) (j := 0) (by kernel_rfl) hR.ok zd0
        have zB := (hGK (hR.later 12 rfl (by kernel_rfl))).1
        have zx0 := zB.cell 0
        simp at zx0
        rw [if_pos (by rfl)]
        go_simp
        exact hK (.slice A0 al.length c0) _ (hI.next hR (by kernel_rfl) (Mod.refl _ _) (PB.quiet hI.1 (Mod.refl _ _) (HGs.out D 1 zw1 zw1 (by omega) (hI.1).g (Mod.refl _ _))) (upd_same V 1 _))
       ·intro D V zw1 a hR hI K hK
        obtain ⟨hM1, hB1, hG1⟩ := hI.1
        obtain ⟨hGK, hG1⟩ := hG1
        have ze4 := hR.frame.other (t := 4) (by kernel_rfl) rfl
        rw [if_pos (by rfl)]
        go_simp
        exact hK (.slice (some ⟨g, 0, none⟩) 4 4) _ (hI.next hR (by kernel_rfl) (Mod.refl _ _) (PB.quiet hI.1 (Mod.refl _ _) (HGs.out D 2 zw1 zw1 (by omega) (hI.1).g (Mod.refl _ _))) (upd_same V 2 _))
       ·intro D V zw1 a hR hI K hK
        obtain ⟨hM1, hB1, hG1⟩ := hI.1
        obtain ⟨hGK, hG1⟩ := hG1
        have zd2 := hR.pred 2 (by kernel_rfl)
        have zF2 : V 2 = .slice (some ⟨g, 0, none⟩) 4 4 := hI.2 2 zd2 rfl
        have zf2 := zF2; clear zF2
        have ze41 := hR.frame.done (t := 41) (j := 2) (by kernel_rfl) hR.ok zd2
        rw [if_pos (by rfl)]
        go_simp
        exact hK (.pointer (some ⟨g, 1, none⟩)) _ (hI.next hR (by kernel_rfl) (Mod.refl _ _) (PB.quiet hI.1 (Mod.refl _ _) (HGs.out D 3 zw1 zw1 (by omega) (hI.1).g (Mod.refl _ _))) (upd_same V 3 _))
       ·intro D V zw1 a hR hI K hK
        obtain ⟨hM1, hB1, hG1⟩ := hI.1
        obtain ⟨hGK, hG1⟩ := hG1
        have zd3 := hR.pred 3 (by kernel_rfl)
        have zF3 : V 3 = .pointer (some ⟨g, 1, none⟩) := hI.2 3 zd3 rfl
        have zf3 := zF3; clear zF3
        have ze42 := hR.frame.done (t := 42) (j := 3) (by kernel_rfl) hR.ok zd3
        have zx0 := hG1.cell 1; simp [strsV] at zx0
        rw [if_pos (by rfl)]
        go_simp
        exact hK (.string ⟨a1.toArray⟩) _ (hI.next hR (by kernel_rfl) (Mod.refl _ _) (PB.quiet hI.1 (Mod.refl _ _) (HGs.out D 4 zw1 zw1 (by omega) (hI.1).g (Mod.refl _ _))) (upd_same V 4 _))
       ·intro D V zw1 a hR hI K hK
        obtain ⟨hM1, hB1, hG1⟩ := hI.1
        obtain ⟨hGK, hG1⟩ := hG1
        have ze5 := hR.frame.other (t := 5) (by kernel_rfl) rfl
        rw [if_pos (by rfl)]
        go_simp
        exact hK (.int .i64 kd) _ (hI.next hR (by kernel_rfl) (Mod.refl _ _) (PB.quiet hI.1 (Mod.refl _ _) (HGs.out D 5 zw1 zw1 (by omega) (hI.1).g (Mod.refl _ _))) (upd_same V 5 _))
       ·intro D V zw1 a hR hI K hK
        obtain ⟨hM1, hB1, hG1⟩ := hI.1
        obtain ⟨hGK, hG1⟩ := hG1
        have zd5 := hR.pred 5 (by kernel_rfl)
        have zF5 : V 5 = .int .i64 kd := hI.2 5 zd5 rfl
        have zf5 := zF5; clear zF5
        have ze44 := hR.frame.done (t := 44) (j := 5) (by kernel_rfl) hR.ok zd5
        have zmb := HMB.out
        rw [if_pos (by rfl)]
        go_simp
        exact hK (.bool mb) _ (hI.next hR (by kernel_rfl) (Mod.refl _ _) (PB.quiet hI.1 (Mod.refl _ _) (HGs.out D 6 zw1 zw1 (by omega) (hI.1).g (Mod.refl _ _))) (upd_same V 6 _))
       ·intro D V zw1 a hR hI K hK
        obtain ⟨hM1, hB1, hG1⟩ := hI.1
        obtain ⟨hGK, hG1⟩ := hG1
        have ze6 := hR.frame.other (t := 6) (by kernel_rfl) rfl
        rw [if_pos (by rfl)]
        go_simp
        exact hK (.int .i64 sp) _ (hI.next hR (by kernel_rfl) (Mod.refl _ _) (PB.quiet hI.1 (Mod.refl _ _) (HGs.out D 7 zw1 zw1 (by omega) (hI.1).g (Mod.refl _ _))) (upd_same V 7 _))
       ·intro D V zw1 a hR hI K hK
        obtain ⟨hM1, hB1, hG1⟩ := hI.1
        obtain ⟨hGK, hG1⟩ := hG1
        have ze4 := hR.frame.other (t := 4) (by kernel_rfl) rfl
        rw [if_pos (by rfl)]
        go_simp
        exact hK (.slice (some ⟨g, 0, none⟩) 4 4) _ (hI.next hR (by kernel_rfl) (Mod.refl _ _) (PB.quiet hI.1 (Mod.refl _ _) (HGs.out D 8 zw1 zw1 (by omega) (hI.1).g (Mod.refl _ _))) (upd_same V 8 _))
       ·intro D V zw1 a hR hI K hK
        obtain ⟨hM1, hB1, hG1⟩ := hI.1
        obtain ⟨hGK, hG1⟩ := hG1
        have zd8 := hR.pred 8 (by kernel_rfl)
        have zF8 : V 8 = .slice (some ⟨g, 0, none⟩) 4 4 := hI.2 8 zd8 rfl
        have zf8 := zF8; clear zF8
        have ze47 := hR.frame.done (t := 47) (j := 8) (by kernel_rfl) hR.ok zd8
        have zc4 := HC4.out
        rw [if_pos (by rfl)]
        go_simp
        exact hK (.slice (some ⟨g, 0, none⟩) 0 0) _ (hI.next hR (by kernel_rfl) (Mod.refl _ _) (PB.quiet hI.1 (Mod.refl _ _) (HGs.out D 9 zw1 zw1 (by omega) (hI.1).g (Mod.refl _ _))) (upd_same V 9 _))
       ·intro D V zw1 a hR hI K hK
        obtain ⟨hM1, hB1, hG1⟩ := hI.1
        obtain ⟨hGK, hG1⟩ := hG1
        have zd4 := hR.pred 4 (by kernel_rfl)
        have zF4 : V 4 = .string ⟨a1.toArray⟩ := hI.2 4 zd4 rfl
        have zf4 := zF4; clear zF4
        have zd6 := hR.pred 6 (by kernel_rfl)
        have zF6 : V 6 = .bool mb := hI.2 6 zd6 rfl
        have zf6 := zF6; clear zF6
        have zd7 := hR.pred 7 (by kernel_rfl)
        have zF7 : V 7 = .int .i64 sp := hI.2 7 zd7 rfl
        have zf7 := zF7; clear zF7
        have zd9 := hR.pred 9 (by kernel_rfl)
        have zF9 : V 9 = .slice (some ⟨g, 0, none⟩) 0 0 := hI.2 9 zd9 rfl
        have zf9 := zF9; clear zF9
        have ze43 := hR.frame.done (t := 43) (j := 4) (by kernel_rfl) hR.ok zd4
        have ze45 := hR.frame.done (t := 45) (j := 6) (by kernel_rfl) hR.ok zd6
        have ze46 := hR.frame.done (t := 46) (j := 7) (by kernel_rfl) hR.ok zd7
        have ze48 := hR.frame.done (t := 48) (j := 9) (by kernel_rfl) hR.ok zd9
        rw [if_pos (by rfl)]
        go_simp
        exact hK (_) _ (hI.next hR (by kernel_rfl) (Mod.refl _ _) (PB.quiet hI.1 (Mod.refl _ _) (HGs.out D 10 zw1 zw1 (by omega) (hI.1).g (Mod.refl _ _))) (upd_same V 10 _))
       ·intro D V zw1 a hR hI K hK
        obtain ⟨hM1, hB1, hG1⟩ := hI.1
        obtain ⟨hGK, hG1⟩ := hG1
        have zd10 := hR.pred 10 (by kernel_rfl)
        have zF10 : V 10 = .agg #[.string ⟨a1.toArray⟩, .slice (some ⟨g, 0, none⟩) 0 0, .bool mb, .int .i64 sp] := hI.2 10 zd10 rfl
        have zf10 := zF10; clear zF10
        have ze49 := hR.frame.done (t := 49) (j := 10) (by kernel_rfl) hR.ok zd10
        rw [if_pos (by rfl)]
        go_simp
        exact hK (_) _ (hI.next hR (by kernel_rfl) ((Mod.refl _ _).alloc _) (PB.quiet hI.1 (pure_alloc _ _) (HGs.out D 11 _ _ (by omega) (hI.1).g ((Mod.refl _ _).alloc _))) (⟨_, upd_same V 11 _, (by omega), (Blk.new _ _ _)⟩))
       ·intro D V zw1 a hR hI K hK
        obtain ⟨hM1, hB1, hG1⟩ := hI.1
        obtain ⟨hGK, hG1⟩ := hG1
        have zd1 := hR.pred 1 (by kernel_rfl)
        have zF1 : V 1 = .slice A0 al.length c0 := hI.2 1 zd1 rfl
        have zf1 := zF1; clear zF1
        have zd11 := hR.pred 11 (by kernel_rfl)
        have zF11 : ∃ (g_11 : Nat), V 11 = .slice (some ⟨g_11, 0, none⟩) 1 1 ∧ w5.heap.size ≤ g_11 ∧ Blk zw1 g_11 99 #[.string ⟨a1.toArray⟩, .slice (some ⟨g, 0, none⟩) 0 0, .bool mb, .int .i64 sp] := hI.2 11 zd11 (by show (!D 12) = true; rw [hR.not]; rfl)
        obtain ⟨g_11, zf11, c11_0, b11_0⟩ := zF11
        have ze40 := hR.frame.done (t := 40) (j := 1) (by kernel_rfl) hR.ok zd1
        have ze50 := hR.frame.done (t := 50) (j := 11) (by kernel_rfl) hR.ok zd11
        rw [if_pos (by rfl)]
        have hown := (hGK hR.not).2.1
        refine wp_append_lies _ (.tmp 40) (.tmp 50) 26 (by rfl) base 99 i0 _ 4 56 Tryz.underlying26 hi0 hz0 hz1 hz2 (by rfl) (by omega) (.slice A0 al.length c0) (al.length) (askV al) ?_ hown ⟨g_11, 0, none⟩ 1 1 [.string ⟨a1.toArray⟩, .slice (some ⟨g, 0, none⟩) 0 0, .bool mb, .int .i64 sp] ?_ (by rfl) (World.news_of_block (cs := #[.string ⟨a1.toArray⟩, .slice (some ⟨g, 0, none⟩) 0 0, .bool mb, .int .i64 sp]) (t := 99) (fr := (0, 0)) b11_0) (by simp [Value.oneCell']) (by omega) (by simp [maxLen]; omega) (by omega) (by omega) zw1.heap.size rfl ?_
        ·show a.tmps.getD 40 undef = _; simp [ze40, zf1]
        ·show a.tmps.getD 50 undef = _; simp [ze50, zf11]
        intro g5 cap5 zw2 hown5 hgrow hat hlt5
        have hT := mod_grown hgrow
        have hTb : ∀ j, (.slice A0 al.length c0 : Value).ownBlock = some j → base ≤ j := own_block hown
        have hTl : ∀ j, (.slice A0 al.length c0 : Value).ownBlock = some j → j < w5.heap.size := HOL.out
        refine hK _ _ (InvF.last (PB.writes hI.1 (fun j hj hl => ⟨own_block HJ5.out.2.1 j hj, fun ⟨arr, fr, hs⟩ => absurd (own_ty HJ5.out.2.1 hj hs) (by decide)⟩) hT ⟨fun hs => absurd hs (by rw [upd_same]; decide), (hG1.mod hT (fun h => by have h2 := hG1; unfold Blk at h2; exact absurd (own_ty (hGK hR.not).2.1 h h2) (by decide)))⟩) ⟨_, _, upd_same V 12 _, (hGK hR.not).rewA hgrow (by simpa [askV_snoc, askC, HTN.out] using hown5) (by simp) (fun y hy => (List.mem_append.1 hy).elim (fun h => (hGK hR.not).2.2.2 y h) (fun h => by rw [List.mem_singleton.1 h]; exact HXS.out _ hG1))⟩ ?_)
        intro k hk hDk hlv
        have hkl := hR.lt k hDk
        have hv := hI.2 k hDk (liveB_of hlv)
        match k, hk, hDk, hlv, hkl, hv with
        | 0, _, _, _, _, hv => exact hv
        | 1, _, _, _, _, hv => exact hv
        | 2, _, _, _, _, hv => exact hv
        | 3, _, _, _, _, hv => exact hv
        | 4, _, _, _, _, hv => exact hv
        | 5, _, _, _, _, hv => exact hv
        | 6, _, _, _, _, hv => exact hv
        | 7, _, _, _, _, hv => exact hv
        | 8, _, _, _, _, hv => exact hv
        | 9, _, _, _, _, hv => exact hv
        | 10, _, _, _, _, hv => exact hv
        | 11, _, _, hlv, _, _ => exact absurd hlv (by show ¬ (!upd D 12 true 12) = true; rw [upd_same]; decide)
        | 12, hk, _, _, _, _ => exact absurd rfl hk
        | 13, _, _, _, _, hv => exact hv
        | 14, _, hDk, _, _, _ => exact absurd hDk (by rw [hR.later 14 rfl (by kernel_rfl)]; decide)
        | k + 15, _, _, _, hkl, _ => exact absurd hkl (by simp)
       ·intro D V zw1 a hR hI K hK
        obtain ⟨hM1, hB1, hG1⟩ := hI.1
        obtain ⟨hGK, hG1⟩ := hG1
        have ze1 := hR.frame.other (t := 1) (by kernel_rfl) rfl
        rw [if_pos (by rfl)]
        go_simp
        exact hK (.pointer (some ⟨gl, 0, none⟩)) _ (hI.next hR (by kernel_rfl) (Mod.refl _ _) (PB.quiet hI.1 (Mod.refl _ _) (HGs.out D 13 zw1 zw1 (by omega) (hI.1).g (Mod.refl _ _))) (upd_same V 13 _))
       ·intro D V zw1 a hR hI K hK
        obtain ⟨hM1, hB1, hG1⟩ := hI.1
        obtain ⟨hGK, hG1⟩ := hG1
        have zd13 := hR.pred 13 (by kernel_rfl)
        have zF13 : V 13 = .pointer (some ⟨gl, 0, none⟩) := hI.2 13 zd13 rfl
        have zf13 := zF13; clear zF13
        have zd12 := hR.pred 12 (by kernel_rfl)
        have zF12 : ∃ (g_12 : Nat) (c_12 : Nat), V 12 = .slice (some ⟨g_12, 0, none⟩) (al.length + 1) c_12 ∧ RdJ zw1 base gl (.slice A0 al.length c0) (.slice A2 rs.length c2) (.slice (some ⟨g_12, 0, none⟩) (al.length + 1) c_12) (.slice A2 rs.length c2) (al ++ [⟨a1, some ⟨g, 0, none⟩, 0, t, mb, sp⟩]) rs := hI.2 12 zd12 (by show (!D 14) = true; rw [hR.not]; rfl)
        obtain ⟨g_12, c_12, zf12, b12_0⟩ := zF12
        have ze52 := hR.frame.done (t := 52) (j := 13) (by kernel_rfl) hR.ok zd13
        have ze51 := hR.frame.done (t := 51) (j := 12) (by kernel_rfl) hR.ok zd12
        rw [if_pos (by rfl)]
        have hP := b12_0
        have zx0 := hP.1.cell 0
        have zy0 := hP.1.frozen 0
        simp at zx0
        have hSt := hP.storeA
        go_simp
        refine hK undef _ (InvF.last ⟨hM1.setCell (.inl HSG.out) _, (by simpa using hB1), ⟨fun hs => absurd hs (by rw [upd_ne _ _ (by omega), hR.pred 12 (by kernel_rfl)]; decide), hG1.far (by show g ≠ gl; omega) _⟩⟩ ⟨upd_same _ 14 _, RdX.of hSt (by simp)⟩ ?_)
        intro k hk hDk hlv
        have hkl := hR.lt k hDk
        have hv := hI.2 k hDk (liveB_of hlv)
        match k, hk, hDk, hlv, hkl, hv with
        | 0, _, _, _, _, hv => exact hv
        | 1, _, _, _, _, hv => exact hv
        | 2, _, _, _, _, hv => exact hv
        | 3, _, _, _, _, hv => exact hv
        | 4, _, _, _, _, hv => exact hv
        | 5, _, _, _, _, hv => exact hv
        | 6, _, _, _, _, hv => exact hv
        | 7, _, _, _, _, hv => exact hv
        | 8, _, _, _, _, hv => exact hv
        | 9, _, _, _, _, hv => exact hv
        | 10, _, _, _, _, hv => exact hv
        | 11, _, _, hlv, _, _ => exact absurd hlv (by show ¬ (!upd D 14 true 12) = true; rw [upd_ne _ _ (by omega), hR.pred 12 (by kernel_rfl)]; decide)
        | 12, _, _, hlv, _, _ => exact absurd hlv (by show ¬ (!upd D 14 true 14) = true; rw [upd_same]; decide)
        | 13, _, _, _, _, hv => exact hv
        | 14, hk, _, _, _, _ => exact absurd rfl hk
        | k + 15, _, _, _, hkl, _ => exact absurd hkl (by simp)
      ·intro D V w6 hD hI
       obtain ⟨hM1, hB1, hG1⟩ := hI.1
       have hMx := hM1
       clear hM1
       have hBx := hB1
       clear hB1
       have hGx := hG1.2
       clear hG1
       have zF0 : V 0 = .pointer (some ⟨gl, 0, none⟩) := hI.2 0 (hD 0 (by decide)) rfl
       have zf0 := zF0; clear zF0
       have zF1 : V 1 = .slice A0 al.length c0 := hI.2 1 (hD 1 (by decide)) rfl
       have zf1 := zF1; clear zF1
       have zF2 : V 2 = .slice (some ⟨g, 0, none⟩) 4 4 := hI.2 2 (hD 2 (by decide)) rfl
       have zf2 := zF2; clear zF2
       have zF3 : V 3 = .pointer (some ⟨g, 1, none⟩) := hI.2 3 (hD 3 (by decide)) rfl
       have zf3 := zF3; clear zF3
       have zF4 : V 4 = .string ⟨a1.toArray⟩ := hI.2 4 (hD 4 (by decide)) rfl
       have zf4 := zF4; clear zF4
       have zF5 : V 5 = .int .i64 kd := hI.2 5 (hD 5 (by decide)) rfl
       have zf5 := zF5; clear zF5
       have zF6 : V 6 = .bool mb := hI.2 6 (hD 6 (by decide)) rfl
       have zf6 := zF6; clear zF6
       have zF7 : V 7 = .int .i64 sp := hI.2 7 (hD 7 (by decide)) rfl
       have zf7 := zF7; clear zF7
       have zF8 : V 8 = .slice (some ⟨g, 0, none⟩) 4 4 := hI.2 8 (hD 8 (by decide)) rfl
       have zf8 := zF8; clear zF8
       have zF9 : V 9 = .slice (some ⟨g, 0, none⟩) 0 0 := hI.2 9 (hD 9 (by decide)) rfl
       have zf9 := zF9; clear zF9
       have zF10 : V 10 = .agg #[.string ⟨a1.toArray⟩, .slice (some ⟨g, 0, none⟩) 0 0, .bool mb, .int .i64 sp] := hI.2 10 (hD 10 (by decide)) rfl
       have zf10 := zF10; clear zF10
       have zF13 : V 13 = .pointer (some ⟨gl, 0, none⟩) := hI.2 13 (hD 13 (by decide)) rfl
       have zf13 := zF13; clear zF13
       have zF14 : V 14 = undef ∧ RdX w6 base gl (.slice A2 rs.length c2) (.slice A2 rs.length c2) (al ++ [⟨a1, some ⟨g, 0, none⟩, 0, t, mb, sp⟩]) rs := hI.2 14 (hD 14 (by decide)) rfl
       obtain ⟨zf14, b14_0⟩ := zF14
       clear hI hD HGs
       simp only [frAll, Act.put, List.setIfInBounds_toArray, List.set_cons_zero, List.set_cons_succ, Nat.zero_add, Nat.reduceAdd, zf0, zf1, zf2, zf3, zf4, zf5, zf6, zf7, zf8, zf9, zf10, zf13, zf14]
       clear zf0 zf1 zf2 zf3 zf4 zf5 zf6 zf7 zf8 zf9 zf10 zf13 zf14
       generalize V 11 = u11
       generalize V 12 = u12
       clear V D
       have HX6 := Lib.hid b14_0
       have HK6 : Hid (KeepS base w5 w6) := Lib.hid hMx
       clear hMx hBx hGx b14_0 HB5 HJ5 HXS HIX1 HIX2
       have HKB := Lib.hid (Int.le_total 0 kd)
       by_cases hk0 : 0 ≤ kd
       ·by_cases hs0 : 0 ≤ sp
        ·go_wp2_with fail
         go_ret
         have HF1 := HOK.out.1 hk0 hs0
         rw [HF1]
         refine ⟨rfl, (KeepS.of_pure HM5.out).trans HK6.out, fun S' hS => ?_⟩
         cases hS
         obtain ⟨g5, c5, hJ⟩ := HX6.out
         exact ⟨_, c5, A2, c2, al ++ [⟨a1, some ⟨g, 0, none⟩, 0, t, mb, sp⟩], hJ.1, hJ.2.1, hJ.2.2.1, hJ.2.2.2, by rw [List.map_append, HQ.out]; rfl, by simp only [List.length_append, List.length_singleton]; omega, h7⟩
        ·go_wp2_with fail
         go_ret
         rw [HOK.out.2 (fun h => by have := h.2; omega)]
         exact ⟨rfl, (KeepS.of_pure HM5.out).trans HK6.out, fun S' hS => by cases hS⟩
       ·go_wp2_with fail
        go_ret
        rw [HOK.out.2 (fun h => by have := h.1; omega)]
        exact ⟨rfl, (KeepS.of_pure HM5.out).trans HK6.out, fun S' hS => (by cases hS)⟩
     ·have hm1 : 1 ≤ m := by omega
      have k1 : (1 : Int) < (m : Int) + 4 := by omega
      have k2 : (2 : Int) < (m : Int) + 4 := by omega
      have k3 : (3 : Int) < (m : Int) + 4 := by omega
      have k4 : (4 : Int) ≤ (m : Int) + 4 := by omega
      have HC4 : Hid (¬ m + 4 = 4) := Lib.hid (by omega)
      have HXS : Hid (∀ W, Blk W g 9 (strsV (a0 :: a1 :: a2 :: a3 :: t)).toArray → Sl W 9 1 (.slice (some ⟨g, 4, none⟩) t.length m) (strsV t)) := Lib.hid (fun W h => ⟨_, _, _, rfl, by rw [HTN.out]; omega, by omega, by simp [strsV], fun _ => ⟨g, 4, rfl, h.row (fun i u hi => by
        have := hi
        simp only [strsV, List.map_cons, List.getElem?_toArray] at this ⊢
        rw [Nat.add_comm 4 i]
        simpa using this)⟩⟩)
      have HGs := Lib.hid (show ∀ (D : Nat → Bool) (zzi : Nat) (zq zq' : World), zzi ≠ 12 → (fun D zq => (D 12 = false → (fun Z => RdJ Z base gl (.slice A0 al.length c0) (.slice A2 rs.length c2) (.slice A0 al.length c0) (.slice A2 rs.length c2) al rs) zq) ∧ (fun Z => Blk Z g 9 (strsV (a0 :: a1 :: a2 :: a3 :: t)).toArray) zq) D zq → Mod (fun _ => False) zq zq' → (fun D zq => (D 12 = false → (fun Z => RdJ Z base gl (.slice A0 al.length c0) (.slice A2 rs.length c2) (.slice A0 al.length c0) (.slice A2 rs.length c2) al rs) zq) ∧ (fun Z => Blk Z g 9 (strsV (a0 :: a1 :: a2 :: a3 :: t)).toArray) zq) (upd D zzi true) zq' from by intro D zzi zq zq' hi hh hm; refine ⟨fun hs => ?_, ?_⟩; (rw [upd_ne _ _ (Ne.symm hi)] at hs; have h := hh.1 hs; (exact h.pure hm)); (have h := hh.2; (exact h.modp hm)))
      refine wp_region_inv (by kernel_rfl) (by kernel_rfl) (InvF (R := Mod (fun _ => False)) [.is (.pointer (some ⟨gl, 0, none⟩)),
        .is (.slice A0 al.length c0),
        .is (.slice (some ⟨g, 0, none⟩) (m + 4) (m + 4)),
        .is (.pointer (some ⟨g, 1, none⟩)),
        .is (.string ⟨a1.toArray⟩),
        .is (.int .i64 kd),
        .is (.bool mb),
        .is (.int .i64 sp),
        .is (.slice (some ⟨g, 0, none⟩) (m + 4) (m + 4)),
        .is (.slice (some ⟨g, 4, none⟩) m m),
        .is (.agg #[.string ⟨a1.toArray⟩, .slice (some ⟨g, 4, none⟩) m m, .bool mb, .int .i64 sp]),
        ⟨fun zv zw => ∃ (g_11 : Nat), zv = .slice (some ⟨g_11, 0, none⟩) 1 1 ∧ w5.heap.size ≤ g_11 ∧ Blk zw g_11 99 #[.string ⟨a1.toArray⟩, .slice (some ⟨g, 4, none⟩) m m, .bool mb, .int .i64 sp], (by rintro zv zw zx ⟨g_11, rfl, c0, q0⟩ hm; exact ⟨g_11, rfl, c0, (q0.modp hm)⟩), none, some 12⟩,
        ⟨fun zv zw => ∃ (g_12 : Nat) (c_12 : Nat), zv = .slice (some ⟨g_12, 0, none⟩) (al.length + 1) c_12 ∧ RdJ zw base gl (.slice A0 al.length c0) (.slice A2 rs.length c2) (.slice (some ⟨g_12, 0, none⟩) (al.length + 1) c_12) (.slice A2 rs.length c2) (al ++ [⟨a1, some ⟨g, 4, none⟩, m, t, mb, sp⟩]) rs, (by rintro zv zw zx ⟨g_12, c_12, rfl, q0⟩ hm; exact ⟨g_12, c_12, rfl, (q0.pure hm)⟩), none, some 14⟩,
        .is (.pointer (some ⟨gl, 0, none⟩)),
        ⟨fun zv zw => zv = undef ∧ RdX zw base gl (.slice A2 rs.length c2) (.slice A2 rs.length c2) (al ++ [⟨a1, some ⟨g, 4, none⟩, m, t, mb, sp⟩]) rs, (by rintro zv zw zx ⟨rfl, q0⟩ hm; exact ⟨rfl, (q0.pure hm)⟩), none, none⟩]
        (PB w5 (fun k => base ≤ k ∧ ¬ StrBk w5 k) w5.heap.size (fun D zq => (D 12 = false → (fun Z => RdJ Z base gl (.slice A0 al.length c0) (.slice A2 rs.length c2) (.slice A0 al.length c0) (.slice A2 rs.length c2) al rs) zq) ∧ (fun Z => Blk Z g 9 (strsV (a0 :: a1 :: a2 :: a3 :: t)).toArray) zq))) (InvF.start (PB.start (Mod.refl _ _) (Nat.le_refl _) (⟨fun _ => HJ5.out.pure ((Mod.refl _ _).drew), HB5.out.drew⟩))) ?_ ?_
      ·refine .cons ?_ (.cons ?_ (.cons ?_ (.cons ?_ (.cons ?_ (.cons ?_ (.cons ?_ (.cons ?_ (.cons ?_ (.cons ?_ (.cons ?_ (.cons ?_ (.cons ?_ (.cons ?_ (.cons ?_ .nil))))))))))))))
       ·intro D V zw1 a hR hI K hK
        obtain ⟨hM1, hB1, hG1⟩ := hI.1
        obtain ⟨hGK, hG1⟩ := hG1
        have ze1 := hR.frame.other (t := 1) (by kernel_rfl) rfl
        rw [if_pos (by rfl)]
        go_simp
        exact hK (.pointer (some ⟨gl, 0, none⟩)) _ (hI.next hR (by kernel_rfl) (Mod.refl _ _) (PB.quiet hI.1 (Mod.refl _ _) (HGs.out D 0 zw1 zw1 (by omega) (hI.1).g (Mod.refl _ _))) (upd_same V 0 _))
       ·intro D V zw1 a hR hI K hK
        obtain ⟨hM1, hB1, hG1⟩ := hI.1
        obtain ⟨hGK, hG1⟩ := hG1
        have zd0 := hR.pred 0 (by kernel_rfl)
        have zF0 : V 0 = .pointer (some ⟨gl, 0, none⟩) := hI.2 0 zd0 rfl
        have zf0 := zF0; clear zF0
        have ze39 := hR.frame.done (t := 39) (j := 0) (by kernel_rfl) hR.ok zd0
        have zB := (hGK (hR.later 12 rfl (by kernel_rfl))).1
        have zx0 := zB.cell 0
        simp at zx0
        rw [if_pos (by rfl)]
        go_simp
        exact hK (.slice A0 al.length c0) _ (hI.next hR (by kernel_rfl) (Mod.refl _ _) (PB.quiet hI.1 (Mod.refl _ _) (HGs.out D 1 zw1 zw1 (by omega) (hI.1).g (Mod.refl _ _))) (upd_same V 1 _))
       ·intro D V zw1 a hR hI K hK
        obtain ⟨hM1, hB1, hG1⟩ := hI.1
        obtain ⟨hGK, hG1⟩ := hG1
        have ze4 := hR.frame.other (t := 4) (by kernel_rfl) rfl
        rw [if_pos (by rfl)]
        go_simp
        exact hK (.slice (some ⟨g, 0, none⟩) (m + 4) (m + 4)) _ (hI.next hR (by kernel_rfl) (Mod.refl _ _) (PB.quiet hI.1 (Mod.refl _ _) (HGs.out D 2 zw1 zw1 (by omega) (hI.1).g (Mod.refl _ _))) (upd_same V 2 _))
       ·intro D V zw1 a hR hI K hK
        obtain ⟨hM1, hB1, hG1⟩ := hI.1
        obtain ⟨hGK, hG1⟩ := hG1
        have zd2 := hR.pred 2 (by kernel_rfl)
        have zF2 : V 2 = .slice (some ⟨g, 0, none⟩) (m + 4) (m + 4) := hI.2 2 zd2 rfl
        have zf2 := zF2; clear zF2
        have ze41 := hR.frame.done (t := 41) (j := 2) (by kernel_rfl) hR.ok zd2
        rw [if_pos (by rfl)]
        go_simp
        exact hK (.pointer (some ⟨g, 1, none⟩)) _ (hI.next hR (by kernel_rfl) (Mod.refl _ _) (PB.quiet hI.1 (Mod.refl _ _) (HGs.out D 3 zw1 zw1 (by omega) (hI.1).g (Mod.refl _ _))) (upd_same V 3 _))
       ·intro D V zw1 a hR hI K hK
        obtain ⟨hM1, hB1, hG1⟩ := hI.1
        obtain ⟨hGK, hG1⟩ := hG1
        have zd3 := hR.pred 3 (by kernel_rfl)
        have zF3 : V 3 = .pointer (some ⟨g, 1, none⟩) := hI.2 3 zd3 rfl
        have zf3 := zF3; clear zF3
        have ze42 := hR.frame.done (t := 42) (j := 3) (by kernel_rfl) hR.ok zd3
        have zx0 := hG1.cell 1; simp [strsV] at zx0
        rw [if_pos (by rfl)]
        go_simp
        exact hK (.string ⟨a1.toArray⟩) _ (hI.next hR (by kernel_rfl) (Mod.refl _ _) (PB.quiet hI.1 (Mod.refl _ _) (HGs.out D 4 zw1 zw1 (by omega) (hI.1).g (Mod.refl _ _))) (upd_same V 4 _))
       ·intro D V zw1 a hR hI K hK
        obtain ⟨hM1, hB1, hG1⟩ := hI.1
        obtain ⟨hGK, hG1⟩ := hG1
        have ze5 := hR.frame.other (t := 5) (by kernel_rfl) rfl
        rw [if_pos (by rfl)]
        go_simp
        exact hK (.int .i64 kd) _ (hI.next hR (by kernel_rfl) (Mod.refl _ _) (PB.quiet hI.1 (Mod.refl _ _) (HGs.out D 5 zw1 zw1 (by omega) (hI.1).g (Mod.refl _ _))) (upd_same V 5 _))
       ·intro D V zw1 a hR hI K hK
        obtain ⟨hM1, hB1, hG1⟩ := hI.1
        obtain ⟨hGK, hG1⟩ := hG1
        have zd5 := hR.pred 5 (by kernel_rfl)
        have zF5 : V 5 = .int .i64 kd := hI.2 5 zd5 rfl
        have zf5 := zF5; clear zF5
        have ze44 := hR.frame.done (t := 44) (j := 5) (by kernel_rfl) hR.ok zd5
        have zmb := HMB.out
        rw [if_pos (by rfl)]
        go_simp
        exact hK (.bool mb) _ (hI.next hR (by kernel_rfl) (Mod.refl _ _) (PB.quiet hI.1 (Mod.refl _ _) (HGs.out D 6 zw1 zw1 (by omega) (hI.1).g (Mod.refl _ _))) (upd_same V 6 _))
       ·intro D V zw1 a hR hI K hK
        obtain ⟨hM1, hB1, hG1⟩ := hI.1
        obtain ⟨hGK, hG1⟩ := hG1
        have ze6 := hR.frame.other (t := 6) (by kernel_rfl) rfl
        rw [if_pos (by rfl)]
        go_simp
        exact hK (.int .i64 sp) _ (hI.next hR (by kernel_rfl) (Mod.refl _ _) (PB.quiet hI.1 (Mod.refl _ _) (HGs.out D 7 zw1 zw1 (by omega) (hI.1).g (Mod.refl _ _))) (upd_same V 7 _))
       ·intro D V zw1 a hR hI K hK
        obtain ⟨hM1, hB1, hG1⟩ := hI.1
        obtain ⟨hGK, hG1⟩ := hG1
        have ze4 := hR.frame.other (t := 4) (by kernel_rfl) rfl
        rw [if_pos (by rfl)]
        go_simp
        exact hK (.slice (some ⟨g, 0, none⟩) (m + 4) (m + 4)) _ (hI.next hR (by kernel_rfl) (Mod.refl _ _) (PB.quiet hI.1 (Mod.refl _ _) (HGs.out D 8 zw1 zw1 (by omega) (hI.1).g (Mod.refl _ _))) (upd_same V 8 _))
       ·intro D V zw1 a hR hI K hK
        obtain ⟨hM1, hB1, hG1⟩ := hI.1
        obtain ⟨hGK, hG1⟩ := hG1
        have zd8 := hR.pred 8 (by kernel_rfl)
        have zF8 : V 8 = .slice (some ⟨g, 0, none⟩) (m + 4) (m + 4) := hI.2 8 zd8 rfl
        have zf8 := zF8; clear zF8
        have ze47 := hR.frame.done (t := 47) (j := 8) (by kernel_rfl) hR.ok zd8
        have zc4 := HC4.out
        rw [if_pos (by rfl)]
        go_simp
        exact hK (.slice (some ⟨g, 4, none⟩) m m) _ (hI.next hR (by kernel_rfl) (Mod.refl _ _) (PB.quiet hI.1 (Mod.refl _ _) (HGs.out D 9 zw1 zw1 (by omega) (hI.1).g (Mod.refl _ _))) (upd_same V 9 _))
       ·intro D V zw1 a hR hI K hK
        obtain ⟨hM1, hB1, hG1⟩ := hI.1
        obtain ⟨hGK, hG1⟩ := hG1
        have zd4 := hR.pred 4 (by kernel_rfl)
        have zF4 : V 4 = .string ⟨a1.toArray⟩ := hI.2 4 zd4 rfl
        have zf4 := zF4; clear zF4
        have zd6 := hR.pred 6 (by kernel_rfl)
        have zF6 : V 6 = .bool mb := hI.2 6 zd6 rfl
        have zf6 := zF6; clear zF6
        have zd7 := hR.pred 7 (by kernel_rfl)
        have zF7 : V 7 = .int .i64 sp := hI.2 7 zd7 rfl
        have zf7 := zF7; clear zF7
        have zd9 := hR.pred 9 (by kernel_rfl)
        have zF9 : V 9 = .slice (some ⟨g, 4, none⟩) m m := hI.2 9 zd9 rfl
        have zf9 := zF9; clear zF9
        have ze43 := hR.frame.done (t := 43) (j := 4) (by kernel_rfl) hR.ok zd4
        have ze45 := hR.frame.done (t := 45) (j := 6) (by kernel_rfl) hR.ok zd6
        have ze46 := hR.frame.done (t := 46) (j := 7) (by kernel_rfl) hR.ok zd7
        have ze48 := hR.frame.done (t := 48) (j := 9) (by kernel_rfl) hR.ok zd9
        rw [if_pos (by rfl)]
        go_simp
        exact hK (_) _ (hI.next hR (by kernel_rfl) (Mod.refl _ _) (PB.quiet hI.1 (Mod.refl _ _) (HGs.out D 10 zw1 zw1 (by omega) (hI.1).g (Mod.refl _ _))) (upd_same V 10 _))
       ·intro D V zw1 a hR hI K hK
        obtain ⟨hM1, hB1, hG1⟩ := hI.1
        obtain ⟨hGK, hG1⟩ := hG1
        have zd10 := hR.pred 10 (by kernel_rfl)
        have zF10 : V 10 = .agg #[.string ⟨a1.toArray⟩, .slice (some ⟨g, 4, none⟩) m m, .bool mb, .int .i64 sp] := hI.2 10 zd10 rfl
        have zf10 := zF10; clear zF10
        have ze49 := hR.frame.done (t := 49) (j := 10) (by kernel_rfl) hR.ok zd10
        rw [if_pos (by rfl)]
        go_simp
        exact hK (_) _ (hI.next hR (by kernel_rfl) ((Mod.refl _ _).alloc _) (PB.quiet hI.1 (pure_alloc _ _) (HGs.out D 11 _ _ (by omega) (hI.1).g ((Mod.refl _ _).alloc _))) (⟨_, upd_same V 11 _, (by omega), (Blk.new _ _ _)⟩))
       ·intro D V zw1 a hR hI K hK
        obtain ⟨hM1, hB1, hG1⟩ := hI.1
        obtain ⟨hGK, hG1⟩ := hG1
        have zd1 := hR.pred 1 (by kernel_rfl)
        have zF1 : V 1 = .slice A0 al.length c0 := hI.2 1 zd1 rfl
        have zf1 := zF1; clear zF1
        have zd11 := hR.pred 11 (by kernel_rfl)
        have zF11 : ∃ (g_11 : Nat), V 11 = .slice (some ⟨g_11, 0, none⟩) 1 1 ∧ w5.heap.size ≤ g_11 ∧ Blk zw1 g_11 99 #[.string ⟨a1.toArray⟩, .slice (some ⟨g, 4, none⟩) m m, .bool mb, .int .i64 sp] := hI.2 11 zd11 (by show (!D 12) = true; rw [hR.not]; rfl)
        obtain ⟨g_11, zf11, c11_0, b11_0⟩ := zF11
        have ze40 := hR.frame.done (t := 40) (j := 1) (by kernel_rfl) hR.ok zd1
        have ze50 := hR.frame.done (t := 50) (j := 11) (by kernel_rfl) hR.ok zd11
        rw [if_pos (by rfl)]
        have hown := (hGK hR.not).2.1
        refine wp_append_lies _ (.tmp 40) (.tmp 50) 26 (by rfl) base 99 i0 _ 4 56 Tryz.underlying26 hi0 hz0 hz1 hz2 (by rfl) (by omega) (.slice A0 al.length c0) (al.length) (askV al) ?_ hown ⟨g_11, 0, none⟩ 1 1 [.string ⟨a1.toArray⟩, .slice (some ⟨g, 4, none⟩) m m, .bool mb, .int .i64 sp] ?_ (by rfl) (World.news_of_block (cs := #[.string ⟨a1.toArray⟩, .slice (some ⟨g, 4, none⟩) m m, .bool mb, .int .i64 sp]) (t := 99) (fr := (0, 0)) b11_0) (by simp [Value.oneCell']) (by omega) (by simp [maxLen]; omega) (by omega) (by omega) zw1.heap.size rfl ?_
        ·show a.tmps.getD 40 undef = _; simp [ze40, zf1]
        ·show a.tmps.getD 50 undef = _; simp [ze50, zf11]
        intro g5 cap5 zw2 hown5 hgrow hat hlt5
        have hT := mod_grown hgrow
        have hTb : ∀ j, (.slice A0 al.length c0 : Value).ownBlock = some j → base ≤ j := own_block hown
        have hTl : ∀ j, (.slice A0 al.length c0 : Value).ownBlock = some j → j < w5.heap.size := HOL.out
        refine hK _ _ (InvF.last (PB.writes hI.1 (fun j hj hl => ⟨own_block HJ5.out.2.1 j hj, fun ⟨arr, fr, hs⟩ => absurd (own_ty HJ5.out.2.1 hj hs) (by decide)⟩) hT ⟨fun hs => absurd hs (by rw [upd_same]; decide), (hG1.mod hT (fun h => by have h2 := hG1; unfold Blk at h2; exact absurd (own_ty (hGK hR.not).2.1 h h2) (by decide)))⟩) ⟨_, _, upd_same V 12 _, (hGK hR.not).rewA hgrow (by simpa [askV_snoc, askC, HTN.out] using hown5) (by simp) (fun y hy => (List.mem_append.1 hy).elim (fun h => (hGK hR.not).2.2.2 y h) (fun h => by rw [List.mem_singleton.1 h]; exact HXS.out _ hG1))⟩ ?_)
        intro k hk hDk hlv
        have hkl := hR.lt k hDk
        have hv := hI.2 k hDk (liveB_of hlv)
        match k, hk, hDk, hlv, hkl, hv with
        | 0, _, _, _, _, hv => exact hv
        | 1, _, _, _, _, hv => exact hv
        | 2, _, _, _, _, hv => exact hv
        | 3, _, _, _, _, hv => exact hv
        | 4, _, _, _, _, hv => exact hv
        | 5, _, _, _, _, hv => exact hv
        | 6, _, _, _, _, hv => exact hv
        | 7, _, _, _, _, hv => exact hv
        | 8, _, _, _, _, hv => exact hv
        | 9, _, _, _, _, hv => exact hv
        | 10, _, _, _, _, hv => exact hv
        | 11, _, _, hlv, _, _ => exact absurd hlv (by show ¬ (!upd D 12 true 12) = true; rw [upd_same]; decide)
        | 12, hk, _, _, _, _ => exact absurd rfl hk
        | 13, _, _, _, _, hv => exact hv
        | 14, _, hDk, _, _, _ => exact absurd hDk (by rw [hR.later 14 rfl (by kernel_rfl)]; decide)
        | k + 15, _, _, _, hkl, _ => exact absurd hkl (by simp)
       ·intro D V zw1 a hR hI K hK
        obtain ⟨hM1, hB1, hG1⟩ := hI.1
        obtain ⟨hGK, hG1⟩ := hG1
        have ze1 := hR.frame.other (t := 1) (by kernel_rfl) rfl
        rw [if_pos (by rfl)]
        go_simp
        exact hK (.pointer (some ⟨gl, 0, none⟩)) _ (hI.next hR (by kernel_rfl) (Mod.refl _ _) (PB.quiet hI.1 (Mod.refl _ _) (HGs.out D 13 zw1 zw1 (by omega) (hI.1).g (Mod.refl _ _))) (upd_same V 13 _))
       ·intro D V zw1 a hR hI K hK
        obtain ⟨hM1, hB1, hG1⟩ := hI.1
        obtain ⟨hGK, hG1⟩ := hG1
        have zd13 := hR.pred 13 (by kernel_rfl)
        have zF13 : V 13 = .pointer (some ⟨gl, 0, none⟩) := hI.2 13 zd13 rfl
        have zf13 := zF13; clear zF13
        have zd12 := hR.pred 12 (by kernel_rfl)
        have zF12 : ∃ (g_12 : Nat) (c_12 : Nat), V 12 = .slice (some ⟨g_12, 0, none⟩) (al.length + 1) c_12 ∧ RdJ zw1 base gl (.slice A0 al.length c0) (.slice A2 rs.length c2) (.slice (some ⟨g_12, 0, none⟩) (al.length + 1) c_12) (.slice A2 rs.length c2) (al ++ [⟨a1, some ⟨g, 4, none⟩, m, t, mb, sp⟩]) rs := hI.2 12 zd12 (by show (!D 14) = true; rw [hR.not]; rfl)
        obtain ⟨g_12, c_12, zf12, b12_0⟩ := zF12
        have ze52 := hR.frame.done (t := 52) (j := 13) (by kernel_rfl) hR.ok zd13
        have ze51 := hR.frame.done (t := 51) (j := 12) (by kernel_rfl) hR.ok zd12
        rw [if_pos (by rfl)]
        have hP := b12_0
        have zx0 := hP.1.cell 0
        have zy0 := hP.1.frozen 0
        simp at zx0
        have hSt := hP.storeA
        go_simp
        refine hK undef _ (InvF.last ⟨hM1.setCell (.inl HSG.out) _, (by simpa using hB1), ⟨fun hs => absurd hs (by rw [upd_ne _ _ (by omega), hR.pred 12 (by kernel_rfl)]; decide), hG1.far (by show g ≠ gl; omega) _⟩⟩ ⟨upd_same _ 14 _, RdX.of hSt (by simp)⟩ ?_)
        intro k hk hDk hlv
        have hkl := hR.lt k hDk
        have hv := hI.2 k hDk (liveB_of hlv)
        match k, hk, hDk, hlv, hkl, hv with
        | 0, _, _, _, _, hv => exact hv
        | 1, _, _, _, _, hv => exact hv
        | 2, _, _, _, _, hv => exact hv
        | 3, _, _, _, _, hv => exact hv
        | 4, _, _, _, _, hv => exact hv
        | 5, _, _, _, _, hv => exact hv
        | 6, _, _, _, _, hv => exact hv
        | 7, _, _, _, _, hv => exact hv
        | 8, _, _, _, _, hv => exact hv
        | 9, _, _, _, _, hv => exact hv
        | 10, _, _, _, _, hv => exact hv
        | 11, _, _, hlv, _, _ => exact absurd hlv (by show ¬ (!upd D 14 true 12) = true; rw [upd_ne _ _ (by omega), hR.pred 12 (by kernel_rfl)]; decide)
        | 12, _, _, hlv, _, _ => exact absurd hlv (by show ¬ (!upd D 14 true 14) = true; rw [upd_same]; decide)
        | 13, _, _, _, _, hv => exact hv
        | 14, hk, _, _, _, _ => exact absurd rfl hk
        | k + 15, _, _, _, hkl, _ => exact absurd hkl (by simp)
      ·intro D V w6 hD hI
       obtain ⟨hM1, hB1, hG1⟩ := hI.1
       have hMx := hM1
       clear hM1
       have hBx := hB1
       clear hB1
       have hGx := hG1.2
       clear hG1
       have zF0 : V 0 = .pointer (some ⟨gl, 0, none⟩) := hI.2 0 (hD 0 (by decide)) rfl
       have zf0 := zF0; clear zF0
       have zF1 : V 1 = .slice A0 al.length c0 := hI.2 1 (hD 1 (by decide)) rfl
       have zf1 := zF1; clear zF1
       have zF2 : V 2 = .slice (some ⟨g, 0, none⟩) (m + 4) (m + 4) := hI.2 2 (hD 2 (by decide)) rfl
       have zf2 := zF2; clear zF2
       have zF3 : V 3 = .pointer (some ⟨g, 1, none⟩) := hI.2 3 (hD 3 (by decide)) rfl
       have zf3 := zF3; clear zF3
       have zF4 : V 4 = .string ⟨a1.toArray⟩ := hI.2 4 (hD 4 (by decide)) rfl
       have zf4 := zF4; clear zF4
       have zF5 : V 5 = .int .i64 kd := hI.2 5 (hD 5 (by decide)) rfl
       have zf5 := zF5; clear zF5
       have zF6 : V 6 = .bool mb := hI.2 6 (hD 6 (by decide)) rfl
       have zf6 := zF6; clear zF6
       have zF7 : V 7 = .int .i64 sp := hI.2 7 (hD 7 (by decide)) rfl
       have zf7 := zF7; clear zF7
       have zF8 : V 8 = .slice (some ⟨g, 0, none⟩) (m + 4) (m + 4) := hI.2 8 (hD 8 (by decide)) rfl
       have zf8 := zF8; clear zF8
       have zF9 : V 9 = .slice (some ⟨g, 4, none⟩) m m := hI.2 9 (hD 9 (by decide)) rfl
       have zf9 := zF9; clear zF9
       have zF10 : V 10 = .agg #[.string ⟨a1.toArray⟩, .slice (some ⟨g, 4, none⟩) m m, .bool mb, .int .i64 sp] := hI.2 10 (hD 10 (by decide)) rfl
       have zf10 := zF10; clear zF10
       have zF13 : V 13 = .pointer (some ⟨gl, 0, none⟩) := hI.2 13 (hD 13 (by decide)) rfl
       have zf13 := zF13; clear zF13
       have zF14 : V 14 = undef ∧ RdX w6 base gl (.slice A2 rs.length c2) (.slice A2 rs.length c2) (al ++ [⟨a1, some ⟨g, 4, none⟩, m, t, mb, sp⟩]) rs := hI.2 14 (hD 14 (by decide)) rfl
       obtain ⟨zf14, b14_0⟩ := zF14
       clear hI hD HGs
       simp only [frAll, Act.put, List.setIfInBounds_toArray, List.set_cons_zero, List.set_cons_succ, Nat.zero_add, Nat.reduceAdd, zf0, zf1, zf2, zf3, zf4, zf5, zf6, zf7, zf8, zf9, zf10, zf13, zf14]
       clear zf0 zf1 zf2 zf3 zf4 zf5 zf6 zf7 zf8 zf9 zf10 zf13 zf14
       generalize V 11 = u11
       generalize V 12 = u12
       clear V D
       have HX6 := Lib.hid b14_0
       have HK6 : Hid (KeepS base w5 w6) := Lib.hid hMx
       clear hMx hBx hGx b14_0 HB5 HJ5 HXS HIX1 HIX2
       have HKB := Lib.hid (Int.le_total 0 kd)
       by_cases hk0 : 0 ≤ kd
       ·by_cases hs0 : 0 ≤ sp
        ·go_wp2_with fail
         go_ret
         have HF1 := HOK.out.1 hk0 hs0
         rw [HF1]
         refine ⟨rfl, (KeepS.of_pure HM5.out).trans HK6.out, fun S' hS => ?_⟩
         cases hS
         obtain ⟨g5, c5, hJ⟩ := HX6.out
         exact ⟨_, c5, A2, c2, al ++ [⟨a1, some ⟨g, 4, none⟩, m, t, mb, sp⟩], hJ.1, hJ.2.1, hJ.2.2.1, hJ.2.2.2, by rw [List.map_append, HQ.out]; rfl, by simp only [List.length_append, List.length_singleton]; omega, h7⟩
        ·go_wp2_with fail
         go_ret
         rw [HOK.out.2 (fun h => by have := h.2; omega)]
         exact ⟨rfl, (KeepS.of_pure HM5.out).trans HK6.out, fun S' hS => by cases hS⟩
       ·go_wp2_with fail
        go_ret
        rw [HOK.out.2 (fun h => by have := h.1; omega)]
        exact ⟨rfl, (KeepS.of_pure HM5.out).trans HK6.out, fun S' hS => (by cases hS)⟩

end Go.Proofs.YtaidkmnbjbnciaaGreatDoor
