/- Texts of the proof of DecisionTexts, put together: LnsA. -/
import Derived.Test.YtaidkmnbjbnciaaGreatDoorDecisionTextsZ12
import Derived.Test.YtaidkmnbjbnciaaGreatDoorDecisionTextsZ19
import Derived.Test.YtaidkmnbjbnciaaGreatDoorDecisionTextsZ22
import Derived.Test.YtaidkmnbjbnciaaGreatDoorDecisionTextsZ23
import Derived.Test.YtaidkmnbjbnciaaGreatDoorDecisionTextsZ27
/- lines of the program, for any closure that takes the words of a line. -/
namespace Go.Proofs.YtaidkmnbjbnciaaGreatDoor
set_option linter.unusedVariables false
set_option linter.unusedSimpArgs false
open Go.RowKit

theorem Sl.capS0 {w : World} {e : TypeId} {size n c : Nat} {A : Option Addr} {xs : List Value} (h : Sl w e size (.slice A n c) xs) : n ≤ c ∧ c ≤ 9223372036854775807 := by
 obtain ⟨_, _, _, e, h1, h2, _⟩ := h
 cases e
 exact ⟨h1, h2⟩
/-- A block of strings. -/
def StrBk (w : World) (k : Nat) : Prop := ∃ arr fr, w.heap[k]? = some (.cells arr 9 fr)
/-- Only blocks from base on, and no strings, have been written. -/
def KeepS (base : Nat) (w w' : World) : Prop := Mod (fun k => base ≤ k ∧ ¬ StrBk w k) w w'
theorem KeepS.of_pure {base : Nat} {w w' : World} (h : Pure w w') : KeepS base w w' := Mod.of_pure h
theorem KeepS.trans {base : Nat} {a b c : World} (h : KeepS base a b) (k : KeepS base b c) : KeepS base a c :=
 Mod.trans' h k (fun i hi hlt => ⟨hi.1, fun hs => hi.2 (by
  obtain ⟨arr, fr, h1⟩ := hs
  exact ⟨arr, fr, by rw [h.block i hlt (fun hh => hh.2 ⟨arr, fr, h1⟩)]; exact h1⟩)⟩)
theorem KeepS.sl {base : Nat} {w w' : World} {v : Value} {xs : List Value} {size : Nat} (h : KeepS base w w') (hs : Sl w 9 size v xs) : Sl w' 9 size v xs := Sl.mod hs h (fun g arr fr hg hh => hh.2 ⟨arr, fr, hg⟩)
theorem KeepS.pure {base : Nat} {a b c : World} (h : KeepS base b c) (hp : Pure a b) (hb : a.heap.size ≤ base) : Pure a c := hp.trans' h (fun i hi hlt => by have := hi.1; omega)
/-- What a line's words lead to. -/
def wdF {σ : Type} (tk : σ → List Str → Option σ) (S : σ) (l : Str) : Option σ := if [] ∈ wordsL l then none else tk S (wordsL l)
def TkPost {σ : Type} (base : Nat) (R : σ → World → Prop) (o : Option σ) (W : World) (e : Ending) (W' : World) : Prop := e = .returned (.bool o.isSome) ∧ KeepS base W W' ∧ ∀ S', o = some S' → R S' W'
def LnPost {σ : Type} (base : Nat) (w : World) (R : σ → World → Prop) (r : Nat ⊕ σ) (e : Ending) (W' : World) : Prop :=
 KeepS base w W' ∧ (∀ i, r = .inl i → e = .returned (.int .i64 (i : Int))) ∧ ∀ S, r = .inr S → e = .returned (.int .i64 (-1)) ∧ R S W'
def LnRel {σ : Type} (base : Nat) (w : World) (R : Nat → σ → World → Prop) (f : σ → Str → Option σ) (wh : Bool) (ls : List Str) (r : Nat ⊕ σ) (gk : Nat) (i : Value) (wr : World) : Prop :=
 ∃ (k : Nat) (S : σ), ls.length - k = gk ∧ k ≤ ls.length ∧ i = .int .i64 (k : Int) ∧ rdG f wh (ls.drop k) k S = r ∧ R k S wr ∧ KeepS base w wr
theorem rdG_at {σ : Type} (f : σ → Str → Option σ) (wh : Bool) {ls : List Str} {k : Nat} (h : k < ls.length) (S : σ) : rdG f wh (ls.drop k) k S = match f S ls[k] with
  | none => .inl k
  | some S2 => if k + 1 = ls.length ∧ wh = false then .inl k else rdG f wh (ls.drop (k + 1)) (k + 1) S2 := by
 rw [List.drop_eq_getElem_cons h]
 show (match f S ls[k] with | none => Sum.inl k | some S2 => if ls.drop (k + 1) = [] ∧ wh = false then Sum.inl k else rdG f wh (ls.drop (k + 1)) (k + 1) S2) = _
 cases f S ls[k] with
 | none => rfl
 | some S2 =>
  simp only
  have : (ls.drop (k + 1) = []) ↔ k + 1 = ls.length := by
   rw [List.drop_eq_nil_iff]; omega
  simp only [this]
theorem linesQ_P (s : Str) : linesP s = linesQ s := by
 unfold linesP linesQ
 rw [split_byte]
theorem linesQ_len {s l : Str} (h : l ∈ linesQ s) : l.length ≤ s.length := by
 unfold linesQ at h
 split at h
 ·cases h
 ·have h1 := spl_len h
  have h2 := trimSuffix_len s [10]
  omega
theorem linesQ_count (s : Str) : (linesQ s).length ≤ s.length + 1 := by
 unfold linesQ
 split
 ·simp
 ·have h1 := spl_count 10 (Lib.trimSuffix s [10])
  have h2 := trimSuffix_len s [10]
  omega

set_option maxRecDepth 100000 in
set_option maxHeartbeats 8000000 in
theorem plines_calls {σ : Type} (w : World) (s : Str) (base F : Nat) (cap : Value) (tk : σ → List Str → Option σ) (R : Nat → σ → World → Prop) (S0 : σ) (hM : ∀ W, KeepS base w W → MlnS W) (hs : s.length ≤ 100000) (hR0 : R 0 S0 w) (hRp : ∀ k S W W', R k S W → Pure W W' → R k S W')
  (hcf : ∀ (v : Value) (W : World), Sem.run Tryz.prog (callFunc F #[v, cap]) W = .ok (.enter F #[v, cap]) W)
  (hF : ∀ (k : Nat) (S : σ) (W : World) (g : Nat) (ws : List Str), k < (linesQ s).length → KeepS base w W → R k S W → Blk W g 9 (strsV ws).toArray → 1 ≤ ws.length → ws.length ≤ 100001 → (∀ x ∈ ws, x.length ≤ s.length) → [] ∉ ws → Calls Tryz.prog F #[.slice (some ⟨g, 0, none⟩) ws.length ws.length, cap] W (TkPost base (R (k + 1)) (tk S ws) W)) :
  Calls Tryz.prog 69 #[.string ⟨s.toArray⟩, .func (.func F) #[] #[cap]] w (LnPost base w (R (linesQ s).length) (rdG (wdF tk) (wholeQ s) (linesQ s) 0 S0)) := by
 have HL := Lib.hid (baseLines_calls w s (hM w (KeepS.of_pure (Mod.refl _ _))) (by omega))
 unfold LinesPost at HL
 rw [linesQ_P, show wholeP s = wholeQ s from rfl] at HL
 have HLN : Hid (∀ l ∈ linesQ s, l.length ≤ s.length) := Lib.hid (fun l hl => linesQ_len hl)
 have hlc := linesQ_count s
 have HSP := Lib.hid (fun W (h : KeepS base w W) (l : Str) (hl : l.length ≤ s.length) => split_calls W l [32] (hM W h) (by omega) (by decide))
 have HF := Lib.hid hF
 have HRp := Lib.hid hRp
 have HR0 := Lib.hid hR0
 clear hM hF hRp hR0
 generalize linesQ s = ls at *
 obtain ⟨wh, hwh⟩ : ∃ wh, wholeQ s = wh := ⟨_, rfl⟩
 rw [hwh] at HL ⊢
 clear hwh
 obtain ⟨r, hr⟩ : ∃ r, rdG (wdF tk) wh ls 0 S0 = r := ⟨_, rfl⟩
 rw [hr]
 have HRR := Lib.hid hr
 clear hr
 go_enter Tryz.func69, Tryz.ntmps69
 go_wp2_with fail
 refine HL.out.mono ?_
 rintro e w1 ⟨AL, cL, rfl, hsl, hm1⟩
 have HSL := Lib.hid hsl
 have hcl := hsl.capS0
 have HM1 : Hid (KeepS base w w1) := Lib.hid (KeepS.of_pure hm1)
 have HR1 := Lib.hid (HRp.out 0 S0 w w1 HR0.out hm1)
 clear hsl hm1 HL HR0
 go_wp2_with fail
 go_loopg [17] ls.length (fun gk i wr => LnRel base w1 R (wdF tk) wh ls r gk i wr)
 case atStart => exact ⟨0, S0, by omega, by omega, rfl, HRR.out, HR1.out, KeepS.of_pure (Mod.refl _ _)⟩
 case round =>
  clear HR1 HRR
  obtain ⟨k, S, rfl, hk, rfl, hrd, hR, hm⟩ := hrel
  have HMr := Lib.hid (HM1.out.trans hm)
  by_cases hlt : k < ls.length
  ·obtain ⟨gL, oL, rfl, hrow⟩ := (hm.sl HSL.out).rowS (by omega)
   have hq := hrow.cell (strsV_get ls k hlt)
   have hll := HLN.out _ (List.getElem_mem hlt)
   have hst := rdG_at (wdF tk) wh hlt S
   rw [hrd] at hst
   have HST := Lib.hid hst
   have HSPX := Lib.hid (HSP.out wr HMr.out ls[k] hll)
   have hwc : (Lib.split ls[k] [32]).length ≤ ls[k].length + 1 := by rw [split_byte]; exact spl_count 32 _
   have hw1 : 1 ≤ (Lib.split ls[k] [32]).length := by
    rw [split_byte]
    have := spl_ne 32 ls[k]
    cases h : spl 32 ls[k] with
    | nil => exact absurd h this
    | cons a t => simp
   have HWL : Hid (∀ x ∈ Lib.split ls[k] [32], x.length ≤ s.length) := Lib.hid (fun x hx => by rw [split_byte] at hx; have := spl_len hx; omega)
   have HWF : Hid (wdF tk S ls[k] = if [] ∈ Lib.split ls[k] [32] then none else tk S (Lib.split ls[k] [32])) := Lib.hid rfl
   have HR := Lib.hid hR
   have HM := Lib.hid hm
   clear hst hrd hR hm hrow
   generalize wdF tk S ls[k] = o at *
   generalize ls[k] = l at *
   generalize Lib.split l [32] = ws at *
   go_wp2_with fail
   refine HSPX.out.mono ?_
   rintro e w2 ⟨rfl, rfl⟩
   have HB2 := Lib.hid (Blk.new wr 9 (strsV ws).toArray)
   have hpa : Pure wr (wr.alloc (.cells (strsV ws).toArray 9)) := (Mod.refl _ _).alloc _
   have HR2 := Lib.hid (HRp.out k S _ _ HR.out hpa)
   have HM2 := Lib.hid (HM.out.trans (KeepS.of_pure hpa))
   clear hpa HR HM HSPX hq
   generalize (wr.alloc (.cells (strsV ws).toArray 9)) = w3 at *
   generalize hgW : wr.heap.size = gW at *
   clear hgW
   have HCN := Lib.hid (containsQs_calls w3 (.slice (some ⟨gW, 0, none⟩) ws.length ws.length) ws [] ⟨_, _, _, rfl, Nat.le_refl _, by omega, by simp [strsV], fun _ => ⟨gW, 0, rfl, HB2.out.row0⟩⟩)
   rw [any_memT] at HCN
   go_upto_region 6 with (fail)
   go_cut [42] (fun p wx => KeepS base w3 wx ∧ ((p = .bool true ∧ r = .inl k) ∨ (p = .bool false ∧ ∃ S2, rdG (wdF tk) wh (ls.drop (k + 1)) (k + 1) S2 = r ∧ R (k + 1) S2 wx)))
   case first =>
    by_cases hin : [] ∈ ws
    ·have h1 : decide (([] : Str) ∈ ws) = true := decide_eq_true hin
     rw [h1] at HCN
     have HF1 : Hid (r = .inl k) := Lib.hid (by
      have h2 := HST.out
      rw [HWF.out, if_pos hin] at h2
      exact h2)
     clear HST HWF h1 hin HF HR2
     go_wp2_with fail
     refine HCN.out.mono ?_
     rintro e w4 ⟨rfl, hm⟩
     have HM4 : Hid (KeepS base w3 w4) := Lib.hid (KeepS.of_pure hm)
     clear HCN hm
     go_wp2_with fail
     go_meet
     exact ⟨HM4.out, .inl ⟨rfl, HF1.out⟩⟩
    ·have h1 : decide (([] : Str) ∈ ws) = false := decide_eq_false hin
     rw [h1] at HCN
     have HWF2 : Hid (o = tk S ws) := Lib.hid (by rw [HWF.out, if_neg hin])
     have HFX := Lib.hid (fun W (h : Pure w3 W) => HF.out k S W gW ws hlt (HM1.out.trans (HM2.out.trans (KeepS.of_pure h))) (HRp.out k S _ _ HR2.out h) (HB2.out.modp h) hw1 (by omega) HWL.out hin)
     clear HWF h1 hin HF
     go_wp2_with fail
     refine HCN.out.mono ?_
     rintro e w4 ⟨rfl, hm⟩
     have HM4 : Hid (KeepS base w3 w4) := Lib.hid (KeepS.of_pure hm)
     have HFY := Lib.hid (HFX.out w4 hm)
     rw [← HWF2.out] at HFY
     clear HCN hm HFX HWF2
     go_wp2_with fail
     refine HFY.out.mono ?_
     rintro e w5 ⟨rfl, hm, hRS⟩
     have HM5 := Lib.hid (HM4.out.trans hm)
     have HRS := Lib.hid hRS
     clear hm hRS HFY HM4
     cases o with
     | none =>
      have HF1 : Hid (r = .inl k) := Lib.hid HST.out
      clear HST HRS
      go_wp2_with fail
      go_meet
      exact ⟨HM5.out, .inl ⟨rfl, HF1.out⟩⟩
     | some S2 =>
      have HST2 : Hid (r = if k + 1 = ls.length ∧ wh = false then .inl k else rdG (wdF tk) wh (ls.drop (k + 1)) (k + 1) S2) := Lib.hid HST.out
      have HRS2 := Lib.hid (HRS.out S2 rfl)
      clear HST HRS
      cases wh
      ·by_cases hl : k + 1 = ls.length
       ·have HF1 : Hid (r = .inl k) := Lib.hid (by rw [HST2.out, if_pos ⟨hl, rfl⟩])
        have hl2 : ((k : Int) == (ls.length : Int) - 1) = true := by rw [beq_iff_eq]; omega
        clear HST2 HRS2 hl
        go_wp2_with fail
        go_meet
        exact ⟨HM5.out, .inl ⟨rfl, HF1.out⟩⟩
       ·have HF1 : Hid (rdG (wdF tk) false (ls.drop (k + 1)) (k + 1) S2 = r) := Lib.hid (by rw [HST2.out, if_neg (fun h => hl h.1)])
        have hl2 : ((k : Int) == (ls.length : Int) - 1) = false := by rw [← Bool.not_eq_true, beq_iff_eq]; omega
        clear HST2 hl
        go_wp2_with fail
        go_meet
        exact ⟨HM5.out, .inr ⟨rfl, S2, HF1.out, HRS2.out⟩⟩
      ·have HF1 : Hid (rdG (wdF tk) true (ls.drop (k + 1)) (k + 1) S2 = r) := Lib.hid (by rw [HST2.out, if_neg (fun h => by cases h.2)])
       clear HST2
       go_wp2_with fail
       go_meet
       exact ⟨HM5.out, .inr ⟨rfl, S2, HF1.out, HRS2.out⟩⟩
   case rest =>
    obtain ⟨hm, h⟩ := hcut
    obtain ⟨w6, hw6⟩ : ∃ W, W = wc := ⟨wc, rfl⟩
    subst hw6
    have HM6 := Lib.hid (HM2.out.trans hm)
    clear hm HST HWF HCN HR2 HM2 HB2 HF
    rcases h with ⟨rfl, hr⟩ | ⟨rfl, S2, hr, hR⟩
    ·have HF1 := Lib.hid hr
     clear hr
     go_wp2_with fail
     go_ret
     exact ⟨HM1.out.trans HM6.out, fun i hi => (by rw [HF1.out] at hi; cases hi; rfl), fun S h => (by rw [HF1.out] at h; cases h)⟩
    ·have HF1 := Lib.hid hr
     have HR6 := Lib.hid hR
     clear hr hR
     go_wp2_with fail
     go_roundg (ls.length - (k + 1))
     case measure => omega
     case rel => exact ⟨k + 1, S2, rfl, by omega, by simp, HF1.out, HR6.out, HM6.out⟩
  ·obtain rfl : k = ls.length := by omega
   have HF1 : Hid (r = .inr S) := Lib.hid (by rw [← hrd, List.drop_of_length_le (Nat.le_refl _)]; rfl)
   have HR := Lib.hid hR
   clear hrd hR hlt hk
   go_wp2_with fail
   go_ret
   exact ⟨HMr.out, fun i hi => (by rw [HF1.out] at hi; cases hi), fun S2 h => (by rw [HF1.out] at h; cases h; exact ⟨rfl, HR.out⟩)⟩

end Go.Proofs.YtaidkmnbjbnciaaGreatDoor
