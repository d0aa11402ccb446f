/- Texts of the proof of LayoutTexts, put together: LnsB. -/
import Derived.Test.YtaidkmnbjbnciaaGreatDoorLayoutTextsZ5
import Derived.Test.YtaidkmnbjbnciaaGreatDoorLayoutTextsZ33
import Derived.Shelf.Strings.Cut
/- lines of the reference, for any closure that takes a line. -/
namespace Go.Proofs.YtaidkmnbjbnciaaGreatDoor
set_option linter.unusedVariables false
set_option linter.unusedSimpArgs false
open Go.RowKit

def Cut10P (w : World) (s : Str) (e : Ending) (w' : World) : Prop := e = .returned (.tuple (match fstL 10 s with
 | none => #[.string ⟨s.toArray⟩, .string ⟨#[]⟩, .bool false]
 | some p => #[.string ⟨p.1.toArray⟩, .string ⟨p.2.toArray⟩, .bool true])) ∧ Pure w w'
theorem cutN_calls (w : World) (s : Str) (hM : MlnS w) (hs : s.length ≤ 100000) : Calls Tryz.prog 132 #[.string ⟨s.toArray⟩, .string ⟨#[10]⟩] w (Cut10P w s) := by
 obtain ⟨m, hm⟩ := hM
 refine (Any.strings_Cut Tryz.lays145 ⟨s.toArray⟩ ⟨#[10]⟩ m w (by simp [ByteArray.size]; omega) hm).mono ?_
 rintro e w' ⟨rfl, n, rfl⟩
 refine ⟨?_, (Mod.refl _ _).drewN n⟩
 have h := cut_byte 10 s
 show Ending.returned (.tuple #[.string ⟨(Lib.cut s [10]).1.toArray⟩, .string ⟨(Lib.cut s [10]).2.1.toArray⟩, .bool (Lib.cut s [10]).2.2]) = _
 rw [h]
 cases fstL 10 s <;> rfl
def LnPost2 {σ : Type} (base : Nat) (w : World) (R : Nat → σ → World → Prop) (r : Nat ⊕ σ) (e : Ending) (W' : World) : Prop :=
 KeepS base w W' ∧ (∀ i, r = .inl i → e = .returned (.tuple #[.int .i64 (i : Int), .bool false])) ∧ ∀ S, r = .inr S → e = .returned (.tuple #[.int .i64 0, .bool true]) ∧ ∃ k, R k S W'
def LnRel2 {σ : Type} (base : Nat) (w : World) (R : Nat → σ → World → Prop) (f : σ → Str → Option σ) (n : Nat) (r : Nat ⊕ σ) (gk : Nat) (i v : Value) (wr : World) : Prop :=
 ∃ (k : Nat) (S : σ) (t : Str), t.length = gk ∧ t.length + k ≤ n ∧ i = .string ⟨t.toArray⟩ ∧ v = .int .i64 (k : Int) ∧ rdG f (wholeQ t) (linesQ t) k S = r ∧ R k S wr ∧ KeepS base w wr

set_option maxRecDepth 100000 in
set_option maxHeartbeats 8000000 in
theorem rlines2_calls {σ : Type} (w : World) (s : Str) (base F : Nat) (cap : Value) (f : σ → Str → Option σ) (R : Nat → σ → World → Prop) (S0 : σ) (hM : ∀ W, KeepS base w W → MlnS W) (hs : s.length ≤ 100000) (hR0 : R 0 S0 w) (hRp : ∀ k S W W', R k S W → Pure W W' → R k S W')
  (hcf : ∀ (v : Value) (W : World), Sem.run Tryz.prog (callFunc F #[v, cap]) W = .ok (.enter F #[v, cap]) W)
  (hF : ∀ (k : Nat) (S : σ) (W : World) (l : Str), k + l.length < s.length → KeepS base w W → R k S W → Calls Tryz.prog F #[.string ⟨l.toArray⟩, cap] W (TkPost base (R (k + 1)) (f S l) W)) :
  Calls Tryz.prog 73 #[.string ⟨s.toArray⟩, .func (.func F) #[] #[cap]] w (LnPost2 base w R (rdG f (wholeQ s) (linesQ s) 0 S0)) := by
 have HCT := Lib.hid (fun W (h : KeepS base w W) (l : Str) (hl : l.length ≤ s.length) => cutN_calls W l (hM W h) (by omega))
 have HF := Lib.hid hF
 have HRp := Lib.hid hRp
 have HR0 := Lib.hid hR0
 clear hM hF hRp hR0
 obtain ⟨r, hr⟩ : ∃ r, rdG f (wholeQ s) (linesQ s) 0 S0 = r := ⟨_, rfl⟩
 rw [hr]
 have HRR := Lib.hid hr
 clear hr
 obtain ⟨n, hn⟩ : ∃ n, n = s.length := ⟨_, rfl⟩
 go_enter Tryz.func73, Tryz.ntmps73
 go_wp2_with fail
 go_loopg [0, 6] n (fun gk i v wr => LnRel2 base w R f n r gk i v wr)
 case atStart => exact ⟨0, S0, s, by omega, by omega, rfl, rfl, HRR.out, HR0.out, KeepS.of_pure (Mod.refl _ _)⟩
 case round =>
  clear HR0 HRR
  obtain ⟨k, S, t, rfl, hk, rfl, rfl, hrd, hR, hm⟩ := hrel
  have HM := Lib.hid hm
  have HR := Lib.hid hR
  have HRD := Lib.hid hrd
  clear hm hR hrd
  by_cases h0 : t = []
  ·subst h0
   have HF1 : Hid (r = .inr S) := Lib.hid HRD.out.symm
   clear HF HCT
   go_wp2_with fail
   try simp only [Exit.inBlock, Exit.then]
   refine bodyPost_ret (v := .tuple #[.int .i64 0, .bool true]) (by simp [results, Tryz.results73, go_sem]) rfl ?_
   exact ⟨HM.out, fun i hi => (by rw [HF1.out] at hi; cases hi), fun S2 h => (by rw [HF1.out] at h; cases h; exact ⟨rfl, k, HR.out⟩)⟩
  ·have f0 : (t == []) = false := by simpa using h0
   have f0' : (t != []) = true := by simpa using h0
   have HST := Lib.hid (rdG_step f h0 k S)
   rw [HRD.out] at HST
   have HC := Lib.hid (HCT.out wr HM.out t (by omega))
   clear h0 HRD
   go_wp2_with fail
   refine HC.out.mono ?_
   rintro e w2 ⟨rfl, hm⟩
   have HM2 : Hid (KeepS base w w2) := Lib.hid (HM.out.trans (KeepS.of_pure hm))
   have HR2 := Lib.hid (HRp.out k S wr w2 HR.out hm)
   clear hm HM HR HC
   cases hf : fstL 10 t with
   | none =>
    rw [hf] at HST
    have HF1 : Hid (r = .inl k) := HST
    clear hf HST HF
    go_wp2_with fail
    try simp only [Exit.inBlock, Exit.then]
    refine bodyPost_ret (v := .tuple #[.int .i64 (k : Int), .bool false]) (by simp [results, Tryz.results73, go_sem]) rfl ?_
    exact ⟨HM2.out, fun i hi => (by rw [HF1.out] at hi; cases hi; rfl), fun S h => (by rw [HF1.out] at h; cases h)⟩
   | some p =>
    obtain ⟨x, y⟩ := p
    have hl : t.length = x.length + (y.length + 1) := by rw [(fstL_some hf).1]; simp
    rw [hf] at HST
    have HST2 : Hid (r = match f S x with | none => .inl k | some S2 => rdG f (wholeQ y) (linesQ y) (k + 1) S2) := HST
    have HFX := Lib.hid (HF.out k S w2 x (by omega) HM2.out HR2.out)
    clear hf HST HF
    generalize f S x = o at *
    go_wp2_with fail
    refine HFX.out.mono ?_
    rintro e w3 ⟨rfl, hm, hRS⟩
    have HM3 := Lib.hid (HM2.out.trans hm)
    have HRS := Lib.hid hRS
    clear hm hRS HFX HM2 HR2
    cases o with
    | none =>
     have HF1 : Hid (r = .inl k) := HST2
     clear HST2 HRS
     go_wp2_with fail
     try simp only [Exit.inBlock, Exit.then]
     refine bodyPost_ret (v := .tuple #[.int .i64 (k : Int), .bool false]) (by simp [results, Tryz.results73, go_sem]) rfl ?_
     exact ⟨HM3.out, fun i hi => (by rw [HF1.out] at hi; cases hi; rfl), fun S h => (by rw [HF1.out] at h; cases h)⟩
    | some S2 =>
     have HF1 : Hid (r = rdG f (wholeQ y) (linesQ y) (k + 1) S2) := HST2
     have HRS2 := Lib.hid (HRS.out S2 rfl)
     clear HST2 HRS
     go_wp2_with fail
     go_roundg y.length
     case measure => omega
     case rel => exact ⟨k + 1, S2, y, rfl, by omega, rfl, by simp, HF1.out.symm, HRS2.out, HM3.out⟩

end Go.Proofs.YtaidkmnbjbnciaaGreatDoor
