/- Texts of the proof of ItemTexts, put together: LnkP. -/
import Derived.Test.YtelpdjhkedhppaaGreatDoorItemTextsZ20
import Derived.Lib.Bytealg
set_option linter.unusedVariables false
set_option linter.unusedSimpArgs false
/- Lines of texts with what ends them (strings.Lines), plain. -/
namespace Go.Proofs.YtelpdjhkedhppaaGreatDoor
open Go.RowKit
def lnsF : Nat → Str → List Str
 | 0, _ => []
 | n + 1, s => if s = [] then [] else match fstL 10 s with
  | none => [s]
  | some p => (p.1 ++ [10]) :: lnsF n p.2
theorem fstL_len {c : UInt8} {s : Str} {p : Str × Str} (h : fstL c s = some p) : s.length = p.1.length + 1 + p.2.length := by
 have := (fstL_some (x := p.1) (y := p.2) h).1;rw [this];simp
 omega
theorem lnsF_fuel : ∀ (n m : Nat) (s : Str), s.length ≤ n → s.length ≤ m → lnsF n s = lnsF m s
 | 0, m, s, h, _ => by
  have : s = [] := List.eq_nil_of_length_eq_zero (by omega);subst this
  cases m <;> simp [lnsF]
 | n + 1, 0, s, _, h => by
  have : s = [] := List.eq_nil_of_length_eq_zero (by omega);subst this;simp [lnsF]
 | n + 1, m + 1, s, h1, h2 => by
  rw [lnsF, lnsF]
  by_cases hs : s = []
  ·rw [if_pos hs, if_pos hs]
  ·rw [if_neg hs, if_neg hs]
   cases hf : fstL 10 s with
   | none => rfl
   | some p =>
    have := fstL_len hf;simp only;rw [lnsF_fuel n m p.2 (by omega) (by omega)]
def lnsT (s : Str) : List Str := lnsF s.length s
theorem lnsT_nil : lnsT [] = [] := rfl
theorem lnsT_none {s : Str} (hs : s ≠ []) (h : fstL 10 s = none) : lnsT s = [s] := by
 unfold lnsT
 cases hl : s.length with
 | zero => exact absurd (List.eq_nil_of_length_eq_zero hl) hs
 | succ n => rw [lnsF, if_neg hs, h]
theorem lnsT_some {s : Str} {p : Str × Str} (h : fstL 10 s = some p) : lnsT s = (p.1 ++ [10]) :: lnsT p.2 := by
 have hl := fstL_len h
 have hs : s ≠ [] := by rintro rfl; simp [fstL] at h
 unfold lnsT;rw [hl, show p.1.length + 1 + p.2.length = (p.1.length + p.2.length) + 1 by omega, lnsF, if_neg hs, h];simp only;rw [lnsF_fuel _ p.2.length p.2 (by omega) (by omega)]
theorem ixb_fst (c : UInt8) : ∀ s : Str, Lib.indexByte s c = match fstL c s with | none => -1 | some p => (p.1.length : Int)
 | [] => rfl
 | b :: l => by
  have ih := ixb_fst c l;unfold Lib.indexByte fstL
  by_cases h : b = c
  ·simp [h]
  ·rw [if_neg (by simpa using h), if_neg h, ih]
   cases fstL c l with
   | none => simp
   | some p =>
    simp only [Option.map_some, List.length_cons];rw [if_neg (by simp)];simp
end Go.Proofs.YtelpdjhkedhppaaGreatDoor
