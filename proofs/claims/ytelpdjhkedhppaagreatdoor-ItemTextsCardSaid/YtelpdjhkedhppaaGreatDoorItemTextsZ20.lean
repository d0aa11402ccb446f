/- Texts of the proof of ItemTexts, put together: LinP. -/
import Derived.Test.YtelpdjhkedhppaaGreatDoorItemTextsZ11
import Derived.Lib.Split
import Derived.Lib.CutLaws
import Derived.Lib.Strings
set_option linter.unusedVariables false
set_option linter.unusedSimpArgs false
/- Lines and words of a text (plain): cuts at one byte, and reading line by line. -/
namespace Go.Proofs.YtelpdjhkedhppaaGreatDoor
open Go.RowKit
def fstL (c : UInt8) : Str → Option (Str × Str)
 | [] => none
 | b :: l => if b = c then some ([], l) else (fstL c l).map fun p => (b :: p.1, p.2)
theorem fstL_some {c : UInt8} : ∀ {s x y : Str}, fstL c s = some (x, y) → s = x ++ c :: y ∧ c ∉ x
 | [], _, _, h => by cases h
 | b :: l, x, y, h => by
  unfold fstL at h
  split at h
  ·rename_i e
   cases h
   exact ⟨by rw [e]; rfl, by simp⟩
  ·rename_i hb
   cases hf : fstL c l with
   | none => rw [hf] at h; cases h
   | some p =>
    rw [hf] at h;obtain ⟨x2, y2⟩ := p
    cases h
    obtain ⟨h1, h2⟩ := fstL_some hf;refine ⟨by rw [h1]; rfl, fun hm => ?_⟩
    rcases List.mem_cons.1 hm with e | e
    ·exact hb e.symm
    ·exact h2 e
theorem fstL_none {c : UInt8} : ∀ {s : Str}, fstL c s = none → c ∉ s
 | [], _ => by simp
 | b :: l, h => by
  unfold fstL at h
  split at h
  ·cases h
  ·rename_i hb
   have h2 : fstL c l = none := by
    cases hf : fstL c l with
    | none => rfl
    | some p => rw [hf] at h; cases h
   have := fstL_none h2;intro hm
   rcases List.mem_cons.1 hm with e | e
   ·exact hb e.symm
   ·exact this e
theorem index_byte (c : UInt8) : ∀ s : Str, Lib.index s [c] = match fstL c s with | none => -1 | some p => (p.1.length : Int)
 | [] => rfl
 | b :: l => by
  unfold Lib.index fstL
  by_cases h : b = c
  ·subst h;rw [if_pos (by simp), if_pos rfl]
   rfl
  ·have h2 : ¬ (([c] : List UInt8).isPrefixOf (b :: l) = true) := by simp; exact fun e => h e.symm
   rw [if_neg h2, if_neg h, index_byte c l]
   cases hf : fstL c l with
   | none => simp
   | some p =>
    have h3 : ¬ (((p.1.length : Int) == -1) = true) := by simp
    simp only [Option.map_some];rw [if_neg h3];simp
def spl (c : UInt8) : Str → List Str
 | [] => [[]]
 | b :: l => if b = c then [] :: spl c l else match spl c l with
  | [] => [[b]]
  | x :: t => (b :: x) :: t
theorem spl_cons (c b : UInt8) (l : Str) : spl c (b :: l) = if b = c then [] :: spl c l else match spl c l with | [] => [[b]] | x :: t => (b :: x) :: t := rfl
theorem spl_fst (c : UInt8) : ∀ s : Str, spl c s = match fstL c s with | none => [s] | some p => p.1 :: spl c p.2
 | [] => rfl
 | b :: l => by
  rw [spl_cons]
  by_cases h : b = c
  ·have e : fstL c (b :: l) = some ([], l) := by unfold fstL; rw [if_pos h]
   rw [if_pos h, e]
  ·have e : fstL c (b :: l) = (fstL c l).map fun p => (b :: p.1, p.2) := by conv => lhs; unfold fstL; rw [if_neg h]
   rw [if_neg h, e, spl_fst c l]
   cases fstL c l with
   | none => rfl
   | some p => rfl
theorem cut_byte (c : UInt8) (s : Str) : Lib.cut s [c] = match fstL c s with | none => (s, [], false) | some p => (p.1, p.2, true) := by
 unfold Lib.cut;rw [index_byte]
 cases hf : fstL c s with
 | none => rfl
 | some p =>
  obtain ⟨x, y⟩ := p;obtain ⟨h1, _⟩ := fstL_some hf;simp only;rw [if_pos (by omega), Int.toNat_natCast];subst h1;simp
theorem splitK_byte (c : UInt8) : ∀ (n : Nat) (s : Str) (fuel : Nat), s.length ≤ n → s.length < fuel → Lib.splitK [c] 0 (Lib.countFrom [c] fuel s) s = spl c s
 | n, s, 0, _, h2 => by omega
 | n, s, fuel + 1, h1, h2 => by
  have hi := index_byte c s;rw [spl_fst]
  cases hf : fstL c s with
  | none =>
   rw [hf] at hi;simp only at hi;unfold Lib.countFrom;rw [if_pos (by rw [hi]; rfl)]
   rfl
  | some p =>
   obtain ⟨x, y⟩ := p;rw [hf] at hi;simp only at hi;obtain ⟨e, _⟩ := fstL_some hf
   have hl : s.length = x.length + (y.length + 1) := by rw [e]; simp
   have hm : ¬ ((Lib.index s [c] == -1) = true) := by rw [hi]; simp
   have hd : s.drop ((Lib.index s [c]).toNat + [c].length) = y := by rw [hi, e]; simp
   have ht : s.take ((Lib.index s [c]).toNat + 0) = x := by rw [hi, e]; simp
   unfold Lib.countFrom;rw [if_neg hm, Nat.add_comm];unfold Lib.splitK;rw [if_neg hm, hd, ht]
   cases n with
   | zero => omega
   | succ n => rw [splitK_byte c n y fuel (by omega) (by omega)]
theorem split_byte (c : UInt8) (s : Str) : Lib.split s [c] = spl c s := splitK_byte c s.length s (s.length + 1) (Nat.le_refl _) (by omega)
theorem spl_ne (c : UInt8) (s : Str) : spl c s ≠ [] := by
 rw [spl_fst]
 cases fstL c s <;> simp
theorem spl_sum (c : UInt8) : ∀ (n : Nat) (s : Str), s.length ≤ n → ((spl c s).map fun w => w.length + 1).sum = s.length + 1
 | n, s, h => by
  rw [spl_fst]
  cases hf : fstL c s with
  | none => simp
  | some p =>
   obtain ⟨x, y⟩ := p;obtain ⟨e, _⟩ := fstL_some hf
   have hl : s.length = x.length + (y.length + 1) := by rw [e]; simp
   simp only [List.map_cons, List.sum_cons]
   cases n with
   | zero => omega
   | succ n => rw [spl_sum c n y (by omega)]; omega
theorem sum_mem {l : List Nat} {x : Nat} (h : x ∈ l) : x ≤ l.sum := by
 induction l with
 | nil => cases h
 | cons a t ih =>
  rcases List.mem_cons.1 h with e | e
  ·subst e; simp
  ·have := ih e; simp; omega
theorem spl_len {c : UInt8} {s w : Str} (h : w ∈ spl c s) : w.length ≤ s.length := by
 have h1 := spl_sum c s.length s (Nat.le_refl _);have h2 := sum_mem (List.mem_map_of_mem (f := fun w : Str => w.length + 1) h)
 omega
theorem sum_ge {l : List Str} {k : Nat} (h : ∀ w ∈ l, k ≤ w.length) : (k + 1) * l.length ≤ (l.map fun w => w.length + 1).sum := by
 induction l with
 | nil => simp
 | cons a t ih =>
  have h1 := ih (fun w hw => h w (List.mem_cons_of_mem _ hw));have h2 := h a List.mem_cons_self;simp only [List.length_cons, List.map_cons, List.sum_cons, Nat.mul_add, Nat.mul_one]
  omega
theorem spl_count (c : UInt8) (s : Str) : (spl c s).length ≤ s.length + 1 := by
 have h1 := spl_sum c s.length s (Nat.le_refl _);have h2 := sum_ge (l := spl c s) (k := 0) (fun w _ => Nat.zero_le _)
 omega
theorem suf10 (s : Str) : Lib.hasSuffix s [10] = true ↔ (∃ t, s = t ++ [10]) := by
 unfold Lib.hasSuffix;rw [List.isSuffixOf_iff_suffix];exact ⟨fun ⟨t, h⟩ => ⟨t, h.symm⟩, fun ⟨t, h⟩ => ⟨t, h.symm⟩⟩
theorem trim_app (x y : Str) (h : y ≠ []) : Lib.trimSuffix (x ++ y) [10] = x ++ Lib.trimSuffix y [10] ∧ Lib.hasSuffix (x ++ y) [10] = Lib.hasSuffix y [10] := by
 have h2 : Lib.hasSuffix (x ++ y) [10] = Lib.hasSuffix y [10] := by
  rw [Bool.eq_iff_iff, suf10, suf10]
  have : (∃ t, x ++ y = t ++ [10]) ↔ ∃ t, y = t ++ [10] := by
   constructor
   ·rintro ⟨t, e⟩;have e2 := congrArg List.getLast? e;rw [List.getLast?_append, List.getLast?_append] at e2;obtain ⟨y0, z, rfl⟩ : ∃ y0 z, y = y0 ++ [z] := ⟨y.dropLast, y.getLast h, (List.dropLast_concat_getLast h).symm⟩;simp at e2;subst e2;exact ⟨y0, rfl⟩
   ·rintro ⟨t, rfl⟩;exact ⟨x ++ t, by simp⟩
  exact this
 refine ⟨?_, h2⟩;unfold Lib.trimSuffix;rw [h2]
 split
 ·rename_i hs
  have h1 : 1 ≤ y.length := by cases y <;> simp_all
  rw [List.length_append, List.take_append, List.take_of_length_le (by simp; omega)]
  congr 2
  simp; omega
 ·rfl
def rdG {σ : Type} (f : σ → Str → Option σ) (whole : Bool) : List Str → Nat → σ → Nat ⊕ σ
 | [], _, S => .inr S
 | l :: t, i, S => match f S l with
  | none => .inl i
  | some S2 => if t = [] ∧ whole = false then .inl i else rdG f whole t (i + 1) S2
def linesQ (s : Str) : List Str := if s = [] then [] else spl 10 (Lib.trimSuffix s [10])
def wholeQ (s : Str) : Bool := decide (s = []) || Lib.hasSuffix s [10]
theorem trim_none {s : Str} (h : (10 : UInt8) ∉ s) : Lib.trimSuffix s [10] = s ∧ Lib.hasSuffix s [10] = false := by
 have : Lib.hasSuffix s [10] = false := by
  rw [← Bool.not_eq_true, suf10];rintro ⟨t, rfl⟩;simp at h
 exact ⟨by unfold Lib.trimSuffix; rw [this]; rfl, this⟩
theorem trim_one (x : Str) : Lib.trimSuffix (x ++ [10]) [10] = x ∧ Lib.hasSuffix (x ++ [10]) [10] = true := by
 have : Lib.hasSuffix (x ++ [10]) [10] = true := (suf10 _).2 ⟨x, rfl⟩;exact ⟨by unfold Lib.trimSuffix; rw [this]; simp, this⟩
theorem rdG_step {σ : Type} (f : σ → Str → Option σ) {s : Str} (h : s ≠ []) (i : Nat) (S : σ) : rdG f (wholeQ s) (linesQ s) i S = match fstL 10 s with
  | none => .inl i
  | some p => match f S p.1 with
   | none => .inl i
   | some S2 => rdG f (wholeQ p.2) (linesQ p.2) (i + 1) S2 := by
 cases hf : fstL 10 s with
 | none =>
  obtain ⟨h1, h2⟩ := trim_none (fstL_none hf)
  have e : linesQ s = [s] := by unfold linesQ; rw [if_neg h, h1, spl_fst, hf]
  have ew : wholeQ s = false := by unfold wholeQ; rw [h2]; simp [h]
  rw [e, ew];unfold rdG
  cases f S s <;> simp
 | some p =>
  obtain ⟨x, y⟩ := p;obtain ⟨e, hx⟩ := fstL_some hf;simp only
  by_cases hy : y = []
  ·subst hy;obtain ⟨h1, h2⟩ := trim_one x
   have hn : fstL 10 x = none := by
    cases h3 : fstL 10 x with
    | none => rfl
    | some q =>
     obtain ⟨a, b⟩ := q;have := (fstL_some h3).1;rw [this] at hx;simp at hx
   have el : linesQ s = [x] := by unfold linesQ; rw [if_neg h, e, h1, spl_fst, hn]
   have ew : wholeQ s = true := by unfold wholeQ; rw [e, h2]; simp
   rw [el, ew];unfold rdG
   cases f S x with
   | none => rfl
   | some S2 => rfl
  ·obtain ⟨h1, h2⟩ := trim_app (x ++ [10]) y hy
   have e2 : s = (x ++ [10]) ++ y := by rw [e]; simp
   have el : linesQ s = x :: linesQ y := by
    unfold linesQ;rw [if_neg h, if_neg hy, e2, h1, spl_fst]
    have h3 : ∀ z, fstL 10 (x ++ [10] ++ z) = some (x, z) := fun z => by
     clear e2 h1 h2 e hf
     induction x with
     | nil => simp [fstL]
     | cons a t ih =>
      have ha : a ≠ 10 := fun e => hx (by rw [e]; simp);have := ih (fun e => hx (List.mem_cons_of_mem _ e))
      show fstL 10 (a :: (t ++ [10] ++ z)) = _
      unfold fstL;rw [if_neg ha, this]
      rfl
    rw [h3]
   have ew : wholeQ s = wholeQ y := by unfold wholeQ; rw [e2, h2]; simp [hy]
   have hln : linesQ y ≠ [] := by unfold linesQ; rw [if_neg hy]; exact spl_ne _ _
   rw [el, ew]
   show (match f S x with | none => Sum.inl i | some S2 => if linesQ y = [] ∧ wholeQ y = false then Sum.inl i else rdG f (wholeQ y) (linesQ y) (i + 1) S2) = _
   cases f S x with
   | none => rfl
   | some S2 =>
    simp only;rw [if_neg (fun e => hln e.1)]
end Go.Proofs.YtelpdjhkedhppaaGreatDoor
