/- Texts of the proof of DeskHands, put together: SeqS, IdxT. -/
import Derived.Test.YtgfgggeeoeppjaaGreatDoorDeskHandsZ7
import Derived.Test.YtgfgggeeoeppjaaGreatDoorDeskHandsZ9
import Derived.Test.YtgfgggeeoeppjaaGreatDoorDeskHandsZ14
import Derived.Lib.SliceRun
import Derived.Sort.Grow
set_option linter.unusedVariables false
set_option linter.unusedSimpArgs false
set_option maxRecDepth 100000
/- slices.IndexFunc, ContainsFunc, DeleteFunc over strings, with closures that only make memory; worlds that only grow. -/
namespace Go.Proofs.YtgfgggeeoeppjaaGreatDoor
open Go.RowKit
def idxQ {α : Type} (P : α → Bool) : List α → Int → Int
 | [], _ => -1
 | x :: xs, k => if P x then k else idxQ P xs (k + 1)
theorem idxQ_any {α : Type} (P : α → Bool) : ∀ (xs : List α) (k : Int), 0 ≤ k → decide (0 ≤ idxQ P xs k) = xs.any P
 | [], k, _ => by simp [idxQ]
 | x :: xs, k, hk => by
  unfold idxQ
  cases hp : P x with
  | true => simp [hp]; omega
  | false => simpa [hp] using idxQ_any P xs (k + 1) (by omega)
theorem idxQ_spec {α : Type} (P : α → Bool) : ∀ (xs : List α) (k : Int), (idxQ P xs k = -1 ∧ ∀ x ∈ xs, P x = false) ∨ ∃ i : Nat, ∃ hi : i < xs.length, idxQ P xs k = k + (i : Int) ∧ P xs[i] = true ∧ ∀ x ∈ xs.take i, P x = false
 | [], k => .inl ⟨rfl, fun x hx => absurd hx (by simp)⟩
 | x :: xs, k => by
  unfold idxQ
  cases hp : P x with
  | true => exact .inr ⟨0, by simp, by simp, by simpa using hp, by simp⟩
  | false =>
   rcases idxQ_spec P xs (k + 1) with ⟨h1, h2⟩ | ⟨i, hi, h1, h2, h3⟩
   ·exact .inl ⟨by simpa using h1, fun y hy => by
     rcases List.mem_cons.1 hy with h | h
     ·rw [h]; exact hp
     ·exact h2 y h⟩
   ·refine .inr ⟨i + 1, by simpa using hi, ?_, by simpa using h2, fun y hy => ?_⟩
    ·rw [if_neg (by simp), h1]; omega
    ·rw [List.take_succ_cons] at hy
     rcases List.mem_cons.1 hy with h | h
     ·rw [h]; exact hp
     ·exact h3 y h
set_option maxHeartbeats 1000000 in
theorem indexS1_calls (w : World) (v : Value) (xs : List Str) (F : Nat) (c1 : Value) (P : Str → Bool) (hv : Sl w 9 1 v (strsV xs))
  (hcf : ∀ (x : Str) (W : World), Sem.run Tryz.prog (callFunc F #[.string ⟨x.toArray⟩, c1]) W = .ok (.enter F #[.string ⟨x.toArray⟩, c1]) W)
  (hF : ∀ (x : Str) (W : World), x ∈ xs → Pure w W → Calls Tryz.prog F #[.string ⟨x.toArray⟩, c1] W (BoolPost W (P x))) :
  Calls Tryz.prog 169 #[v, .func (.func F) #[] #[c1]] w (IntPost w (idxQ P xs 0)) := by
 have HF := Lib.hid hF;obtain ⟨A, n, c, rfl, hc1, hc2, hl, hr⟩ := hv
 have hln : xs.length = n := by simpa [strsV] using hl
 subst hln;have HR := Lib.hid hr;clear hF hl hr
 go_enter Tryz.func169, Tryz.ntmps169
 go_wp2_with fail
 go_loopg [8] xs.length (fun gk i wr => ∃ k : Nat, xs.length - k = gk ∧ k ≤ xs.length ∧ i = .int .i64 (k : Int) ∧ idxQ P xs 0 = idxQ P (xs.drop k) (k : Int) ∧ Pure w wr)
 case atStart => exact ⟨0, by omega, by omega, rfl, rfl, Mod.refl _ _⟩
 case round =>
  obtain ⟨k, rfl, hk, rfl, hix, hm⟩ := hrel;have HIX := Lib.hid hix;clear hix
  by_cases hlt : k < xs.length
  ·obtain ⟨g, off, rfl, hrow⟩ := HR.out (by omega);have hq := (hrow.mod hm id).cell (strsV_get xs k hlt);have hd : xs.drop k = xs[k] :: xs.drop (k + 1) := List.drop_eq_getElem_cons hlt;have hcall := HF.out xs[k] wr (List.getElem_mem hlt) hm
   have hi2 : idxQ P xs 0 = if P xs[k] then (k : Int) else idxQ P (xs.drop (k + 1)) ((k : Int) + 1) := by rw [HIX.out, hd]; rfl
   have HI2 := Lib.hid hi2;have HC := Lib.hid hcall;clear hd hi2 hcall hrow HIX;generalize xs[k] = x at *
   go_wp2_with fail
   refine HC.out.mono ?_;rintro e w1 ⟨rfl, hm1⟩
   cases hp : P x
   ·go_wp2_with fail
    go_roundg (xs.length - (k + 1))
    case measure => omega
    case rel => exact ⟨k + 1, rfl, hlt, by simp, by rw [HI2.out, hp]; simp, hm.trans hm1⟩
   ·go_wp2_with fail
    go_ret;exact IntPost.of (by rw [HI2.out, hp]; rfl) (hm.trans hm1)
  ·have hke : k = xs.length := by omega
   subst hke
   go_wp2_with fail
   go_ret;exact IntPost.of (by rw [HIX.out, List.drop_of_length_le (Nat.le_refl _)]; rfl) hm
theorem own_setCellsS {base g n cap : Nat} : ∀ (m o : Nat) (w : World) (zs : List Str), w.ownsRow base 9 1 (.slice (some ⟨g, 0, none⟩) n cap) n (strsV zs) →
  ∃ ys : List Str, ys.length = zs.length ∧ ys.take o = zs.take o ∧ (w.setCells g o (List.replicate m (.string ⟨#[]⟩))).ownsRow base 9 1 (.slice (some ⟨g, 0, none⟩) n cap) n (strsV ys) ∧ Mod (fun j => j = g) w (w.setCells g o (List.replicate m (.string ⟨#[]⟩)))
 | 0, o, w, zs, h => ⟨zs, rfl, rfl, h, Mod.refl _ _⟩
 | m + 1, o, w, zs, h => by
  have h1 := (h.stored o (.string ⟨#[]⟩)).1
  have e : (strsV zs).set o (.string ⟨#[]⟩) = strsV (zs.set o []) := by simp [strsV, List.map_set]
  rw [e] at h1;obtain ⟨ys, hl, ht, h2, h3⟩ := own_setCellsS m (o + 1) (w.setCell ⟨g, o, none⟩ (.string ⟨#[]⟩)) (zs.set o []) h1;rw [List.replicate_succ];refine ⟨ys, by simpa using hl, ?_, h2, (Mod.setCell (S := fun j => j = g) (p := ⟨g, o, none⟩) (Mod.refl _ _) (.inl rfl) _).trans h3⟩;have := congrArg (List.take o) ht;rw [List.take_take, List.take_take, Nat.min_eq_left (by omega), List.take_set_of_le (Nat.le_refl _)] at this;exact this
theorem own_shrinkS {w : World} {base g cap n m : Nat} {e : TypeId} {xs : List Value} (h : w.ownsRow base e 1 (.slice (some ⟨g, 0, none⟩) n cap) n xs) (hm : m ≤ n) : w.ownsRow base e 1 (.slice (some ⟨g, 0, none⟩) m cap) m (xs.take m) := by
 rcases h.2 with ⟨h0, _⟩ | ⟨g', cap', cur, hv, hbase, hb, h1, h2, h3, h4⟩
 ·cases h0
 ·cases hv
  have := h.1;refine ⟨by simp; omega, .inr ⟨g, cap, cur, rfl, hbase, hb, by omega, h2, h3, ?_⟩⟩;rw [← h4, List.take_take]
  congr 1
  omega
def DelRel (w : World) (base g cap n : Nat) (P : Str → Bool) (xs : List Str) (gk : Nat) (i j : Value) (wr : World) : Prop :=
 ∃ (k : Nat) (ys : List Str), n - k = gk ∧ k ≤ n ∧ j = .int .i64 (k : Int) ∧ i = .int .i64 (((xs.take k).filter fun x => !P x).length : Int) ∧ ys.length = n ∧
  ys.take ((xs.take k).filter fun x => !P x).length = ((xs.take k).filter fun x => !P x) ∧ ys.drop k = xs.drop k ∧ ((xs.take k).filter fun x => !P x).length < k ∧
  wr.ownsRow base 9 1 (.slice (some ⟨g, 0, none⟩) n cap) n (strsV ys) ∧ Mod (fun j => j = g) w wr
def DelPost (w : World) (base g cap : Nat) (zs : List Str) (e : Ending) (w' : World) : Prop :=
 e = .returned (.slice (some ⟨g, 0, none⟩) zs.length cap) ∧ w'.ownsRow base 9 1 (.slice (some ⟨g, 0, none⟩) zs.length cap) zs.length (strsV zs) ∧ Mod (fun j => j = g) w w'
theorem filter_none {P : Str → Bool} {xs : List Str} (h : ∀ x ∈ xs, P x = false) : xs.filter (fun x => !P x) = xs := by
 rw [List.filter_eq_self];intro x hx;simp [h x hx]
end Go.Proofs.YtgfgggeeoeppjaaGreatDoor
/- slices.Index and slices.Contains of strings; parts of a slice. -/
namespace Go.Proofs.YtgfgggeeoeppjaaGreatDoor
open Go.RowKit
theorem strsV_lenT (xs : List Str) : (strsV xs).length = xs.length := by simp [strsV]
set_option maxHeartbeats 1000000 in
theorem indexQs_calls (w : World) (v : Value) (xs : List Str) (y : Str) (hv : Sl w 9 1 v (strsV xs)) : Calls Tryz.prog 77 #[v, .string ⟨y.toArray⟩] w (IntPost w (idxQ (fun x => y == x) xs 0)) := by
 obtain ⟨A, n, c, rfl, hc1, hc2, hl, hr⟩ := hv
 have hln : xs.length = n := by rw [strsV_lenT] at hl; omega
 subst hln;have HR := Lib.hid hr;clear hl hr
 go_enter Tryz.func77, Tryz.ntmps77
 go_wp2_with fail
 go_loopg [8] xs.length (fun gk i wr => ∃ k : Nat, xs.length - k = gk ∧ k ≤ xs.length ∧ i = .int .i64 (k : Int) ∧ idxQ (fun x => y == x) xs 0 = idxQ (fun x => y == x) (xs.drop k) (k : Int) ∧ w = wr)
 case atStart => exact ⟨0, by omega, by omega, rfl, rfl, rfl⟩
 case round =>
  obtain ⟨k, rfl, hk, rfl, hix, rfl⟩ := hrel;have HIX := Lib.hid hix;clear hix
  by_cases hlt : k < xs.length
  ·obtain ⟨g, off, rfl, hrow⟩ := HR.out (by omega);have hq := hrow.cell (strsV_get xs k hlt);have hd : xs.drop k = xs[k] :: xs.drop (k + 1) := List.drop_eq_getElem_cons hlt
   have hi2 : idxQ (fun x => y == x) xs 0 = if (fun x => y == x) xs[k] then (k : Int) else idxQ (fun x => y == x) (xs.drop (k + 1)) ((k : Int) + 1) := by rw [HIX.out, hd]; rfl
   have HI2 := Lib.hid hi2;clear hd hi2 hrow HIX;generalize xs[k] = x at *
   have heq : (y == x) = (y == x) := by first | rfl | (exact Bool.eq_iff_iff.2 (by simp; try omega))
   cases hp : (y == x)
   ·have hp2 := heq.trans hp;have HP := Lib.hid hp;clear hp heq
    go_wp2_with fail
    go_roundg (xs.length - (k + 1))
    case measure => omega
    case rel => exact ⟨k + 1, rfl, hlt, by simp, by rw [HI2.out]; simp only [HP.out]; simp, rfl⟩
   ·have hp2 := heq.trans hp;have HP := Lib.hid hp;clear hp heq
    go_wp2_with fail
    go_ret;exact IntPost.of (by rw [HI2.out]; simp only [HP.out]; simp) (Mod.refl _ _)
  ·have hke : k = xs.length := by omega
   subst hke
   go_wp2_with fail
   go_ret;exact IntPost.of (by rw [HIX.out, List.drop_of_length_le (Nat.le_refl _)]; rfl) (Mod.refl _ _)
set_option maxHeartbeats 1000000 in
theorem containsQs_calls (w : World) (v : Value) (xs : List Str) (y : Str) (hv : Sl w 9 1 v (strsV xs)) : Calls Tryz.prog 48 #[v, .string ⟨y.toArray⟩] w (BoolPost w (xs.any (fun x => y == x))) := by
 have HC := Lib.hid (indexQs_calls w v xs y hv);have HI := Lib.hid (idxQ_any (fun x => y == x) xs 0 (by omega));obtain ⟨A, n, c, rfl⟩ := hv.form;clear hv
 go_enter Tryz.func48, Tryz.ntmps48
 go_wp2_with fail
 refine HC.out.mono ?_;rintro e w1 ⟨rfl, hm1⟩;generalize idxQ (fun x => y == x) xs 0 = r at *
 go_wp2_with fail
 go_ret;exact BoolPost.of HI.out.symm hm1
theorem any_memT (s : Str) (xs : List Str) : (xs.any fun x => s == x) = decide (s ∈ xs) := by
 rw [Bool.eq_iff_iff, List.any_eq_true, decide_eq_true_iff]
 constructor
 ·rintro ⟨x, hx, h⟩;rw [show s = x by simpa using h];exact hx
 ·intro h;exact ⟨s, h, by simp⟩
theorem slTake {w : World} {g off k c : Nat} {ss : List Str} (h : RowAt w 9 g off (strsV ss)) (hk : k ≤ ss.length) (h1 : k ≤ c) (h2 : c ≤ 9223372036854775807) : Sl w 9 1 (.slice (some ⟨g, off, none⟩) k c) (strsV (ss.take k)) := by
 obtain ⟨arr, fr, e1, e2⟩ := h;refine ⟨_, _, _, rfl, h1, h2, by simp [strsV]; omega, fun _ => ⟨g, off, rfl, arr, fr, e1, fun i u hi => e2 i u ?_⟩⟩
 have hl : i < (strsV (ss.take k)).length := Nat.lt_of_not_le fun h => by
  rw [List.getElem?_eq_none (by omega)] at hi
  cases hi
 simp only [strsV, List.length_map, List.length_take] at hl;rw [← hi];simp only [strsV, List.map_take];rw [List.getElem?_take];rw [if_pos (by omega)]
end Go.Proofs.YtgfgggeeoeppjaaGreatDoor
