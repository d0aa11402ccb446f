/- Texts of the proof of ItemDiffers, put together: SeqS. -/
import Derived.Test.YtbdeicbdehgeiaaGreatDoorItemDiffersZ13
import Derived.Test.YtbdeicbdehgeiaaGreatDoorItemDiffersZ20
import Derived.Lib.SliceRun
import Derived.Sort.Grow
/- slices.IndexFunc, ContainsFunc, DeleteFunc over strings, with closures that only make memory; worlds that only grow. -/
namespace Go.Proofs.YtbdeicbdehgeiaaGreatDoor
set_option linter.unusedVariables false
set_option linter.unusedSimpArgs false
open Go.RowKit

/-- The place of the first element with P, from k on; -1 if there is none. -/
def idxQ {α : Type} (P : α → Bool) : List α → Int → Int
  | [], _ => -1
  | x :: xs, k => if P x then k else idxQ P xs (k + 1)
theorem idxQ_any {α : Type} (P : α → Bool) : ∀ (xs : List α) (k : Int), 0 ≤ k → decide (0 ≤ idxQ P xs k) = xs.any P
  | [], k, _ => by simp [idxQ]
  | x :: xs, k, hk => by
    unfold idxQ
    cases hp : P x with
    | true => simp [hp]; omega
    | false => simpa [hp] using idxQ_any P xs (k + 1) (by omega)
/-- What idxQ gives: -1 and no hit, or the first hit's place. -/
theorem idxQ_spec {α : Type} (P : α → Bool) : ∀ (xs : List α) (k : Int), (idxQ P xs k = -1 ∧ ∀ x ∈ xs, P x = false) ∨ ∃ i : Nat, ∃ hi : i < xs.length, idxQ P xs k = k + (i : Int) ∧ P xs[i] = true ∧ ∀ x ∈ xs.take i, P x = false
  | [], k => .inl ⟨rfl, fun x hx => absurd hx (by simp)⟩
  | x :: xs, k => by
    unfold idxQ
    cases hp : P x with
    | true => exact .inr ⟨0, by simp, by simp, by simpa using hp, by simp⟩
    | false =>
      rcases idxQ_spec P xs (k + 1) with ⟨h1, h2⟩ | ⟨i, hi, h1, h2, h3⟩
      · exact .inl ⟨by simpa using h1, fun y hy => by
          rcases List.mem_cons.1 hy with h | h
          · rw [h]; exact hp
          · exact h2 y h⟩
      · refine .inr ⟨i + 1, by simpa using hi, ?_, by simpa using h2, fun y hy => ?_⟩
        · rw [if_neg (by simp), h1]; omega
        · rw [List.take_succ_cons] at hy
          rcases List.mem_cons.1 hy with h | h
          · rw [h]; exact hp
          · exact h3 y h

/-- A world that only grew, as the shelf says it. -/
theorem grow_of_pure {w w' : World} (h : Pure w w') (hd : w.drawn ≤ w'.drawn) : ∃ q os, w' = Sort.grow (w.drewN q) os := by
  refine ⟨w'.drawn - w.drawn, w'.heap.extract w.heap.size w'.heap.size, ?_⟩
  have h1 := h.os
  have h2 := h.tape
  have h3 := h.output
  have hh : w'.heap = w.heap ++ w'.heap.extract w.heap.size w'.heap.size := by
    have h4 := h.size
    have h5 := h.block
    apply Array.ext
    · simp; omega
    · intro i hi1 hi2
      by_cases hlt : i < w.heap.size
      · have := h5 i hlt id
        rw [Array.getElem?_eq_getElem hi1, Array.getElem?_eq_getElem hlt] at this
        injection this with this
        rw [Array.getElem_append_left hlt]
        exact this
      · rw [Array.getElem_append_right (by omega)]
        simp only [Array.getElem_extract]
        congr 1
        omega
  obtain ⟨heap', tape', drawn', os', output'⟩ := w'
  obtain ⟨heap, tape, drawn, os, output⟩ := w
  simp only at h1 h2 h3 hh hd
  subst h1 h2 h3
  unfold Sort.grow World.drewN
  simp only
  rw [← hh]
  congr 1
  omega

set_option maxRecDepth 100000 in
set_option maxHeartbeats 1000000 in
theorem indexS1_calls (w : World) (v : Value) (xs : List Str) (F : Nat) (c1 : Value) (P : Str → Bool) (hv : Sl w 9 1 v (strsV xs))
    (hcf : ∀ (x : Str) (W : World), Sem.run Tryz.prog (callFunc F #[.string ⟨x.toArray⟩, c1]) W = .ok (.enter F #[.string ⟨x.toArray⟩, c1]) W)
    (hF : ∀ (x : Str) (W : World), x ∈ xs → Pure w W → Calls Tryz.prog F #[.string ⟨x.toArray⟩, c1] W (BoolPost W (P x))) :
    Calls Tryz.prog 124 #[v, .func (.func F) #[] #[c1]] w (IntPost w (idxQ P xs 0)) := by
  have HF := Lib.hid hF
  obtain ⟨A, n, c, rfl, hc1, hc2, hl, hr⟩ := hv
  have hln : xs.length = n := by simpa [strsV] using hl
  subst hln
  have HR := Lib.hid hr
  clear hF hl hr
  go_enter Tryz.func124, Tryz.ntmps124
  go_wp2_with fail
  go_loopg [8] xs.length (fun gk i wr => ∃ k : Nat, xs.length - k = gk ∧ k ≤ xs.length ∧ i = .int .i64 (k : Int) ∧ idxQ P xs 0 = idxQ P (xs.drop k) (k : Int) ∧ Pure w wr)
  case atStart => exact ⟨0, by omega, by omega, rfl, rfl, Mod.refl _ _⟩
  case round =>
    obtain ⟨k, rfl, hk, rfl, hix, hm⟩ := hrel
    have HIX := Lib.hid hix
    clear hix
    by_cases hlt : k < xs.length
    · obtain ⟨g, off, rfl, hrow⟩ := HR.out (by omega)
      have hq := (hrow.mod hm id).cell (strsV_get xs k hlt)
      have hd : xs.drop k = xs[k] :: xs.drop (k + 1) := List.drop_eq_getElem_cons hlt
      have hcall := HF.out xs[k] wr (List.getElem_mem hlt) hm
      have hi2 : idxQ P xs 0 = if P xs[k] then (k : Int) else idxQ P (xs.drop (k + 1)) ((k : Int) + 1) := by rw [HIX.out, hd]; rfl
      have HI2 := Lib.hid hi2
      have HC := Lib.hid hcall
      clear hd hi2 hcall hrow HIX
      generalize xs[k] = x at *
      go_wp2_with fail
      refine HC.out.mono ?_
      rintro e w1 ⟨rfl, hm1⟩
      cases hp : P x
      · go_wp2_with fail
        go_roundg (xs.length - (k + 1))
        case measure => omega
        case rel => exact ⟨k + 1, rfl, hlt, by simp, by rw [HI2.out, hp]; simp, hm.trans hm1⟩
      · go_wp2_with fail
        go_ret
        exact IntPost.of (by rw [HI2.out, hp]; rfl) (hm.trans hm1)
    · have hke : k = xs.length := by omega
      subst hke
      go_wp2_with fail
      go_ret
      exact IntPost.of (by rw [HIX.out, List.drop_of_length_le (Nat.le_refl _)]; rfl) hm


set_option maxRecDepth 100000 in
set_option maxHeartbeats 1000000 in
theorem indexS2_calls (w : World) (v : Value) (xs : List Str) (F : Nat) (c1 c2 : Value) (P : Str → Bool) (hv : Sl w 9 1 v (strsV xs))
    (hcf : ∀ (x : Str) (W : World), Sem.run Tryz.prog (callFunc F #[.string ⟨x.toArray⟩, c1, c2]) W = .ok (.enter F #[.string ⟨x.toArray⟩, c1, c2]) W)
    (hF : ∀ (x : Str) (W : World), x ∈ xs → Pure w W → Calls Tryz.prog F #[.string ⟨x.toArray⟩, c1, c2] W (BoolPost W (P x))) :
    Calls Tryz.prog 124 #[v, .func (.func F) #[] #[c1, c2]] w (IntPost w (idxQ P xs 0)) := by
  have HF := Lib.hid hF
  obtain ⟨A, n, c, rfl, hc1, hc2, hl, hr⟩ := hv
  have hln : xs.length = n := by simpa [strsV] using hl
  subst hln
  have HR := Lib.hid hr
  clear hF hl hr
  go_enter Tryz.func124, Tryz.ntmps124
  go_wp2_with fail
  go_loopg [8] xs.length (fun gk i wr => ∃ k : Nat, xs.length - k = gk ∧ k ≤ xs.length ∧ i = .int .i64 (k : Int) ∧ idxQ P xs 0 = idxQ P (xs.drop k) (k : Int) ∧ Pure w wr)
  case atStart => exact ⟨0, by omega, by omega, rfl, rfl, Mod.refl _ _⟩
  case round =>
    obtain ⟨k, rfl, hk, rfl, hix, hm⟩ := hrel
    have HIX := Lib.hid hix
    clear hix
    by_cases hlt : k < xs.length
    · obtain ⟨g, off, rfl, hrow⟩ := HR.out (by omega)
      have hq := (hrow.mod hm id).cell (strsV_get xs k hlt)
      have hd : xs.drop k = xs[k] :: xs.drop (k + 1) := List.drop_eq_getElem_cons hlt
      have hcall := HF.out xs[k] wr (List.getElem_mem hlt) hm
      have hi2 : idxQ P xs 0 = if P xs[k] then (k : Int) else idxQ P (xs.drop (k + 1)) ((k : Int) + 1) := by rw [HIX.out, hd]; rfl
      have HI2 := Lib.hid hi2
      have HC := Lib.hid hcall
      clear hd hi2 hcall hrow HIX
      generalize xs[k] = x at *
      go_wp2_with fail
      refine HC.out.mono ?_
      rintro e w1 ⟨rfl, hm1⟩
      cases hp : P x
      · go_wp2_with fail
        go_roundg (xs.length - (k + 1))
        case measure => omega
        case rel => exact ⟨k + 1, rfl, hlt, by simp, by rw [HI2.out, hp]; simp, hm.trans hm1⟩
      · go_wp2_with fail
        go_ret
        exact IntPost.of (by rw [HI2.out, hp]; rfl) (hm.trans hm1)
    · have hke : k = xs.length := by omega
      subst hke
      go_wp2_with fail
      go_ret
      exact IntPost.of (by rw [HIX.out, List.drop_of_length_le (Nat.le_refl _)]; rfl) hm


set_option maxRecDepth 100000 in
set_option maxHeartbeats 1000000 in
theorem containsS1_calls (w : World) (v : Value) (xs : List Str) (F : Nat) (c1 : Value) (P : Str → Bool) (hv : Sl w 9 1 v (strsV xs))
    (hcf : ∀ (x : Str) (W : World), Sem.run Tryz.prog (callFunc F #[.string ⟨x.toArray⟩, c1]) W = .ok (.enter F #[.string ⟨x.toArray⟩, c1]) W)
    (hF : ∀ (x : Str) (W : World), x ∈ xs → Pure w W → Calls Tryz.prog F #[.string ⟨x.toArray⟩, c1] W (BoolPost W (P x))) :
    Calls Tryz.prog 70 #[v, .func (.func F) #[] #[c1]] w (BoolPost w (xs.any P)) := by
  have HC := Lib.hid (indexS1_calls w v xs F c1 P hv hcf hF)
  have HI := Lib.hid (idxQ_any P xs 0 (by omega))
  clear hcf hF
  obtain ⟨A, n, c, rfl⟩ := hv.form
  clear hv
  go_enter Tryz.func70, Tryz.ntmps70
  go_wp2_with fail
  refine HC.out.mono ?_
  rintro e w1 ⟨rfl, hm1⟩
  generalize idxQ P xs 0 = r at *
  go_wp2_with fail
  go_ret
  exact BoolPost.of HI.out.symm hm1


theorem info_str0 : (Tryz.prog.info? 9).map (fun i => (i.zero, i.size, i.bytes)) = some (some (.string ⟨#[]⟩), 1, 16) := by kernel_rfl
theorem own_setCellsS {base g n cap : Nat} : ∀ (m o : Nat) (w : World) (zs : List Str), w.ownsRow base 9 1 (.slice (some ⟨g, 0, none⟩) n cap) n (strsV zs) →
    ∃ ys : List Str, ys.length = zs.length ∧ ys.take o = zs.take o ∧ (w.setCells g o (List.replicate m (.string ⟨#[]⟩))).ownsRow base 9 1 (.slice (some ⟨g, 0, none⟩) n cap) n (strsV ys) ∧ Mod (fun j => j = g) w (w.setCells g o (List.replicate m (.string ⟨#[]⟩)))
  | 0, o, w, zs, h => ⟨zs, rfl, rfl, h, Mod.refl _ _⟩
  | m + 1, o, w, zs, h => by
    have h1 := (h.stored o (.string ⟨#[]⟩)).1
    have e : (strsV zs).set o (.string ⟨#[]⟩) = strsV (zs.set o []) := by simp [strsV, List.map_set]
    rw [e] at h1
    obtain ⟨ys, hl, ht, h2, h3⟩ := own_setCellsS m (o + 1) (w.setCell ⟨g, o, none⟩ (.string ⟨#[]⟩)) (zs.set o []) h1
    rw [List.replicate_succ]
    refine ⟨ys, by simpa using hl, ?_, h2, (Mod.setCell (S := fun j => j = g) (p := ⟨g, o, none⟩) (Mod.refl _ _) (.inl rfl) _).trans h3⟩
    have := congrArg (List.take o) ht
    rw [List.take_take, List.take_take, Nat.min_eq_left (by omega), List.take_set_of_le (Nat.le_refl _)] at this
    exact this
theorem own_shrinkS {w : World} {base g cap n m : Nat} {e : TypeId} {xs : List Value} (h : w.ownsRow base e 1 (.slice (some ⟨g, 0, none⟩) n cap) n xs) (hm : m ≤ n) : w.ownsRow base e 1 (.slice (some ⟨g, 0, none⟩) m cap) m (xs.take m) := by
  rcases h.2 with ⟨h0, _⟩ | ⟨g', cap', cur, hv, hbase, hb, h1, h2, h3, h4⟩
  · cases h0
  · cases hv
    have := h.1
    refine ⟨by simp; omega, .inr ⟨g, cap, cur, rfl, hbase, hb, by omega, h2, h3, ?_⟩⟩
    rw [← h4, List.take_take]
    congr 1
    omega

/-- Between the rounds of DeleteFunc. -/
def DelRel (w : World) (base g cap n : Nat) (P : Str → Bool) (xs : List Str) (gk : Nat) (i j : Value) (wr : World) : Prop :=
  ∃ (k : Nat) (ys : List Str), n - k = gk ∧ k ≤ n ∧ j = .int .i64 (k : Int) ∧ i = .int .i64 (((xs.take k).filter fun x => !P x).length : Int) ∧ ys.length = n ∧
    ys.take ((xs.take k).filter fun x => !P x).length = ((xs.take k).filter fun x => !P x) ∧ ys.drop k = xs.drop k ∧ ((xs.take k).filter fun x => !P x).length < k ∧
    wr.ownsRow base 9 1 (.slice (some ⟨g, 0, none⟩) n cap) n (strsV ys) ∧ Mod (fun j => j = g) w wr
def DelPost (w : World) (base g cap : Nat) (zs : List Str) (e : Ending) (w' : World) : Prop :=
  e = .returned (.slice (some ⟨g, 0, none⟩) zs.length cap) ∧ w'.ownsRow base 9 1 (.slice (some ⟨g, 0, none⟩) zs.length cap) zs.length (strsV zs) ∧ Mod (fun j => j = g) w w'
theorem filter_none {P : Str → Bool} {xs : List Str} (h : ∀ x ∈ xs, P x = false) : xs.filter (fun x => !P x) = xs := by
  rw [List.filter_eq_self]
  intro x hx
  simp [h x hx]

end Go.Proofs.YtbdeicbdehgeiaaGreatDoor
