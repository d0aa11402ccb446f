/- Texts of the proof of QueryPatterns, put together: SrtP. -/
import Derived.Test.YtbajgjbdcgakoaaGreatDoorQueryPatternsZ9
import Derived.Sort.OwnSorted
import Derived.Lib.SlicesCompact
/- Sorted lists of strings, without doubles: plain. -/
namespace Go.Proofs.YtbajgjbdcgakoaaGreatDoor
set_option linter.unusedVariables false
set_option linter.unusedSimpArgs false
open Go.RowKit Go.Sort

def uniq : List Str → List Str
 | [] => []
 | x :: xs => if x ∈ xs then uniq xs else x :: uniq xs
theorem mem_uniq {x : Str} : ∀ {l : List Str}, x ∈ uniq l ↔ x ∈ l
 | [] => Iff.rfl
 | y :: l => by
  unfold uniq
  split
  ·rename_i h
   rw [mem_uniq]
   constructor
   ·intro hx; exact List.mem_cons_of_mem _ hx
   ·intro hx
    rcases List.mem_cons.1 hx with rfl | hx
    ·exact h
    ·exact hx
  ·rw [List.mem_cons, List.mem_cons, mem_uniq]
theorem nodup_uniq : ∀ l : List Str, (uniq l).Nodup
 | [] => List.nodup_nil
 | y :: l => by
  unfold uniq
  split
  ·exact nodup_uniq l
  ·rename_i h
   exact List.nodup_cons.2 ⟨fun hx => h (mem_uniq.1 hx), nodup_uniq l⟩
def leQ (x y : Str) : Bool := decide (x ≤ y)
theorem leQ_trans (a b c : Str) (h1 : leQ a b = true) (h2 : leQ b c = true) : leQ a c = true := by
 simp only [leQ, decide_eq_true_eq] at *
 exact List.le_trans h1 h2
theorem leQ_total (a b : Str) : (leQ a b || leQ b a) = true := by
 simp only [leQ, Bool.or_eq_true, decide_eq_true_eq]
 exact List.le_total a b
theorem sorted_le (l : List Str) : (l.mergeSort fun x y => decide (x ≤ y)).Pairwise (· ≤ ·) := by
 have h := List.pairwise_mergeSort (le := leQ) leQ_trans leQ_total l
 have e : l.mergeSort leQ = l.mergeSort fun x y => decide (x ≤ y) := rfl
 rw [e] at h
 exact h.imp fun h => by simpa [leQ] using h
theorem lt_of {a b : Str} (h : a ≤ b) (hne : a ≠ b) : a < b := by
 by_cases h1 : a < b
 ·exact h1
 ·exact absurd (List.le_antisymm h (List.not_lt.1 h1)) hne
theorem sorted_lt {l : List Str} (hn : l.Nodup) : (l.mergeSort fun x y => decide (x ≤ y)).Pairwise (· < ·) := by
 have h1 := sorted_le l
 have h2 : (l.mergeSort fun x y => decide (x ≤ y)).Nodup := (List.mergeSort_perm _ _).nodup_iff.2 hn
 exact (h1.and h2).imp fun ⟨a, b⟩ => lt_of a b
theorem compactUp_sorted {zs : List Str} (h : zs.Pairwise (· ≤ ·)) : ∀ m, m ≤ zs.length → (Lib.compactUpTo zs.toArray m).Pairwise (· < ·) ∧ ∀ x, x ∈ Lib.compactUpTo zs.toArray m ↔ x ∈ zs.take m
 | 0, _ => by simp [Lib.compactUpTo]
 | m + 1, hm => by
  obtain ⟨h1, h2⟩ := compactUp_sorted h m (by omega)
  have hml : m < zs.length := by omega
  have hg : zs.toArray[m]! = zs[m] := by rw [getElem!_pos zs.toArray m (by simpa using hml)]; simp
  have hle : ∀ j (hj : j < m), zs[j] ≤ zs[m] := fun j hj => (List.pairwise_iff_getElem.1 h) j m (by omega) hml hj
  rw [Lib.compactUpTo_succ, hg, List.take_succ_eq_append_getElem hml]
  by_cases hk : Lib.keeps zs.toArray m = true
  ·rw [if_pos hk]
   refine ⟨List.pairwise_append.2 ⟨h1, List.pairwise_singleton _ _, ?_⟩, fun x => ?_⟩
   ·intro x hx y hy
    rw [List.mem_singleton.1 hy]
    have hx2 := (h2 x).1 hx
    obtain ⟨j, hj, rfl⟩ := List.getElem_of_mem hx2
    rw [List.getElem_take]
    have hjm : j < m := by simp at hj; omega
    refine lt_of (hle j hjm) (fun he => ?_)
    unfold Lib.keeps at hk
    simp only [decide_eq_true_eq] at hk
    rcases hk with hk | hk
    ·omega
    ·refine hk ?_
     have hm1 : m - 1 < zs.length := by omega
     have hg1 : zs.toArray[m - 1]! = zs[m - 1] := by rw [getElem!_pos zs.toArray (m - 1) (by simpa using hm1)]; simp
     rw [hg, hg1]
     refine List.le_antisymm ?_ (hle (m - 1) (by omega))
     rw [← he]
     rcases Nat.eq_or_lt_of_le (show j ≤ m - 1 by omega) with e | hlt
     ·subst e; exact List.le_refl _
     ·exact (List.pairwise_iff_getElem.1 h) j (m - 1) (by omega) hm1 hlt
   ·rw [List.mem_append, List.mem_append, h2 x]
  ·rw [if_neg hk, List.append_nil]
   refine ⟨h1, fun x => ?_⟩
   rw [h2 x, List.mem_append]
   constructor
   ·exact .inl
   ·rintro (hx | hx)
    ·exact hx
    ·unfold Lib.keeps at hk
     simp only [decide_eq_true_eq, not_or, Decidable.not_not] at hk
     obtain ⟨h0, he⟩ := hk
     have hm1 : m - 1 < zs.length := by omega
     have hg1 : zs.toArray[m - 1]! = zs[m - 1] := by rw [getElem!_pos zs.toArray (m - 1) (by simpa using hm1)]; simp
     rw [hg, hg1] at he
     rw [List.mem_singleton.1 hx, he]
     have : m - 1 < (zs.take m).length := by simp; omega
     have hmem := List.getElem_mem this
     rw [List.getElem_take] at hmem
     exact hmem
theorem compact_sorted {zs : List Str} (h : zs.Pairwise (· ≤ ·)) : (Lib.compact zs).Pairwise (· < ·) ∧ ∀ x, x ∈ Lib.compact zs ↔ x ∈ zs := by
 have := compactUp_sorted h zs.length (Nat.le_refl _)
 rw [List.take_length] at this
 exact this
theorem strict_unique {a b : List Str} (ha : a.Pairwise (· < ·)) (hb : b.Pairwise (· < ·)) (hm : ∀ x, x ∈ a ↔ x ∈ b) : a = b := by
 have na : a.Nodup := ha.imp fun h e => by subst e; exact List.lt_irrefl _ h
 have nb : b.Nodup := hb.imp fun h e => by subst e; exact List.lt_irrefl _ h
 refine List.Perm.eq_of_pairwise (le := fun x y => x < y) (fun x y _ _ h1 h2 => absurd (List.lt_trans h1 h2) (List.lt_irrefl _)) ha hb ((List.perm_ext_iff_of_nodup na nb).2 hm)
end Go.Proofs.YtbajgjbdcgakoaaGreatDoor
