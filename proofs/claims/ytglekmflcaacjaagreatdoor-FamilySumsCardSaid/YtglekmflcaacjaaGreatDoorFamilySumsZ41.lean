/- Texts of the proof of FamilySums, put together: SrtA. -/
import Derived.Test.YtglekmflcaacjaaGreatDoorFamilySumsZ10
import Derived.Test.YtglekmflcaacjaaGreatDoorFamilySumsZ13
import Derived.Test.YtglekmflcaacjaaGreatDoorFamilySumsZ16
import Derived.Test.YtglekmflcaacjaaGreatDoorFamilySumsZ17
import Derived.Test.YtglekmflcaacjaaGreatDoorFamilySumsZ25
import Derived.Sort.OwnSorted
import Derived.Shelf.Sort.Plain
import Derived.Shelf.Slices.In.SortNone
import Derived.Shelf.Slices.CompactS
import Derived.Shelf.Strings.OnBuilder
import Derived.Lib.SlicesCompact
import Derived.Shelf.SlIter.Nil
import Derived.Shelf.SortM.Plain
import Derived.Shelf.SortM.SortNone
/- Sorting, Compact, Join, the sorted keys of a map (the shelf's contracts in my words). -/
namespace Go.Proofs.YtglekmflcaacjaaGreatDoor
set_option linter.unusedVariables false
set_option linter.unusedSimpArgs false
open Go.RowKit Go.Sort

def SameRow2 (w : World) (base : Nat) (v : Value) (ss : List Str) (e : Ending) (w' : World) : Prop :=
  e = .returned (.tuple #[]) ∧ w'.ownsRow base 9 1 v ss.length (strsV ss) ∧ Mod (fun k => v.ownBlock = some k) w w'
theorem grown_mod2 {w w' : World} {row : Option Nat} (h : w.grownBy w' row) : Mod (fun k => row = some k) w w' :=
  ⟨h.os, h.tape, h.output, h.size, fun k hk hs => h.block k hk (fun x => hs x.symm)⟩
theorem own_nil2 {w : World} {base n : Nat} {e : TypeId} {v : Value} (h : w.ownsRow base e 1 v n []) : n = 0 := by have := h.1; simp at this; omega

theorem sortS_calls2 (w : World) (v : Value) (n base : Nat) (ss : List Str) (hown : w.ownsRow base 9 1 v n (strsV ss)) (hl : ss.length ≤ 1000000) :
    Calls Tryz.prog 61 #[v] w (SameRow2 w base v (ss.mergeSort fun x y => decide (x ≤ y))) := by
  have hn : n = ss.length := by have := hown.1; simp [strsV] at this; omega
  subst hn
  rcases hown.2 with ⟨rfl, h0⟩ | ⟨g, cap, cur, rfl, hbase, hb, h1, h2, h3, h4⟩
  · have e : ss = [] := List.eq_nil_of_length_eq_zero h0
    subst e
    refine (Any.slices_Sort_string_none Tryz.lays190 none 0 w).mono ?_
    rintro e w' ⟨rfl, rfl⟩
    exact ⟨rfl, by simpa using hown, Mod.refl _ _⟩
  · refine (Any.slices_Sort_string Tryz.lays190 g 0 cap ss w (holds_of_block hb (by simpa [strsV] using h4)) (lt_of_heap hb) (by omega)).mono ?_
    rintro e w' ⟨rfl, nn, os, rfl⟩
    refine ⟨rfl, ?_, grown_mod2 (grownBy_sorted _)⟩
    have := ownsRow_sorted (n := nn) (os := os) (ts := ss.mergeSort fun x y => decide (x ≤ y)) (ss := ss) (by simp) hbase hb h1 h2 h3
    simpa [strsV] using this


/-- What Compact hands back. -/
def CompactPost2 (w : World) (base g cap : Nat) (ss : List Str) (e : Ending) (w' : World) : Prop :=
  e = .returned (.slice (some ⟨g, 0, none⟩) (Lib.compact ss).length cap) ∧ w'.ownsRow base 9 1 (.slice (some ⟨g, 0, none⟩) (Lib.compact ss).length cap) (Lib.compact ss).length (strsV (Lib.compact ss)) ∧ Mod (fun k => k = g) w w'
theorem own_shrink2 {w : World} {base g cap n m : Nat} {e : TypeId} {xs : List Value} (h : w.ownsRow base e 1 (.slice (some ⟨g, 0, none⟩) n cap) n xs) (hm : m ≤ n) : w.ownsRow base e 1 (.slice (some ⟨g, 0, none⟩) m cap) m (xs.take m) := by
  rcases h.2 with ⟨h0, _⟩ | ⟨g', cap', cur, hv, hbase, hb, h1, h2, h3, h4⟩
  · cases h0
  · cases hv
    have := h.1
    refine ⟨by simp; omega, .inr ⟨g, cap, cur, rfl, hbase, hb, by omega, h2, h3, ?_⟩⟩
    rw [← h4, List.take_take]
    congr 1
    omega
theorem compact_le2 (ss : List Str) : (Lib.compact ss).length ≤ ss.length := by
  unfold Lib.compact Lib.compactUpTo
  rw [List.length_map]
  have := List.length_filter_le (Lib.keeps ss.toArray) (List.range ss.length)
  simpa using this
theorem compact_mem2 (ss : List Str) : ∀ x ∈ Lib.compact ss, x ∈ ss := by
  intro x hx
  unfold Lib.compact Lib.compactUpTo at hx
  simp only [List.mem_map, List.mem_filter, List.mem_range] at hx
  obtain ⟨i, ⟨hi, _⟩, rfl⟩ := hx
  rw [getElem!_pos ss.toArray i (by simpa using hi)]
  simp
theorem compactS_calls2 (w : World) (g cap n base : Nat) (ss : List Str) (hown : w.ownsRow base 9 1 (.slice (some ⟨g, 0, none⟩) n cap) n (strsV ss)) (hl : ss.length ≤ 1000000) :
    Calls Tryz.prog 88 #[.slice (some ⟨g, 0, none⟩) n cap] w (CompactPost2 w base g cap ss) := by
  have hn : n = ss.length := by have := hown.1; simp [strsV] at this; omega
  subst hn
  rcases hown.2 with ⟨h0, _⟩ | ⟨g', cap', cur, hv, hbase, hb, h1, h2, h3, h4⟩
  · cases h0
  · cases hv
    refine (Any.slices_Compact_string Tryz.lays194 g 0 cap ss w (holds_of_block hb (by simpa [strsV] using h4)) (by omega) h1).mono ?_
    rintro e w' ⟨rfl, nn, rfl⟩
    have e0 : ∀ W : World, W = grow W #[] := fun W => by simp [grow]
    rw [e0 (putRow _ _ _ _ _)]
    have hcl := compact_le2 ss
    refine ⟨rfl, ?_, (grown_mod2 (grownBy_sorted _)).mono (fun k hk => by injection hk with hk; exact hk.symm)⟩
    have h := ownsRow_sorted (n := nn) (os := #[]) (ts := Lib.compact ss ++ List.replicate (ss.length - (Lib.compact ss).length) []) (ss := ss) (by simp; omega) hbase hb h1 h2 h3
    have h2 := own_shrink2 h hcl
    rw [List.map_append, List.take_left' (by simp)] at h2
    exact h2

end Go.Proofs.YtglekmflcaacjaaGreatDoor

namespace Go.Proofs.YtglekmflcaacjaaGreatDoor
open Go.RowKit

theorem bldExtraJ : Builder.Extra Tryz.prog Tryz.lays156_ren where
  sizeBuilder := by kernel_rfl
  liesBuilder := by kernel_rfl
  t5 := Tryz.underlying5
  a5 := Tryz.isAgg5
  z5 := Tryz.sizeOf5
  v5 := Tryz.zeroValue5
  infoByte := by kernel_rfl
  cellsByte := by kernel_rfl
  sizeByte := by kernel_rfl
  neB5 := by decide
theorem map_strs (xs : List Str) : (xs.map fun s => (⟨s.toArray⟩ : ByteArray)).map (·.data.toList) = xs := by
  induction xs with
  | nil => rfl
  | cons x xs ih => simp only [List.map_cons, ih]
theorem join_calls (w : World) (v : Value) (xs : List Str) (sep : Str) (h : Sl w 9 1 v (strsV xs)) (hN : xs.length ≤ 1000000) (hlen : (Lib.join xs sep).length ≤ 100000000) : Calls Tryz.prog 86 #[v, .string ⟨sep.toArray⟩] w (StrPost1 w (Lib.join xs sep)) := by
  obtain ⟨A, n, c, rfl, h1, h2, h3, h4⟩ := h
  have hn : xs.length = n := by rw [strsV_len] at h3; omega
  subst hn
  by_cases h0 : xs.length = 0
  · obtain rfl := List.eq_nil_of_length_eq_zero h0
    refine (Any.strings_Join_none Tryz.lays156 bldExtraJ A c ⟨sep.toArray⟩ w).mono ?_
    rintro e w' ⟨rfl, rfl⟩
    exact ⟨rfl, Mod.refl _ _⟩
  · obtain ⟨g, off, rfl, hrow⟩ := h4 (by omega)
    have e := map_strs xs
    have hj := Any.strings_Join Tryz.lays156 bldExtraJ g off c (xs.map fun s => (⟨s.toArray⟩ : ByteArray)) ⟨sep.toArray⟩ w (fun j x hx => by
      rw [List.getElem?_map] at hx
      cases hxj : xs[j]? with
      | none => rw [hxj] at hx; cases hx
      | some s =>
        rw [hxj] at hx
        injection hx with hx
        subst hx
        refine hrow.cell ?_
        simp [strsV, hxj]) hrow.lt (by rw [List.length_map]; omega) (by rw [List.length_map]; exact h1) (by rw [e]; show (Lib.join xs sep).length ≤ _; omega)
    rw [e, List.length_map] at hj
    refine hj.mono ?_
    rintro e w' ⟨rfl, hb⟩
    exact ⟨rfl, Mod.of_below hb⟩

end Go.Proofs.YtglekmflcaacjaaGreatDoor

namespace Go.Proofs.YtglekmflcaacjaaGreatDoor
open Go.RowKit

def uniq : List Str → List Str
  | [] => []
  | x :: xs => if x ∈ xs then uniq xs else x :: uniq xs
theorem mem_uniq {x : Str} : ∀ {l : List Str}, x ∈ uniq l ↔ x ∈ l
  | [] => Iff.rfl
  | y :: l => by
    unfold uniq
    split
    · rename_i h
      rw [mem_uniq]
      constructor
      · intro hx; exact List.mem_cons_of_mem _ hx
      · intro hx
        rcases List.mem_cons.1 hx with rfl | hx
        · exact h
        · exact hx
    · rw [List.mem_cons, List.mem_cons, mem_uniq]
theorem nodup_uniq : ∀ l : List Str, (uniq l).Nodup
  | [] => List.nodup_nil
  | y :: l => by
    unfold uniq
    split
    · exact nodup_uniq l
    · rename_i h
      exact List.nodup_cons.2 ⟨fun hx => h (mem_uniq.1 hx), nodup_uniq l⟩
def leQ (x y : Str) : Bool := decide (x ≤ y)
theorem leQ_trans (a b c : Str) (h1 : leQ a b = true) (h2 : leQ b c = true) : leQ a c = true := by
  simp only [leQ, decide_eq_true_eq] at *
  exact List.le_trans h1 h2
theorem leQ_total (a b : Str) : (leQ a b || leQ b a) = true := by
  simp only [leQ, Bool.or_eq_true, decide_eq_true_eq]
  exact List.le_total a b
theorem sorted_le (l : List Str) : (l.mergeSort fun x y => decide (x ≤ y)).Pairwise (· ≤ ·) := by
  have h := List.pairwise_mergeSort (le := leQ) leQ_trans leQ_total l
  have e : l.mergeSort leQ = l.mergeSort fun x y => decide (x ≤ y) := rfl
  rw [e] at h
  exact h.imp fun h => by simpa [leQ] using h
theorem lt_of {a b : Str} (h : a ≤ b) (hne : a ≠ b) : a < b := by
  by_cases h1 : a < b
  · exact h1
  · exact absurd (List.le_antisymm h (List.not_lt.1 h1)) hne
theorem sorted_lt {l : List Str} (hn : l.Nodup) : (l.mergeSort fun x y => decide (x ≤ y)).Pairwise (· < ·) := by
  have h1 := sorted_le l
  have h2 : (l.mergeSort fun x y => decide (x ≤ y)).Nodup := (List.mergeSort_perm _ _).nodup_iff.2 hn
  exact (h1.and h2).imp fun ⟨a, b⟩ => lt_of a b
theorem compactUp_sorted {zs : List Str} (h : zs.Pairwise (· ≤ ·)) : ∀ m, m ≤ zs.length → (Lib.compactUpTo zs.toArray m).Pairwise (· < ·) ∧ ∀ x, x ∈ Lib.compactUpTo zs.toArray m ↔ x ∈ zs.take m
  | 0, _ => by simp [Lib.compactUpTo]
  | m + 1, hm => by
    obtain ⟨h1, h2⟩ := compactUp_sorted h m (by omega)
    have hml : m < zs.length := by omega
    have hg : zs.toArray[m]! = zs[m] := by rw [getElem!_pos zs.toArray m (by simpa using hml)]; simp
    have hle : ∀ j (hj : j < m), zs[j] ≤ zs[m] := fun j hj => (List.pairwise_iff_getElem.1 h) j m (by omega) hml hj
    rw [Lib.compactUpTo_succ, hg, List.take_succ_eq_append_getElem hml]
    by_cases hk : Lib.keeps zs.toArray m = true
    · rw [if_pos hk]
      refine ⟨List.pairwise_append.2 ⟨h1, List.pairwise_singleton _ _, ?_⟩, fun x => ?_⟩
      · intro x hx y hy
        rw [List.mem_singleton.1 hy]
        have hx2 := (h2 x).1 hx
        obtain ⟨j, hj, rfl⟩ := List.getElem_of_mem hx2
        rw [List.getElem_take]
        have hjm : j < m := by simp at hj; omega
        refine lt_of (hle j hjm) (fun he => ?_)
        unfold Lib.keeps at hk
        simp only [decide_eq_true_eq] at hk
        rcases hk with hk | hk
        · omega
        · refine hk ?_
          have hm1 : m - 1 < zs.length := by omega
          have hg1 : zs.toArray[m - 1]! = zs[m - 1] := by rw [getElem!_pos zs.toArray (m - 1) (by simpa using hm1)]; simp
          rw [hg, hg1]
          refine List.le_antisymm ?_ (hle (m - 1) (by omega))
          rw [← he]
          rcases Nat.eq_or_lt_of_le (show j ≤ m - 1 by omega) with e | hlt
          · subst e; exact List.le_refl _
          · exact (List.pairwise_iff_getElem.1 h) j (m - 1) (by omega) hm1 hlt
      · rw [List.mem_append, List.mem_append, h2 x]
    · rw [if_neg hk, List.append_nil]
      refine ⟨h1, fun x => ?_⟩
      rw [h2 x, List.mem_append]
      constructor
      · exact .inl
      · rintro (hx | hx)
        · exact hx
        · unfold Lib.keeps at hk
          simp only [decide_eq_true_eq, not_or, Decidable.not_not] at hk
          obtain ⟨h0, he⟩ := hk
          have hm1 : m - 1 < zs.length := by omega
          have hg1 : zs.toArray[m - 1]! = zs[m - 1] := by rw [getElem!_pos zs.toArray (m - 1) (by simpa using hm1)]; simp
          rw [hg, hg1] at he
          rw [List.mem_singleton.1 hx, he]
          have : m - 1 < (zs.take m).length := by simp; omega
          have hmem := List.getElem_mem this
          rw [List.getElem_take] at hmem
          exact hmem
theorem compact_sorted {zs : List Str} (h : zs.Pairwise (· ≤ ·)) : (Lib.compact zs).Pairwise (· < ·) ∧ ∀ x, x ∈ Lib.compact zs ↔ x ∈ zs := by
  have := compactUp_sorted h zs.length (Nat.le_refl _)
  rw [List.take_length] at this
  exact this
theorem strict_unique {a b : List Str} (ha : a.Pairwise (· < ·)) (hb : b.Pairwise (· < ·)) (hm : ∀ x, x ∈ a ↔ x ∈ b) : a = b := by
  have na : a.Nodup := ha.imp fun h e => by subst e; exact List.lt_irrefl _ h
  have nb : b.Nodup := hb.imp fun h e => by subst e; exact List.lt_irrefl _ h
  refine List.Perm.eq_of_pairwise (le := fun x y => x < y) (fun x y _ _ h1 h2 => absurd (List.lt_trans h1 h2) (List.lt_irrefl _)) ha hb ((List.perm_ext_iff_of_nodup na nb).2 hm)
/-- A set's keys, sorted, are the sorted list with its doubles struck. -/
theorem compact_uniq (S : List Str) : Lib.compact (S.mergeSort fun x y => decide (x ≤ y)) = (uniq S).mergeSort fun x y => decide (x ≤ y) := by
  obtain ⟨h1, h2⟩ := compact_sorted (sorted_le S)
  refine strict_unique h1 (sorted_lt (nodup_uniq S)) (fun x => ?_)
  rw [h2 x, (List.mergeSort_perm _ _).mem_iff, (List.mergeSort_perm _ _).mem_iff, mem_uniq]

end Go.Proofs.YtglekmflcaacjaaGreatDoor

namespace Go.Proofs.YtglekmflcaacjaaGreatDoor
open Go.RowKit Go.Maps Go.Sort Go.Shelf

theorem sortsK (m : Nat) : AnyZ.SortsIn Tryz.prog Tryz.sortedK_ren Fence.wide m :=
  ⟨fun blk off cap ss W hH hblk hsz => callsIn_wide.2 (AnyM.slices_Sort_string Tryz.sortK blk off cap ss W hH hblk hsz),
   fun p cap W => callsIn_wide.2 (AnyM.slices_Sort_string_none Tryz.sortK p cap W)⟩
/-- The keys of a map, as they stand in the datum. -/
theorem perm_keys {w : World} {b n : Nat} {R : Value → Option (DataW Value × List MemPlace)} {D : DataW Value} (hown : w.ownsMap Tryz.prog 9 R b n D) {K : List Str} (hn : K.Nodup) (hK : ∀ x, x ∈ K ↔ Maps.has D (.string x) = true) : K.Perm (strKeys D) := by
  obtain ⟨es, hD, hpw, _⟩ := hown.entries strKey
  obtain ⟨es', hD', hko⟩ := hown.keysOf
  obtain rfl : es = es' := by rw [hD] at hD'; simpa using hD'
  subst hD
  exact perm_strKeys hpw (fun p hp => by obtain ⟨v, hv⟩ := hko p hp; obtain ⟨x, _, hx, _⟩ := Maps.keyOf_str Tryz.underlying9 hv; exact ⟨x, hx⟩) hn hK
theorem size_keys {w : World} {b n : Nat} {R : Value → Option (DataW Value × List MemPlace)} {D : DataW Value} (hown : w.ownsMap Tryz.prog 9 R b n D) : Maps.size D ≤ n := hown.size_le

def SortedPost (w : World) (ys : List Str) (e : Ending) (w' : World) : Prop := ∃ v, e = .returned v ∧ w'.ownsRow w.heap.size 9 1 v ys.length (strsV ys) ∧ Pure w w'
theorem mapsKeysSB_calls (mb : Option Nat) (W : World) : Calls Tryz.prog 84 #[.map mb] W fun e w' => e = .returned (.func (.func 117) #[] #[.pointer (some ⟨W.heap.size, 0, none⟩)]) ∧ w' = W.alloc (.cells #[.map mb] 110) :=
  callsIn_wide.1 (AnyZ.keys_in Tryz.keysSB Fence.wide 5 trivial rfl mb W)

set_option maxHeartbeats 1000000 in
theorem sortedSB_calls (b n : Nat) (f : Str → Option Value) (w : World) (hM : MapS w b n f) (hn : n ≤ 1000000) (K : List Str) (hKn : K.Nodup) (hK : ∀ x, x ∈ K ↔ (f x).isSome = true) :
    Calls Tryz.prog 53 #[.func (.func 117) #[] #[.pointer (some ⟨w.heap.size, 0, none⟩)]] (w.alloc (.cells #[.map (some b)] 110)) (SortedPost (w.alloc (.cells #[.map (some b)] 110)) (K.mergeSort fun x y => decide (x ≤ y))) := by
  obtain ⟨D0, hown, _, hhas⟩ := hM
  have hsz := size_keys hown
  have hperm : K.Perm (strKeys D0) := perm_keys hown hKn (fun x => by rw [hK x, hhas x])
  have hbl := hown.lt
  have hseq : SeqGives Fence.wide 2 Tryz.prog 117 #[.pointer (some ⟨w.heap.size, 0, none⟩)] encStr (fun ss => ss.Perm (strKeys D0)) (Maps.size D0) (w.alloc (.cells #[.map (some b)] 110)) :=
    AnyZ.keys_gives (ρ := Tryz.keysSB_ren) { Tryz.keysSB with } Fence.wide _ trivial rfl (by omega) w.heap.size b n D0 _ (by simp) (by simp) (by
      obtain ⟨es, clock, hb, Ft, hs, hD⟩ := hown
      exact ⟨es, clock, (Below.heap_alloc _ _ b hbl).trans hb, Ft, hs, hD⟩)
  have hmain := callsIn_wide.1 (AnyZ.sorted_in Tryz.sortedK Fence.wide 5 trivial trivial trivial trivial rfl (by omega) (sortsK _) (enters_of Tryz.func61 (by kernel_rfl) rfl) 117 #[.pointer (some ⟨w.heap.size, 0, none⟩)] trivial (enters_of Tryz.func117 (by kernel_rfl) rfl) _ (Maps.size D0) (by unfold maxLen; omega) (by omega) _ hseq)
  refine hmain.mono ?_
  rintro e w' ⟨v, ss, rfl, hS, hrow, hnil, hb⟩
  have he : ss.mergeSort (fun x y => decide (x ≤ y)) = K.mergeSort fun x y => decide (x ≤ y) := mergeSort_of_perm (hS.trans hperm.symm)
  rw [he] at hrow
  have hl : ss.length = (K.mergeSort fun x y => decide (x ≤ y)).length := by rw [← he]; simp
  rw [hl] at hrow
  exact ⟨v, rfl, hrow, Mod.of_below hb⟩

end Go.Proofs.YtglekmflcaacjaaGreatDoor
