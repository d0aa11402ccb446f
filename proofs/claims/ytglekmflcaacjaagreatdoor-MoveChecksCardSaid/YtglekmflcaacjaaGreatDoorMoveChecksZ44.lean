/- Texts of the proof of MoveChecks, put together: SrtA, LawI, MovP, MovA, MovB, MovD, MovE, MovF, MovG, SrtB, MovC, MovH, LawMoveChecks. -/
import Derived.Test.YtglekmflcaacjaaGreatDoorMoveChecksZ8
import Derived.Test.YtglekmflcaacjaaGreatDoorMoveChecksZ11
import Derived.Test.YtglekmflcaacjaaGreatDoorMoveChecksZ12
import Derived.Test.YtglekmflcaacjaaGreatDoorMoveChecksZ14
import Derived.Test.YtglekmflcaacjaaGreatDoorMoveChecksZ17
import Derived.Test.YtglekmflcaacjaaGreatDoorMoveChecksZ18
import Derived.Test.YtglekmflcaacjaaGreatDoorMoveChecksZ19
import Derived.Test.YtglekmflcaacjaaGreatDoorMoveChecksZ21
import Derived.Test.YtglekmflcaacjaaGreatDoorMoveChecksZ22
import Derived.Test.YtglekmflcaacjaaGreatDoorMoveChecksZ26
import Derived.Test.YtglekmflcaacjaaGreatDoorMoveChecksZ34
import Derived.Test.YtglekmflcaacjaaGreatDoorMoveChecksZ35
import Derived.Test.YtglekmflcaacjaaGreatDoorMoveChecksZ36
import Derived.Test.YtglekmflcaacjaaGreatDoorMoveChecksZ37
import Derived.Test.YtglekmflcaacjaaGreatDoorMoveChecksZ40
import Derived.Test.YtglekmflcaacjaaGreatDoorMoveChecksZ41
import Derived.Test.YtglekmflcaacjaaGreatDoorMoveChecksZ42
import Derived.Sort.OwnSorted
import Derived.Shelf.Sort.Plain
import Derived.Shelf.Slices.In.SortNone
import Derived.Shelf.Slices.CompactS
import Derived.Shelf.Strings.OnBuilder
import Derived.Lib.SlicesCompact
import Derived.Shelf.SlIter.Nil
import Derived.Shelf.SortM.Plain
import Derived.Shelf.SortM.SortNone
import Derived.Laws.AppendOwnNone
import Derived.Deep.DeepCutAuto
import Derived.Deep.CutBlock
import Derived.RangeFuncNested
import Derived.RangeFuncBound
import Derived.RangeFuncCalls
import Derived.RangeFuncLeaves
import Derived.Shelf.Abstract
import Derived.Shelf.RegionOpen
import Derived.WalkKit
import Derived.OwnWalkIn
import Derived.TacticsInMore
import Derived.LoopNIn
import Derived.LoopIn
import Derived.Deep.AppendLies
/- Sorting, Compact, Join, the sorted keys of a map (the shelf's contracts in my words). -/
namespace Go.Proofs.YtglekmflcaacjaaGreatDoor
set_option linter.unusedVariables false
set_option linter.unusedSimpArgs false
open Go.RowKit Go.Sort

def SameRow2 (w : World) (base : Nat) (v : Value) (ss : List Str) (e : Ending) (w' : World) : Prop :=
  e = .returned (.tuple #[]) ∧ w'.ownsRow base 9 1 v ss.length (strsV ss) ∧ Mod (fun k => v.ownBlock = some k) w w'
theorem grown_mod2 {w w' : World} {row : Option Nat} (h : w.grownBy w' row) : Mod (fun k => row = some k) w w' :=
  ⟨h.os, h.tape, h.output, h.size, fun k hk hs => h.block k hk (fun x => hs x.symm)⟩
theorem own_nil2 {w : World} {base n : Nat} {e : TypeId} {v : Value} (h : w.ownsRow base e 1 v n []) : n = 0 := by have := h.1; simp at this; omega

theorem sortS_calls2 (w : World) (v : Value) (n base : Nat) (ss : List Str) (hown : w.ownsRow base 9 1 v n (strsV ss)) (hl : ss.length ≤ 1000000) :
    Calls Tryz.prog 61 #[v] w (SameRow2 w base v (ss.mergeSort fun x y => decide (x ≤ y))) := by
  have hn : n = ss.length := by have := hown.1; simp [strsV] at this; omega
  subst hn
  rcases hown.2 with ⟨rfl, h0⟩ | ⟨g, cap, cur, rfl, hbase, hb, h1, h2, h3, h4⟩
  · have e : ss = [] := List.eq_nil_of_length_eq_zero h0
    subst e
    refine (Any.slices_Sort_string_none Tryz.lays190 none 0 w).mono ?_
    rintro e w' ⟨rfl, rfl⟩
    exact ⟨rfl, by simpa using hown, Mod.refl _ _⟩
  · refine (Any.slices_Sort_string Tryz.lays190 g 0 cap ss w (holds_of_block hb (by simpa [strsV] using h4)) (lt_of_heap hb) (by omega)).mono ?_
    rintro e w' ⟨rfl, nn, os, rfl⟩
    refine ⟨rfl, ?_, grown_mod2 (grownBy_sorted _)⟩
    have := ownsRow_sorted (n := nn) (os := os) (ts := ss.mergeSort fun x y => decide (x ≤ y)) (ss := ss) (by simp) hbase hb h1 h2 h3
    simpa [strsV] using this


/-- What Compact hands back. -/
def CompactPost2 (w : World) (base g cap : Nat) (ss : List Str) (e : Ending) (w' : World) : Prop :=
  e = .returned (.slice (some ⟨g, 0, none⟩) (Lib.compact ss).length cap) ∧ w'.ownsRow base 9 1 (.slice (some ⟨g, 0, none⟩) (Lib.compact ss).length cap) (Lib.compact ss).length (strsV (Lib.compact ss)) ∧ Mod (fun k => k = g) w w'
theorem own_shrink2 {w : World} {base g cap n m : Nat} {e : TypeId} {xs : List Value} (h : w.ownsRow base e 1 (.slice (some ⟨g, 0, none⟩) n cap) n xs) (hm : m ≤ n) : w.ownsRow base e 1 (.slice (some ⟨g, 0, none⟩) m cap) m (xs.take m) := by
  rcases h.2 with ⟨h0, _⟩ | ⟨g', cap', cur, hv, hbase, hb, h1, h2, h3, h4⟩
  · cases h0
  · cases hv
    have := h.1
    refine ⟨by simp; omega, .inr ⟨g, cap, cur, rfl, hbase, hb, by omega, h2, h3, ?_⟩⟩
    rw [← h4, List.take_take]
    congr 1
    omega
theorem compact_le2 (ss : List Str) : (Lib.compact ss).length ≤ ss.length := by
  unfold Lib.compact Lib.compactUpTo
  rw [List.length_map]
  have := List.length_filter_le (Lib.keeps ss.toArray) (List.range ss.length)
  simpa using this
theorem compact_mem2 (ss : List Str) : ∀ x ∈ Lib.compact ss, x ∈ ss := by
  intro x hx
  unfold Lib.compact Lib.compactUpTo at hx
  simp only [List.mem_map, List.mem_filter, List.mem_range] at hx
  obtain ⟨i, ⟨hi, _⟩, rfl⟩ := hx
  rw [getElem!_pos ss.toArray i (by simpa using hi)]
  simp
theorem compactS_calls2 (w : World) (g cap n base : Nat) (ss : List Str) (hown : w.ownsRow base 9 1 (.slice (some ⟨g, 0, none⟩) n cap) n (strsV ss)) (hl : ss.length ≤ 1000000) :
    Calls Tryz.prog 88 #[.slice (some ⟨g, 0, none⟩) n cap] w (CompactPost2 w base g cap ss) := by
  have hn : n = ss.length := by have := hown.1; simp [strsV] at this; omega
  subst hn
  rcases hown.2 with ⟨h0, _⟩ | ⟨g', cap', cur, hv, hbase, hb, h1, h2, h3, h4⟩
  · cases h0
  · cases hv
    refine (Any.slices_Compact_string Tryz.lays194 g 0 cap ss w (holds_of_block hb (by simpa [strsV] using h4)) (by omega) h1).mono ?_
    rintro e w' ⟨rfl, nn, rfl⟩
    have e0 : ∀ W : World, W = grow W #[] := fun W => by simp [grow]
    rw [e0 (putRow _ _ _ _ _)]
    have hcl := compact_le2 ss
    refine ⟨rfl, ?_, (grown_mod2 (grownBy_sorted _)).mono (fun k hk => by injection hk with hk; exact hk.symm)⟩
    have h := ownsRow_sorted (n := nn) (os := #[]) (ts := Lib.compact ss ++ List.replicate (ss.length - (Lib.compact ss).length) []) (ss := ss) (by simp; omega) hbase hb h1 h2 h3
    have h2 := own_shrink2 h hcl
    rw [List.map_append, List.take_left' (by simp)] at h2
    exact h2

end Go.Proofs.YtglekmflcaacjaaGreatDoor

namespace Go.Proofs.YtglekmflcaacjaaGreatDoor
open Go.RowKit

theorem bldExtraJ : Builder.Extra Tryz.prog Tryz.lays156_ren where
  sizeBuilder := by kernel_rfl
  liesBuilder := by kernel_rfl
  t5 := Tryz.underlying5
  a5 := Tryz.isAgg5
  z5 := Tryz.sizeOf5
  v5 := Tryz.zeroValue5
  infoByte := by kernel_rfl
  cellsByte := by kernel_rfl
  sizeByte := by kernel_rfl
  neB5 := by decide
theorem map_strs (xs : List Str) : (xs.map fun s => (⟨s.toArray⟩ : ByteArray)).map (·.data.toList) = xs := by
  induction xs with
  | nil => rfl
  | cons x xs ih => simp only [List.map_cons, ih]
theorem join_calls (w : World) (v : Value) (xs : List Str) (sep : Str) (h : Sl w 9 1 v (strsV xs)) (hN : xs.length ≤ 1000000) (hlen : (Lib.join xs sep).length ≤ 100000000) : Calls Tryz.prog 86 #[v, .string ⟨sep.toArray⟩] w (StrPost1 w (Lib.join xs sep)) := by
  obtain ⟨A, n, c, rfl, h1, h2, h3, h4⟩ := h
  have hn : xs.length = n := by rw [strsV_len] at h3; omega
  subst hn
  by_cases h0 : xs.length = 0
  · obtain rfl := List.eq_nil_of_length_eq_zero h0
    refine (Any.strings_Join_none Tryz.lays156 bldExtraJ A c ⟨sep.toArray⟩ w).mono ?_
    rintro e w' ⟨rfl, rfl⟩
    exact ⟨rfl, Mod.refl _ _⟩
  · obtain ⟨g, off, rfl, hrow⟩ := h4 (by omega)
    have e := map_strs xs
    have hj := Any.strings_Join Tryz.lays156 bldExtraJ g off c (xs.map fun s => (⟨s.toArray⟩ : ByteArray)) ⟨sep.toArray⟩ w (fun j x hx => by
      rw [List.getElem?_map] at hx
      cases hxj : xs[j]? with
      | none => rw [hxj] at hx; cases hx
      | some s =>
        rw [hxj] at hx
        injection hx with hx
        subst hx
        refine hrow.cell ?_
        simp [strsV, hxj]) hrow.lt (by rw [List.length_map]; omega) (by rw [List.length_map]; exact h1) (by rw [e]; show (Lib.join xs sep).length ≤ _; omega)
    rw [e, List.length_map] at hj
    refine hj.mono ?_
    rintro e w' ⟨rfl, hb⟩
    exact ⟨rfl, Mod.of_below hb⟩

end Go.Proofs.YtglekmflcaacjaaGreatDoor

namespace Go.Proofs.YtglekmflcaacjaaGreatDoor
open Go.RowKit

def uniq : List Str → List Str
  | [] => []
  | x :: xs => if x ∈ xs then uniq xs else x :: uniq xs
theorem mem_uniq {x : Str} : ∀ {l : List Str}, x ∈ uniq l ↔ x ∈ l
  | [] => Iff.rfl
  | y :: l => by
    unfold uniq
    split
    · rename_i h
      rw [mem_uniq]
      constructor
      · intro hx; exact List.mem_cons_of_mem _ hx
      · intro hx
        rcases List.mem_cons.1 hx with rfl | hx
        · exact h
        · exact hx
    · rw [List.mem_cons, List.mem_cons, mem_uniq]
theorem nodup_uniq : ∀ l : List Str, (uniq l).Nodup
  | [] => List.nodup_nil
  | y :: l => by
    unfold uniq
    split
    · exact nodup_uniq l
    · rename_i h
      exact List.nodup_cons.2 ⟨fun hx => h (mem_uniq.1 hx), nodup_uniq l⟩
def leQ (x y : Str) : Bool := decide (x ≤ y)
theorem leQ_trans (a b c : Str) (h1 : leQ a b = true) (h2 : leQ b c = true) : leQ a c = true := by
  simp only [leQ, decide_eq_true_eq] at *
  exact List.le_trans h1 h2
theorem leQ_total (a b : Str) : (leQ a b || leQ b a) = true := by
  simp only [leQ, Bool.or_eq_true, decide_eq_true_eq]
  exact List.le_total a b
theorem sorted_le (l : List Str) : (l.mergeSort fun x y => decide (x ≤ y)).Pairwise (· ≤ ·) := by
  have h := List.pairwise_mergeSort (le := leQ) leQ_trans leQ_total l
  have e : l.mergeSort leQ = l.mergeSort fun x y => decide (x ≤ y) := rfl
  rw [e] at h
  exact h.imp fun h => by simpa [leQ] using h
theorem lt_of {a b : Str} (h : a ≤ b) (hne : a ≠ b) : a < b := by
  by_cases h1 : a < b
  · exact h1
  · exact absurd (List.le_antisymm h (List.not_lt.1 h1)) hne
theorem sorted_lt {l : List Str} (hn : l.Nodup) : (l.mergeSort fun x y => decide (x ≤ y)).Pairwise (· < ·) := by
  have h1 := sorted_le l
  have h2 : (l.mergeSort fun x y => decide (x ≤ y)).Nodup := (List.mergeSort_perm _ _).nodup_iff.2 hn
  exact (h1.and h2).imp fun ⟨a, b⟩ => lt_of a b
theorem compactUp_sorted {zs : List Str} (h : zs.Pairwise (· ≤ ·)) : ∀ m, m ≤ zs.length → (Lib.compactUpTo zs.toArray m).Pairwise (· < ·) ∧ ∀ x, x ∈ Lib.compactUpTo zs.toArray m ↔ x ∈ zs.take m
  | 0, _ => by simp [Lib.compactUpTo]
  | m + 1, hm => by
    obtain ⟨h1, h2⟩ := compactUp_sorted h m (by omega)
    have hml : m < zs.length := by omega
    have hg : zs.toArray[m]! = zs[m] := by rw [getElem!_pos zs.toArray m (by simpa using hml)]; simp
    have hle : ∀ j (hj : j < m), zs[j] ≤ zs[m] := fun j hj => (List.pairwise_iff_getElem.1 h) j m (by omega) hml hj
    rw [Lib.compactUpTo_succ, hg, List.take_succ_eq_append_getElem hml]
    by_cases hk : Lib.keeps zs.toArray m = true
    · rw [if_pos hk]
      refine ⟨List.pairwise_append.2 ⟨h1, List.pairwise_singleton _ _, ?_⟩, fun x => ?_⟩
      · intro x hx y hy
        rw [List.mem_singleton.1 hy]
        have hx2 := (h2 x).1 hx
        obtain ⟨j, hj, rfl⟩ := List.getElem_of_mem hx2
        rw [List.getElem_take]
        have hjm : j < m := by simp at hj; omega
        refine lt_of (hle j hjm) (fun he => ?_)
        unfold Lib.keeps at hk
        simp only [decide_eq_true_eq] at hk
        rcases hk with hk | hk
        · omega
        · refine hk ?_
          have hm1 : m - 1 < zs.length := by omega
          have hg1 : zs.toArray[m - 1]! = zs[m - 1] := by rw [getElem!_pos zs.toArray (m - 1) (by simpa using hm1)]; simp
          rw [hg, hg1]
          refine List.le_antisymm ?_ (hle (m - 1) (by omega))
          rw [← he]
          rcases Nat.eq_or_lt_of_le (show j ≤ m - 1 by omega) with e | hlt
          · subst e; exact List.le_refl _
          · exact (List.pairwise_iff_getElem.1 h) j (m - 1) (by omega) hm1 hlt
      · rw [List.mem_append, List.mem_append, h2 x]
    · rw [if_neg hk, List.append_nil]
      refine ⟨h1, fun x => ?_⟩
      rw [h2 x, List.mem_append]
      constructor
      · exact .inl
      · rintro (hx | hx)
        · exact hx
        · unfold Lib.keeps at hk
          simp only [decide_eq_true_eq, not_or, Decidable.not_not] at hk
          obtain ⟨h0, he⟩ := hk
          have hm1 : m - 1 < zs.length := by omega
          have hg1 : zs.toArray[m - 1]! = zs[m - 1] := by rw [getElem!_pos zs.toArray (m - 1) (by simpa using hm1)]; simp
          rw [hg, hg1] at he
          rw [List.mem_singleton.1 hx, he]
          have : m - 1 < (zs.take m).length := by simp; omega
          have hmem := List.getElem_mem this
          rw [List.getElem_take] at hmem
          exact hmem
theorem compact_sorted {zs : List Str} (h : zs.Pairwise (· ≤ ·)) : (Lib.compact zs).Pairwise (· < ·) ∧ ∀ x, x ∈ Lib.compact zs ↔ x ∈ zs := by
  have := compactUp_sorted h zs.length (Nat.le_refl _)
  rw [List.take_length] at this
  exact this
theorem strict_unique {a b : List Str} (ha : a.Pairwise (· < ·)) (hb : b.Pairwise (· < ·)) (hm : ∀ x, x ∈ a ↔ x ∈ b) : a = b := by
  have na : a.Nodup := ha.imp fun h e => by subst e; exact List.lt_irrefl _ h
  have nb : b.Nodup := hb.imp fun h e => by subst e; exact List.lt_irrefl _ h
  refine List.Perm.eq_of_pairwise (le := fun x y => x < y) (fun x y _ _ h1 h2 => absurd (List.lt_trans h1 h2) (List.lt_irrefl _)) ha hb ((List.perm_ext_iff_of_nodup na nb).2 hm)
/-- A set's keys, sorted, are the sorted list with its doubles struck. -/
theorem compact_uniq (S : List Str) : Lib.compact (S.mergeSort fun x y => decide (x ≤ y)) = (uniq S).mergeSort fun x y => decide (x ≤ y) := by
  obtain ⟨h1, h2⟩ := compact_sorted (sorted_le S)
  refine strict_unique h1 (sorted_lt (nodup_uniq S)) (fun x => ?_)
  rw [h2 x, (List.mergeSort_perm _ _).mem_iff, (List.mergeSort_perm _ _).mem_iff, mem_uniq]

end Go.Proofs.YtglekmflcaacjaaGreatDoor

namespace Go.Proofs.YtglekmflcaacjaaGreatDoor
open Go.RowKit Go.Maps Go.Sort Go.Shelf

theorem sortsK (m : Nat) : AnyZ.SortsIn Tryz.prog Tryz.sortedK_ren Fence.wide m :=
  ⟨fun blk off cap ss W hH hblk hsz => callsIn_wide.2 (AnyM.slices_Sort_string Tryz.sortK blk off cap ss W hH hblk hsz),
   fun p cap W => callsIn_wide.2 (AnyM.slices_Sort_string_none Tryz.sortK p cap W)⟩
/-- The keys of a map, as they stand in the datum. -/
theorem perm_keys {w : World} {b n : Nat} {R : Value → Option (DataW Value × List MemPlace)} {D : DataW Value} (hown : w.ownsMap Tryz.prog 9 R b n D) {K : List Str} (hn : K.Nodup) (hK : ∀ x, x ∈ K ↔ Maps.has D (.string x) = true) : K.Perm (strKeys D) := by
  obtain ⟨es, hD, hpw, _⟩ := hown.entries strKey
  obtain ⟨es', hD', hko⟩ := hown.keysOf
  obtain rfl : es = es' := by rw [hD] at hD'; simpa using hD'
  subst hD
  exact perm_strKeys hpw (fun p hp => by obtain ⟨v, hv⟩ := hko p hp; obtain ⟨x, _, hx, _⟩ := Maps.keyOf_str Tryz.underlying9 hv; exact ⟨x, hx⟩) hn hK
theorem size_keys {w : World} {b n : Nat} {R : Value → Option (DataW Value × List MemPlace)} {D : DataW Value} (hown : w.ownsMap Tryz.prog 9 R b n D) : Maps.size D ≤ n := hown.size_le

def SortedPost (w : World) (ys : List Str) (e : Ending) (w' : World) : Prop := ∃ v, e = .returned v ∧ w'.ownsRow w.heap.size 9 1 v ys.length (strsV ys) ∧ Pure w w'
theorem mapsKeysSB_calls (mb : Option Nat) (W : World) : Calls Tryz.prog 84 #[.map mb] W fun e w' => e = .returned (.func (.func 117) #[] #[.pointer (some ⟨W.heap.size, 0, none⟩)]) ∧ w' = W.alloc (.cells #[.map mb] 110) :=
  callsIn_wide.1 (AnyZ.keys_in Tryz.keysSB Fence.wide 5 trivial rfl mb W)

set_option maxHeartbeats 1000000 in
theorem sortedSB_calls (b n : Nat) (f : Str → Option Value) (w : World) (hM : MapS w b n f) (hn : n ≤ 1000000) (K : List Str) (hKn : K.Nodup) (hK : ∀ x, x ∈ K ↔ (f x).isSome = true) :
    Calls Tryz.prog 53 #[.func (.func 117) #[] #[.pointer (some ⟨w.heap.size, 0, none⟩)]] (w.alloc (.cells #[.map (some b)] 110)) (SortedPost (w.alloc (.cells #[.map (some b)] 110)) (K.mergeSort fun x y => decide (x ≤ y))) := by
  obtain ⟨D0, hown, _, hhas⟩ := hM
  have hsz := size_keys hown
  have hperm : K.Perm (strKeys D0) := perm_keys hown hKn (fun x => by rw [hK x, hhas x])
  have hbl := hown.lt
  have hseq : SeqGives Fence.wide 2 Tryz.prog 117 #[.pointer (some ⟨w.heap.size, 0, none⟩)] encStr (fun ss => ss.Perm (strKeys D0)) (Maps.size D0) (w.alloc (.cells #[.map (some b)] 110)) :=
    AnyZ.keys_gives (ρ := Tryz.keysSB_ren) { Tryz.keysSB with } Fence.wide _ trivial rfl (by omega) w.heap.size b n D0 _ (by simp) (by simp) (by
      obtain ⟨es, clock, hb, Ft, hs, hD⟩ := hown
      exact ⟨es, clock, (Below.heap_alloc _ _ b hbl).trans hb, Ft, hs, hD⟩)
  have hmain := callsIn_wide.1 (AnyZ.sorted_in Tryz.sortedK Fence.wide 5 trivial trivial trivial trivial rfl (by omega) (sortsK _) (enters_of Tryz.func61 (by kernel_rfl) rfl) 117 #[.pointer (some ⟨w.heap.size, 0, none⟩)] trivial (enters_of Tryz.func117 (by kernel_rfl) rfl) _ (Maps.size D0) (by unfold maxLen; omega) (by omega) _ hseq)
  refine hmain.mono ?_
  rintro e w' ⟨v, ss, rfl, hS, hrow, hnil, hb⟩
  have he : ss.mergeSort (fun x y => decide (x ≤ y)) = K.mergeSort fun x y => decide (x ≤ y) := mergeSort_of_perm (hS.trans hperm.symm)
  rw [he] at hrow
  have hl : ss.length = (K.mergeSort fun x y => decide (x ≤ y)).length := by rw [← he]; simp
  rw [hl] at hrow
  exact ⟨v, rfl, hrow, Mod.of_below hb⟩

end Go.Proofs.YtglekmflcaacjaaGreatDoor

/- Words for the laws on items. -/
namespace Go.Proofs.YtglekmflcaacjaaGreatDoor
set_option linter.unusedVariables false
set_option linter.unusedSimpArgs false
open Go.RowKit

theorem pure_strmI {w w' : World} {o : Obj} (h : Mod (· = w.heap.size) (w.alloc o) w') : Pure w w' := ((Mod.refl (fun _ => False) w).alloc o).trans' h (fun i hi hlt => by omega)
theorem rangeI_calls (w : World) (b N : Nat) (hi : Int) (hS : Strm w b N) (hN : N ≤ 1000000000) (h1 : 0 ≤ hi) (h2 : hi ≤ 1000) : Calls Tryz.prog 9 #[.pointer (some ⟨b, 0, none⟩), .int .i64 0, .int .i64 hi] w (fun e w' => ∃ (m : Nat) (mI : Int), mI = (m : Int) ∧ mI ≤ hi ∧ e = .returned (.int .i64 mI) ∧ Strm w' b (N + 1) ∧ Mod (· = b) w w') := by
  refine (range_calls w b N 0 hi hS hN h1 (by omega) (by omega)).mono ?_
  rintro e w' ⟨k, h0, h1, rfl, h3, h4⟩
  exact ⟨k.toNat, k, by omega, h1, rfl, h3, h4⟩

end Go.Proofs.YtglekmflcaacjaaGreatDoor

/- Moves of custody: plain. -/
namespace Go.Proofs.YtglekmflcaacjaaGreatDoor
set_option linter.unusedVariables false
set_option linter.unusedSimpArgs false
open Go.RowKit

/-- A move. -/
structure Mv where
  no : Int
  tm : Int
  thing : Str
  src : Str
  dst : Str
/-- Who has a thing after the moves that p lets by. -/
def hldF (p : Mv → Bool) (l : List Mv) (t : Str) : Option Str := l.foldl (fun a m => if p m = true ∧ m.thing = t then some m.dst else a) none
theorem hldF_snoc (p : Mv → Bool) (l : List Mv) (m : Mv) (t : Str) : hldF p (l ++ [m]) t = if p m = true ∧ m.thing = t then some m.dst else hldF p l t := by simp [hldF]
theorem hldF_nil (p : Mv → Bool) (t : Str) : hldF p [] t = none := rfl
theorem hldF_mem {p : Mv → Bool} {t u : Str} : ∀ (n : Nat) (l : List Mv), l.length = n → hldF p l t = some u → ∃ m ∈ l, p m = true ∧ m.thing = t ∧ m.dst = u
  | 0, l, hl, h => by
    obtain rfl := List.eq_nil_of_length_eq_zero hl
    cases h
  | n + 1, l, hl, h => by
    have hne : l ≠ [] := by rintro rfl; cases hl
    obtain ⟨l0, m, rfl⟩ : ∃ l0 m, l = l0 ++ [m] := ⟨l.dropLast, l.getLast hne, (List.dropLast_concat_getLast hne).symm⟩
    rw [hldF_snoc] at h
    split at h
    · rename_i hm
      injection h with h
      exact ⟨m, by simp, hm.1, hm.2, h⟩
    · obtain ⟨m', h1, h2⟩ := hldF_mem n l0 (by simpa using hl) h
      exact ⟨m', by simp [h1], h2⟩
/-- The last move with a property, from behind. -/
theorem hldF_back {p : Mv → Bool} {t : Str} (l : List Mv) (k : Nat) (hk : k < l.length) (h : ∀ j (hj : j < l.length), k < j → ¬ (p l[j] = true ∧ l[j].thing = t)) : hldF p l t = hldF p (l.take (k + 1)) t := by
  have e : ∀ n, n ≤ l.length → k + 1 ≤ n → hldF p (l.take n) t = hldF p (l.take (k + 1)) t := by
    intro n
    induction n with
    | zero => intro _ h; omega
    | succ n ih =>
      intro h1 h2
      rcases Nat.eq_or_lt_of_le h2 with h3 | h3
      · rw [h3]
      · have hn : n < l.length := by omega
        rw [List.take_succ_eq_append_getElem hn, hldF_snoc, if_neg (h n hn (by omega))]
        exact ih (by omega) (by omega)
  have := e l.length (Nat.le_refl _) (by omega)
  rwa [List.take_length] at this
theorem hldF_none {p : Mv → Bool} {t : Str} (l : List Mv) (h : ∀ j (hj : j < l.length), ¬ (p l[j] = true ∧ l[j].thing = t)) : hldF p l t = none := by
  cases hr : hldF p l t with
  | none => rfl
  | some u =>
    obtain ⟨m, hm, h1, h2, _⟩ := hldF_mem l.length l rfl hr
    obtain ⟨j, hj, rfl⟩ := List.getElem_of_mem hm
    exact absurd ⟨h1, h2⟩ (h j hj)
/-- The moment of the move ahead. -/
def prevT (l : List Mv) : Nat → Int
  | 0 => 0
  | i + 1 => match l[i]? with | some m => m.tm | none => 0
/-- The error of move i. -/
def mvE (l : List Mv) (i : Nat) : Int := match l[i]? with
  | none => 0
  | some m => if m.no ≠ (i : Int) + 1 ∨ inB m.tm 0 5761439 = false then 1 else if m.tm < prevT l i then 7 else
    if !keyB m.thing || (decide (m.src ≠ []) && !keyB m.src) || !keyB m.dst then 5 else if m.src = m.dst then 14 else if m.src ≠ (hldF (fun _ => true) (l.take i) m.thing).getD [] then 11 else 0
def mvsE (l : List Mv) : Int := if 3000 < l.length then 2 else firstE (mvE l) 0 l.length
def atB (at_ : Int) (m : Mv) : Bool := decide (m.tm ≤ at_)
/-- Who has a thing at a moment; nobody: the empty string. -/
def hAt (l : List Mv) (at_ : Int) (t : Str) : Str := (hldF (atB at_) l t).getD []
/-- What a person has, in the order of the moves. -/
def hasL (l : List Mv) (at_ : Int) (who : Str) : List Mv → List Str → List Str
  | [], out => out
  | m :: r, out => hasL l at_ who r (if hAt l at_ m.thing = who ∧ m.thing ∉ out then out ++ [m.thing] else out)
theorem hasL_spec {l : List Mv} {at_ : Int} {who : Str} : ∀ (r : List Mv) (out : List Str), out.Nodup → (hasL l at_ who r out).Nodup ∧ ∀ x, x ∈ hasL l at_ who r out ↔ x ∈ out ∨ ((∃ m ∈ r, m.thing = x) ∧ hAt l at_ x = who)
  | [], out, h => ⟨h, fun x => by simp [hasL]⟩
  | m :: r, out, h => by
    unfold hasL
    by_cases hc : hAt l at_ m.thing = who ∧ m.thing ∉ out
    · rw [if_pos hc]
      obtain ⟨h1, h2⟩ := hasL_spec (l := l) (at_ := at_) (who := who) r (out ++ [m.thing]) (by
        rw [List.nodup_append]
        refine ⟨h, by simp, fun a ha b hb => ?_⟩
        rw [List.mem_singleton.1 hb]
        rintro rfl
        exact hc.2 ha)
      refine ⟨h1, fun x => ?_⟩
      rw [h2 x, List.mem_append, List.mem_singleton]
      constructor
      · rintro ((h3 | rfl) | ⟨⟨m', h3, h4⟩, h5⟩)
        · exact .inl h3
        · exact .inr ⟨⟨m, by simp, rfl⟩, hc.1⟩
        · exact .inr ⟨⟨m', by simp [h3], h4⟩, h5⟩
      · rintro (h3 | ⟨⟨m', h3, h4⟩, h5⟩)
        · exact .inl (.inl h3)
        · rcases List.mem_cons.1 h3 with rfl | h3
          · exact .inl (.inr h4.symm)
          · exact .inr ⟨⟨m', h3, h4⟩, h5⟩
    · rw [if_neg hc]
      obtain ⟨h1, h2⟩ := hasL_spec (l := l) (at_ := at_) (who := who) r out h
      refine ⟨h1, fun x => ?_⟩
      rw [h2 x]
      constructor
      · rintro (h3 | ⟨⟨m', h3, h4⟩, h5⟩)
        · exact .inl h3
        · exact .inr ⟨⟨m', by simp [h3], h4⟩, h5⟩
      · rintro (h3 | ⟨⟨m', h3, h4⟩, h5⟩)
        · exact .inl h3
        · rcases List.mem_cons.1 h3 with rfl | h3
          · left
            rw [← h4] at h5 ⊢
            exact Decidable.byContradiction fun hx => hc ⟨h5, hx⟩
          · exact .inr ⟨⟨m', h3, h4⟩, h5⟩
/-- The things of the moves up to a moment. -/
def keysM (l : List Mv) (at_ : Int) : List Str := uniq ((l.filter (atB at_)).map (·.thing))
theorem hldF_some {p : Mv → Bool} {t : Str} : ∀ (l : List Mv), (hldF p l t).isSome = true ↔ ∃ m ∈ l, p m = true ∧ m.thing = t := by
  intro l
  constructor
  · intro h
    obtain ⟨u, hu⟩ := Option.isSome_iff_exists.1 h
    obtain ⟨m, h1, h2, h3, _⟩ := hldF_mem l.length l rfl hu
    exact ⟨m, h1, h2, h3⟩
  · rintro ⟨m, h1, h2, h3⟩
    cases hr : hldF p l t with
    | some u => rfl
    | none =>
      exfalso
      obtain ⟨a, b, rfl⟩ := List.append_of_mem h1
      have key : ∀ b : List Mv, hldF p (a ++ m :: b) t ≠ none := by
        intro b
        generalize hn : b.length = n
        induction n generalizing b with
        | zero =>
          obtain rfl := List.eq_nil_of_length_eq_zero hn
          rw [hldF_snoc, if_pos ⟨h2, h3⟩]
          simp
        | succ n ih =>
          have hne : b ≠ [] := by rintro rfl; cases hn
          obtain ⟨b0, z, rfl⟩ : ∃ b0 z, b = b0 ++ [z] := ⟨b.dropLast, b.getLast hne, (List.dropLast_concat_getLast hne).symm⟩
          rw [show a ++ m :: (b0 ++ [z]) = (a ++ m :: b0) ++ [z] by simp, hldF_snoc]
          split
          · simp
          · exact ih b0 (by simpa using hn)
      exact key b hr
theorem mem_keysM {l : List Mv} {at_ : Int} {x : Str} : x ∈ keysM l at_ ↔ (hldF (atB at_) l x).isSome = true := by
  unfold keysM
  rw [mem_uniq, hldF_some, List.mem_map]
  constructor
  · rintro ⟨m, h1, h2⟩
    obtain ⟨h3, h4⟩ := List.mem_filter.1 h1
    exact ⟨m, h3, h4, h2⟩
  · rintro ⟨m, h1, h2, h3⟩
    exact ⟨m, List.mem_filter.2 ⟨h1, h2⟩, h3⟩
/-- Both ways say the same things of a person. -/
theorem holding_eq {l : List Mv} {at_ : Int} {who : Str} (hw : who ≠ []) :
    ((keysM l at_).mergeSort fun x y => decide (x ≤ y)).filter (fun t => decide (hAt l at_ t = who)) = (hasL l at_ who l []).mergeSort fun x y => decide (x ≤ y) := by
  obtain ⟨h1, h2⟩ := hasL_spec (l := l) (at_ := at_) (who := who) l [] List.nodup_nil
  refine strict_unique (List.Pairwise.filter _ (sorted_lt (nodup_uniq _))) (sorted_lt h1) (fun x => ?_)
  rw [List.mem_filter, (List.mergeSort_perm _ _).mem_iff, (List.mergeSort_perm _ _).mem_iff, h2 x, mem_keysM, decide_eq_true_eq]
  constructor
  · rintro ⟨h3, h4⟩
    obtain ⟨m, h5, _, h6⟩ := (hldF_some l).1 h3
    exact .inr ⟨⟨m, h5, h6⟩, h4⟩
  · rintro (h3 | ⟨_, h4⟩)
    · cases h3
    · refine ⟨?_, h4⟩
      cases hr : hldF (atB at_) l x with
      | some u => rfl
      | none =>
        exfalso
        unfold hAt at h4
        rw [hr] at h4
        exact hw h4.symm

end Go.Proofs.YtglekmflcaacjaaGreatDoor

/- Moves in memory; holders, CheckMoves of package intake. -/
namespace Go.Proofs.YtglekmflcaacjaaGreatDoor
set_option linter.unusedVariables false
set_option linter.unusedSimpArgs false
open Go.RowKit

def mvC (x : Mv) : List Value := [.int .i64 x.no, .int .i64 x.tm, .string ⟨x.thing.toArray⟩, .string ⟨x.src.toArray⟩, .string ⟨x.dst.toArray⟩]
def mvQ (x : Mv) : Array Value := #[.int .i64 x.no, .int .i64 x.tm, .string ⟨x.thing.toArray⟩, .string ⟨x.src.toArray⟩, .string ⟨x.dst.toArray⟩]
def mvA (x : Mv) : Value := .agg #[.int .i64 x.no, .int .i64 x.tm, .string ⟨x.thing.toArray⟩, .string ⟨x.src.toArray⟩, .string ⟨x.dst.toArray⟩]
def mvV (xs : List Mv) : List Value := xs.flatMap mvC
theorem mvV_len : ∀ xs : List Mv, (mvV xs).length = xs.length * 5
  | [] => rfl
  | x :: xs => by
    have := mvV_len xs
    simp only [mvV, mvC, List.flatMap_cons, List.length_append, List.length_cons, List.length_nil] at *
    omega
theorem mvV_get : ∀ (xs : List Mv) (i : Nat) (h : i < xs.length), (mvV xs)[i * 5]? = some (.int .i64 xs[i].no) ∧ (mvV xs)[i * 5 + 1]? = some (.int .i64 xs[i].tm) ∧ (mvV xs)[i * 5 + 2]? = some (.string ⟨xs[i].thing.toArray⟩) ∧ (mvV xs)[i * 5 + 3]? = some (.string ⟨xs[i].src.toArray⟩) ∧ (mvV xs)[i * 5 + 4]? = some (.string ⟨xs[i].dst.toArray⟩)
  | [], i, h => absurd h (by simp)
  | x :: xs, 0, h => by simp [mvV, mvC]
  | x :: xs, i + 1, h => by
    have := mvV_get xs i (by simpa using h)
    have e : (i + 1) * 5 = i * 5 + 1 + 1 + 1 + 1 + 1 := by omega
    simp only [mvV, mvC, List.flatMap_cons, List.cons_append, List.nil_append, e, List.getElem?_cons_succ, List.getElem_cons_succ]
    exact this
theorem mvV_snoc (xs : List Mv) (p : Mv) : mvV (xs ++ [p]) = mvV xs ++ mvC p := by simp [mvV]
/-- The strings of a move are not too long. -/
def MvB (x : Mv) : Prop := x.thing.length ≤ 100 ∧ x.src.length ≤ 100 ∧ x.dst.length ≤ 100
def Mvs (w : World) (v : Value) (xs : List Mv) : Prop := Sl w 75 5 v (mvV xs)
theorem Mvs.pure {w w' : World} {v : Value} {xs : List Mv} (h : Mvs w v xs) (hm : Pure w w') : Mvs w' v xs := Sl.pure h hm
theorem move_cells {w : World} {g off k : Nat} {xs : List Mv} (h : RowAt w 75 g off (mvV xs)) (hk : k < xs.length) :
    w.cell? ⟨g, off + k * 5, none⟩ = some (.int .i64 xs[k].no) ∧ w.cell? ⟨g, off + k * 5 + 1, none⟩ = some (.int .i64 xs[k].tm) ∧ w.cell? ⟨g, off + k * 5 + 2, none⟩ = some (.string ⟨xs[k].thing.toArray⟩) ∧ w.cell? ⟨g, off + k * 5 + 3, none⟩ = some (.string ⟨xs[k].src.toArray⟩) ∧ w.cell? ⟨g, off + k * 5 + 4, none⟩ = some (.string ⟨xs[k].dst.toArray⟩) := by
  obtain ⟨h0, h1, h2, h3, h4⟩ := mvV_get xs k hk
  exact ⟨h.cell h0, by rw [Nat.add_assoc]; exact h.cell h1, by rw [Nat.add_assoc]; exact h.cell h2, by rw [Nat.add_assoc]; exact h.cell h3, by rw [Nat.add_assoc]; exact h.cell h4⟩
theorem zero_strV (W : World) : (zeroValue 9).run Tryz.prog W = .ok (.string ⟨#[]⟩) W := by kernel_rfl
/-- What a map of holders holds. -/
def hvF (p : Mv → Bool) (l : List Mv) (t : Str) : Option Value := (hldF p l t).map fun s => .string ⟨s.toArray⟩
theorem hvF_getD (p : Mv → Bool) (l : List Mv) (t : Str) : (hvF p l t).getD (.string ⟨#[]⟩) = .string ⟨((hldF p l t).getD []).toArray⟩ := by
  unfold hvF
  cases hldF p l t <;> rfl
theorem hvF_snoc (p : Mv → Bool) (l : List Mv) (m : Mv) (hp : p m = true) : hvF p (l ++ [m]) = fun t => if t = m.thing then some (.string ⟨m.dst.toArray⟩) else hvF p l t := by
  funext t
  unfold hvF
  rw [hldF_snoc]
  by_cases h : t = m.thing
  · rw [if_pos ⟨hp, h.symm⟩, if_pos h]
    rfl
  · rw [if_neg (fun h2 => h h2.2.symm), if_neg h]
theorem hvF_skip (p : Mv → Bool) (l : List Mv) (m : Mv) (hp : p m = false) : hvF p (l ++ [m]) = hvF p l := by
  funext t
  unfold hvF
  rw [hldF_snoc, if_neg (fun h => by rw [hp] at h; cases h.1)]
theorem hvF_some (p : Mv → Bool) (l : List Mv) (t : Str) : (hvF p l t).isSome = (hldF p l t).isSome := by unfold hvF; simp

def HoPost (w : World) (p : Mv → Bool) (l : List Mv) (e : Ending) (w' : World) : Prop := ∃ b n, e = .returned (.map (some b)) ∧ n ≤ l.length ∧ MapS w' b n (hvF p l) ∧ Pure w w'
def HoRel (w : World) (bm : Nat) (p : Mv → Bool) (l : List Mv) (gk : Nat) (i : Value) (wr : World) : Prop :=
  ∃ k m : Nat, l.length - k = gk ∧ k ≤ l.length ∧ i = .int .i64 (k : Int) ∧ m ≤ k ∧ MapS wr bm m (hvF p (l.take k)) ∧ Pure w wr

set_option maxRecDepth 100000 in
set_option maxHeartbeats 4000000 in
theorem iholders_calls (w : World) (v : Value) (l : List Mv) (at_ : Int) (hv : Mvs w v l) (hz : ∀ x ∈ l, MvB x) (hl : l.length ≤ 100000) : Calls Tryz.prog 52 #[v, .int .i64 at_] w (HoPost w (atB at_) l) := by
  obtain ⟨A, n, c, rfl, hc1, hc2, hl2, hr⟩ := hv
  have hln : l.length = n := by rw [mvV_len] at hl2; omega
  subst hln
  have HR := Lib.hid hr
  have HZ := Lib.hid hz
  have hmm := @run_makeMap Tryz.prog
  have HM0 := Lib.hid (MapS.made w)
  clear hl2 hr hz
  go_enter Tryz.func52, Tryz.ntmps52
  go_wp2_with fail
  clear hmm
  have m0 : Pure w (w.alloc (.map #[] 0)) := pure_alloc _ _
  obtain ⟨b, hb⟩ : ∃ b, b = w.heap.size := ⟨_, rfl⟩
  rw [← hb] at HM0 ⊢
  have hb1 := Nat.le_of_eq hb.symm
  clear hb
  generalize w.alloc (.map #[] 0) = W at *
  go_loopg [11] l.length (fun gk i wr => HoRel w b (atB at_) l gk i wr)
  case atStart => exact ⟨0, 0, by omega, by omega, rfl, by omega, HM0.out, m0⟩
  case round =>
    clear HM0 m0 W
    obtain ⟨k, m, rfl, hk, rfl, hmk, hM, hm⟩ := hrel
    by_cases hlt : k < l.length
    · obtain ⟨g, off, rfl, hrow⟩ := HR.out (by omega)
      obtain ⟨q0, q1, q2, q3, q4⟩ := move_cells (hrow.mod hm id) hlt
      have HTK : Hid (l.take (k + 1) = l.take k ++ [l[k]]) := Lib.hid (List.take_succ_eq_append_getElem hlt)
      obtain ⟨hz1, _, _⟩ := HZ.out _ (List.getElem_mem hlt)
      clear hrow
      generalize l[k] = x at *
      have hM2 := MapS.pure hM (pure_alloc wr (.cells (mvQ x) 75))
      have hm2 := hm.alloc (.cells (mvQ x) 75)
      by_cases hat : x.tm ≤ at_
      · have hp : atB at_ x = true := by simpa [atB] using hat
        obtain ⟨w2, hrun, hM3, hm3⟩ := hM2.store Tryz.underlying72 (by omega) x.thing (by omega) (.string ⟨x.dst.toArray⟩)
        rw [← hvF_snoc _ _ _ hp, ← HTK.out] at hM3
        have hm4 := hm2.trans' hm3 (fun i hi hlt => by omega)
        have HM3 := Lib.hid hM3
        have HM4 := Lib.hid hm4
        unfold mvQ at hrun
        clear hM hm hM2 hm2 hM3 hm3 hm4 HTK hp
        go_wp2_with fail
        go_roundg (l.length - (k + 1))
        case measure => omega
        case rel => exact ⟨k + 1, m + 1, rfl, by omega, by simp, by omega, HM3.out, HM4.out⟩
      · have hp : atB at_ x = false := by simpa [atB] using hat
        rw [← hvF_skip _ _ _ hp, ← HTK.out] at hM2
        have HM3 := Lib.hid hM2
        have HM4 := Lib.hid hm2
        unfold mvQ at HM3 HM4
        have hat' : ¬ x.tm ≤ at_ := hat
        clear hM hm hM2 hm2 HTK hp
        go_wp2_with fail
        go_roundg (l.length - (k + 1))
        case measure => omega
        case rel => exact ⟨k + 1, m, rfl, by omega, by simp, by omega, HM3.out, HM4.out⟩
    · obtain rfl : k = l.length := by omega
      rw [List.take_length] at hM
      have HM := Lib.hid hM
      clear hM
      go_wp2_with fail
      go_ret
      exact ⟨b, m, rfl, hmk, HM.out, hm⟩

def CmRel (w : World) (bm : Nat) (l : List Mv) (gk : Nat) (i : Value) (wr : World) : Prop :=
  ∃ k : Nat, l.length - k = gk ∧ k ≤ l.length ∧ i = .int .i64 (k : Int) ∧ firstE (mvE l) k (l.length - k) = firstE (mvE l) 0 l.length ∧ MapS wr bm k (hvF (fun _ => true) (l.take k)) ∧ Pure w wr
theorem mvE_at {l : List Mv} {k : Nat} (h : k < l.length) : mvE l k = if l[k].no ≠ (k : Int) + 1 ∨ inB l[k].tm 0 5761439 = false then 1 else if l[k].tm < prevT l k then 7 else
    if !keyB l[k].thing || (decide (l[k].src ≠ []) && !keyB l[k].src) || !keyB l[k].dst then 5 else if l[k].src = l[k].dst then 14 else if l[k].src ≠ (hldF (fun _ => true) (l.take k) l[k].thing).getD [] then 11 else 0 := by
  unfold mvE
  rw [List.getElem?_eq_getElem h]
theorem mvs_stop {l : List Mv} {k : Nat} (hk : k < l.length) (hl : l.length ≤ 3000) (hf : firstE (mvE l) k (l.length - k) = firstE (mvE l) 0 l.length) {e : Int} (he : mvE l k = e) (h0 : e ≠ 0) : mvsE l = e := by
  unfold mvsE
  rw [if_neg (by omega), ← hf, firstE_step _ hk, he, if_pos h0]

set_option maxRecDepth 100000 in
set_option maxHeartbeats 8000000 in
theorem checkMoves_calls (w : World) (v : Value) (l : List Mv) (hv : Mvs w v l) (hz : ∀ x ∈ l, MvB x) (hl : l.length ≤ 3000) : Calls Tryz.prog 15 #[v] w (IntPost w (mvsE l)) := by
  obtain ⟨A, n, c, rfl, hc1, hc2, hl2, hr⟩ := hv
  have hln : l.length = n := by rw [mvV_len] at hl2; omega
  subst hln
  have HR := Lib.hid hr
  have HZ := Lib.hid hz
  have hmm := @run_makeMap Tryz.prog
  have HM0 := Lib.hid (MapS.made w)
  clear hl2 hr hz
  go_enter Tryz.func15, Tryz.ntmps15
  go_wp2_with fail
  clear hmm
  have m0 : Pure w (w.alloc (.map #[] 0)) := pure_alloc _ _
  obtain ⟨b, hb⟩ : ∃ b, b = w.heap.size := ⟨_, rfl⟩
  rw [← hb] at HM0 ⊢
  have hb1 := Nat.le_of_eq hb.symm
  clear hb
  generalize w.alloc (.map #[] 0) = W at *
  go_loopg [12] l.length (fun gk i wr => CmRel w b l gk i wr)
  case atStart => exact ⟨0, by omega, by omega, rfl, rfl, HM0.out, m0⟩
  case round =>
    clear HM0 m0 W
    obtain ⟨k, rfl, hk, rfl, hfe, hM, hm⟩ := hrel
    by_cases hlt : k < l.length
    · obtain ⟨g, off, rfl, hrow⟩ := HR.out (by omega)
      obtain ⟨q0, q1, q2, q3, q4⟩ := move_cells (hrow.mod hm id) hlt
      have HTK : Hid (l.take (k + 1) = l.take k ++ [l[k]]) := Lib.hid (List.take_succ_eq_append_getElem hlt)
      have HMV := Lib.hid (mvE_at hlt)
      have HST : Hid (∀ e, mvE l k = e → e ≠ 0 → mvsE l = e) := Lib.hid (fun e h1 h2 => mvs_stop hlt hl hfe h1 h2)
      have HGO : Hid (mvE l k = 0 → firstE (mvE l) (k + 1) (l.length - (k + 1)) = firstE (mvE l) 0 l.length) := Lib.hid (fun h => by rw [← hfe, firstE_step _ hlt, h]; simp)
      have HPT : Hid (∀ j, k = j + 1 → ∃ hj : j < l.length, prevT l k = l[j].tm ∧ ∀ W, Pure w W → W.cell? ⟨g, off + j * 5 + 1, none⟩ = some (.int .i64 l[j].tm)) := Lib.hid (fun j hj => by
        subst hj
        have hjl : j < l.length := by omega
        refine ⟨hjl, ?_, fun W h => (move_cells (hrow.mod h id) hjl).2.1⟩
        show (match l[j]? with | some m => m.tm | none => 0) = _
        rw [List.getElem?_eq_getElem hjl])
      obtain ⟨hz1, hz2, hz3⟩ := HZ.out _ (List.getElem_mem hlt)
      have HP0 : Hid (k = 0 → prevT l k = 0) := Lib.hid (fun h => by subst h; rfl)
      clear hrow hfe
      generalize l[k] = x at *
      generalize prevT l k = pt at *
      have hM2 := Lib.hid (MapS.pure hM (pure_alloc wr (.cells (mvQ x) 75)))
      have hm2 := Lib.hid (hm.alloc (.cells (mvQ x) 75))
      have hB2 := Lib.hid (Blk.new wr 75 (mvQ x))
      unfold mvQ at hM2 hm2 hB2
      have hmw := hm.size
      clear hM hm
      go_upto_region 7 with (fail)
      generalize (wr.alloc (.cells #[.int .i64 x.no, .int .i64 x.tm, .string ⟨x.thing.toArray⟩, .string ⟨x.src.toArray⟩, .string ⟨x.dst.toArray⟩] 75)) = WS at *
      generalize wr.heap.size = gs at *
      clear q0 q1 q2 q3 q4
      have hB := hB2.out
      have t0 := hB.cell 0; have t1 := hB.cell 1; have t2 := hB.cell 2; have t3 := hB.cell 3; have t4 := hB.cell 4; simp at t0 t1 t2 t3 t4
      clear hB
      by_cases hno : x.no = (k : Int) + 1
      · have hno' : (x.no != (k : Int) + 1) = false := by simpa using hno
        have HNO := Lib.hid hno
        clear hno
        obtain ⟨bt, hbt⟩ : ∃ bt, inB x.tm 0 5761439 = bt := ⟨_, rfl⟩
        have HBT := Lib.hid hbt
        have HMO := Lib.hid (moment_calls x.tm WS)
        rw [hbt] at HMO
        clear hbt
        go_wp2_with fail
        refine HMO.out.mono ?_
        rintro e w2 ⟨rfl, rfl⟩
        clear HMO
        cases bt
        · have HE : Hid (mvsE l = 1) := Lib.hid (HST.out 1 (by rw [HMV.out, if_pos (.inr HBT.out)]) (by omega))
          go_wp2_with fail
          go_ret
          exact IntPost.of HE.out hm2.out
        · have HIN : Hid (0 ≤ x.tm) := Lib.hid (by
            have := HBT.out
            unfold inB at this
            simp at this
            exact this.1)
          obtain ⟨b7, hb7⟩ : ∃ b7, (decide (0 < k) && decide (x.tm < pt)) = b7 := ⟨_, rfl⟩
          have HB7 := Lib.hid hb7
          clear hb7
          go_upto_region 9 with (fail)
          go_cut [29] (fun p wx => p = .bool b7 ∧ Pure WS wx)
          case first =>
            rcases Nat.eq_zero_or_pos k with h0 | h0
            · have HF : Hid (b7 = false) := Lib.hid (by rw [← HB7.out, h0]; rfl)
              have h0' := Nat.le_of_eq h0
              clear t0 t1 t2 t3 t4 h0
              go_wp2_with fail
              have HGs := Lib.hid (show ∀ (D : Nat → Bool) (zzi : Nat) (zq zq' : World), (fun _ zq => (fun _ => True) zq) D zq → Mod (fun _ => False) zq zq' → (fun _ zq => (fun _ => True) zq) (upd D zzi true) zq' from by intro D zzi zq zq' h hm; (exact h))
              refine wp_region_inv (by kernel_rfl) (by kernel_rfl) (InvF (R := Mod (fun _ => False)) [.is (.int .i64 (k : Int)),
                  .is (.bool false),
                  .is (.bool false),
                  .is (undef),
                  .is (undef),
                  .is (undef),
                  .is (undef),
                  .is (undef),
                  .is (undef),
                  .is (undef),
                  .is (undef),
                  .is (undef),
                  .is (undef),
                  .is (.bool false),
                  .is (.bool false)]
                  (PB WS (fun _ => False) WS.heap.size (fun _ zq => (fun _ => True) zq))) (InvF.start (PB.start (Mod.refl _ _) (Nat.le_refl _) (trivial))) ?_ ?_
              · refine .cons ?_ (.cons ?_ (.cons ?_ (.cons ?_ (.cons ?_ (.cons ?_ (.cons ?_ (.cons ?_ (.cons ?_ (.cons ?_ (.cons ?_ (.cons ?_ (.cons ?_ (.cons ?_ (.cons ?_ .nil))))))))))))))
                · intro D V zw1 a hR hI K hK   -- 0: Op.move (Operand.tmp 4)
                  obtain ⟨hM1, hB1, hG1⟩ := hI.1
                  have ze4 := hR.frame.other (t := 4) (by kernel_rfl) rfl
                  rw [if_pos (by rfl)]
                  go_simp
                  exact hK (.int .i64 (k : Int)) _ (hI.next hR (by kernel_rfl) (Mod.refl _ _) (PB.quiet hI.1 (Mod.refl _ _) (HGs.out D 0 zw1 zw1 (hI.1).g (Mod.refl _ _))) (upd_same V 0 _))
                · intro D V zw1 a hR hI K hK   -- 1: Op.binOp BinOp.gtr 3 (Operand.tmp 30) (Operand.const (Value.int IntKin
                  obtain ⟨hM1, hB1, hG1⟩ := hI.1
                  have zd0 := hR.pred 0 (by kernel_rfl)
                  have zF0 : V 0 = .int .i64 (k : Int) := hI.2 0 zd0 rfl
                  have zf0 := zF0; clear zF0
                  have ze30 := hR.frame.done (t := 30) (j := 0) (by kernel_rfl) hR.ok zd0
                  have i0 : decide (0 < k) = false := decide_eq_false (by omega)
                  rw [if_pos (by rfl)]
                  go_simp
                  exact hK (.bool false) _ (hI.next hR (by kernel_rfl) (Mod.refl _ _) (PB.quiet hI.1 (Mod.refl _ _) (HGs.out D 1 zw1 zw1 (hI.1).g (Mod.refl _ _))) (upd_same V 1 _))
                · intro D V zw1 a hR hI K hK   -- 2: Op.move (Operand.tmp 31)
                  obtain ⟨hM1, hB1, hG1⟩ := hI.1
                  have zd1 := hR.pred 1 (by kernel_rfl)
                  have zF1 : V 1 = .bool false := hI.2 1 zd1 rfl
                  have zf1 := zF1; clear zF1
                  have ze31 := hR.frame.done (t := 31) (j := 1) (by kernel_rfl) hR.ok zd1
                  rw [if_pos (by rfl)]
                  go_simp
                  exact hK (.bool false) _ (hI.next hR (by kernel_rfl) (Mod.refl _ _) (PB.quiet hI.1 (Mod.refl _ _) (HGs.out D 2 zw1 zw1 (hI.1).g (Mod.refl _ _))) (upd_same V 2 _))
                · intro D V zw1 a hR hI K hK   -- 3: Op.fieldAddr 75 (Operand.tmp 5) 1
                  obtain ⟨hM1, hB1, hG1⟩ := hI.1
                  have zd2 := hR.pred 2 (by kernel_rfl)
                  have zF2 : V 2 = .bool false := hI.2 2 zd2 rfl
                  have zf2 := zF2; clear zF2
                  have ze32 := hR.frame.done (t := 32) (j := 2) (by kernel_rfl) hR.ok zd2
                  rw [if_neg (by simp [Region.wanted, yielded, ze32, zf2])]
                  exact hK undef _ (hI.next hR (by kernel_rfl) (Mod.refl _ _) (PB.quiet hI.1 (Mod.refl _ _) (HGs.out D 3 zw1 zw1 (hI.1).g (Mod.refl _ _))) (upd_same V 3 _))
                · intro D V zw1 a hR hI K hK   -- 4: Op.load 3 (Operand.tmp 33)
                  obtain ⟨hM1, hB1, hG1⟩ := hI.1
                  have zd2 := hR.pred 2 (by kernel_rfl)
                  have zF2 : V 2 = .bool false := hI.2 2 zd2 rfl
                  have zf2 := zF2; clear zF2
                  have ze32 := hR.frame.done (t := 32) (j := 2) (by kernel_rfl) hR.ok zd2
                  rw [if_neg (by simp [Region.wanted, yielded, ze32, zf2])]
                  exact hK undef _ (hI.next hR (by kernel_rfl) (Mod.refl _ _) (PB.quiet hI.1 (Mod.refl _ _) (HGs.out D 4 zw1 zw1 (hI.1).g (Mod.refl _ _))) (upd_same V 4 _))
                · intro D V zw1 a hR hI K hK   -- 5: Op.move (Operand.tmp 0)
                  obtain ⟨hM1, hB1, hG1⟩ := hI.1
                  have zd2 := hR.pred 2 (by kernel_rfl)
                  have zF2 : V 2 = .bool false := hI.2 2 zd2 rfl
                  have zf2 := zF2; clear zF2
                  have ze32 := hR.frame.done (t := 32) (j := 2) (by kernel_rfl) hR.ok zd2
                  rw [if_neg (by simp [Region.wanted, yielded, ze32, zf2])]
                  exact hK undef _ (hI.next hR (by kernel_rfl) (Mod.refl _ _) (PB.quiet hI.1 (Mod.refl _ _) (HGs.out D 5 zw1 zw1 (hI.1).g (Mod.refl _ _))) (upd_same V 5 _))
                · intro D V zw1 a hR hI K hK   -- 6: Op.move (Operand.tmp 4)
                  obtain ⟨hM1, hB1, hG1⟩ := hI.1
                  have zd2 := hR.pred 2 (by kernel_rfl)
                  have zF2 : V 2 = .bool false := hI.2 2 zd2 rfl
                  have zf2 := zF2; clear zF2
                  have ze32 := hR.frame.done (t := 32) (j := 2) (by kernel_rfl) hR.ok zd2
                  rw [if_neg (by simp [Region.wanted, yielded, ze32, zf2])]
                  exact hK undef _ (hI.next hR (by kernel_rfl) (Mod.refl _ _) (PB.quiet hI.1 (Mod.refl _ _) (HGs.out D 6 zw1 zw1 (hI.1).g (Mod.refl _ _))) (upd_same V 6 _))
                · intro D V zw1 a hR hI K hK   -- 7: Op.call { callee := Callee.builtin Builtin.max, args := #[Operand.tmp 
                  obtain ⟨hM1, hB1, hG1⟩ := hI.1
                  have zd2 := hR.pred 2 (by kernel_rfl)
                  have zF2 : V 2 = .bool false := hI.2 2 zd2 rfl
                  have zf2 := zF2; clear zF2
                  have ze32 := hR.frame.done (t := 32) (j := 2) (by kernel_rfl) hR.ok zd2
                  rw [if_neg (by simp [Region.wanted, yielded, ze32, zf2])]
                  exact hK undef _ (hI.next hR (by kernel_rfl) (Mod.refl _ _) (PB.quiet hI.1 (Mod.refl _ _) (HGs.out D 7 zw1 zw1 (hI.1).g (Mod.refl _ _))) (upd_same V 7 _))
                · intro D V zw1 a hR hI K hK   -- 8: Op.binOp BinOp.sub 3 (Operand.tmp 37) (Operand.const (Value.int IntKin
                  obtain ⟨hM1, hB1, hG1⟩ := hI.1
                  have zd2 := hR.pred 2 (by kernel_rfl)
                  have zF2 : V 2 = .bool false := hI.2 2 zd2 rfl
                  have zf2 := zF2; clear zF2
                  have ze32 := hR.frame.done (t := 32) (j := 2) (by kernel_rfl) hR.ok zd2
                  rw [if_neg (by simp [Region.wanted, yielded, ze32, zf2])]
                  exact hK undef _ (hI.next hR (by kernel_rfl) (Mod.refl _ _) (PB.quiet hI.1 (Mod.refl _ _) (HGs.out D 8 zw1 zw1 (hI.1).g (Mod.refl _ _))) (upd_same V 8 _))
                · intro D V zw1 a hR hI K hK   -- 9: Op.indexAddr 26 (Operand.tmp 35) (Operand.tmp 38)
                  obtain ⟨hM1, hB1, hG1⟩ := hI.1
                  have zd2 := hR.pred 2 (by kernel_rfl)
                  have zF2 : V 2 = .bool false := hI.2 2 zd2 rfl
                  have zf2 := zF2; clear zF2
                  have ze32 := hR.frame.done (t := 32) (j := 2) (by kernel_rfl) hR.ok zd2
                  rw [if_neg (by simp [Region.wanted, yielded, ze32, zf2])]
                  exact hK undef _ (hI.next hR (by kernel_rfl) (Mod.refl _ _) (PB.quiet hI.1 (Mod.refl _ _) (HGs.out D 9 zw1 zw1 (hI.1).g (Mod.refl _ _))) (upd_same V 9 _))
                · intro D V zw1 a hR hI K hK   -- 10: Op.fieldAddr 75 (Operand.tmp 39) 1
                  obtain ⟨hM1, hB1, hG1⟩ := hI.1
                  have zd2 := hR.pred 2 (by kernel_rfl)
                  have zF2 : V 2 = .bool false := hI.2 2 zd2 rfl
                  have zf2 := zF2; clear zF2
                  have ze32 := hR.frame.done (t := 32) (j := 2) (by kernel_rfl) hR.ok zd2
                  rw [if_neg (by simp [Region.wanted, yielded, ze32, zf2])]
                  exact hK undef _ (hI.next hR (by kernel_rfl) (Mod.refl _ _) (PB.quiet hI.1 (Mod.refl _ _) (HGs.out D 10 zw1 zw1 (hI.1).g (Mod.refl _ _))) (upd_same V 10 _))
                · intro D V zw1 a hR hI K hK   -- 11: Op.load 3 (Operand.tmp 40)
                  obtain ⟨hM1, hB1, hG1⟩ := hI.1
                  have zd2 := hR.pred 2 (by kernel_rfl)
                  have zF2 : V 2 = .bool false := hI.2 2 zd2 rfl
                  have zf2 := zF2; clear zF2
                  have ze32 := hR.frame.done (t := 32) (j := 2) (by kernel_rfl) hR.ok zd2
                  rw [if_neg (by simp [Region.wanted, yielded, ze32, zf2])]
                  exact hK undef _ (hI.next hR (by kernel_rfl) (Mod.refl _ _) (PB.quiet hI.1 (Mod.refl _ _) (HGs.out D 11 zw1 zw1 (hI.1).g (Mod.refl _ _))) (upd_same V 11 _))
                · intro D V zw1 a hR hI K hK   -- 12: Op.binOp BinOp.lss 3 (Operand.tmp 34) (Operand.tmp 41) 3
                  obtain ⟨hM1, hB1, hG1⟩ := hI.1
                  have zd2 := hR.pred 2 (by kernel_rfl)
                  have zF2 : V 2 = .bool false := hI.2 2 zd2 rfl
                  have zf2 := zF2; clear zF2
                  have ze32 := hR.frame.done (t := 32) (j := 2) (by kernel_rfl) hR.ok zd2
                  rw [if_neg (by simp [Region.wanted, yielded, ze32, zf2])]
                  exact hK undef _ (hI.next hR (by kernel_rfl) (Mod.refl _ _) (PB.quiet hI.1 (Mod.refl _ _) (HGs.out D 12 zw1 zw1 (hI.1).g (Mod.refl _ _))) (upd_same V 12 _))
                · intro D V zw1 a hR hI K hK   -- 13: Op.pick (Operand.tmp 32) (Operand.tmp 42) (Operand.const (Value.bool f
                  obtain ⟨hM1, hB1, hG1⟩ := hI.1
                  have zd2 := hR.pred 2 (by kernel_rfl)
                  have zF2 : V 2 = .bool false := hI.2 2 zd2 rfl
                  have zf2 := zF2; clear zF2
                  have zd12 := hR.pred 12 (by kernel_rfl)
                  have zF12 : V 12 = undef := hI.2 12 zd12 rfl
                  have zf12 := zF12; clear zF12
                  have ze32 := hR.frame.done (t := 32) (j := 2) (by kernel_rfl) hR.ok zd2
                  have ze42 := hR.frame.done (t := 42) (j := 12) (by kernel_rfl) hR.ok zd12
                  rw [if_pos (by rfl)]
                  go_simp
                  exact hK (.bool false) _ (hI.next hR (by kernel_rfl) (Mod.refl _ _) (PB.quiet hI.1 (Mod.refl _ _) (HGs.out D 13 zw1 zw1 (hI.1).g (Mod.refl _ _))) (upd_same V 13 _))
                · intro D V zw1 a hR hI K hK   -- 14: Op.assign (Operand.tmp 43)
                  obtain ⟨hM1, hB1, hG1⟩ := hI.1
                  have zd13 := hR.pred 13 (by kernel_rfl)
                  have zF13 : V 13 = .bool false := hI.2 13 zd13 rfl
                  have zf13 := zF13; clear zF13
                  have ze43 := hR.frame.done (t := 43) (j := 13) (by kernel_rfl) hR.ok zd13
                  rw [if_pos (by rfl)]
                  go_simp
                  exact hK (.bool false) _ (hI.next hR (by kernel_rfl) (Mod.refl _ _) (PB.quiet hI.1 (Mod.refl _ _) (HGs.out D 14 zw1 zw1 (hI.1).g (Mod.refl _ _))) (upd_same V 14 _))
              · intro D V w3 hD hI
                obtain ⟨hM1, hB1, hG1⟩ := hI.1
                have hMx := hM1
                clear hM1
                have hBx := hB1
                clear hB1
                clear hG1
                have zF0 : V 0 = .int .i64 (k : Int) := hI.2 0 (hD 0 (by decide)) rfl
                have zf0 := zF0; clear zF0
                have zF1 : V 1 = .bool false := hI.2 1 (hD 1 (by decide)) rfl
                have zf1 := zF1; clear zF1
                have zF2 : V 2 = .bool false := hI.2 2 (hD 2 (by decide)) rfl
                have zf2 := zF2; clear zF2
                have zF3 : V 3 = undef := hI.2 3 (hD 3 (by decide)) rfl
                have zf3 := zF3; clear zF3
                have zF4 : V 4 = undef := hI.2 4 (hD 4 (by decide)) rfl
                have zf4 := zF4; clear zF4
                have zF5 : V 5 = undef := hI.2 5 (hD 5 (by decide)) rfl
                have zf5 := zF5; clear zF5
                have zF6 : V 6 = undef := hI.2 6 (hD 6 (by decide)) rfl
                have zf6 := zF6; clear zF6
                have zF7 : V 7 = undef := hI.2 7 (hD 7 (by decide)) rfl
                have zf7 := zF7; clear zF7
                have zF8 : V 8 = undef := hI.2 8 (hD 8 (by decide)) rfl
                have zf8 := zF8; clear zF8
                have zF9 : V 9 = undef := hI.2 9 (hD 9 (by decide)) rfl
                have zf9 := zF9; clear zF9
                have zF10 : V 10 = undef := hI.2 10 (hD 10 (by decide)) rfl
                have zf10 := zF10; clear zF10
                have zF11 : V 11 = undef := hI.2 11 (hD 11 (by decide)) rfl
                have zf11 := zF11; clear zF11
                have zF12 : V 12 = undef := hI.2 12 (hD 12 (by decide)) rfl
                have zf12 := zF12; clear zF12
                have zF13 : V 13 = .bool false := hI.2 13 (hD 13 (by decide)) rfl
                have zf13 := zF13; clear zF13
                have zF14 : V 14 = .bool false := hI.2 14 (hD 14 (by decide)) rfl
                have zf14 := zF14; clear zF14
                clear hI hD HGs
                simp only [frAll, Act.put, List.setIfInBounds_toArray, List.set_cons_zero, List.set_cons_succ, Nat.zero_add, Nat.reduceAdd, zf0, zf1, zf2, zf3, zf4, zf5, zf6, zf7, zf8, zf9, zf10, zf11, zf12, zf13, zf14]
                clear zf0 zf1 zf2 zf3 zf4 zf5 zf6 zf7 zf8 zf9 zf10 zf11 zf12 zf13 zf14
                clear V D
                go_wp2_with fail
                go_meet
                exact ⟨by rw [HF.out], hMx⟩
            · obtain ⟨j, rfl⟩ : ∃ j, k = j + 1 := ⟨k - 1, by omega⟩
              obtain ⟨hj, hpt, hcell⟩ := HPT.out j rfl
              have hc0 := hcell WS hm2.out
              rw [← hpt] at hc0
              have HC0 := Lib.hid hc0
              have HF : Hid (b7 = decide (x.tm < pt)) := Lib.hid (by rw [← HB7.out]; simp)
              obtain ⟨bl, hbl⟩ : ∃ bl, decide (x.tm < pt) = bl := ⟨_, rfl⟩
              have HBL := Lib.hid hbl
              have hj1 : j < l.length := hj
              clear hc0 hcell hpt hbl t0 t1 t2 t3 t4
              go_wp2_with fail
              have HGs := Lib.hid (show ∀ (D : Nat → Bool) (zzi : Nat) (zq zq' : World), (fun _ zq => (fun Z => Blk Z gs 75 #[.int .i64 x.no, .int .i64 x.tm, .string ⟨x.thing.toArray⟩, .string ⟨x.src.toArray⟩, .string ⟨x.dst.toArray⟩] ∧ Z.cell? ⟨g, off + j * 5 + 1, none⟩ = some (.int .i64 pt)) zq) D zq → Mod (fun _ => False) zq zq' → (fun _ zq => (fun Z => Blk Z gs 75 #[.int .i64 x.no, .int .i64 x.tm, .string ⟨x.thing.toArray⟩, .string ⟨x.src.toArray⟩, .string ⟨x.dst.toArray⟩] ∧ Z.cell? ⟨g, off + j * 5 + 1, none⟩ = some (.int .i64 pt)) zq) (upd D zzi true) zq' from by intro D zzi zq zq' h hm; (exact ⟨h.1.modp hm, keepp h.2 hm⟩))
              refine wp_region_inv (by kernel_rfl) (by kernel_rfl) (InvF (R := Mod (fun _ => False)) [.is (.int .i64 ((j : Int) + 1)),
                  .is (.bool true),
                  .is (.bool true),
                  .is (.pointer (some ⟨gs, 1, none⟩)),
                  .is (.int .i64 x.tm),
                  .is (.slice (some ⟨g, off, none⟩) l.length c),
                  .is (.int .i64 ((j : Int) + 1)),
                  .is (.int .i64 ((j : Int) + 1)),
                  .is (.int .i64 (j : Int)),
                  .is (.pointer (some ⟨g, off + j * 5, none⟩)),
                  .is (.pointer (some ⟨g, off + j * 5 + 1, none⟩)),
                  .is (.int .i64 pt),
                  .is (.bool bl),
                  .is (.bool bl),
                  .is (.bool bl)]
                  (PB WS (fun _ => False) WS.heap.size (fun _ zq => (fun Z => Blk Z gs 75 #[.int .i64 x.no, .int .i64 x.tm, .string ⟨x.thing.toArray⟩, .string ⟨x.src.toArray⟩, .string ⟨x.dst.toArray⟩] ∧ Z.cell? ⟨g, off + j * 5 + 1, none⟩ = some (.int .i64 pt)) zq))) (InvF.start (PB.start (Mod.refl _ _) (Nat.le_refl _) (⟨hB2.out.drew, cell_drew HC0.out⟩))) ?_ ?_
              · refine .cons ?_ (.cons ?_ (.cons ?_ (.cons ?_ (.cons ?_ (.cons ?_ (.cons ?_ (.cons ?_ (.cons ?_ (.cons ?_ (.cons ?_ (.cons ?_ (.cons ?_ (.cons ?_ (.cons ?_ .nil))))))))))))))
                · intro D V zw1 a hR hI K hK   -- 0: Op.move (Operand.tmp 4)
                  obtain ⟨hM1, hB1, hG1⟩ := hI.1
                  obtain ⟨hG1a, hG1b⟩ := hG1
                  have ze4 := hR.frame.other (t := 4) (by kernel_rfl) rfl
                  rw [if_pos (by rfl)]
                  go_simp
                  exact hK (.int .i64 ((j : Int) + 1)) _ (hI.next hR (by kernel_rfl) (Mod.refl _ _) (PB.quiet hI.1 (Mod.refl _ _) (HGs.out D 0 zw1 zw1 (hI.1).g (Mod.refl _ _))) (upd_same V 0 _))
                · intro D V zw1 a hR hI K hK   -- 1: Op.binOp BinOp.gtr 3 (Operand.tmp 30) (Operand.const (Value.int IntKin
                  obtain ⟨hM1, hB1, hG1⟩ := hI.1
                  obtain ⟨hG1a, hG1b⟩ := hG1
                  have zd0 := hR.pred 0 (by kernel_rfl)
                  have zF0 : V 0 = .int .i64 ((j : Int) + 1) := hI.2 0 zd0 rfl
                  have zf0 := zF0; clear zF0
                  have ze30 := hR.frame.done (t := 30) (j := 0) (by kernel_rfl) hR.ok zd0
                  have i0 : (0 : Int) < (j : Int) + 1 := by omega
                  rw [if_pos (by rfl)]
                  go_simp
                  exact hK (.bool true) _ (hI.next hR (by kernel_rfl) (Mod.refl _ _) (PB.quiet hI.1 (Mod.refl _ _) (HGs.out D 1 zw1 zw1 (hI.1).g (Mod.refl _ _))) (upd_same V 1 _))
                · intro D V zw1 a hR hI K hK   -- 2: Op.move (Operand.tmp 31)
                  obtain ⟨hM1, hB1, hG1⟩ := hI.1
                  obtain ⟨hG1a, hG1b⟩ := hG1
                  have zd1 := hR.pred 1 (by kernel_rfl)
                  have zF1 : V 1 = .bool true := hI.2 1 zd1 rfl
                  have zf1 := zF1; clear zF1
                  have ze31 := hR.frame.done (t := 31) (j := 1) (by kernel_rfl) hR.ok zd1
                  rw [if_pos (by rfl)]
                  go_simp
                  exact hK (.bool true) _ (hI.next hR (by kernel_rfl) (Mod.refl _ _) (PB.quiet hI.1 (Mod.refl _ _) (HGs.out D 2 zw1 zw1 (hI.1).g (Mod.refl _ _))) (upd_same V 2 _))
                · intro D V zw1 a hR hI K hK   -- 3: Op.fieldAddr 75 (Operand.tmp 5) 1
                  obtain ⟨hM1, hB1, hG1⟩ := hI.1
                  obtain ⟨hG1a, hG1b⟩ := hG1
                  have zd2 := hR.pred 2 (by kernel_rfl)
                  have zF2 : V 2 = .bool true := hI.2 2 zd2 rfl
                  have zf2 := zF2; clear zF2
                  have ze5 := hR.frame.other (t := 5) (by kernel_rfl) rfl
                  have ze32 := hR.frame.done (t := 32) (j := 2) (by kernel_rfl) hR.ok zd2
                  rw [if_pos (by simp [Region.wanted, yielded, ze32, zf2])]
                  go_simp
                  exact hK (.pointer (some ⟨gs, 1, none⟩)) _ (hI.next hR (by kernel_rfl) (Mod.refl _ _) (PB.quiet hI.1 (Mod.refl _ _) (HGs.out D 3 zw1 zw1 (hI.1).g (Mod.refl _ _))) (upd_same V 3 _))
                · intro D V zw1 a hR hI K hK   -- 4: Op.load 3 (Operand.tmp 33)
                  obtain ⟨hM1, hB1, hG1⟩ := hI.1
                  obtain ⟨hG1a, hG1b⟩ := hG1
                  have zd3 := hR.pred 3 (by kernel_rfl)
                  have zF3 : V 3 = .pointer (some ⟨gs, 1, none⟩) := hI.2 3 zd3 rfl
                  have zf3 := zF3; clear zF3
                  have zd2 := hR.pred 2 (by kernel_rfl)
                  have zF2 : V 2 = .bool true := hI.2 2 zd2 rfl
                  have zf2 := zF2; clear zF2
                  have ze33 := hR.frame.done (t := 33) (j := 3) (by kernel_rfl) hR.ok zd3
                  have zx0 := hG1a.cell 0; have zx1 := hG1a.cell 1; have zx2 := hG1a.cell 2; have zx3 := hG1a.cell 3; have zx4 := hG1a.cell 4
                  simp at zx0 zx1 zx2 zx3 zx4
                  have ze32 := hR.frame.done (t := 32) (j := 2) (by kernel_rfl) hR.ok zd2
                  rw [if_pos (by simp [Region.wanted, yielded, ze32, zf2])]
                  go_simp
                  exact hK (.int .i64 x.tm) _ (hI.next hR (by kernel_rfl) (Mod.refl _ _) (PB.quiet hI.1 (Mod.refl _ _) (HGs.out D 4 zw1 zw1 (hI.1).g (Mod.refl _ _))) (upd_same V 4 _))
                · intro D V zw1 a hR hI K hK   -- 5: Op.move (Operand.tmp 0)
                  obtain ⟨hM1, hB1, hG1⟩ := hI.1
                  obtain ⟨hG1a, hG1b⟩ := hG1
                  have zd2 := hR.pred 2 (by kernel_rfl)
                  have zF2 : V 2 = .bool true := hI.2 2 zd2 rfl
                  have zf2 := zF2; clear zF2
                  have ze0 := hR.frame.other (t := 0) (by kernel_rfl) rfl
                  have ze32 := hR.frame.done (t := 32) (j := 2) (by kernel_rfl) hR.ok zd2
                  rw [if_pos (by simp [Region.wanted, yielded, ze32, zf2])]
                  go_simp
                  exact hK (.slice (some ⟨g, off, none⟩) l.length c) _ (hI.next hR (by kernel_rfl) (Mod.refl _ _) (PB.quiet hI.1 (Mod.refl _ _) (HGs.out D 5 zw1 zw1 (hI.1).g (Mod.refl _ _))) (upd_same V 5 _))
                · intro D V zw1 a hR hI K hK   -- 6: Op.move (Operand.tmp 4)
                  obtain ⟨hM1, hB1, hG1⟩ := hI.1
                  obtain ⟨hG1a, hG1b⟩ := hG1
                  have zd2 := hR.pred 2 (by kernel_rfl)
                  have zF2 : V 2 = .bool true := hI.2 2 zd2 rfl
                  have zf2 := zF2; clear zF2
                  have ze4 := hR.frame.other (t := 4) (by kernel_rfl) rfl
                  have ze32 := hR.frame.done (t := 32) (j := 2) (by kernel_rfl) hR.ok zd2
                  rw [if_pos (by simp [Region.wanted, yielded, ze32, zf2])]
                  go_simp
                  exact hK (.int .i64 ((j : Int) + 1)) _ (hI.next hR (by kernel_rfl) (Mod.refl _ _) (PB.quiet hI.1 (Mod.refl _ _) (HGs.out D 6 zw1 zw1 (hI.1).g (Mod.refl _ _))) (upd_same V 6 _))
                · intro D V zw1 a hR hI K hK   -- 7: Op.call { callee := Callee.builtin Builtin.max, args := #[Operand.tmp 
                  obtain ⟨hM1, hB1, hG1⟩ := hI.1
                  obtain ⟨hG1a, hG1b⟩ := hG1
                  have zd6 := hR.pred 6 (by kernel_rfl)
                  have zF6 : V 6 = .int .i64 ((j : Int) + 1) := hI.2 6 zd6 rfl
                  have zf6 := zF6; clear zF6
                  have zd2 := hR.pred 2 (by kernel_rfl)
                  have zF2 : V 2 = .bool true := hI.2 2 zd2 rfl
                  have zf2 := zF2; clear zF2
                  have ze36 := hR.frame.done (t := 36) (j := 6) (by kernel_rfl) hR.ok zd6
                  have hmx : (if ((j : Int) + 1) < 1 then (1 : Int) else (j : Int) + 1) = (j : Int) + 1 := if_neg (by omega)
                  have hmx2 : max ((j : Int) + 1) 1 = (j : Int) + 1 := by omega
                  have ze32 := hR.frame.done (t := 32) (j := 2) (by kernel_rfl) hR.ok zd2
                  rw [if_pos (by simp [Region.wanted, yielded, ze32, zf2])]
                  go_simp
                  exact hK (.int .i64 ((j : Int) + 1)) _ (hI.next hR (by kernel_rfl) (Mod.refl _ _) (PB.quiet hI.1 (Mod.refl _ _) (HGs.out D 7 zw1 zw1 (hI.1).g (Mod.refl _ _))) (upd_same V 7 _))
                · intro D V zw1 a hR hI K hK   -- 8: Op.binOp BinOp.sub 3 (Operand.tmp 37) (Operand.const (Value.int IntKin
                  obtain ⟨hM1, hB1, hG1⟩ := hI.1
                  obtain ⟨hG1a, hG1b⟩ := hG1
                  have zd7 := hR.pred 7 (by kernel_rfl)
                  have zF7 : V 7 = .int .i64 ((j : Int) + 1) := hI.2 7 zd7 rfl
                  have zf7 := zF7; clear zF7
                  have zd2 := hR.pred 2 (by kernel_rfl)
                  have zF2 : V 2 = .bool true := hI.2 2 zd2 rfl
                  have zf2 := zF2; clear zF2
                  have ze37 := hR.frame.done (t := 37) (j := 7) (by kernel_rfl) hR.ok zd7
                  have hw : IntKind.i64.wrap (j : Int) = (j : Int) := IntWalk.i64_in _ (by omega)
                  have ze32 := hR.frame.done (t := 32) (j := 2) (by kernel_rfl) hR.ok zd2
                  rw [if_pos (by simp [Region.wanted, yielded, ze32, zf2])]
                  go_simp
                  exact hK (.int .i64 (j : Int)) _ (hI.next hR (by kernel_rfl) (Mod.refl _ _) (PB.quiet hI.1 (Mod.refl _ _) (HGs.out D 8 zw1 zw1 (hI.1).g (Mod.refl _ _))) (upd_same V 8 _))
                · intro D V zw1 a hR hI K hK   -- 9: Op.indexAddr 26 (Operand.tmp 35) (Operand.tmp 38)
                  obtain ⟨hM1, hB1, hG1⟩ := hI.1
                  obtain ⟨hG1a, hG1b⟩ := hG1
                  have zd5 := hR.pred 5 (by kernel_rfl)
                  have zF5 : V 5 = .slice (some ⟨g, off, none⟩) l.length c := hI.2 5 zd5 rfl
                  have zf5 := zF5; clear zF5
                  have zd8 := hR.pred 8 (by kernel_rfl)
                  have zF8 : V 8 = .int .i64 (j : Int) := hI.2 8 zd8 rfl
                  have zf8 := zF8; clear zF8
                  have zd2 := hR.pred 2 (by kernel_rfl)
                  have zF2 : V 2 = .bool true := hI.2 2 zd2 rfl
                  have zf2 := zF2; clear zF2
                  have ze35 := hR.frame.done (t := 35) (j := 5) (by kernel_rfl) hR.ok zd5
                  have ze38 := hR.frame.done (t := 38) (j := 8) (by kernel_rfl) hR.ok zd8
                  have i3 : (0 : Int) ≤ (j : Int) := by omega
                  have i4 : (j : Int) < (l.length : Int) := by omega
                  have ze32 := hR.frame.done (t := 32) (j := 2) (by kernel_rfl) hR.ok zd2
                  rw [if_pos (by simp [Region.wanted, yielded, ze32, zf2])]
                  go_simp
                  exact hK (.pointer (some ⟨g, off + j * 5, none⟩)) _ (hI.next hR (by kernel_rfl) (Mod.refl _ _) (PB.quiet hI.1 (Mod.refl _ _) (HGs.out D 9 zw1 zw1 (hI.1).g (Mod.refl _ _))) (upd_same V 9 _))
                · intro D V zw1 a hR hI K hK   -- 10: Op.fieldAddr 75 (Operand.tmp 39) 1
                  obtain ⟨hM1, hB1, hG1⟩ := hI.1
                  obtain ⟨hG1a, hG1b⟩ := hG1
                  have zd9 := hR.pred 9 (by kernel_rfl)
                  have zF9 : V 9 = .pointer (some ⟨g, off + j * 5, none⟩) := hI.2 9 zd9 rfl
                  have zf9 := zF9; clear zF9
                  have zd2 := hR.pred 2 (by kernel_rfl)
                  have zF2 : V 2 = .bool true := hI.2 2 zd2 rfl
                  have zf2 := zF2; clear zF2
                  have ze39 := hR.frame.done (t := 39) (j := 9) (by kernel_rfl) hR.ok zd9
                  have ze32 := hR.frame.done (t := 32) (j := 2) (by kernel_rfl) hR.ok zd2
                  rw [if_pos (by simp [Region.wanted, yielded, ze32, zf2])]
                  go_simp
                  exact hK (.pointer (some ⟨g, off + j * 5 + 1, none⟩)) _ (hI.next hR (by kernel_rfl) (Mod.refl _ _) (PB.quiet hI.1 (Mod.refl _ _) (HGs.out D 10 zw1 zw1 (hI.1).g (Mod.refl _ _))) (upd_same V 10 _))
                · intro D V zw1 a hR hI K hK   -- 11: Op.load 3 (Operand.tmp 40)
                  obtain ⟨hM1, hB1, hG1⟩ := hI.1
                  obtain ⟨hG1a, hG1b⟩ := hG1
                  have zd10 := hR.pred 10 (by kernel_rfl)
                  have zF10 : V 10 = .pointer (some ⟨g, off + j * 5 + 1, none⟩) := hI.2 10 zd10 rfl
                  have zf10 := zF10; clear zF10
                  have zd2 := hR.pred 2 (by kernel_rfl)
                  have zF2 : V 2 = .bool true := hI.2 2 zd2 rfl
                  have zf2 := zF2; clear zF2
                  have ze40 := hR.frame.done (t := 40) (j := 10) (by kernel_rfl) hR.ok zd10
                  have hgb := hG1b
                  have ze32 := hR.frame.done (t := 32) (j := 2) (by kernel_rfl) hR.ok zd2
                  rw [if_pos (by simp [Region.wanted, yielded, ze32, zf2])]
                  go_simp
                  exact hK (.int .i64 pt) _ (hI.next hR (by kernel_rfl) (Mod.refl _ _) (PB.quiet hI.1 (Mod.refl _ _) (HGs.out D 11 zw1 zw1 (hI.1).g (Mod.refl _ _))) (upd_same V 11 _))
                · intro D V zw1 a hR hI K hK   -- 12: Op.binOp BinOp.lss 3 (Operand.tmp 34) (Operand.tmp 41) 3
                  obtain ⟨hM1, hB1, hG1⟩ := hI.1
                  obtain ⟨hG1a, hG1b⟩ := hG1
                  have zd4 := hR.pred 4 (by kernel_rfl)
                  have zF4 : V 4 = .int .i64 x.tm := hI.2 4 zd4 rfl
                  have zf4 := zF4; clear zF4
                  have zd11 := hR.pred 11 (by kernel_rfl)
                  have zF11 : V 11 = .int .i64 pt := hI.2 11 zd11 rfl
                  have zf11 := zF11; clear zF11
                  have zd2 := hR.pred 2 (by kernel_rfl)
                  have zF2 : V 2 = .bool true := hI.2 2 zd2 rfl
                  have zf2 := zF2; clear zF2
                  have ze34 := hR.frame.done (t := 34) (j := 4) (by kernel_rfl) hR.ok zd4
                  have ze41 := hR.frame.done (t := 41) (j := 11) (by kernel_rfl) hR.ok zd11
                  have hbl := HBL.out
                  have ze32 := hR.frame.done (t := 32) (j := 2) (by kernel_rfl) hR.ok zd2
                  rw [if_pos (by simp [Region.wanted, yielded, ze32, zf2])]
                  go_simp
                  exact hK (.bool bl) _ (hI.next hR (by kernel_rfl) (Mod.refl _ _) (PB.quiet hI.1 (Mod.refl _ _) (HGs.out D 12 zw1 zw1 (hI.1).g (Mod.refl _ _))) (upd_same V 12 _))
                · intro D V zw1 a hR hI K hK   -- 13: Op.pick (Operand.tmp 32) (Operand.tmp 42) (Operand.const (Value.bool f
                  obtain ⟨hM1, hB1, hG1⟩ := hI.1
                  obtain ⟨hG1a, hG1b⟩ := hG1
                  have zd2 := hR.pred 2 (by kernel_rfl)
                  have zF2 : V 2 = .bool true := hI.2 2 zd2 rfl
                  have zf2 := zF2; clear zF2
                  have zd12 := hR.pred 12 (by kernel_rfl)
                  have zF12 : V 12 = .bool bl := hI.2 12 zd12 rfl
                  have zf12 := zF12; clear zF12
                  have ze32 := hR.frame.done (t := 32) (j := 2) (by kernel_rfl) hR.ok zd2
                  have ze42 := hR.frame.done (t := 42) (j := 12) (by kernel_rfl) hR.ok zd12
                  rw [if_pos (by rfl)]
                  go_simp
                  exact hK (.bool bl) _ (hI.next hR (by kernel_rfl) (Mod.refl _ _) (PB.quiet hI.1 (Mod.refl _ _) (HGs.out D 13 zw1 zw1 (hI.1).g (Mod.refl _ _))) (upd_same V 13 _))
                · intro D V zw1 a hR hI K hK   -- 14: Op.assign (Operand.tmp 43)
                  obtain ⟨hM1, hB1, hG1⟩ := hI.1
                  obtain ⟨hG1a, hG1b⟩ := hG1
                  have zd13 := hR.pred 13 (by kernel_rfl)
                  have zF13 : V 13 = .bool bl := hI.2 13 zd13 rfl
                  have zf13 := zF13; clear zF13
                  have ze43 := hR.frame.done (t := 43) (j := 13) (by kernel_rfl) hR.ok zd13
                  rw [if_pos (by rfl)]
                  go_simp
                  exact hK (.bool bl) _ (hI.next hR (by kernel_rfl) (Mod.refl _ _) (PB.quiet hI.1 (Mod.refl _ _) (HGs.out D 14 zw1 zw1 (hI.1).g (Mod.refl _ _))) (upd_same V 14 _))
              · intro D V w3 hD hI
                obtain ⟨hM1, hB1, hG1⟩ := hI.1
                have hMx := hM1
                clear hM1
                have hBx := hB1
                clear hB1
                have hGx := hG1
                clear hG1
                have zF0 : V 0 = .int .i64 ((j : Int) + 1) := hI.2 0 (hD 0 (by decide)) rfl
                have zf0 := zF0; clear zF0
                have zF1 : V 1 = .bool true := hI.2 1 (hD 1 (by decide)) rfl
                have zf1 := zF1; clear zF1
                have zF2 : V 2 = .bool true := hI.2 2 (hD 2 (by decide)) rfl
                have zf2 := zF2; clear zF2
                have zF3 : V 3 = .pointer (some ⟨gs, 1, none⟩) := hI.2 3 (hD 3 (by decide)) rfl
                have zf3 := zF3; clear zF3
                have zF4 : V 4 = .int .i64 x.tm := hI.2 4 (hD 4 (by decide)) rfl
                have zf4 := zF4; clear zF4
                have zF5 : V 5 = .slice (some ⟨g, off, none⟩) l.length c := hI.2 5 (hD 5 (by decide)) rfl
                have zf5 := zF5; clear zF5
                have zF6 : V 6 = .int .i64 ((j : Int) + 1) := hI.2 6 (hD 6 (by decide)) rfl
                have zf6 := zF6; clear zF6
                have zF7 : V 7 = .int .i64 ((j : Int) + 1) := hI.2 7 (hD 7 (by decide)) rfl
                have zf7 := zF7; clear zF7
                have zF8 : V 8 = .int .i64 (j : Int) := hI.2 8 (hD 8 (by decide)) rfl
                have zf8 := zF8; clear zF8
                have zF9 : V 9 = .pointer (some ⟨g, off + j * 5, none⟩) := hI.2 9 (hD 9 (by decide)) rfl
                have zf9 := zF9; clear zF9
                have zF10 : V 10 = .pointer (some ⟨g, off + j * 5 + 1, none⟩) := hI.2 10 (hD 10 (by decide)) rfl
                have zf10 := zF10; clear zF10
                have zF11 : V 11 = .int .i64 pt := hI.2 11 (hD 11 (by decide)) rfl
                have zf11 := zF11; clear zF11
                have zF12 : V 12 = .bool bl := hI.2 12 (hD 12 (by decide)) rfl
                have zf12 := zF12; clear zF12
                have zF13 : V 13 = .bool bl := hI.2 13 (hD 13 (by decide)) rfl
                have zf13 := zF13; clear zF13
                have zF14 : V 14 = .bool bl := hI.2 14 (hD 14 (by decide)) rfl
                have zf14 := zF14; clear zF14
                clear hI hD HGs
                simp only [frAll, Act.put, List.setIfInBounds_toArray, List.set_cons_zero, List.set_cons_succ, Nat.zero_add, Nat.reduceAdd, zf0, zf1, zf2, zf3, zf4, zf5, zf6, zf7, zf8, zf9, zf10, zf11, zf12, zf13, zf14]
                clear zf0 zf1 zf2 zf3 zf4 zf5 zf6 zf7 zf8 zf9 zf10 zf11 zf12 zf13 zf14
                clear V D
                go_wp2_with fail
                go_meet
                exact ⟨by rw [HF.out, HBL.out], hMx⟩
          case rest =>
            obtain ⟨rfl, m9⟩ := hcut
            have hm9 := Lib.hid (hm2.out.trans m9)
            cases b7
            · have HNP : Hid (¬ x.tm < pt) := Lib.hid (fun h => by
                have h1 := HB7.out
                rcases Nat.eq_zero_or_pos k with h0 | h0
                · have := HP0.out h0
                  have := HIN.out
                  omega
                · rw [decide_eq_true h0, decide_eq_true h] at h1
                  cases h1)
              have hM9 := Lib.hid (MapS.pure hM2.out m9)
              have hB9 := Lib.hid (hB2.out.mod m9 id)
              have hk1 : keyB x.thing = keyB x.thing := rfl
              clear hk1 HB7 HPT HP0 HIN hM2 hm2 hB2 m9 t0 t1 t2 t3 t4
              have HK1 : Hid (∀ W, Calls Tryz.prog 50 #[.string ⟨x.thing.toArray⟩] W (BoolSame W (keyB x.thing))) := Lib.hid (fun W => by have := key_calls W ⟨x.thing.toArray⟩ (by show x.thing.toArray.size ≤ _; rw [List.size_toArray]; omega); simpa using this)
              have HK2 : Hid (∀ W, Calls Tryz.prog 50 #[.string ⟨x.src.toArray⟩] W (BoolSame W (keyB x.src))) := Lib.hid (fun W => by have := key_calls W ⟨x.src.toArray⟩ (by show x.src.toArray.size ≤ _; rw [List.size_toArray]; omega); simpa using this)
              have HK3 : Hid (∀ W, Calls Tryz.prog 50 #[.string ⟨x.dst.toArray⟩] W (BoolSame W (keyB x.dst))) := Lib.hid (fun W => by have := key_calls W ⟨x.dst.toArray⟩ (by show x.dst.toArray.size ≤ _; rw [List.size_toArray]; omega); simpa using this)
              have HM5 : Hid (mvE l k = if (!keyB x.thing || (decide (x.src ≠ []) && !keyB x.src) || !keyB x.dst) = true then 5 else if x.src = x.dst then 14 else if x.src ≠ (hldF (fun _ => true) (l.take k) x.thing).getD [] then 11 else 0) := Lib.hid (by
                rw [HMV.out, if_neg (fun h => by rcases h with h | h; exact h HNO.out; rw [HBT.out] at h; cases h), if_neg HNP.out])
              generalize keyB x.thing = kt at *
              generalize keyB x.src = ks at *
              generalize keyB x.dst = kd at *
              obtain ⟨bad, hbad⟩ : ∃ bad, (!kt || (decide (x.src ≠ []) && !ks) || !kd) = bad := ⟨_, rfl⟩
              rw [hbad] at HM5
              have HBAD := Lib.hid hbad
              clear hbad HMV HNO HBT HNP
              have hB := hB9.out
              have t0 := hB.cell 0; have t1 := hB.cell 1; have t2 := hB.cell 2; have t3 := hB.cell 3; have t4 := hB.cell 4; simp at t0 t1 t2 t3 t4
              clear hB
              go_upto_region 11 with (fail)
              go_cut [44] (fun p wx => p = .bool bad ∧ wc = wx)
              case first =>
                cases kt
                · have HB : Hid (bad = true) := Lib.hid (by rw [← HBAD.out]; rfl)
                  go_wp2_with fail
                  refine (HK1.out _).mono ?_
                  rintro e w4 ⟨rfl, rfl⟩
                  go_wp2_with fail
                  go_meet
                  exact ⟨by rw [HB.out], rfl⟩
                · cases he : x.src.isEmpty
                  · have hne : x.src ≠ [] := fun h => by rw [h] at he; cases he
                    have HB : Hid (bad = (!ks || !kd)) := Lib.hid (by rw [← HBAD.out, decide_eq_true hne]; simp)
                    clear hne
                    go_wp2_with fail
                    refine (HK1.out _).mono ?_
                    rintro e w4 ⟨rfl, rfl⟩
                    go_wp2_with fail
                    refine (HK2.out _).mono ?_
                    rintro e w4 ⟨rfl, rfl⟩
                    cases ks
                    · go_wp2_with fail
                      go_meet
                      exact ⟨by rw [HB.out]; rfl, rfl⟩
                    · go_wp2_with fail
                      refine (HK3.out _).mono ?_
                      rintro e w4 ⟨rfl, rfl⟩
                      go_wp2_with fail
                      go_meet
                      exact ⟨by rw [HB.out]; simp, rfl⟩
                  · have hne : x.src = [] := by simpa using he
                    have HB : Hid (bad = !kd) := Lib.hid (by rw [← HBAD.out, hne]; simp)
                    clear hne
                    go_wp2_with fail
                    refine (HK1.out _).mono ?_
                    rintro e w4 ⟨rfl, rfl⟩
                    go_wp2_with fail
                    refine (HK3.out _).mono ?_
                    rintro e w4 ⟨rfl, rfl⟩
                    go_wp2_with fail
                    go_meet
                    exact ⟨by rw [HB.out], rfl⟩
              case rest =>
                obtain ⟨rfl, rfl⟩ := hcut
                clear HK1 HK2 HK3 HBAD
                cases bad
                · rw [if_neg (by simp)] at HM5
                  by_cases hsd : x.src = x.dst
                  · have HE : Hid (mvsE l = 14) := Lib.hid (HST.out 14 (by rw [HM5.out, if_pos hsd]) (by omega))
                    have hsd' : (x.src == x.dst) = true := by simpa using hsd
                    clear hsd
                    go_wp2_with fail
                    go_ret
                    exact IntPost.of HE.out hm9.out
                  · have hsd' : (x.src == x.dst) = false := by simpa using hsd
                    have hlook := (hM9.out).lookup (e := 9) Tryz.underlying72 zero_strV x.thing (by omega)
                    rw [hvF_getD] at hlook
                    rw [if_neg hsd] at HM5
                    clear hsd
                    generalize (hldF (fun _ => true) (l.take k) x.thing).getD [] = hv at *
                    by_cases hsv : x.src = hv
                    · have hsv' : (x.src != hv) = false := by simpa using hsv
                      have hsv2 : (x.src == hv) = true := by simpa using hsv
                      have H0 : Hid (mvE l k = 0) := Lib.hid (by rw [HM5.out, if_neg (by simpa using hsv)])
                      obtain ⟨w2, hrun, hM3, hm3⟩ := (hM9.out).store Tryz.underlying72 (by omega) x.thing (by omega) (.string ⟨x.dst.toArray⟩)
                      rw [← hvF_snoc (fun _ => true) _ _ rfl, ← HTK.out] at hM3
                      have hm4 := (hm9.out).trans' hm3 (fun i hi hlt => by omega)
                      have HM3 := Lib.hid hM3
                      have HM4 := Lib.hid hm4
                      clear hsv hM3 hm3 hm4 HM5
                      go_wp2_with fail
                      go_roundg (l.length - (k + 1))
                      case measure => omega
                      case rel => exact ⟨k + 1, rfl, by omega, by simp, HGO.out H0.out, HM3.out, HM4.out⟩
                    · have hsv' : (x.src != hv) = true := by simpa using hsv
                      have hsv2 : (x.src == hv) = false := by simpa using hsv
                      have HE : Hid (mvsE l = 11) := Lib.hid (HST.out 11 (by rw [HM5.out, if_pos hsv]) (by omega))
                      clear hsv
                      go_wp2_with fail
                      go_ret
                      exact IntPost.of HE.out hm9.out
                · have HE : Hid (mvsE l = 5) := Lib.hid (HST.out 5 (by rw [HM5.out, if_pos rfl]) (by omega))
                  go_wp2_with fail
                  go_ret
                  exact IntPost.of HE.out hm9.out
            · have HE : Hid (mvsE l = 7) := Lib.hid (HST.out 7 (by
                have h1 := HB7.out
                simp at h1
                rw [HMV.out, if_neg (fun h => by rcases h with h | h; exact h HNO.out; rw [HBT.out] at h; cases h), if_pos h1.2]) (by omega))
              go_wp2_with fail
              go_ret
              exact IntPost.of HE.out hm9.out
      · have hno' : (x.no != (k : Int) + 1) = true := by simpa using hno
        have HE : Hid (mvsE l = 1) := Lib.hid (HST.out 1 (by rw [HMV.out, if_pos (.inl hno)]) (by omega))
        clear hno
        go_wp2_with fail
        go_ret
        exact IntPost.of HE.out hm2.out
    · obtain rfl : k = l.length := by omega
      have HE : Hid (mvsE l = 0) := Lib.hid (by
        unfold mvsE
        rw [if_neg (by omega), ← hfe, Nat.sub_self]
        rfl)
      clear hfe hM
      go_wp2_with fail
      go_ret
      exact IntPost.of HE.out hm

end Go.Proofs.YtglekmflcaacjaaGreatDoor

/- MovesFault of the reference. -/
namespace Go.Proofs.YtglekmflcaacjaaGreatDoor
set_option linter.unusedVariables false
set_option linter.unusedSimpArgs false
open Go.RowKit

def Mf1 (w : World) (l : List Mv) (gk : Nat) (la i : Value) (wr : World) : Prop :=
  ∃ k : Nat, l.length - k = gk ∧ k ≤ l.length ∧ la = .int .i64 (prevT l k) ∧ i = .int .i64 (k : Int) ∧ firstE (mvE l) k (l.length - k) = firstE (mvE l) 0 l.length ∧ Pure w wr
def Mf2 (w : World) (gs : Nat) (l : List Mv) (x : Mv) (k gk : Nat) (f i : Value) (wr : World) : Prop :=
  ∃ j : Nat, k - j = gk ∧ j ≤ k ∧ f = .string ⟨((hldF (fun _ => true) (l.take j) x.thing).getD []).toArray⟩ ∧ i = .int .i64 (j : Int) ∧
    Blk wr gs 75 #[.int .i64 x.no, .int .i64 x.tm, .string ⟨x.thing.toArray⟩, .string ⟨x.src.toArray⟩, .string ⟨x.dst.toArray⟩] ∧ Pure w wr

set_option maxRecDepth 100000 in
set_option maxHeartbeats 8000000 in
theorem movesFault_calls (w : World) (v : Value) (l : List Mv) (hv : Mvs w v l) (hz : ∀ x ∈ l, MvB x) (hl : l.length ≤ 3000) : Calls Tryz.prog 14 #[v] w (IntPost w (mvsE l)) := by
  obtain ⟨A, n, c, rfl, hc1, hc2, hl2, hr⟩ := hv
  have hln : l.length = n := by rw [mvV_len] at hl2; omega
  subst hln
  have HR := Lib.hid hr
  have HZ := Lib.hid hz
  clear hl2 hr hz
  go_enter Tryz.func14, Tryz.ntmps14
  go_wp2_with fail
  go_loopg [3, 14] l.length (fun gk la i wr => Mf1 w l gk la i wr)
  case atStart => exact ⟨0, by omega, by omega, rfl, rfl, rfl, Mod.refl _ _⟩
  case round =>
    obtain ⟨k, rfl, hk, rfl, rfl, hfe, hm⟩ := hrel
    by_cases hlt : k < l.length
    · obtain ⟨g, off, rfl, hrow⟩ := HR.out (by omega)
      obtain ⟨q0, q1, q2, q3, q4⟩ := move_cells (hrow.mod hm id) hlt
      have HROW := Lib.hid (fun W (h : Pure w W) j (hj : j < l.length) => move_cells (hrow.mod h id) hj)
      have HMV := Lib.hid (mvE_at hlt)
      have HST : Hid (∀ e, mvE l k = e → e ≠ 0 → mvsE l = e) := Lib.hid (fun e h1 h2 => mvs_stop hlt hl hfe h1 h2)
      have HGO : Hid (mvE l k = 0 → firstE (mvE l) (k + 1) (l.length - (k + 1)) = firstE (mvE l) 0 l.length) := Lib.hid (fun h => by rw [← hfe, firstE_step _ hlt, h]; simp)
      have HPN : Hid (prevT l (k + 1) = l[k].tm) := Lib.hid (by
        show (match l[k]? with | some m => m.tm | none => 0) = _
        rw [List.getElem?_eq_getElem hlt])
      obtain ⟨hz1, hz2, hz3⟩ := HZ.out _ (List.getElem_mem hlt)
      clear hrow hfe
      generalize l[k] = x at *
      generalize prevT l k = pt at *
      have hm2 := Lib.hid (hm.alloc (.cells (mvQ x) 75))
      have hB2 := Lib.hid (Blk.new wr 75 (mvQ x))
      unfold mvQ at hm2 hB2
      clear hm
      have i1 : (0 : Int) ≤ (k : Int) := by omega
      have i2 : (k : Int) ≤ (c : Int) := by omega
      have i3 : (k : Int) ≤ (l.length : Int) := by omega
      go_upto_region 7 with (fail)
      generalize (wr.alloc (.cells #[.int .i64 x.no, .int .i64 x.tm, .string ⟨x.thing.toArray⟩, .string ⟨x.src.toArray⟩, .string ⟨x.dst.toArray⟩] 75)) = WS at *
      generalize wr.heap.size = gs at *
      clear q0 q1 q2 q3 q4
      go_wp2_with fail
      have HNT : Hid (∀ j, j < k → (l.take (j + 1)) = l.take j ++ (match l[j]? with | some m => [m] | none => [])) := Lib.hid (fun j hj => by
        rw [List.getElem?_eq_getElem (by omega), List.take_succ_eq_append_getElem (by omega)])
      go_loopg [6, 23] k (fun gk f i wr => Mf2 w gs l x k gk f i wr)
      case atStart => exact ⟨0, by omega, by omega, by simp [hldF], rfl, hB2.out, hm2.out⟩
      case round =>
        clear hm2 hB2
        obtain ⟨j, rfl, hj, rfl, rfl, hB, hm⟩ := hrel
        by_cases hjk : j < k
        · have hjl : j < l.length := by omega
          obtain ⟨q0, q1, q2, q3, q4⟩ := HROW.out wr hm j hjl
          have HTJ : Hid (l.take (j + 1) = l.take j ++ [l[j]]) := Lib.hid (List.take_succ_eq_append_getElem hjl)
          have HSN := Lib.hid (hldF_snoc (fun _ => true) (l.take j) l[j] x.thing)
          rw [← HTJ.out] at HSN
          generalize l[j] = y at *
          have hB3 := hB.alloc (.cells (mvQ y) 75)
          have hB4 := Blk.new wr 75 (mvQ y)
          have hm3 := hm.alloc (.cells (mvQ y) 75)
          have hgl : gs < wr.heap.size := hB.lt
          have j1 : (0 : Int) ≤ (j : Int) := by omega
          have j2 : (j : Int) < (k : Int) := by omega
          unfold mvQ at hB3 hB4 hm3
          clear hB hm
          go_upto_region 11 with (fail)
          generalize (wr.alloc (.cells #[.int .i64 y.no, .int .i64 y.tm, .string ⟨y.thing.toArray⟩, .string ⟨y.src.toArray⟩, .string ⟨y.dst.toArray⟩] 75)) = WY at *
          generalize wr.heap.size = gy at *
          clear q0 q1 q2 q3 q4
          have HB3 := Lib.hid hB3
          have HM3 := Lib.hid hm3
          have t0 := hB3.cell 0; have t1 := hB3.cell 1; have t2 := hB3.cell 2; have t3 := hB3.cell 3; have t4 := hB3.cell 4; simp at t0 t1 t2 t3 t4
          have s0 := hB4.cell 0; have s1 := hB4.cell 1; have s2 := hB4.cell 2; have s3 := hB4.cell 3; have s4 := hB4.cell 4; simp at s0 s1 s2 s3 s4
          clear hB3 hB4 hm3 HTJ
          obtain ⟨bd, hbd⟩ : ∃ bd, (y.thing == x.thing) = bd := ⟨_, rfl⟩
          have HBD : Hid (y.thing = x.thing ↔ bd = true) := Lib.hid (by rw [← hbd]; simp)
          cases bd
          · have HN : Hid (hldF (fun _ => true) (l.take (j + 1)) x.thing = hldF (fun _ => true) (l.take j) x.thing) := Lib.hid (by rw [HSN.out, if_neg (fun h => by have := HBD.out.1 h.2; cases this)])
            clear HSN HBD
            go_wp2_with fail
            go_roundg (k - (j + 1))
            case measure => omega
            case rel => exact ⟨j + 1, rfl, by omega, by rw [HN.out], by simp, HB3.out, HM3.out⟩
          · have HN : Hid (hldF (fun _ => true) (l.take (j + 1)) x.thing = some y.dst) := Lib.hid (by rw [HSN.out, if_pos ⟨rfl, HBD.out.2 rfl⟩])
            clear HSN HBD
            go_wp2_with fail
            go_roundg (k - (j + 1))
            case measure => omega
            case rel => exact ⟨j + 1, rfl, by omega, by rw [HN.out]; rfl, by simp, HB3.out, HM3.out⟩
        · obtain rfl : j = k := by omega
          have hm9 := Lib.hid hm
          have hB9 := Lib.hid hB
          have t0 := hB.cell 0; have t1 := hB.cell 1; have t2 := hB.cell 2; have t3 := hB.cell 3; have t4 := hB.cell 4; simp at t0 t1 t2 t3 t4
          clear hm hB HROW HNT
          by_cases hno : x.no = (j : Int) + 1
          · have hno' : (x.no != (j : Int) + 1) = false := by simpa using hno
            have HNO := Lib.hid hno
            clear hno
            obtain ⟨bt, hbt⟩ : ∃ bt, inB x.tm 0 5761439 = bt := ⟨_, rfl⟩
            have HBT := Lib.hid hbt
            have HMO := Lib.hid (rin_calls x.tm 0 5761439 wr)
            rw [hbt] at HMO
            clear hbt
            go_wp2_with fail
            refine HMO.out.mono ?_
            rintro e w2 ⟨rfl, rfl⟩
            clear HMO
            cases bt
            · have HE : Hid (mvsE l = 1) := Lib.hid (HST.out 1 (by rw [HMV.out, if_pos (.inr HBT.out)]) (by omega))
              go_wp2_with fail
              go_ret
              exact IntPost.of HE.out hm9.out
            · by_cases hpt : x.tm < pt
              · have HE : Hid (mvsE l = 7) := Lib.hid (HST.out 7 (by
                  rw [HMV.out, if_neg (fun h => by rcases h with h | h; exact h HNO.out; rw [HBT.out] at h; cases h), if_pos hpt]) (by omega))
                go_wp2_with fail
                go_ret
                exact IntPost.of HE.out hm9.out
              · have HK1 : Hid (∀ W, Calls Tryz.prog 17 #[.string ⟨x.thing.toArray⟩] W (BoolPost W (keyB x.thing))) := Lib.hid (fun W => by have := rkey_calls W ⟨x.thing.toArray⟩ (by show x.thing.toArray.size ≤ _; rw [List.size_toArray]; omega); simpa using this)
                have HK2 : Hid (∀ W, Calls Tryz.prog 17 #[.string ⟨x.src.toArray⟩] W (BoolPost W (keyB x.src))) := Lib.hid (fun W => by have := rkey_calls W ⟨x.src.toArray⟩ (by show x.src.toArray.size ≤ _; rw [List.size_toArray]; omega); simpa using this)
                have HK3 : Hid (∀ W, Calls Tryz.prog 17 #[.string ⟨x.dst.toArray⟩] W (BoolPost W (keyB x.dst))) := Lib.hid (fun W => by have := rkey_calls W ⟨x.dst.toArray⟩ (by show x.dst.toArray.size ≤ _; rw [List.size_toArray]; omega); simpa using this)
                have HM5 : Hid (mvE l j = if (!keyB x.thing || (decide (x.src ≠ []) && !keyB x.src) || !keyB x.dst) = true then 5 else if x.src = x.dst then 14 else if x.src ≠ (hldF (fun _ => true) (l.take j) x.thing).getD [] then 11 else 0) := Lib.hid (by
                  rw [HMV.out, if_neg (fun h => by rcases h with h | h; exact h HNO.out; rw [HBT.out] at h; cases h), if_neg hpt])
                generalize keyB x.thing = kt at *
                generalize keyB x.src = ks at *
                generalize keyB x.dst = kd at *
                generalize (hldF (fun _ => true) (l.take j) x.thing).getD [] = hv at *
                obtain ⟨bad, hbad⟩ : ∃ bad, (!kt || (decide (x.src ≠ []) && !ks) || !kd) = bad := ⟨_, rfl⟩
                rw [hbad] at HM5
                have HBAD := Lib.hid hbad
                clear hbad HMV HNO HBT
                go_upto_region 18 with (fail)
                go_cut [52] (fun p wx => p = .bool bad ∧ Pure wr wx)
                case first =>
                  cases kt
                  · have HB : Hid (bad = true) := Lib.hid (by rw [← HBAD.out]; rfl)
                    go_wp2_with fail
                    refine (HK1.out _).mono ?_
                    rintro e w4 ⟨rfl, m4⟩
                    go_wp2_with fail
                    go_meet
                    exact ⟨by rw [HB.out], m4⟩
                  · cases he : x.src.isEmpty
                    · have hne : x.src ≠ [] := fun h => by rw [h] at he; cases he
                      have HB : Hid (bad = (!ks || !kd)) := Lib.hid (by rw [← HBAD.out, decide_eq_true hne]; simp)
                      clear hne
                      go_wp2_with fail
                      refine (HK1.out _).mono ?_
                      rintro e w4 ⟨rfl, m4⟩
                      have hB4 := hB9.out.mod m4 id
                      clear t0 t1 t2 t3 t4
                      have t0 := hB4.cell 0; have t1 := hB4.cell 1; have t2 := hB4.cell 2; have t3 := hB4.cell 3; have t4 := hB4.cell 4; simp at t0 t1 t2 t3 t4
                      clear hB4
                      go_wp2_with fail
                      refine (HK2.out _).mono ?_
                      rintro e w5 ⟨rfl, m5⟩
                      have m45 := m4.trans m5
                      have hB5 := hB9.out.mod m45 id
                      clear t0 t1 t2 t3 t4
                      have t0 := hB5.cell 0; have t1 := hB5.cell 1; have t2 := hB5.cell 2; have t3 := hB5.cell 3; have t4 := hB5.cell 4; simp at t0 t1 t2 t3 t4
                      clear hB5
                      cases ks
                      · go_wp2_with fail
                        go_meet
                        exact ⟨by rw [HB.out]; rfl, m45⟩
                      · go_wp2_with fail
                        refine (HK3.out _).mono ?_
                        rintro e w6 ⟨rfl, m6⟩
                        go_wp2_with fail
                        go_meet
                        exact ⟨by rw [HB.out]; simp, m45.trans m6⟩
                    · have hne : x.src = [] := by simpa using he
                      have HB : Hid (bad = !kd) := Lib.hid (by rw [← HBAD.out, hne]; simp)
                      clear hne
                      go_wp2_with fail
                      refine (HK1.out _).mono ?_
                      rintro e w4 ⟨rfl, m4⟩
                      have hB4 := hB9.out.mod m4 id
                      clear t0 t1 t2 t3 t4
                      have t0 := hB4.cell 0; have t1 := hB4.cell 1; have t2 := hB4.cell 2; have t3 := hB4.cell 3; have t4 := hB4.cell 4; simp at t0 t1 t2 t3 t4
                      clear hB4
                      go_wp2_with fail
                      refine (HK3.out _).mono ?_
                      rintro e w5 ⟨rfl, m5⟩
                      go_wp2_with fail
                      go_meet
                      exact ⟨by rw [HB.out], m4.trans m5⟩
                case rest =>
                  obtain ⟨rfl, mc⟩ := hcut
                  have hmc := Lib.hid (hm9.out.trans mc)
                  have hBc := hB9.out.mod mc id
                  clear HK1 HK2 HK3 HBAD t0 t1 t2 t3 t4
                  have t0 := hBc.cell 0; have t1 := hBc.cell 1; have t2 := hBc.cell 2; have t3 := hBc.cell 3; have t4 := hBc.cell 4; simp at t0 t1 t2 t3 t4
                  clear hBc mc
                  cases bad
                  · rw [if_neg (by simp)] at HM5
                    by_cases hsd : x.src = x.dst
                    · have HE : Hid (mvsE l = 14) := Lib.hid (HST.out 14 (by rw [HM5.out, if_pos hsd]) (by omega))
                      have hsd' : (x.src == x.dst) = true := by simpa using hsd
                      clear hsd
                      go_wp2_with fail
                      go_ret
                      exact IntPost.of HE.out hmc.out
                    · have hsd' : (x.src == x.dst) = false := by simpa using hsd
                      rw [if_neg hsd] at HM5
                      clear hsd
                      by_cases hsv : x.src = hv
                      · have hsv' : (x.src != hv) = false := by simpa using hsv
                        have hsv2 : (x.src == hv) = true := by simpa using hsv
                        have H0 : Hid (mvE l j = 0) := Lib.hid (by rw [HM5.out, if_neg (by simpa using hsv)])
                        clear hsv HM5
                        go_wp2_with fail
                        go_roundg (l.length - (j + 1))
                        case measure => omega
                        case rel => exact ⟨j + 1, rfl, by omega, by rw [HPN.out], by simp, HGO.out H0.out, hmc.out⟩
                      · have hsv' : (x.src != hv) = true := by simpa using hsv
                        have hsv2 : (x.src == hv) = false := by simpa using hsv
                        have HE : Hid (mvsE l = 11) := Lib.hid (HST.out 11 (by rw [HM5.out, if_pos hsv]) (by omega))
                        clear hsv
                        go_wp2_with fail
                        go_ret
                        exact IntPost.of HE.out hmc.out
                  · have HE : Hid (mvsE l = 5) := Lib.hid (HST.out 5 (by rw [HM5.out, if_pos rfl]) (by omega))
                    go_wp2_with fail
                    go_ret
                    exact IntPost.of HE.out hmc.out
          · have hno' : (x.no != (j : Int) + 1) = true := by simpa using hno
            have HE : Hid (mvsE l = 1) := Lib.hid (HST.out 1 (by rw [HMV.out, if_pos (.inl hno)]) (by omega))
            clear hno
            go_wp2_with fail
            go_ret
            exact IntPost.of HE.out hm9.out
    · obtain rfl : k = l.length := by omega
      have HE : Hid (mvsE l = 0) := Lib.hid (by
        unfold mvsE
        rw [if_neg (by omega), ← hfe, Nat.sub_self]
        rfl)
      clear hfe
      go_wp2_with fail
      go_ret
      exact IntPost.of HE.out hm

end Go.Proofs.YtglekmflcaacjaaGreatDoor

/- slices.Backward over moves; HolderOf of the reference. -/
namespace Go.Proofs.YtglekmflcaacjaaGreatDoor
set_option linter.unusedVariables false
set_option linter.unusedSimpArgs false
open Go.RowKit Go.Shelf

attribute [local go_sem] Oper.semAt_some

/-- What has come when k rounds are over. -/
def uptoM {α : Type} (f : Nat → α) (k : Nat) : List α := (List.range k).map f
theorem uptoM_succ {α : Type} (f : Nat → α) (k : Nat) : uptoM f (k + 1) = uptoM f k ++ [f k] := by simp [uptoM, List.range_succ]
theorem uptoM_length {α : Type} (f : Nat → α) (k : Nat) : (uptoM f k).length = k := by simp [uptoM]
def mv0 : Mv := ⟨0, 0, [], [], []⟩
/-- The j-th from behind. -/
def bwF (xs : List Mv) (j : Nat) : Nat × Mv := (xs.length - 1 - j, xs[xs.length - 1 - j]?.getD mv0)

set_option maxRecDepth 100000 in
set_option maxHeartbeats 4000000 in
theorem bw1_in (F : Fence) (n : Nat) (h7 : F.fn 95) (hro : F.round = none) (hn : 1 ≤ n) (l Bs n₀ cap : Nat) (A : Option Addr) (xs : List Mv) (hreach : xs.length ≤ 100000) (hBs0 : Bs < n₀) (J Jx : List (Nat × Mv) → World → Prop)
    (hY : ∀ pre (x : Nat × Mv) W, J pre W → pre.length < xs.length → YieldAt F (n - 1) Tryz.prog l #[.int .i64 (x.1 : Int), mvA x.2] W fun e W' =>
      (e = .returned (.bool true) ∧ J (pre ++ [x]) W' ∧ Below n₀ W W') ∨ (e = .returned (.bool false) ∧ Jx (pre ++ [x]) W'))
    (W : World) (hBs : W.cell? ⟨Bs, 0, none⟩ = some (.slice A xs.length cap)) (hc : 0 < xs.length → ∃ b off, A = some ⟨b, off, none⟩ ∧ b < n₀ ∧ RowAt W 75 b off (mvV xs)) (h0 : J [] W) :
    CallsIn F n Tryz.prog 95 #[.func (.yield l) #[] #[], .pointer (some ⟨Bs, 0, none⟩)] W fun e W' => (∃ v, e = .returned v) ∧
      ((∃ ys, ys = uptoM (bwF xs) xs.length ∧ J ys W') ∨ (∃ pre, (∃ k, k ≤ xs.length ∧ pre = uptoM (bwF xs) k) ∧ Jx pre W')) := by
  refine callsIn_of_wp Tryz.func95 rfl h7 ?_ hro
  simp only [Tryz.ntmps95, List.size_toArray, List.length_cons, List.length_nil, Nat.reduceAdd, Nat.reduceSub, Array.replicate_succ, Array.replicate_zero, List.push_toArray, List.append_toArray, List.nil_append, List.cons_append]
  gi_wp2
  gi_loopw [3] (fun i wr => ∃ m : Nat, m ≤ xs.length ∧ i = .int .i64 ((m : Int) - 1) ∧ J (uptoM (bwF xs) (xs.length - m)) wr ∧ Below n₀ W wr)
    (fun i _ => (intOf i + 1).toNat)
  case atStart => exact ⟨xs.length, Nat.le_refl _, rfl, by simpa [uptoM] using h0, Below.refl _ _⟩
  case round =>
    obtain ⟨m, hm, rfl, hJs, hnx⟩ := hrel
    cases m with
    | zero =>
      gi_wp2
      go_end0
      exact ⟨⟨_, rfl⟩, .inl ⟨_, rfl, by simpa using hJs⟩⟩
    | succ j =>
      have hj : j < xs.length := by omega
      obtain ⟨b, off, rfl, hb, hc⟩ := hc (by omega)
      have hrow : RowAt wr 75 b off (mvV xs) := by
        obtain ⟨arr, fr, h1, h2⟩ := hc
        exact ⟨arr, fr, (hnx.block b hb).trans h1, h2⟩
      obtain ⟨q0, q1, q2, q3, q4⟩ := move_cells hrow hj
      have hbx := (hnx.cell (p := ⟨Bs, 0, none⟩) hBs0).trans hBs
      have hlen : (uptoM (bwF xs) (xs.length - (j + 1))).length < xs.length := by rw [uptoM_length]; omega
      have hbw : bwF xs (xs.length - (j + 1)) = (j, xs[j]) := by
        unfold bwF
        have e : xs.length - 1 - (xs.length - (j + 1)) = j := by omega
        rw [e, List.getElem?_eq_getElem hj]
        rfl
      have hup : uptoM (bwF xs) (xs.length - j) = uptoM (bwF xs) (xs.length - (j + 1)) ++ [(j, xs[j])] := by
        rw [show xs.length - j = (xs.length - (j + 1)) + 1 by omega, uptoM_succ, hbw]
      have HUP := Lib.hid hup
      clear hbw hup
      obtain ⟨fn, tmps, assign, body, hy, hR⟩ := hY _ (j, xs[j]) wr hJs hlen
      have hi1 : ((j + 1 : Nat) : Int) - 1 = (j : Int) := by omega
      rw [hi1]
      have j1 : (0 : Int) ≤ (j : Int) := by omega
      have j2 : (j : Int) < (xs.length : Int) := by omega
      dsimp only at hy
      unfold mvA at hy
      clear hi1 hlen hrow
      gi_wp2
      refine hR.mono ?_
      rintro e W3 (⟨rfl, hJ3, hk3⟩ | ⟨rfl, hJx3⟩)
      · gi_wp2
        go_roundw
        case rel => exact ⟨j, by omega, rfl, by rw [HUP.out]; exact hJ3, hnx.trans hk3⟩
        case measure => simp [intOf] <;> omega
      · gi_wp2
        refine bodyPost_ret (results_none rfl _ _ _) rfl ?_
        exact ⟨⟨_, rfl⟩, .inr ⟨_, ⟨xs.length - j, by omega, HUP.out.symm⟩, hJx3⟩⟩

set_option maxHeartbeats 1000000 in
theorem bw_in (F : Fence) (n : Nat) (h5 : F.fn 57) (hro : F.round = none) (a : Option Addr) (len cap : Nat) (w : World) :
    CallsIn F n Tryz.prog 57 #[.slice a len cap] w fun e w' => e = .returned (.func (.func 95) #[] #[.pointer (some ⟨w.heap.size, 0, none⟩)]) ∧ w' = w.alloc (.cells #[.slice a len cap] 26) := by
  refine callsIn_of_wp Tryz.func57 rfl h5 ?_ hro
  simp only [Tryz.ntmps57, List.size_toArray, List.length_cons, List.length_nil, Nat.reduceAdd, Nat.reduceSub, Array.replicate_succ, Array.replicate_zero, List.push_toArray, List.append_toArray, List.nil_append, List.cons_append]
  gi_wp2
  go_ret
  exact ⟨rfl, rfl⟩
theorem bw_stops (F : Fence) (n : Nat) (h7 : F.fn 95) (hro : F.round = none) (hn : 1 ≤ n) (Bs n₀ cap : Nat) (A : Option Addr) (xs : List Mv) (hreach : xs.length ≤ 100000) (w : World) (hBs : Bs < n₀) (hn₀ : n₀ ≤ w.heap.size)
    (hc : w.cell? ⟨Bs, 0, none⟩ = some (.slice A xs.length cap)) (hI : 0 < xs.length → ∃ b off, A = some ⟨b, off, none⟩ ∧ b < n₀ ∧ RowAt w 75 b off (mvV xs)) :
    SeqStopsK F n Tryz.prog 95 #[.pointer (some ⟨Bs, 0, none⟩)] (fun x : Nat × Mv => #[Value.int .i64 (x.1 : Int), mvA x.2]) (Below n₀) (fun ys => ys = uptoM (bwF xs) xs.length) (fun pre => ∃ k, k ≤ xs.length ∧ pre = uptoM (bwF xs) k) xs.length w := fun l J Jx W hW _ _ hY h0 => by
  have hW0 := hW.mono hn₀
  exact bw1_in F n h7 hro hn l Bs n₀ cap A xs hreach hBs J Jx hY W ((hW0.cell (p := ⟨Bs, 0, none⟩) hBs).trans hc) (fun h => by
    obtain ⟨b, off, h1, h2, arr, fr, h3, h4⟩ := hI h
    exact ⟨b, off, h1, h2, arr, fr, (hW0.block b h2).trans h3, h4⟩) h0

end Go.Proofs.YtglekmflcaacjaaGreatDoor

/- HolderOf of the reference. -/
namespace Go.Proofs.YtglekmflcaacjaaGreatDoor
set_option linter.unusedVariables false
set_option linter.unusedSimpArgs false
open Go.RowKit Go.Shelf

attribute [local go_sem] Oper.semAt_some

/-- Move x is one of a thing, up to a moment. -/
def hitM (t : Str) (at_ : Int) (x : Mv) : Prop := atB at_ x = true ∧ x.thing = t
theorem blk_kept {W W' : World} {row : Option Nat} {g : Nat} {t : TypeId} {cs : Array Value} (h : Blk W g t cs) (hg : W.grownBy W' row) (hr : ∀ r, row = some r → ∃ o : Obj, W.heap[r]? = some o ∧ o.isCells = false) : Blk W' g t cs := by
  refine (hg.block g h.lt (fun e => ?_)).trans h
  obtain ⟨o, ho, hc⟩ := hr g e.symm
  unfold Blk at h
  rw [h] at ho
  injection ho with ho
  subst ho
  cases hc
theorem back_none {xs : List Mv} {t : Str} {at_ : Int} (h : ∀ p ∈ uptoM (bwF xs) xs.length, ¬ hitM t at_ p.2) : hAt xs at_ t = [] := by
  unfold hAt
  rw [hldF_none xs (fun j hj hh => ?_)]
  · rfl
  · refine h (bwF xs (xs.length - 1 - j)) (List.mem_map.2 ⟨_, List.mem_range.2 (by omega), rfl⟩) ?_
    unfold bwF
    rw [show xs.length - 1 - (xs.length - 1 - j) = j by omega, List.getElem?_eq_getElem hj]
    exact hh
theorem back_hit {xs : List Mv} {t : Str} {at_ : Int} {k : Nat} (hk : k + 1 ≤ xs.length) (h : ∀ p ∈ uptoM (bwF xs) k, ¬ hitM t at_ p.2) (hh : hitM t at_ (bwF xs k).2) : hAt xs at_ t = (bwF xs k).2.dst := by
  have hi : xs.length - 1 - k < xs.length := by omega
  have e : (bwF xs k).2 = xs[xs.length - 1 - k] := by
    unfold bwF
    rw [List.getElem?_eq_getElem hi]
    rfl
  rw [e] at hh ⊢
  unfold hAt
  rw [hldF_back xs _ hi (fun j hj hlt hx => ?_), List.take_succ_eq_append_getElem hi, hldF_snoc]
  · rw [if_pos (show atB at_ xs[xs.length - 1 - k] = true ∧ xs[xs.length - 1 - k].thing = t from hh)]
    rfl
  · refine h (bwF xs (xs.length - 1 - j)) (List.mem_map.2 ⟨_, List.mem_range.2 (by omega), rfl⟩) ?_
    unfold bwF
    rw [show xs.length - 1 - (xs.length - 1 - j) = j by omega, List.getElem?_eq_getElem hj]
    exact hx

/-- None of them; only the last one of them. -/
def NoHit (t : Str) (at_ : Int) (pre : List (Nat × Mv)) : Prop := ∀ p ∈ pre, ¬ hitM t at_ p.2
theorem NoHit.snoc {t : Str} {at_ : Int} {pre : List (Nat × Mv)} {i : Nat} {x : Mv} (h : NoHit t at_ pre) (hx : ¬ hitM t at_ x) : NoHit t at_ (pre ++ [(i, x)]) := fun p hp => (List.mem_append.1 hp).elim (h p) (fun e => by rw [List.mem_singleton.1 e]; exact hx)
def OneHit (t : Str) (at_ : Int) (pre : List (Nat × Mv)) (ds : Str) : Prop := ∃ ini last, pre = ini ++ [last] ∧ NoHit t at_ ini ∧ hitM t at_ last.2 ∧ ds = last.2.dst
def StrQ (w : World) (s : Str) (e : Ending) (w' : World) : Prop := e = .returned (.string ⟨s.toArray⟩) ∧ Below w.heap.size w w'

set_option maxRecDepth 100000 in
set_option maxHeartbeats 8000000 in
theorem holderOf_in (F : Fence) (n : Nat) (h3 : F.fn 18) (h5 : F.fn 57) (h7 : F.fn 95) (hro : F.round = none) (hn : 3 ≤ n) (A : Option Addr) (cap : Nat) (xs : List Mv) (t : Str) (at_ : Int) (hreach : xs.length ≤ 100000) (w : World)
    (hI : 0 < xs.length → ∃ b off, A = some ⟨b, off, none⟩ ∧ b < w.heap.size ∧ RowAt w 75 b off (mvV xs)) :
    CallsIn F n Tryz.prog 18 #[.slice A xs.length cap, .string ⟨t.toArray⟩, .int .i64 at_] w (StrQ w (hAt xs at_ t)) := by
  have h1 : 1 ≤ n := by omega
  refine callsIn_of_wp_marks Tryz.func18 rfl h3 ?_ hro
  simp only [Tryz.ntmps18, List.size_toArray, List.length_cons, List.length_nil, Nat.reduceAdd, Nat.reduceSub, Array.replicate_succ, Array.replicate_zero, List.push_toArray, List.append_toArray, List.nil_append, List.cons_append]
  gi_wp2_with (gi_at_call 57; refine (bw_in F (n - 1) h5 hro _ _ _ _).mono ?_; rintro e w' ⟨rfl, rfl⟩)
  have B0 := (((Blk.new w 9 #[.string ⟨t.toArray⟩]).alloc (.cells #[.int .i64 at_] 3)).alloc (.cells #[.string ⟨#[]⟩] 9)).alloc (.cells #[.slice A xs.length cap] 26)
  have B1 := ((Blk.snd w (.cells #[.string ⟨t.toArray⟩] 9) 3 #[.int .i64 at_]).alloc (.cells #[.string ⟨#[]⟩] 9)).alloc (.cells #[.slice A xs.length cap] 26)
  have B2 := (Blk.thd w (.cells #[.string ⟨t.toArray⟩] 9) (.cells #[.int .i64 at_] 3) 9 #[.string ⟨#[]⟩]).alloc (.cells #[.slice A xs.length cap] 26)
  have B3 := Blk.new (((w.alloc (.cells #[.string ⟨t.toArray⟩] 9)).alloc (.cells #[.int .i64 at_] 3)).alloc (.cells #[.string ⟨#[]⟩] 9)) 26 #[.slice A xs.length cap]
  have hs3 : (((w.alloc (.cells #[.string ⟨t.toArray⟩] 9)).alloc (.cells #[.int .i64 at_] 3)).alloc (.cells #[.string ⟨#[]⟩] 9)).heap.size = w.heap.size + 1 + 1 + 1 := by simp
  have hs4 : ((((w.alloc (.cells #[.string ⟨t.toArray⟩] 9)).alloc (.cells #[.int .i64 at_] 3)).alloc (.cells #[.string ⟨#[]⟩] 9)).alloc (.cells #[.slice A xs.length cap] 26)).heap.size = w.heap.size + 1 + 1 + 1 + 1 := by simp
  have P0 : Pure w ((((w.alloc (.cells #[.string ⟨t.toArray⟩] 9)).alloc (.cells #[.int .i64 at_] 3)).alloc (.cells #[.string ⟨#[]⟩] 9)).alloc (.cells #[.slice A xs.length cap] 26)) := ((((Mod.refl _ _).alloc _).alloc _).alloc _).alloc _
  rw [hs3] at B3
  have hB0 := P0.below
  generalize ((((w.alloc (.cells #[.string ⟨t.toArray⟩] 9)).alloc (.cells #[.int .i64 at_] 3)).alloc (.cells #[.string ⟨#[]⟩] 9)).alloc (.cells #[.slice A xs.length cap] 26)) = W0 at *
  have hsW := Nat.le_of_eq hs4
  have hsW2 := Nat.le_of_eq hs4.symm
  clear hs3 hs4
  refine wpIn_rangeFunc_ownH hro h1 (gf := 95) (lb := #[.pointer (some ⟨w.heap.size + 1 + 1 + 1, 0, none⟩)]) rfl h7 (enters_of Tryz.func95 (by kernel_rfl) rfl)
    (bw_stops F (n - 1) h7 hro (by omega) (w.heap.size + 1 + 1 + 1) W0.heap.size cap A xs hreach W0 (by omega) (Nat.le_refl _) (B3.cell 0) (fun h => by
      obtain ⟨b, off, e1, e2, e3⟩ := hI h
      exact ⟨b, off, e1, by omega, e3.mod P0 id⟩)) belowK_t (belowK_b (Nat.le_refl _)) (Below.refl _ _) (fun _ => rfl)
    (fun pre W => (NoHit t at_ pre ∧ Blk W w.heap.size 9 #[.string ⟨t.toArray⟩] ∧ Blk W (w.heap.size + 1) 3 #[.int .i64 at_] ∧ Blk W (w.heap.size + 1 + 1) 9 #[.string ⟨#[]⟩] ∧ W0.heap.size ≤ W.heap.size) ∧ Below w.heap.size w W)
    (fun c pre W => (c = .ret ∧ ∃ ds : Str, OneHit t at_ pre ds ∧ Blk W (w.heap.size + 1 + 1) 9 #[.string ⟨ds.toArray⟩]) ∧ Below w.heap.size w W)
    (OwnFrom.and (Own.from (fun s A B row hs hg hr => ⟨hs.1, blk_kept hs.2.1 hg hr, blk_kept hs.2.2.1 hg hr, blk_kept hs.2.2.2.1 hg hr, Nat.le_trans hs.2.2.2.2 hg.size⟩) _) (ownFrom_below (Nat.le_refl _) (by omega)))
    (fun c => OwnFrom.and (Own.from (fun s A B row hs hg hr => by obtain ⟨hc, ds, e1, e4⟩ := hs; exact ⟨hc, ds, e1, blk_kept e4 hg hr⟩) _) (ownFrom_below (Nat.le_refl _) (by omega)))
    ⟨⟨fun p hp => absurd hp (by simp), B0, B1, B2, Nat.le_refl _⟩, hB0⟩
    (fun x a' W => ∃ Bx, w.heap.size + 1 + 1 < Bx ∧ Blk W Bx 75 #[.int .i64 x.2.no, .int .i64 x.2.tm, .string ⟨x.2.thing.toArray⟩, .string ⟨x.2.src.toArray⟩, .string ⟨x.2.dst.toArray⟩] ∧
      a' = { tmps := #[.slice A xs.length cap, .string ⟨t.toArray⟩, .int .i64 at_, undef, .pointer (some ⟨w.heap.size, 0, none⟩), .pointer (some ⟨w.heap.size + 1, 0, none⟩), .pointer (some ⟨w.heap.size + 1 + 1, 0, none⟩), undef, .pointer (some ⟨Bx, 0, none⟩), .slice A xs.length cap,
        .func (.func 95) #[] #[.pointer (some ⟨w.heap.size + 1 + 1 + 1, 0, none⟩)], .int .i64 (x.1 : Int), mvA x.2, undef, undef, undef, undef, undef, undef, undef, undef, undef, undef, undef, undef], defers := [] })
    (fun x a' => Own.from (fun s A B row hs hg hr => by obtain ⟨Bx, e1, e2, e3⟩ := hs; exact ⟨Bx, e1, blk_kept e2 hg hr, e3⟩) _) ?assign ?body ?done ?stop
  case assign =>
    rintro l pre x W K ⟨⟨hp, b0, b1, b2, hsz⟩, hB⟩ hK
    have hbl := b2.lt
    unfold mvA
    gi_wp2
    exact hK _ _ ((KeepsOthers.alloc _ _).from _) ((Below.refl _ W).alloc hsz _) ⟨⟨hp, b0.alloc _, b1.alloc _, b2.alloc _, Nat.le_trans hsz (by simp)⟩, hB.alloc hB.size _⟩ ⟨W.heap.size, by omega, Blk.new _ _ _, rfl⟩
  case body =>
    rintro l pre x a' W hl ⟨r, hr⟩ ⟨⟨hp, b0, b1, b2, hsz⟩, hB⟩ ⟨Bx, hBx, bX, rfl⟩ hlt
    have HP := Lib.hid hp
    have HB := Lib.hid hB
    have HB0 := Lib.hid b0
    have HB1 := Lib.hid b1
    have HB2 := Lib.hid b2
    have c0 := b0.cell 0
    have c1 := b1.cell 0
    have c2 := b2.cell 0
    have c2f := b2.frozen 0
    simp at c0 c1 c2
    have t0 := bX.cell 0; have t1 := bX.cell 1; have t2 := bX.cell 2; have t3 := bX.cell 3; have t4 := bX.cell 4; simp at t0 t1 t2 t3 t4
    clear hp hB b0 b1 b2 bX hr
    obtain ⟨xi, xm⟩ := x
    dsimp only at *
    obtain ⟨bd, hbd⟩ : ∃ bd, (xm.thing == t) = bd := ⟨_, rfl⟩
    have HBD : Hid (xm.thing = t ↔ bd = true) := Lib.hid (by rw [← hbd]; simp)
    cases bd
    · have HNO : Hid (¬ hitM t at_ xm) := Lib.hid (fun h => by have := HBD.out.1 h.2; cases this)
      gi_wp2
      exact ⟨KeepsFrom.refl _ _, Below.refl _ _, ⟨NoHit.snoc HP.out HNO.out, HB0.out, HB1.out, HB2.out, hsz⟩, HB.out⟩
    · by_cases hat : xm.tm ≤ at_
      · have HY : Hid (hitM t at_ xm) := Lib.hid ⟨by simpa [atB] using hat, HBD.out.2 rfl⟩
        gi_wp2
        exact ⟨(KeepsOthers.setCell _ _ _).from _, ⟨rfl, xm.dst, ⟨pre, (xi, xm), rfl, HP.out, HY.out, rfl⟩, by have := HB2.out.set 0 (.string ⟨xm.dst.toArray⟩); simpa using this⟩, HB.out.setCell (p := ⟨w.heap.size + 1 + 1, 0, none⟩) (by show w.heap.size ≤ w.heap.size + 1 + 1; omega) _⟩
      · have HNO : Hid (¬ hitM t at_ xm) := Lib.hid (fun h => by have := h.1; unfold atB at this; simp at this; omega)
        gi_wp2
        exact ⟨KeepsFrom.refl _ _, Below.refl _ _, ⟨NoHit.snoc HP.out HNO.out, HB0.out, HB1.out, HB2.out, hsz⟩, HB.out⟩
  case done =>
    rintro D ys W hD rfl ⟨⟨hne, b0, b1, b2, hsz⟩, hB⟩ hK
    have HR : Hid (hAt xs at_ t = []) := Lib.hid (back_none hne)
    have c2 := b2.cell 0
    have c2f := b2.frozen 0
    simp at c2
    clear hne b0 b1
    gi_wp2
    have hK' := (KeepsOthers.setCell W ⟨w.heap.size + 1 + 1, 0, none⟩ (.string ⟨#[]⟩)).same D _ hK rfl
    refine ⟨by simp, .inl ⟨_, _, rfl, run_takeDeferred hK', ?_⟩⟩
    have hb5 : Blk (W.setCell ⟨w.heap.size + 1 + 1, 0, none⟩ (.string ⟨#[]⟩)) (w.heap.size + 1 + 1) 9 #[.string ⟨#[]⟩] := by have := b2.set 0 (.string ⟨#[]⟩); simpa using this
    have hb6 := blk_kept hb5 (grownBy_putObj' _ D (.deferred none)) (fun r e => by cases e; exact ⟨_, hK', rfl⟩)
    have c5 := hb6.cell 0
    simp at c5
    refine ⟨.string ⟨#[]⟩, ?_, ⟨by rw [HR.out], (hB.setCell (p := ⟨w.heap.size + 1 + 1, 0, none⟩) (by show w.heap.size ≤ w.heap.size + 1 + 1; omega) _).trans (belowK_b (w := w) (Nat.le_refl _) _ D _ _ (by omega) hK' rfl rfl)⟩⟩
    simp [results, Tryz.f18, go_sem, c5]
  case stop =>
    rintro D c pre W hD ⟨k, hk, rfl⟩ ⟨⟨rfl, ds, ⟨ini, last, e1, e2, e3, e7⟩, b2⟩, hB⟩ hK
    obtain ⟨k', rfl⟩ : ∃ k', k = k' + 1 := by
      cases k with
      | zero => simp [uptoM] at e1
      | succ k' => exact ⟨k', rfl⟩
    rw [uptoM_succ] at e1
    obtain ⟨e4, e5⟩ := List.append_inj' e1 rfl
    subst e4
    have e6 : bwF xs k' = last := by simpa using e5
    subst e6
    have HR : Hid (hAt xs at_ t = ds) := Lib.hid (by rw [e7]; exact back_hit hk e2 e3)
    clear e1 e2 e3 e5 e7
    gi_wp2
    refine ⟨by simp, .inl ⟨_, _, rfl, run_takeDeferred hK, ?_⟩⟩
    have hb6 := blk_kept b2 (grownBy_putObj' _ D (.deferred none)) (fun r e => by cases e; exact ⟨_, hK, rfl⟩)
    have c5 := hb6.cell 0
    simp at c5
    refine ⟨.string ⟨ds.toArray⟩, ?_, ⟨by rw [HR.out], hB.trans (belowK_b (w := w) (Nat.le_refl _) W D _ _ (by omega) hK rfl rfl)⟩⟩
    simp [results, Tryz.f18, go_sem, c5]

end Go.Proofs.YtglekmflcaacjaaGreatDoor

/- HoldingOf of the reference. -/
namespace Go.Proofs.YtglekmflcaacjaaGreatDoor
set_option linter.unusedVariables false
set_option linter.unusedSimpArgs false
open Go.RowKit


set_option maxRecDepth 100000 in
set_option maxHeartbeats 1000000 in
theorem indexSm_calls (w : World) (v : Value) (xs : List Str) (y : Str) (hv : Sl w 9 1 v (strsV xs)) : Calls Tryz.prog 101 #[v, .string ⟨y.toArray⟩] w (IntPost w (idxQ (fun x => y == x) xs 0)) := by
  obtain ⟨A, n, c, rfl, hc1, hc2, hl, hr⟩ := hv
  have hln : xs.length = n := by rw [strsV_len] at hl; omega
  subst hln
  have HR := Lib.hid hr
  clear hl hr
  go_enter Tryz.func101, Tryz.ntmps101
  go_wp2_with fail
  go_loopg [8] xs.length (fun gk i wr => ∃ k : Nat, xs.length - k = gk ∧ k ≤ xs.length ∧ i = .int .i64 (k : Int) ∧ idxQ (fun x => y == x) xs 0 = idxQ (fun x => y == x) (xs.drop k) (k : Int) ∧ w = wr)
  case atStart => exact ⟨0, by omega, by omega, rfl, rfl, rfl⟩
  case round =>
    obtain ⟨k, rfl, hk, rfl, hix, rfl⟩ := hrel
    have HIX := Lib.hid hix
    clear hix
    by_cases hlt : k < xs.length
    · obtain ⟨g, off, rfl, hrow⟩ := HR.out (by omega)
      have hq := hrow.cell (strsV_get xs k hlt)
      have hd : xs.drop k = xs[k] :: xs.drop (k + 1) := List.drop_eq_getElem_cons hlt
      have hi2 : idxQ (fun x => y == x) xs 0 = if (fun x => y == x) xs[k] then (k : Int) else idxQ (fun x => y == x) (xs.drop (k + 1)) ((k : Int) + 1) := by rw [HIX.out, hd]; rfl
      have HI2 := Lib.hid hi2
      clear hd hi2 hrow HIX
      generalize xs[k] = x at *
      have heq : (y == x) = (y == x) := by first | rfl | (exact Bool.eq_iff_iff.2 (by simp; try omega))
      cases hp : (y == x)
      · have hp2 := heq.trans hp
        have HP := Lib.hid hp
        clear hp heq
        go_wp2_with fail
        go_roundg (xs.length - (k + 1))
        case measure => omega
        case rel => exact ⟨k + 1, rfl, hlt, by simp, by rw [HI2.out]; simp only [HP.out]; simp, rfl⟩
      · have hp2 := heq.trans hp
        have HP := Lib.hid hp
        clear hp heq
        go_wp2_with fail
        go_ret
        exact IntPost.of (by rw [HI2.out]; simp only [HP.out]; simp) (Mod.refl _ _)
    · have hke : k = xs.length := by omega
      subst hke
      go_wp2_with fail
      go_ret
      exact IntPost.of (by rw [HIX.out, List.drop_of_length_le (Nat.le_refl _)]; rfl) (Mod.refl _ _)


set_option maxRecDepth 100000 in
set_option maxHeartbeats 1000000 in
theorem containsSm_calls (w : World) (v : Value) (xs : List Str) (y : Str) (hv : Sl w 9 1 v (strsV xs)) : Calls Tryz.prog 60 #[v, .string ⟨y.toArray⟩] w (BoolPost w (xs.any (fun x => y == x))) := by
  have HC := Lib.hid (indexSm_calls w v xs y hv)
  have HI := Lib.hid (idxQ_any (fun x => y == x) xs 0 (by omega))
  obtain ⟨A, n, c, rfl⟩ := hv.form
  clear hv
  go_enter Tryz.func60, Tryz.ntmps60
  go_wp2_with fail
  refine HC.out.mono ?_
  rintro e w1 ⟨rfl, hm1⟩
  generalize idxQ (fun x => y == x) xs 0 = r at *
  go_wp2_with fail
  go_ret
  exact BoolPost.of HI.out.symm hm1

theorem any_eq_memM (s : Str) (ids : List Str) : (ids.any fun x => s == x) = decide (s ∈ ids) := by
  rw [Bool.eq_iff_iff, decide_eq_true_eq, List.any_eq_true]
  constructor
  · rintro ⟨x, hx, h⟩
    rw [beq_iff_eq] at h
    subst h
    exact hx
  · intro h
    exact ⟨s, h, by simp⟩
theorem grown_modF {v : Value} {w w' : World} (hg : w.grownBy w' v.ownBlock) : Mod (fun k => v.ownBlock = some k) w w' :=
  ⟨hg.os, hg.tape, hg.output, hg.size, fun k hk hs => hg.block k hk (fun x => hs x.symm)⟩
theorem info_str7F : (Tryz.prog.info? 9).map (fun i => (i.zero, i.size, i.bytes)) = some (some (.string ⟨#[]⟩), 1, 16) := by kernel_rfl
def StrM (w : World) (s : Str) (e : Ending) (w' : World) : Prop := e = .returned (.string ⟨s.toArray⟩) ∧ Pure w w'
theorem holderOf_calls (w : World) (v : Value) (l : List Mv) (t : Str) (at_ : Int) (hv : Mvs w v l) (hl : l.length ≤ 3000) : Calls Tryz.prog 18 #[v, .string ⟨t.toArray⟩, .int .i64 at_] w (StrM w (hAt l at_ t)) := by
  obtain ⟨A, n, c, rfl, hc1, hc2, hl2, hr⟩ := hv
  have hln : l.length = n := by rw [mvV_len] at hl2; omega
  subst hln
  refine (Go.callsIn_wide.1 (holderOf_in Fence.wide 3 trivial trivial trivial rfl (by omega) A c l t at_ (by omega) w (fun h => ?_))).mono ?_
  · obtain ⟨g, off, h1, h2⟩ := hr h
    exact ⟨g, off, h1, h2.lt, h2⟩
  · rintro e w' ⟨rfl, hb⟩
    exact ⟨rfl, Mod.of_below hb⟩

def SlM (w : World) (ys : List Str) (e : Ending) (w' : World) : Prop := ∃ (A : Option Addr) (n c : Nat), e = .returned (.slice A n c) ∧ Sl w' 9 1 (.slice A n c) (strsV ys) ∧ Pure w w'
def HoRel2 (w : World) (base : Nat) (l : List Mv) (at_ : Int) (who : Str) (gk : Nat) (x i : Value) (wr : World) : Prop :=
  ∃ (k : Nat) (out : List Str) (Ao : Option Addr) (cap : Nat), l.length - k = gk ∧ k ≤ l.length ∧ x = .slice Ao out.length cap ∧ i = .int .i64 (k : Int) ∧ hasL l at_ who (l.drop k) out = hasL l at_ who l [] ∧ out.length ≤ k ∧
    wr.ownsRow base 9 1 (.slice Ao out.length cap) out.length (strsV out) ∧ Pure w wr ∧ base ≤ wr.heap.size

set_option maxRecDepth 100000 in
set_option maxHeartbeats 8000000 in
theorem holdingOf_calls (w : World) (v : Value) (l : List Mv) (who : Str) (at_ : Int) (hv : Mvs w v l) (hl : l.length ≤ 3000) : Calls Tryz.prog 21 #[v, .string ⟨who.toArray⟩, .int .i64 at_] w (SlM w ((hasL l at_ who l []).mergeSort fun x y => decide (x ≤ y))) := by
  obtain ⟨i0, hi0, hz0, hz1, hz2⟩ := info_parts info_str7F
  have HHO : Hid (∀ W, Pure w W → ∀ t : Str, Calls Tryz.prog 18 #[v, .string ⟨t.toArray⟩, .int .i64 at_] W (StrM W (hAt l at_ t))) := Lib.hid (fun W h t => holderOf_calls W v l t at_ (hv.pure h) hl)
  obtain ⟨A, n, c, rfl, hc1, hc2, hl2, hr⟩ := hv
  have hln : l.length = n := by rw [mvV_len] at hl2; omega
  subst hln
  have HR := Lib.hid hr
  obtain ⟨base, hba⟩ : ∃ base, base = w.heap.size := ⟨_, rfl⟩
  have hb1 := Nat.le_of_eq hba
  have hb2 := Nat.le_of_eq hba.symm
  clear hl2 hr hba
  go_enter Tryz.func21, Tryz.ntmps21
  go_wp2_with fail
  go_loopg [7, 12] l.length (fun gk x i wr => HoRel2 w base l at_ who gk x i wr)
  case atStart => exact ⟨0, [], none, 0, by omega, by omega, rfl, rfl, rfl, by simp, ⟨rfl, .inl ⟨rfl, rfl⟩⟩, Mod.refl _ _, hb1⟩
  case round =>
    obtain ⟨k, out, Ao, cap, rfl, hk, rfl, rfl, hhas, hol, hown, hm, hsz⟩ := hrel
    by_cases hlt : k < l.length
    · obtain ⟨g, off, rfl, hrow⟩ := HR.out (by omega)
      obtain ⟨q0, q1, q2, q3, q4⟩ := move_cells (hrow.mod hm id) hlt
      have HST : Hid (hasL l at_ who l [] = hasL l at_ who (l.drop (k + 1)) (if hAt l at_ l[k].thing = who ∧ l[k].thing ∉ out then out ++ [l[k].thing] else out)) := Lib.hid (by rw [← hhas, List.drop_eq_getElem_cons hlt]; rfl)
      clear hrow hhas
      generalize l[k] = x at *
      have hB2 := Blk.new wr 75 (mvQ x)
      have hm2 := hm.alloc (.cells (mvQ x) 75)
      have hown2 := hown.alloc (.cells (mvQ x) 75)
      have hsz2 : base ≤ (wr.alloc (.cells (mvQ x) 75)).heap.size := by simp; omega
      unfold mvQ at hB2 hm2 hown2 hsz2
      clear hm hown
      go_upto_region 5 with (fail)
      generalize (wr.alloc (.cells #[.int .i64 x.no, .int .i64 x.tm, .string ⟨x.thing.toArray⟩, .string ⟨x.src.toArray⟩, .string ⟨x.dst.toArray⟩] 75)) = WS at *
      generalize wr.heap.size = gs at *
      clear q0 q1 q2 q3 q4
      have HC := Lib.hid (HHO.out WS hm2 x.thing)
      have HB2 := Lib.hid hB2
      have HM2 := Lib.hid hm2
      have HO2 := Lib.hid hown2
      have t0 := hB2.cell 0; have t1 := hB2.cell 1; have t2 := hB2.cell 2; have t3 := hB2.cell 3; have t4 := hB2.cell 4; simp at t0 t1 t2 t3 t4
      clear hB2 hm2 hown2
      generalize hAt l at_ x.thing = hv at *
      go_wp2_with fail
      refine HC.out.mono ?_
      rintro e w3 ⟨rfl, m3⟩
      have hB3 := HB2.out.mod m3 id
      have HB3 := Lib.hid hB3
      have HM3 := Lib.hid (HM2.out.trans m3)
      have hown3 := own_pure HO2.out m3
      have HO3 := Lib.hid hown3
      have hsz3 : base ≤ w3.heap.size := Nat.le_trans hsz2 m3.size
      clear HC HB2 HM2 HO2 m3 t0 t1 t2 t3 t4
      have t0 := hB3.cell 0; have t1 := hB3.cell 1; have t2 := hB3.cell 2; have t3 := hB3.cell 3; have t4 := hB3.cell 4; simp at t0 t1 t2 t3 t4
      obtain ⟨bd, hbd⟩ : ∃ bd, (hv == who) = bd := ⟨_, rfl⟩
      have HBD : Hid (hv = who ↔ bd = true) := Lib.hid (by rw [← hbd]; simp)
      cases bd
      · have HN : Hid (hasL l at_ who (l.drop (k + 1)) out = hasL l at_ who l []) := Lib.hid (by rw [HST.out, if_neg (fun h => by have := HBD.out.1 h.1; cases this)])
        clear HST HBD hB3 hown3
        go_wp2_with fail
        go_roundg (l.length - (k + 1))
        case measure => omega
        case rel => exact ⟨k + 1, out, Ao, cap, rfl, by omega, rfl, by simp, HN.out, by omega, HO3.out, HM3.out, hsz3⟩
      · have HCC := Lib.hid (containsSm_calls w3 (.slice Ao out.length cap) out x.thing (Sl.of_own hown3))
        rw [any_eq_memM] at HCC
        obtain ⟨bc, hbc⟩ : ∃ bc, decide (x.thing ∈ out) = bc := ⟨_, rfl⟩
        rw [hbc] at HCC
        have HBC := Lib.hid hbc
        clear hbc hown3 hB3
        go_wp2_with fail
        refine HCC.out.mono ?_
        rintro e w4 ⟨rfl, m4⟩
        have hB4 := HB3.out.mod m4 id
        have hown4 := own_pure HO3.out m4
        have hm4 := HM3.out.trans m4
        have HM4 := Lib.hid hm4
        have HO4 := Lib.hid hown4
        have hob := own_block hown4
        have HOB := Lib.hid hob
        have hsz4 : base ≤ w4.heap.size := Nat.le_trans hsz3 m4.size
        clear HCC HB3 HM3 HO3 m4 t0 t1 t2 t3 t4 hob
        have t0 := hB4.cell 0; have t1 := hB4.cell 1; have t2 := hB4.cell 2; have t3 := hB4.cell 3; have t4 := hB4.cell 4; simp at t0 t1 t2 t3 t4
        clear hB4
        cases bc
        · have HN : Hid (hasL l at_ who (l.drop (k + 1)) (out ++ [x.thing]) = hasL l at_ who l []) := Lib.hid (by rw [HST.out, if_pos ⟨HBD.out.2 (by simp), of_decide_eq_false HBC.out⟩])
          clear HST HBD HBC
          go_wp2_with (at_builtin; refine wpList_append_lies _ rfl _ _ _ rfl base 9 i0 _ 1 16 Tryz.underlying29 hi0 hz0 hz1 hz2 rfl (by omega) (.slice Ao out.length cap) out.length (strsV out) rfl (hown4.alloc _) ⟨w4.heap.size, 0, none⟩ 1 1 [.string ⟨x.thing.toArray⟩] rfl rfl (World.news_of_block (cs := #[.string ⟨x.thing.toArray⟩]) (t := 9) (fr := (0, 0)) (heap_alloc_new w4 _)) (by simp [Value.oneCell']) (by omega) (by simp [maxLen]; omega) (by omega) (by have := hm4.size; simp; omega) (w4.heap.size + 1) (by simp) ?_; intro g5 cap5 w5 hown5 hgrow hat hlt5)
          have hz5 := hgrow.size
          simp at hz5
          have hmg := grown_modF (v := .slice Ao out.length cap) hgrow
          go_roundg (l.length - (k + 1))
          case measure => omega
          case rel => exact ⟨k + 1, out ++ [x.thing], some ⟨g5, 0, none⟩, cap5, rfl, by omega, by simp, by simp, HN.out, by simp; omega, by have := hown5; simpa [strsV] using this, (HM4.out.alloc _).trans' hmg (fun i h hl => by have := HOB.out _ h; omega), by omega⟩
        · have HN : Hid (hasL l at_ who (l.drop (k + 1)) out = hasL l at_ who l []) := Lib.hid (by rw [HST.out, if_neg (fun h => h.2 (of_decide_eq_true HBC.out))])
          clear HST HBD HBC hown4 hm4
          go_wp2_with fail
          go_roundg (l.length - (k + 1))
          case measure => omega
          case rel => exact ⟨k + 1, out, Ao, cap, rfl, by omega, rfl, by simp, HN.out, by omega, HO4.out, HM4.out, hsz4⟩
    · obtain rfl : k = l.length := by omega
      rw [List.drop_of_length_le (Nat.le_refl _)] at hhas
      have HH : Hid (out = hasL l at_ who l []) := Lib.hid hhas
      have HSO := Lib.hid (sortS_calls2 wr _ out.length base out hown (by omega))
      have hob := own_block hown
      have HOB := Lib.hid hob
      have HM2 := Lib.hid hm
      clear hown hhas hm hob
      go_wp2_with fail
      refine HSO.out.mono ?_
      rintro e w3 ⟨rfl, own3, m3⟩
      have S3 := Sl.of_own own3
      have HS3 := Lib.hid S3
      have HM3 : Hid (Pure w w3) := Lib.hid (HM2.out.trans' m3 (fun i h hl => by have := HOB.out _ h; omega))
      clear HSO own3 m3 S3
      go_wp2_with fail
      go_ret
      exact ⟨_, _, _, rfl, by rw [← HH.out]; exact HS3.out, HM3.out⟩

end Go.Proofs.YtglekmflcaacjaaGreatDoor

/- The generator of moves. -/
namespace Go.Proofs.YtglekmflcaacjaaGreatDoor
set_option linter.unusedVariables false
set_option linter.unusedSimpArgs false
open Go.RowKit

def WhoM (w : World) (bm n : Nat) : Prop := ∃ f, MapS w bm n f ∧ ∀ t u, f t = some u → ∃ s : Str, s.length ≤ 100 ∧ u = .string ⟨s.toArray⟩
/-- What the generator of moves has. -/
def MgEnv (w : World) (b N base bm k : Nat) (Ao : Option Addr) (cap : Nat) (xs : List Mv) (W : World) : Prop :=
  WhoM W bm k ∧ W.ownsRow base 75 5 (.slice Ao k cap) k (mvV xs) ∧ Strm W b N ∧ Mod (· = b) w W ∧ base ≤ W.heap.size
section
variable {w W W' : World} {b N M base bm k cap : Nat} {Ao : Option Addr} {xs : List Mv}
theorem MgEnv.alloc (h : MgEnv w b N base bm k Ao cap xs W) (o : Obj) : MgEnv w b N base bm k Ao cap xs (W.alloc o) := by
  obtain ⟨⟨f, h1, h2⟩, h3, h4, h5, h6⟩ := h
  exact ⟨⟨f, MapS.pure h1 (pure_alloc _ _), h2⟩, h3.alloc _, h4.alloc _, h5.alloc _, by simp; omega⟩
theorem MgEnv.asks (h : MgEnv w b N base bm k Ao cap xs W) (hS : Strm W' b M) (hm : Mod (· = b) W W') (hb : b < base) (hbm : bm ≠ b) : MgEnv w b M base bm k Ao cap xs W' := by
  obtain ⟨⟨f, h1, h2⟩, h3, h4, h5, h6⟩ := h
  exact ⟨⟨f, MapS.mod h1 hm hbm, h2⟩, own_mod h3 hm (fun g hg => by have := own_block h3 g hg; omega), hS, h5.trans hm, Nat.le_trans h6 hm.size⟩
theorem MgEnv.store (h : MgEnv w b N base bm k Ao cap xs W) {gm : Nat} (hb : b < gm) (hw : w.heap.size ≤ gm) (hbm : bm ≠ gm) (hob : ∀ g, (Value.slice Ao k cap).ownBlock = some g → g ≠ gm) (j : Nat) (u : Value) : MgEnv w b N base bm k Ao cap xs (W.setCell ⟨gm, j, none⟩ u) := by
  obtain ⟨⟨f, h1, h2⟩, h3, h4, h5, h6⟩ := h
  have hm : Mod (fun i => i = gm) W (W.setCell ⟨gm, j, none⟩ u) := Mod.setCell (S := fun i => i = gm) (p := ⟨gm, j, none⟩) (Mod.refl _ _) (.inl rfl) u
  exact ⟨⟨f, MapS.mod h1 hm hbm, h2⟩, own_mod h3 hm (fun g hg => hob g hg), h4.setCell hb u, h5.setCell (p := ⟨gm, j, none⟩) (.inr hw) u, by simpa using h6⟩
theorem MgEnv.more (h : MgEnv w b N base bm k Ao cap xs W) (hM : N ≤ M) : MgEnv w b M base bm k Ao cap xs W := ⟨h.1, h.2.1, h.2.2.1.more hM, h.2.2.2.1, h.2.2.2.2⟩
theorem MgEnv.strm (h : MgEnv w b N base bm k Ao cap xs W) : Strm W b N := h.2.2.1
end
def MgRel (w : World) (b N base bm m gk : Nat) (o a i : Value) (wr : World) : Prop :=
  ∃ (k : Nat) (xs : List Mv) (Ao : Option Addr) (cap : Nat) (av : Int), m - k = gk ∧ k ≤ m ∧ o = .slice Ao k cap ∧ a = .int .i64 av ∧ 0 ≤ av ∧ av ≤ 30 * (k : Int) ∧ i = .int .i64 (k : Int) ∧ xs.length = k ∧ (∀ x ∈ xs, MvB x) ∧ MgEnv w b (N + 12 * k) base bm k Ao cap xs wr
def MgCut (w : World) (b N base bm k gm : Nat) (Ao : Option Addr) (cap : Nat) (xs : List Mv) (wx : World) : Prop :=
  ∃ x : Mv, MvB x ∧ Blk wx gm 75 (mvQ x) ∧ MgEnv w b N base bm k Ao cap xs wx
theorem MgCut.mk {w : World} {b N base bm k gm : Nat} {Ao : Option Addr} {cap : Nat} {xs : List Mv} {wx : World} (x : Mv) (h1 : MvB x) (h2 : Blk wx gm 75 (mvQ x)) (h3 : MgEnv w b N base bm k Ao cap xs wx) : MgCut w b N base bm k gm Ao cap xs wx := ⟨x, h1, h2, h3⟩
def MovesPost (w : World) (b N m : Nat) (e : Ending) (w' : World) : Prop :=
  ∃ v xs, e = .returned v ∧ xs.length ≤ m ∧ (∀ x ∈ xs, MvB x) ∧ Mvs w' v xs ∧ Strm w' b N ∧ Mod (· = b) w w'
theorem info_move : (Tryz.prog.info? 75).map (fun i => (i.zero, i.size, i.bytes)) = some (some (.agg #[.int .i64 0, .int .i64 0, .string ⟨#[]⟩, .string ⟨#[]⟩, .string ⟨#[]⟩]), 5, 64) := by kernel_rfl
theorem grown_modG {v : Value} {w w' : World} (hg : w.grownBy w' v.ownBlock) : Mod (fun k => v.ownBlock = some k) w w' :=
  ⟨hg.os, hg.tape, hg.output, hg.size, fun k hk hs => hg.block k hk (fun x => hs x.symm)⟩

theorem MgEnv.grows {w wb w5 : World} {b N base bm k cap cap5 g5 : Nat} {Ao : Option Addr} {xs : List Mv} {x : Mv} {o : Obj} (h1 : WhoM wb bm (k + 1)) (h3 : wb.ownsRow base 75 5 (.slice Ao k cap) k (mvV xs)) (h4 : Strm wb b N) (h5 : Mod (· = b) w wb) (h6 : base ≤ wb.heap.size) (hb : b < base) (hbm : bm < base) (hw : w.heap.size ≤ base)
    (hg : (wb.alloc o).grownBy w5 (Value.slice Ao k cap).ownBlock) (h7 : w5.ownsRow base 75 5 (.slice (some ⟨g5, 0, none⟩) (k + 1) cap5) (k + 1) (mvV xs ++ mvC x)) : MgEnv w b N base bm (k + 1) (some ⟨g5, 0, none⟩) cap5 (xs ++ [x]) w5 := by
  obtain ⟨f, h1, h2⟩ := h1
  have hO : ∀ g, (Value.slice Ao k cap).ownBlock = some g → base ≤ g := fun g hg => by have := own_block h3 g hg; omega
  have hz := hg.size
  simp only [World.size_alloc] at hz
  refine ⟨⟨f, (MapS.pure h1 (pure_alloc _ _)).mod (grown_modG hg) (fun h => by have := hO _ h; omega), h2⟩, by rw [mvV_snoc]; exact h7, (h4.alloc _).mod (grown_modG hg) (fun i hi h => by have := hO _ h; omega), (h5.alloc _).grown hg (fun i hi => .inr (by have := hO _ hi; omega)), by omega⟩

set_option maxRecDepth 100000 in
set_option maxHeartbeats 16000000 in
theorem moves_calls (w : World) (b N m : Nat) (mI : Int) (hmI : mI = (m : Int)) (hS : Strm w b N) (hN : N ≤ 600000000) (hm : m ≤ 20) : Calls Tryz.prog 8 #[.pointer (some ⟨b, 0, none⟩), .int .i64 mI] w (MovesPost w b (N + 12 * m) m) := by
  obtain ⟨i0, hi0, hz0, hz1, hz2⟩ := info_parts info_move
  subst hmI
  have hbl := hS.lt
  have hmm := @run_makeMap Tryz.prog
  have HW : Hid (MgEnv w b (N + 12 * 0) (w.heap.size + 1) w.heap.size 0 none 0 [] (w.alloc (.map #[] 0))) := Lib.hid ⟨⟨_, MapS.made w, fun t u h => by cases h⟩, ⟨rfl, .inl ⟨rfl, rfl⟩⟩, (hS.alloc _).more (by omega), (Mod.refl _ _).alloc _, by simp⟩
  clear hS
  go_enter Tryz.func8, Tryz.ntmps8
  go_wp2_with fail
  clear hmm
  obtain ⟨bm, hbm⟩ : ∃ bm, bm = w.heap.size := ⟨_, rfl⟩
  obtain ⟨base, hba⟩ : ∃ base, base = w.heap.size + 1 := ⟨_, rfl⟩
  rw [← hba] at HW
  rw [← hbm] at HW ⊢
  have hbm1 := Nat.le_of_eq hbm
  have hbm2 := Nat.le_of_eq hbm.symm
  have hba1 := Nat.le_of_eq hba
  have hba2 := Nat.le_of_eq hba.symm
  clear hbm hba
  generalize w.alloc (.map #[] 0) = W at *
  have hbb : b < base := by omega
  have hbmb : bm ≠ b := by omega
  go_loopg [5, 7, 12] m (fun gk o a i wr => MgRel w b N base bm m gk o a i wr)
  case atStart => exact ⟨0, [], none, 0, 0, by omega, by omega, rfl, rfl, by omega, by omega, rfl, rfl, fun x h => absurd h (by simp), HW.out⟩
  case round =>
    clear HW W
    obtain ⟨k, xs, Ao, cap, av, rfl, hk, rfl, rfl, ha0, ha1, rfl, hxl, hxz, hE⟩ := hrel
    have HXL := Lib.hid hxl
    have HXZ := Lib.hid hxz
    clear hxl hxz
    by_cases hlt : k < m
    · have HOB := Lib.hid (fun g hg => (hE.2.1.lt g hg).2)
      have hbl1 := hE.strm.lt
      have hbmw : bm < wr.heap.size := by obtain ⟨⟨f, h1, _⟩, _⟩ := hE; exact h1.lt
      have HE := Lib.hid hE
      clear hE
      go_wp2_with fail
      refine (pickv_calls _ b _ wr.heap.size _ _ #[.int .i64 0, .int .i64 1, .int .i64 5, .int .i64 30] (HE.out.strm.alloc _) (Blk.new _ _ _) (by omega) (by omega) rfl (by decide) (by decide) rfl).mono ?_
      rintro e w1 ⟨p, hp, rfl, hS1, hM1⟩
      have hp2 : 0 ≤ p ∧ p ≤ 30 := by
        have : p = 0 ∨ p = 1 ∨ p = 5 ∨ p = 30 := by
          simp [intsOf, Go.RowKit.intOf] at hp
          exact hp
        omega
      obtain ⟨hp0, hp1⟩ := hp2
      have HE1 := Lib.hid ((HE.out.alloc _).asks hS1 hM1 hbb hbmb)
      have hz1' := hM1.size
      simp only [World.size_alloc] at hz1'
      clear HE hp hS1 hM1
      have hbl2 := HE1.out.strm.lt
      go_wp2_with fail
      refine (someb_calls _ b _ _ _ _ [[100, 105, 115, 107], [98, 111, 120], [112, 104, 111, 110, 101]] 5 rfl (by decide) (HE1.out.strm.alloc _) (by omega) (Blk.new _ _ _) (by omega) (by decide) (by decide)).mono ?_
      rintro e w2 ⟨st, hst, rfl, hS2, hM2⟩
      have HE2 := Lib.hid ((HE1.out.alloc _).asks hS2 hM2 hbb hbmb)
      have hz2' := hM2.size
      simp only [World.size_alloc] at hz2'
      clear HE1 hS2 hM2
      have hbl3 := HE2.out.strm.lt
      go_wp2_with fail
      refine (someb_calls _ b _ _ _ _ [[97, 110, 110], [98, 111, 98], [99, 105, 100]] 3 rfl (by decide) (HE2.out.strm.alloc _) (by omega) (Blk.new _ _ _) (by omega) (by decide) (by decide)).mono ?_
      rintro e w3 ⟨sd, hsd, rfl, hS3, hM3⟩
      have HE3 := Lib.hid ((HE2.out.alloc _).asks hS3 hM3 hbb hbmb)
      have hz3' := hM3.size
      simp only [World.size_alloc] at hz3'
      clear HE2 hS3 hM3
      have HE4 := Lib.hid (HE3.out.alloc (.cells #[.int .i64 ((k : Int) + 1), .int .i64 (av + p), .string ⟨st.toArray⟩, .string ⟨#[]⟩, .string ⟨sd.toArray⟩] 75))
      have HB4 := Lib.hid (Blk.new w3 75 #[.int .i64 ((k : Int) + 1), .int .i64 (av + p), .string ⟨st.toArray⟩, .string ⟨#[]⟩, .string ⟨sd.toArray⟩])
      have hbl4 := HE3.out.strm.lt
      go_upto_region 9 with (fail)
      generalize (w3.alloc (.cells #[.int .i64 ((k : Int) + 1), .int .i64 (av + p), .string ⟨st.toArray⟩, .string ⟨#[]⟩, .string ⟨sd.toArray⟩] 75)) = W4 at *
      generalize hgm : w3.heap.size = gm at *
      have hgm1 := Nat.le_of_eq hgm
      clear hgm
      have hbg : b < gm := by omega
      have hwg : w.heap.size ≤ gm := by omega
      have hbmg : bm ≠ gm := by omega
      have HOG : Hid (∀ g, (Value.slice Ao k cap).ownBlock = some g → g ≠ gm) := Lib.hid (fun g hg h => by have := HOB.out g hg; omega)
      obtain ⟨sf, hsf, hlook⟩ : ∃ sf : Str, sf.length ≤ 100 ∧ (Instr.lookup 72 (.map (some bm)) (.string ⟨st.toArray⟩) false).run Tryz.prog W4 = .ok (.string ⟨sf.toArray⟩) W4 := by
        obtain ⟨⟨f, h1, h2⟩, _⟩ := HE4.out
        have h3 := h1.lookup (e := 9) Tryz.underlying72 zero_strV st (by omega)
        cases hf : f st with
        | none =>
          rw [hf] at h3
          exact ⟨[], by simp, h3⟩
        | some u =>
          obtain ⟨s, hs, rfl⟩ := h2 st u hf
          rw [hf] at h3
          exact ⟨s, hs, h3⟩
      have hB4 := HB4.out
      have c0 := hB4.cell 0; have cf0 := hB4.frozen 0; have c1 := hB4.cell 1; have cf1 := hB4.frozen 1; have c2 := hB4.cell 2; have cf2 := hB4.frozen 2; have c3 := hB4.cell 3; have cf3 := hB4.frozen 3; have c4 := hB4.cell 4; have cf4 := hB4.frozen 4; simp at c0 c1 c2 c3 c4
      clear hB4
      go_upto_if 39 with (fail)
      have HB5 : Hid (Blk (W4.setCell ⟨gm, 3, none⟩ (.string ⟨sf.toArray⟩)) gm 75 #[.int .i64 ((k : Int) + 1), .int .i64 (av + p), .string ⟨st.toArray⟩, .string ⟨sf.toArray⟩, .string ⟨sd.toArray⟩]) := Lib.hid (by have := HB4.out.set 3 (.string ⟨sf.toArray⟩); simpa using this)
      have HE5 := Lib.hid (HE4.out.store hbg hwg hbmg HOG.out 3 (.string ⟨sf.toArray⟩))
      have hgl5 : gm < (W4.setCell ⟨gm, 3, none⟩ (.string ⟨sf.toArray⟩)).heap.size := HB5.out.lt
      generalize (W4.setCell ⟨gm, 3, none⟩ (.string ⟨sf.toArray⟩)) = W5 at *
      clear HE4 HB4 HE3 hlook c0 c1 c2 c3 c4 cf0 cf1 cf2 cf3 cf4
      go_cut [] (fun wx => MgCut w b (N + 12 * k + 3) base bm k gm Ao cap xs wx)
      case first =>
        have hB5 := HB5.out
        have c0 := hB5.cell 0; have cf0 := hB5.frozen 0; have c1 := hB5.cell 1; have cf1 := hB5.frozen 1; have c2 := hB5.cell 2; have cf2 := hB5.frozen 2; have c3 := hB5.cell 3; have cf3 := hB5.frozen 3; have c4 := hB5.cell 4; have cf4 := hB5.frozen 4; simp at c0 c1 c2 c3 c4
        clear hB5
        generalize (sf == sd) = bd at *
        cases bd
        · go_wp2_with fail
          go_meet
          exact MgCut.mk ⟨(k : Int) + 1, av + p, st, sf, sd⟩ ⟨by show st.length ≤ 100; omega, hsf, by show sd.length ≤ 100; omega⟩ HB5.out (HE5.out.more (by omega))
        · go_wp2_with fail
          go_meet
          exact MgCut.mk ⟨(k : Int) + 1, av + p, st, sf, [100, 101, 101]⟩ ⟨by show st.length ≤ 100; omega, hsf, by simp⟩ (by have := HB5.out.set 4 (.string ⟨[100, 101, 101].toArray⟩); simpa [mvQ] using this) ((HE5.out.store hbg hwg hbmg HOG.out _ _).more (by omega))
      case rest =>
        obtain ⟨x, hx, hB, hE⟩ := hcut
        have HBa := Lib.hid hB
        have HEa := Lib.hid hE
        clear hB hE HB5 HE5 hsf
        go_wp2_with fail
        refine (flip_calls _ b _ _ HEa.out.strm (by omega) (by omega) (by omega)).mono ?_
        rintro e w9 ⟨fl, rfl, hS9, hM9⟩
        have HE9 := Lib.hid (HEa.out.asks hS9 hM9 hbb hbmb)
        have HB9 := Lib.hid (HBa.out.mod hM9 (by omega))
        have hgl9 : gm < w9.heap.size := HB9.out.lt
        clear HEa HBa hM9
        go_upto_if 42 with (fail)
        go_cut [] (fun wx => MgCut w b (N + 12 * k + 12) base bm k gm Ao cap xs wx)
        case first =>
          cases fl
          · go_wp2_with fail
            go_meet
            exact MgCut.mk x hx HB9.out (HE9.out.more (by omega))
          go_wp2_with fail
          refine (next_calls _ b _ _ hS9 (by omega) (by omega) (by omega)).mono ?_
          rintro e w10 ⟨z0, hz0, hz1, rfl, hS10, hM10⟩
          have HE10 := Lib.hid (HE9.out.asks hS10 hM10 hbb hbmb)
          have HB10 := Lib.hid (HB9.out.mod hM10 (by omega))
          have hgl10 : gm < w10.heap.size := HB10.out.lt
          have hbl10 := hS10.lt
          clear HE9 HB9 hS9 hM10
          by_cases k0 : z0 = 0
          · subst k0
            go_wp2_with fail
            refine (odd_calls _ b _ _ _ hS10 (by omega) (by omega) (by omega) (by omega)).mono ?_
            rintro e w11 ⟨z, _, _, rfl, hS11, hM11⟩
            have HE11 := Lib.hid (HE10.out.asks hS11 hM11 hbb hbmb)
            have hB11 := HB10.out.mod hM11 (by omega)
            have HB11 := Lib.hid hB11
            unfold mvQ at hB11
            have c0 := hB11.cell 0; have cf0 := hB11.frozen 0; have c1 := hB11.cell 1; have cf1 := hB11.frozen 1; have c2 := hB11.cell 2; have cf2 := hB11.frozen 2; have c3 := hB11.cell 3; have cf3 := hB11.frozen 3; have c4 := hB11.cell 4; have cf4 := hB11.frozen 4; simp at c0 c1 c2 c3 c4
            clear hB11 hS10 hS11 hM11
            go_wp2_with fail
            go_meet
            exact MgCut.mk ⟨z, x.tm, x.thing, x.src, x.dst⟩ ⟨hx.1, hx.2.1, hx.2.2⟩ (by have := HB11.out.set 0 (.int .i64 z); simpa [mvQ] using this) ((HE11.out.store hbg hwg hbmg HOG.out _ _).more (by omega))
          have k0' : (z0 == 0) = false := by simpa using k0
          by_cases k1 : z0 = 1
          · subst k1
            go_wp2_with fail
            refine (odd_calls _ b _ _ _ hS10 (by omega) (by omega) (by omega) (by omega)).mono ?_
            rintro e w11 ⟨z, _, _, rfl, hS11, hM11⟩
            have HE11 := Lib.hid (HE10.out.asks hS11 hM11 hbb hbmb)
            have hB11 := HB10.out.mod hM11 (by omega)
            have HB11 := Lib.hid hB11
            unfold mvQ at hB11
            have c0 := hB11.cell 0; have cf0 := hB11.frozen 0; have c1 := hB11.cell 1; have cf1 := hB11.frozen 1; have c2 := hB11.cell 2; have cf2 := hB11.frozen 2; have c3 := hB11.cell 3; have cf3 := hB11.frozen 3; have c4 := hB11.cell 4; have cf4 := hB11.frozen 4; simp at c0 c1 c2 c3 c4
            clear hB11 hS10 hS11 hM11
            go_wp2_with fail
            go_meet
            exact MgCut.mk ⟨x.no, z, x.thing, x.src, x.dst⟩ ⟨hx.1, hx.2.1, hx.2.2⟩ (by have := HB11.out.set 1 (.int .i64 z); simpa [mvQ] using this) ((HE11.out.store hbg hwg hbmg HOG.out _ _).more (by omega))
          have k1' : (z0 == 1) = false := by simpa using k1
          by_cases k2 : z0 = 2
          · subst k2
            go_wp2_with fail
            refine (someb_calls _ b _ _ _ _ [[], [68]] 100 rfl (by decide) (hS10.alloc _) (by omega) (Blk.new _ _ _) (by omega) (by simp) (by simp)).mono ?_
            rintro e w11 ⟨z, hz, rfl, hS11, hM11⟩
            have HE11 := Lib.hid ((HE10.out.alloc _).asks hS11 hM11 hbb hbmb)
            have hB11 := (HB10.out.alloc _).mod hM11 (by omega)
            have HB11 := Lib.hid hB11
            unfold mvQ at hB11
            have c0 := hB11.cell 0; have cf0 := hB11.frozen 0; have c1 := hB11.cell 1; have cf1 := hB11.frozen 1; have c2 := hB11.cell 2; have cf2 := hB11.frozen 2; have c3 := hB11.cell 3; have cf3 := hB11.frozen 3; have c4 := hB11.cell 4; have cf4 := hB11.frozen 4; simp at c0 c1 c2 c3 c4
            clear hB11 hS10 hS11 hM11
            go_wp2_with fail
            go_meet
            exact MgCut.mk ⟨x.no, x.tm, z, x.src, x.dst⟩ ⟨hz, hx.2.1, hx.2.2⟩ (by have := HB11.out.set 2 (.string ⟨z.toArray⟩); simpa [mvQ] using this) ((HE11.out.store hbg hwg hbmg HOG.out _ _).more (by omega))
          have k2' : (z0 == 2) = false := by simpa using k2
          by_cases k3 : z0 = 3
          · subst k3
            go_wp2_with fail
            refine (someb_calls _ b _ _ _ _ [[], [97, 110, 110], [65]] 100 rfl (by decide) (hS10.alloc _) (by omega) (Blk.new _ _ _) (by omega) (by simp) (by simp)).mono ?_
            rintro e w11 ⟨z, hz, rfl, hS11, hM11⟩
            have HE11 := Lib.hid ((HE10.out.alloc _).asks hS11 hM11 hbb hbmb)
            have hB11 := (HB10.out.alloc _).mod hM11 (by omega)
            have HB11 := Lib.hid hB11
            unfold mvQ at hB11
            have c0 := hB11.cell 0; have cf0 := hB11.frozen 0; have c1 := hB11.cell 1; have cf1 := hB11.frozen 1; have c2 := hB11.cell 2; have cf2 := hB11.frozen 2; have c3 := hB11.cell 3; have cf3 := hB11.frozen 3; have c4 := hB11.cell 4; have cf4 := hB11.frozen 4; simp at c0 c1 c2 c3 c4
            clear hB11 hS10 hS11 hM11
            go_wp2_with fail
            go_meet
            exact MgCut.mk ⟨x.no, x.tm, x.thing, z, x.dst⟩ ⟨hx.1, hz, hx.2.2⟩ (by have := HB11.out.set 3 (.string ⟨z.toArray⟩); simpa [mvQ] using this) ((HE11.out.store hbg hwg hbmg HOG.out _ _).more (by omega))
          have k3' : (z0 == 3) = false := by simpa using k3
          by_cases k4 : z0 = 4
          · subst k4
            have hB10 := HB10.out
            unfold mvQ at hB10
            have d0 := hB10.cell 0; have d1 := hB10.cell 1; have d2 := hB10.cell 2; have d3 := hB10.cell 3; have d4 := hB10.cell 4; simp at d0 d1 d2 d3 d4
            clear hB10
            go_wp2_with fail
            refine (someb_calls _ b _ _ _ _ [[], x.src] 100 rfl (le_cons (by decide) (le_cons hx.2.1 le_nil)) (hS10.alloc _) (by omega) (Blk.new _ _ _) (by omega) (by simp) (by simp)).mono ?_
            rintro e w11 ⟨z, hz, rfl, hS11, hM11⟩
            have HE11 := Lib.hid ((HE10.out.alloc _).asks hS11 hM11 hbb hbmb)
            have hB11 := (HB10.out.alloc _).mod hM11 (by omega)
            have HB11 := Lib.hid hB11
            unfold mvQ at hB11
            have c0 := hB11.cell 0; have cf0 := hB11.frozen 0; have c1 := hB11.cell 1; have cf1 := hB11.frozen 1; have c2 := hB11.cell 2; have cf2 := hB11.frozen 2; have c3 := hB11.cell 3; have cf3 := hB11.frozen 3; have c4 := hB11.cell 4; have cf4 := hB11.frozen 4; simp at c0 c1 c2 c3 c4
            clear d0 d1 d2 d3 d4 hB11 hS10 hS11 hM11
            go_wp2_with fail
            go_meet
            exact MgCut.mk ⟨x.no, x.tm, x.thing, x.src, z⟩ ⟨hx.1, hx.2.1, hz⟩ (by have := HB11.out.set 4 (.string ⟨z.toArray⟩); simpa [mvQ] using this) ((HE11.out.store hbg hwg hbmg HOG.out _ _).more (by omega))
          have k4' : (z0 == 4) = false := by simpa using k4
          have hB10 := HB10.out
          unfold mvQ at hB10
          have d0 := hB10.cell 0; have df0 := hB10.frozen 0; have d1 := hB10.cell 1; have df1 := hB10.frozen 1; have d2 := hB10.cell 2; have df2 := hB10.frozen 2; have d3 := hB10.cell 3; have df3 := hB10.frozen 3; have d4 := hB10.cell 4; have df4 := hB10.frozen 4; simp at d0 d1 d2 d3 d4
          clear hB10
          go_wp2_with fail
          go_meet
          exact MgCut.mk ⟨x.no, x.tm, x.thing, x.dst, x.src⟩ ⟨hx.1, hx.2.2, hx.2.1⟩ (by have := (HB10.out.set 3 (.string ⟨x.dst.toArray⟩)).set 4 (.string ⟨x.src.toArray⟩); simpa [mvQ] using this) (((HE10.out.store hbg hwg hbmg HOG.out _ _).store hbg hwg hbmg HOG.out _ _).more (by omega))
        case rest =>
          obtain ⟨x, hx, hB, hE⟩ := hcut
          obtain ⟨⟨f, h1, h2⟩, h3, h4, h5, h6⟩ := hE
          obtain ⟨wb, hst, hMb, hmb⟩ := MapS.store h1 Tryz.underlying72 (by omega) x.thing (by have := hx.1; omega) (.string ⟨x.dst.toArray⟩)
          have hBb := hB.mod hmb (by omega)
          have hown := own_mod h3 hmb (fun g hg => by have := own_block h3 g hg; omega)
          have hm1 : Mod (· = b) w wb := h5.trans' hmb (fun i hi hk => by omega)
          have HSB := Lib.hid (h4.mod hmb (fun i hi hk => by omega))
          have HW9 : Hid (WhoM wb bm (k + 1)) := Lib.hid ⟨_, hMb, fun t u h => by
            by_cases ht : t = x.thing
            · rw [if_pos ht] at h
              injection h with h
              exact ⟨x.dst, hx.2.2, h.symm⟩
            · rw [if_neg ht] at h
              exact h2 t u h⟩
          have hzb := hmb.size
          have HXM : Hid (∀ y ∈ xs ++ [x], MvB y) := Lib.hid (fun y hy => by
            rcases List.mem_append.1 hy with hy | hy
            · exact HXZ.out y hy
            · rw [List.mem_singleton.1 hy]; exact hx)
          have hz6 : base ≤ wb.heap.size := by omega
          unfold mvQ at hB hBb
          have c0 := hB.cell 0; have c1 := hB.cell 1; have c2 := hB.cell 2; have c3 := hB.cell 3; have c4 := hB.cell 4; simp at c0 c1 c2 c3 c4
          have d0 := hBb.cell 0; have d1 := hBb.cell 1; have d2 := hBb.cell 2; have d3 := hBb.cell 3; have d4 := hBb.cell 4; simp at d0 d1 d2 d3 d4
          clear hB hBb h1 h2 h3 h4 h5 hMb hmb hx
          go_wp2_with (at_builtin; refine wpList_append_lies _ rfl _ _ _ rfl base 75 i0 _ 5 64 Tryz.underlying26 hi0 hz0 hz1 hz2 rfl (by omega) (.slice Ao k cap) k (mvV xs) rfl (hown.alloc _) ⟨wb.heap.size, 0, none⟩ 1 1 [.int .i64 x.no, .int .i64 x.tm, .string ⟨x.thing.toArray⟩, .string ⟨x.src.toArray⟩, .string ⟨x.dst.toArray⟩] rfl rfl (World.news_of_block (cs := #[.int .i64 x.no, .int .i64 x.tm, .string ⟨x.thing.toArray⟩, .string ⟨x.src.toArray⟩, .string ⟨x.dst.toArray⟩]) (t := 75) (fr := (0, 0)) (heap_alloc_new wb _)) (by simp [Value.oneCell']) (by omega) (by simp [maxLen]; omega) (by omega) (by have := hm1.size; simp; omega) (wb.heap.size + 1) (by simp) ?_; intro g5 cap5 w5 hown5 hgrow hat hlt5)
          go_roundg (m - (k + 1))
          case measure => omega
          case rel => exact ⟨k + 1, xs ++ [x], some ⟨g5, 0, none⟩, cap5, _, rfl, by omega, rfl, rfl, by omega, by omega, by simp, by rw [List.length_append, HXL.out]; rfl, HXM.out, MgEnv.grows HW9.out hown (HSB.out.more (by omega)) hm1 hz6 hbb (by omega) (by omega) hgrow (by simpa [mvC] using hown5)⟩
    · obtain rfl : k = m := by omega
      obtain ⟨h1, h2, h3, h4, h5⟩ := hE
      have HS := Lib.hid (Sl.of_own h2)
      clear h1 h2 h5
      go_wp2_with fail
      go_ret
      exact ⟨_, xs, rfl, by rw [HXL.out]; exact Nat.le_refl _, HXZ.out, HS.out, h3, h4⟩

end Go.Proofs.YtglekmflcaacjaaGreatDoor

/- slices.Sorted(maps.Keys(m)) at a map of strings. -/
namespace Go.Proofs.YtglekmflcaacjaaGreatDoor
set_option linter.unusedVariables false
set_option linter.unusedSimpArgs false
open Go.RowKit Go.Maps Go.Sort Go.Shelf

theorem mapsKeysSS_calls (mb : Option Nat) (W : World) : Calls Tryz.prog 54 #[.map mb] W fun e w' => e = .returned (.func (.func 93) #[] #[.pointer (some ⟨W.heap.size, 0, none⟩)]) ∧ w' = W.alloc (.cells #[.map mb] 72) :=
  callsIn_wide.1 (AnyZ.keys_in Tryz.keysSS Fence.wide 5 trivial rfl mb W)

set_option maxHeartbeats 1000000 in
theorem sortedSS_calls (b n : Nat) (f : Str → Option Value) (w : World) (hM : MapS w b n f) (hn : n ≤ 1000000) (K : List Str) (hKn : K.Nodup) (hK : ∀ x, x ∈ K ↔ (f x).isSome = true) :
    Calls Tryz.prog 53 #[.func (.func 93) #[] #[.pointer (some ⟨w.heap.size, 0, none⟩)]] (w.alloc (.cells #[.map (some b)] 72)) (SortedPost (w.alloc (.cells #[.map (some b)] 72)) (K.mergeSort fun x y => decide (x ≤ y))) := by
  obtain ⟨D0, hown, _, hhas⟩ := hM
  have hsz := size_keys hown
  have hperm : K.Perm (strKeys D0) := perm_keys hown hKn (fun x => by rw [hK x, hhas x])
  have hbl := hown.lt
  have hseq : SeqGives Fence.wide 2 Tryz.prog 93 #[.pointer (some ⟨w.heap.size, 0, none⟩)] encStr (fun ss => ss.Perm (strKeys D0)) (Maps.size D0) (w.alloc (.cells #[.map (some b)] 72)) :=
    AnyZ.keys_gives (ρ := Tryz.keysSS_ren) { Tryz.keysSS with } Fence.wide _ trivial rfl (by omega) w.heap.size b n D0 _ (by simp) (by simp) (by
      obtain ⟨es, clock, hb, Ft, hs, hD⟩ := hown
      exact ⟨es, clock, (Below.heap_alloc _ _ b hbl).trans hb, Ft, hs, hD⟩)
  have hmain := callsIn_wide.1 (AnyZ.sorted_in Tryz.sortedK Fence.wide 5 trivial trivial trivial trivial rfl (by omega) (sortsK _) (enters_of Tryz.func61 (by kernel_rfl) rfl) 93 #[.pointer (some ⟨w.heap.size, 0, none⟩)] trivial (enters_of Tryz.func93 (by kernel_rfl) rfl) _ (Maps.size D0) (by unfold maxLen; omega) (by omega) _ hseq)
  refine hmain.mono ?_
  rintro e w' ⟨v, ss, rfl, hS, hrow, hnil, hb⟩
  have he : ss.mergeSort (fun x y => decide (x ≤ y)) = K.mergeSort fun x y => decide (x ≤ y) := mergeSort_of_perm (hS.trans hperm.symm)
  rw [he] at hrow
  have hl : ss.length = (K.mergeSort fun x y => decide (x ≤ y)).length := by rw [← he]; simp
  rw [hl] at hrow
  exact ⟨v, rfl, hrow, Mod.of_below hb⟩

end Go.Proofs.YtglekmflcaacjaaGreatDoor

/- Holder, Holding of package intake. -/
namespace Go.Proofs.YtglekmflcaacjaaGreatDoor
set_option linter.unusedVariables false
set_option linter.unusedSimpArgs false
open Go.RowKit

theorem grown_modM {v : Value} {w w' : World} (hg : w.grownBy w' v.ownBlock) : Mod (fun k => v.ownBlock = some k) w w' :=
  ⟨hg.os, hg.tape, hg.output, hg.size, fun k hk hs => hg.block k hk (fun x => hs x.symm)⟩
theorem info_str7M : (Tryz.prog.info? 9).map (fun i => (i.zero, i.size, i.bytes)) = some (some (.string ⟨#[]⟩), 1, 16) := by kernel_rfl
def askE (l : List Mv) (t : Str) (at_ : Int) : Int := firstErr [mvsE l, if keyB t = true then 0 else 5, if inB at_ 0 5761439 = true then 0 else 1]
def hdE (l : List Mv) (t : Str) (at_ : Int) : Int := if askE l t at_ ≠ 0 then askE l t at_ else if hAt l at_ t = [] then 8 else 0
def hdS (l : List Mv) (t : Str) (at_ : Int) : Str := if askE l t at_ ≠ 0 then [] else hAt l at_ t
def HrPost (w : World) (l : List Mv) (t : Str) (at_ : Int) (e : Ending) (w' : World) : Prop := e = .returned (.tuple #[.string ⟨(hdS l t at_).toArray⟩, .int .i64 (hdE l t at_)]) ∧ Pure w w'

set_option maxRecDepth 100000 in
set_option maxHeartbeats 8000000 in
theorem holder_calls (w : World) (v : Value) (l : List Mv) (t : Str) (at_ : Int) (hv : Mvs w v l) (hz : ∀ x ∈ l, MvB x) (hl : l.length ≤ 3000) (ht : t.length ≤ 1000) : Calls Tryz.prog 12 #[v, .string ⟨t.toArray⟩, .int .i64 at_] w (HrPost w l t at_) := by
  have HCM := Lib.hid (checkMoves_calls w v l hv hz hl)
  have HHO := Lib.hid (fun W (h : Pure w W) => iholders_calls W v l at_ (hv.pure h) hz (by omega))
  have HK1 : Hid (∀ W, Calls Tryz.prog 50 #[.string ⟨t.toArray⟩] W (BoolSame W (keyB t))) := Lib.hid (fun W => by have := key_calls W ⟨t.toArray⟩ (by show t.toArray.size ≤ _; rw [List.size_toArray]; omega); simpa using this)
  have HMO := Lib.hid (fun W => moment_calls at_ W)
  obtain ⟨A, n, c, rfl⟩ := Sl.form hv
  have HAE : Hid (askE l t at_ = firstErr [mvsE l, if keyB t = true then 0 else 5, if inB at_ 0 5761439 = true then 0 else 1]) := Lib.hid rfl
  have HHS : Hid (hdS l t at_ = if askE l t at_ ≠ 0 then [] else hAt l at_ t) := Lib.hid rfl
  have HHE : Hid (hdE l t at_ = if askE l t at_ ≠ 0 then askE l t at_ else if hAt l at_ t = [] then 8 else 0) := Lib.hid rfl
  generalize keyB t = kt at *
  generalize inB at_ 0 5761439 = bt at *
  generalize mvsE l = e1 at *
  obtain ⟨e2, he2⟩ : ∃ e2 : Int, (if kt = true then 0 else 5) = e2 := ⟨_, rfl⟩
  obtain ⟨e3, he3⟩ : ∃ e3 : Int, (if bt = true then 0 else 1) = e3 := ⟨_, rfl⟩
  rw [he2, he3] at HAE
  have HW2 : Hid (∀ W, Calls Tryz.prog 49 #[.bool (!kt), .int .i64 5] W fun r w' => r = .returned (.int .i64 e2) ∧ W = w') := Lib.hid (fun W => by
    subst he2
    cases kt
    · exact when_t 5 W
    · exact when_f 5 W)
  have HW3 : Hid (∀ W, Calls Tryz.prog 49 #[.bool (!bt), .int .i64 1] W fun r w' => r = .returned (.int .i64 e3) ∧ W = w') := Lib.hid (fun W => by
    subst he3
    cases bt
    · exact when_t 1 W
    · exact when_f 1 W)
  have HFE := Lib.hid (fun W g c hb => firstE_calls W g c [e1, e2, e3] hb (by simp))
  rw [← HAE.out] at HFE
  generalize askE l t at_ = er at *
  clear hv hz he2 he3 HAE
  go_enter Tryz.func12, Tryz.ntmps12
  go_wp2_with fail
  refine HCM.out.mono ?_
  rintro e w1 ⟨rfl, m1⟩
  clear HCM
  go_wp2_with fail
  refine (HK1.out _).mono ?_
  rintro e w2 ⟨rfl, rfl⟩
  go_wp2_with fail
  refine (HW2.out _).mono ?_
  rintro e w2 ⟨rfl, rfl⟩
  go_wp2_with fail
  refine (HMO.out _).mono ?_
  rintro e w2 ⟨rfl, rfl⟩
  go_wp2_with fail
  refine (HW3.out _).mono ?_
  rintro e w2 ⟨rfl, rfl⟩
  have HC := Lib.hid (HFE.out _ _ 3 ((Blk.new w1 32 #[.int .i64 e1, .int .i64 e2, .int .i64 e3]).row0))
  have HM2 := Lib.hid (m1.alloc (.cells #[.int .i64 e1, .int .i64 e2, .int .i64 e3] 32))
  clear HK1 HW2 HMO HW3 HFE m1
  go_wp2_with fail
  refine HC.out.mono ?_
  rintro e w3 ⟨rfl, m3⟩
  have HM3 := Lib.hid (HM2.out.trans m3)
  clear HC HM2 m3
  by_cases h0 : er = 0
  · subst h0
    have HC2 := Lib.hid (HHO.out _ HM3.out)
    have H1 : Hid (hdS l t at_ = hAt l at_ t) := Lib.hid (by rw [HHS.out, if_neg (by simp)])
    have H2 : Hid (hdE l t at_ = if hAt l at_ t = [] then 8 else 0) := Lib.hid (by rw [HHE.out, if_neg (by simp)])
    clear HHO HHS HHE
    go_wp2_with fail
    refine HC2.out.mono ?_
    rintro e w4 ⟨b, m, rfl, _, hM, m4⟩
    have hlook := hM.lookup (e := 9) Tryz.underlying72 zero_strV t (by omega)
    rw [hvF_getD] at hlook
    have hha : (hldF (atB at_) l t).getD [] = hAt l at_ t := rfl
    rw [hha] at hlook
    have HM4 := Lib.hid (HM3.out.trans m4)
    clear HC2 hM m4 hha
    generalize hAt l at_ t = hv at *
    cases he : hv.isEmpty
    · have HNE : Hid (hv ≠ []) := Lib.hid (fun h => by rw [h] at he; cases he)
      go_wp2_with fail
      refine (when_f 8 _).mono ?_
      rintro e w5 ⟨rfl, rfl⟩
      go_wp2_with fail
      refine bodyPost_ret (v := .tuple #[.string ⟨hv.toArray⟩, .int .i64 0]) (by simp [results, Tryz.results12, go_sem]) rfl ?_
      exact ⟨by rw [H1.out, H2.out, if_neg HNE.out], HM4.out⟩
    · have HNE : Hid (hv = []) := Lib.hid (by simpa using he)
      go_wp2_with fail
      refine (when_t 8 _).mono ?_
      rintro e w5 ⟨rfl, rfl⟩
      go_wp2_with fail
      refine bodyPost_ret (v := .tuple #[.string ⟨hv.toArray⟩, .int .i64 8]) (by simp [results, Tryz.results12, go_sem]) rfl ?_
      exact ⟨by rw [H1.out, H2.out, if_pos HNE.out], HM4.out⟩
  · have h0' : (er != 0) = true := by simpa using h0
    have H1 : Hid (hdS l t at_ = []) := Lib.hid (by rw [HHS.out, if_pos h0])
    have H2 : Hid (hdE l t at_ = er) := Lib.hid (by rw [HHE.out, if_pos h0])
    clear HHO HHS HHE h0
    go_wp2_with fail
    refine bodyPost_ret (v := .tuple #[.string ⟨#[]⟩, .int .i64 er]) (by simp [results, Tryz.results12, go_sem]) rfl ?_
    exact ⟨by rw [H1.out, H2.out], HM3.out⟩

def HgPost (w : World) (l : List Mv) (who : Str) (at_ : Int) (e : Ending) (w' : World) : Prop :=
  ∃ (A : Option Addr) (n c : Nat), e = .returned (.tuple #[.slice A n c, .int .i64 (askE l who at_)]) ∧ (askE l who at_ ≠ 0 → A = none ∧ n = 0 ∧ c = 0) ∧
    (askE l who at_ = 0 → Sl w' 9 1 (.slice A n c) (strsV (((keysM l at_).mergeSort fun x y => decide (x ≤ y)).filter fun t => decide (hAt l at_ t = who)))) ∧ Pure w w'
def HgRel (w : World) (base b m : Nat) (l : List Mv) (at_ : Int) (who : Str) (ys : List Str) (gk : Nat) (x i : Value) (wr : World) : Prop :=
  ∃ (k : Nat) (out : List Str) (Ao : Option Addr) (cap : Nat), ys.length - k = gk ∧ k ≤ ys.length ∧ x = .slice Ao out.length cap ∧ i = .int .i64 (k : Int) ∧ out = (ys.take k).filter (fun t => decide (hAt l at_ t = who)) ∧ out.length ≤ k ∧
    wr.ownsRow base 9 1 (.slice Ao out.length cap) out.length (strsV out) ∧ Pure w wr ∧ base ≤ wr.heap.size

set_option maxRecDepth 100000 in
set_option maxHeartbeats 8000000 in
theorem holding_calls (w : World) (v : Value) (l : List Mv) (t : Str) (at_ : Int) (hv : Mvs w v l) (hz : ∀ x ∈ l, MvB x) (hl : l.length ≤ 3000) (ht : t.length ≤ 1000) : Calls Tryz.prog 13 #[v, .string ⟨t.toArray⟩, .int .i64 at_] w (HgPost w l t at_) := by
  obtain ⟨i0, hi0, hz0, hz1, hz2⟩ := info_parts info_str7M
  have HCM := Lib.hid (checkMoves_calls w v l hv hz hl)
  have HHO := Lib.hid (fun W (h : Pure w W) => iholders_calls W v l at_ (hv.pure h) hz (by omega))
  have HK1 : Hid (∀ W, Calls Tryz.prog 50 #[.string ⟨t.toArray⟩] W (BoolSame W (keyB t))) := Lib.hid (fun W => by have := key_calls W ⟨t.toArray⟩ (by show t.toArray.size ≤ _; rw [List.size_toArray]; omega); simpa using this)
  have HMO := Lib.hid (fun W => moment_calls at_ W)
  have HYL : Hid (∀ y ∈ keysM l at_, y.length ≤ 100) := Lib.hid (fun y hy => by
    unfold keysM at hy
    rw [mem_uniq] at hy
    obtain ⟨m, hm, rfl⟩ := List.mem_map.1 hy
    exact (hz m (List.mem_filter.1 hm).1).1)
  obtain ⟨A, n, c, rfl⟩ := Sl.form hv
  have HAE : Hid (askE l t at_ = firstErr [mvsE l, if keyB t = true then 0 else 5, if inB at_ 0 5761439 = true then 0 else 1]) := Lib.hid rfl
  generalize keyB t = kt at *
  generalize inB at_ 0 5761439 = bt at *
  generalize mvsE l = e1 at *
  obtain ⟨e2, he2⟩ : ∃ e2 : Int, (if kt = true then 0 else 5) = e2 := ⟨_, rfl⟩
  obtain ⟨e3, he3⟩ : ∃ e3 : Int, (if bt = true then 0 else 1) = e3 := ⟨_, rfl⟩
  rw [he2, he3] at HAE
  have HW2 : Hid (∀ W, Calls Tryz.prog 49 #[.bool (!kt), .int .i64 5] W fun r w' => r = .returned (.int .i64 e2) ∧ W = w') := Lib.hid (fun W => by
    subst he2
    cases kt
    · exact when_t 5 W
    · exact when_f 5 W)
  have HW3 : Hid (∀ W, Calls Tryz.prog 49 #[.bool (!bt), .int .i64 1] W fun r w' => r = .returned (.int .i64 e3) ∧ W = w') := Lib.hid (fun W => by
    subst he3
    cases bt
    · exact when_t 1 W
    · exact when_f 1 W)
  have HFE := Lib.hid (fun W g c hb => firstE_calls W g c [e1, e2, e3] hb (by simp))
  rw [← HAE.out] at HFE
  obtain ⟨er, her⟩ : ∃ er, askE l t at_ = er := ⟨_, rfl⟩
  rw [her] at HFE
  have HER := Lib.hid her
  clear hv hz he2 he3 HAE her
  go_enter Tryz.func13, Tryz.ntmps13
  go_wp2_with fail
  refine HCM.out.mono ?_
  rintro e w1 ⟨rfl, m1⟩
  clear HCM
  go_wp2_with fail
  refine (HK1.out _).mono ?_
  rintro e w2 ⟨rfl, rfl⟩
  go_wp2_with fail
  refine (HW2.out _).mono ?_
  rintro e w2 ⟨rfl, rfl⟩
  go_wp2_with fail
  refine (HMO.out _).mono ?_
  rintro e w2 ⟨rfl, rfl⟩
  go_wp2_with fail
  refine (HW3.out _).mono ?_
  rintro e w2 ⟨rfl, rfl⟩
  have HC := Lib.hid (HFE.out _ _ 3 ((Blk.new w1 32 #[.int .i64 e1, .int .i64 e2, .int .i64 e3]).row0))
  have HM2 := Lib.hid (m1.alloc (.cells #[.int .i64 e1, .int .i64 e2, .int .i64 e3] 32))
  clear HK1 HW2 HMO HW3 HFE m1
  go_wp2_with fail
  refine HC.out.mono ?_
  rintro e w3 ⟨rfl, m3⟩
  have HM3 := Lib.hid (HM2.out.trans m3)
  clear HC HM2 m3
  by_cases h0 : er = 0
  · subst h0
    have HC2 := Lib.hid (HHO.out _ HM3.out)
    clear HHO
    go_wp2_with fail
    refine HC2.out.mono ?_
    rintro e w4 ⟨b, m, rfl, hml, hM, m4⟩
    have HKS := Lib.hid (mapsKeysSS_calls (some b) w4)
    have HSO := Lib.hid (sortedSS_calls b m (hvF (atB at_) l) w4 hM (by omega) (keysM l at_) (nodup_uniq _) (fun x => by rw [mem_keysM, hvF_some]))
    have HYM : Hid (∀ y ∈ (keysM l at_).mergeSort (fun x y => decide (x ≤ y)), y.length ≤ 100) := Lib.hid (fun y hy => HYL.out y ((List.mergeSort_perm _ _).mem_iff.1 hy))
    have hyl : ((keysM l at_).mergeSort fun x y => decide (x ≤ y)).length ≤ 3000 := by
      rw [List.length_mergeSort]
      have h1 : (keysM l at_).length ≤ (List.map (·.thing) (l.filter (atB at_))).length := by
        unfold keysM
        generalize List.map (·.thing) (l.filter (atB at_)) = zs
        induction zs with
        | nil => simp [uniq]
        | cons z zs ih =>
          unfold uniq
          split
          · simp; omega
          · simp; omega
      have h2 := List.length_filter_le (atB at_) l
      rw [List.length_map] at h1
      omega
    have HM4 := Lib.hid (HM3.out.trans m4)
    have hMA := MapS.pure hM (pure_alloc w4 (.cells #[.map (some b)] 72))
    have HMA := Lib.hid hMA
    generalize hys : (keysM l at_).mergeSort (fun x y => decide (x ≤ y)) = ys at *
    have HYS := Lib.hid hys
    clear hys
    clear HC2 hM m4 HYL hMA hml
    go_wp2_with fail
    refine HKS.out.mono ?_
    rintro e w5 ⟨rfl, rfl⟩
    clear HKS
    go_wp2_with fail
    refine HSO.out.mono ?_
    rintro e w6 ⟨v6, rfl, own6, m6⟩
    have S6 := Sl.of_own own6
    obtain ⟨A6, n6, c6, rfl⟩ := S6.form
    have hn6 : ys.length = n6 := S6.lenS
    subst hn6
    have HS6 := Lib.hid S6
    have HLK : Hid (∀ W, Pure w6 W → ∀ y : Str, y.length ≤ 100 → (Instr.lookup 72 (.map (some b)) (.string ⟨y.toArray⟩) false).run Tryz.prog W = .ok (.string ⟨(hAt l at_ y).toArray⟩) W) := Lib.hid (fun W h y hy => by
      have := (MapS.pure HMA.out (m6.trans h)).lookup (e := 9) Tryz.underlying72 zero_strV y (by omega)
      rw [hvF_getD] at this
      exact this)
    have HM6 := Lib.hid (HM4.out.trans ((pure_alloc w4 (.cells #[.map (some b)] 72)).trans m6))
    obtain ⟨base, hba⟩ : ∃ base, base = w6.heap.size := ⟨_, rfl⟩
    have hb1 := Nat.le_of_eq hba
    have hb2 := Nat.le_of_eq hba.symm
    clear HSO own6 m6 S6 HMA HM4 hba
    go_wp2_with fail
    go_loopg [9, 35] ys.length (fun gk x i wr => HgRel w6 base b m l at_ t ys gk x i wr)
    case atStart => exact ⟨0, [], none, 0, by omega, by omega, rfl, rfl, by simp, by simp, ⟨rfl, .inl ⟨rfl, rfl⟩⟩, Mod.refl _ _, hb1⟩
    case round =>
      obtain ⟨k, out, Ao, cap, rfl, hk, rfl, rfl, hout, hol, hown, hm, hsz⟩ := hrel
      by_cases hlt : k < ys.length
      · have S1 := HS6.out.pure hm
        obtain ⟨gr, off, rfl, hrow⟩ := S1.rowS (by omega)
        have q1 := hrow.cell (strsV_get ys k hlt)
        have hyk := HYM.out _ (List.getElem_mem hlt)
        have hlook := HLK.out wr hm ys[k] hyk
        have HTK : Hid ((ys.take (k + 1)).filter (fun t' => decide (hAt l at_ t' = t)) = (ys.take k).filter (fun t' => decide (hAt l at_ t' = t)) ++ if hAt l at_ ys[k] = t then [ys[k]] else []) := Lib.hid (by
          rw [List.take_succ_eq_append_getElem hlt, List.filter_append]
          by_cases h : hAt l at_ ys[k] = t
          · simp [h]
          · simp [h])
        have HOUT := Lib.hid hout
        clear hrow S1 hout
        generalize ys[k] = y at *
        generalize hAt l at_ y = hv at *
        obtain ⟨bd, hbd⟩ : ∃ bd, (hv == t) = bd := ⟨_, rfl⟩
        have HBD : Hid (hv = t ↔ bd = true) := Lib.hid (by rw [← hbd]; simp)
        cases bd
        · have HN : Hid ((ys.take (k + 1)).filter (fun t' => decide (hAt l at_ t' = t)) = out) := Lib.hid (by rw [HTK.out, if_neg (fun h => by have := HBD.out.1 h; cases this), List.append_nil, HOUT.out])
          have HOW := Lib.hid hown
          have HMM := Lib.hid hm
          clear HTK HBD hown hm
          go_wp2_with fail
          go_roundg (ys.length - (k + 1))
          case measure => omega
          case rel => exact ⟨k + 1, out, Ao, cap, rfl, by omega, rfl, by simp, HN.out.symm, by omega, HOW.out, HMM.out, hsz⟩
        · have HN : Hid ((ys.take (k + 1)).filter (fun t' => decide (hAt l at_ t' = t)) = out ++ [y]) := Lib.hid (by rw [HTK.out, if_pos (HBD.out.2 rfl), HOUT.out])
          have hob := own_block hown
          have HOB := Lib.hid hob
          have HMM := Lib.hid hm
          clear HTK HBD hob
          go_wp2_with (at_builtin; refine wpList_append_lies _ rfl _ _ _ rfl base 9 i0 _ 1 16 Tryz.underlying29 hi0 hz0 hz1 hz2 rfl (by omega) (.slice Ao out.length cap) out.length (strsV out) rfl (hown.alloc _) ⟨wr.heap.size, 0, none⟩ 1 1 [.string ⟨y.toArray⟩] rfl rfl (World.news_of_block (cs := #[.string ⟨y.toArray⟩]) (t := 9) (fr := (0, 0)) (heap_alloc_new wr _)) (by simp [Value.oneCell']) (by omega) (by simp [maxLen]; omega) (by omega) (by have := hm.size; simp; omega) (wr.heap.size + 1) (by simp) ?_; intro g5 cap5 w5 hown5 hgrow hat hlt5)
          have hz5 := hgrow.size
          simp at hz5
          have hmg := grown_modM (v := .slice Ao out.length cap) hgrow
          go_roundg (ys.length - (k + 1))
          case measure => omega
          case rel => exact ⟨k + 1, out ++ [y], some ⟨g5, 0, none⟩, cap5, rfl, by omega, by simp, by simp, HN.out.symm, by simp; omega, by have := hown5; simpa [strsV] using this, (HMM.out.alloc _).trans' hmg (fun i h hl => by have := HOB.out _ h; omega), by omega⟩
      · obtain rfl : k = ys.length := by omega
        rw [List.take_length] at hout
        have HOUT := Lib.hid hout
        have HOW := Lib.hid (Sl.of_own hown)
        have HMM := Lib.hid hm
        clear hout hown hm
        go_wp2_with fail
        refine bodyPost_ret (v := .tuple #[.slice Ao out.length cap, .int .i64 0]) (by simp [results, Tryz.results13, go_sem]) rfl ?_
        exact ⟨_, _, _, by rw [HER.out], fun h => absurd HER.out h, fun _ => by rw [HYS.out, ← HOUT.out]; exact HOW.out, HM6.out.trans HMM.out⟩
  · have h0' : (er != 0) = true := by simpa using h0
    have H0 := Lib.hid h0
    clear HHO h0
    go_wp2_with fail
    refine bodyPost_ret (v := .tuple #[.slice none 0 0, .int .i64 er]) (by simp [results, Tryz.results13, go_sem]) rfl ?_
    exact ⟨none, 0, 0, by rw [HER.out], fun _ => ⟨rfl, rfl, rfl⟩, fun h => absurd (HER.out.symm.trans h) H0.out, HM3.out⟩

end Go.Proofs.YtglekmflcaacjaaGreatDoor

/- The closure of the law MoveChecks: the fault of a question. -/
namespace Go.Proofs.YtglekmflcaacjaaGreatDoor
set_option linter.unusedVariables false
set_option linter.unusedSimpArgs false
open Go.RowKit

set_option maxRecDepth 100000 in
set_option maxHeartbeats 2000000 in
theorem moveAsk_calls (w : World) (gf ga : Nat) (tf ta : TypeId) (l : List Mv) (t : Str) (at_ : Int) (hF : Blk w gf tf #[.int .i64 (mvsE l)]) (hA : Blk w ga ta #[.int .i64 at_]) (ht : t.length ≤ 1000) :
    Calls Tryz.prog 16 #[.string ⟨t.toArray⟩, .pointer (some ⟨gf, 0, none⟩), .pointer (some ⟨ga, 0, none⟩)] w (IntPost w (askE l t at_)) := by
  have HK := Lib.hid (rkey_any w t (by omega))
  have HAE : Hid (askE l t at_ = firstErr [mvsE l, if keyB t = true then 0 else 5, if inB at_ 0 5761439 = true then 0 else 1]) := Lib.hid rfl
  generalize mvsE l = f0 at *
  generalize keyB t = kt at *
  generalize askE l t at_ = er at *
  have hHF := hF
  have c0 := hHF.cell 0; simp at c0
  clear hHF
  go_enter Tryz.func16, Tryz.ntmps16
  by_cases h0 : f0 = 0
  · subst h0
    have HA := Lib.hid hA
    clear hF hA
    go_wp2_with fail
    refine HK.out.mono ?_
    rintro e w1 ⟨rfl, m1⟩
    have hA1 := HA.out.mod m1 id
    have d0 := hA1.cell 0; simp at d0
    clear hA1 HK
    cases kt
    · obtain rfl : er = 5 := by have := HAE.out; simpa [firstErr] using this
      go_wp2_with fail
      go_ret
      exact ⟨rfl, m1⟩
    · by_cases h1 : at_ < 0
      · obtain rfl : er = 1 := by have := HAE.out; have h2 : inB at_ 0 5761439 = false := by simp [inB]; omega
                                  simpa [firstErr, h2] using this
        go_wp2_with fail
        go_ret
        exact ⟨rfl, m1⟩
      · by_cases h2 : 5761440 ≤ at_
        · obtain rfl : er = 1 := by have := HAE.out; have h2 : inB at_ 0 5761439 = false := by simp [inB]; omega
                                    simpa [firstErr, h2] using this
          go_wp2_with fail
          go_ret
          exact ⟨rfl, m1⟩
        · obtain rfl : er = 0 := by have := HAE.out; have h2 : inB at_ 0 5761439 = true := by simp [inB]; omega
                                    simpa [firstErr, h2] using this
          go_wp2_with fail
          go_ret
          exact ⟨rfl, m1⟩
  · have hne : (f0 != 0) = true := by simpa using h0
    obtain rfl : er = f0 := by have := HAE.out; simpa [firstErr, h0] using this
    clear hF hA HK HAE
    go_wp2_with fail
    go_ret
    exact ⟨rfl, Mod.refl _ _⟩

end Go.Proofs.YtglekmflcaacjaaGreatDoor

/- The law MoveChecks. -/
namespace Go.Proofs.YtglekmflcaacjaaGreatDoor
set_option linter.unusedVariables false
set_option linter.unusedSimpArgs false
open Go.RowKit

def thingIds : List Str := [[100, 105, 115, 107], [98, 111, 120], [112, 104, 111, 110, 101], [68], []]
def whoIds : List Str := [[97, 110, 110], [98, 111, 98], [99, 105, 100], [], [65]]
theorem thingIds_len : ∀ s ∈ thingIds, s.length ≤ 16 := by decide
theorem whoIds_len : ∀ s ∈ whoIds, s.length ≤ 16 := by decide

set_option maxRecDepth 100000 in
set_option maxHeartbeats 16000000 in
theorem MoveChecks_calls (w : World) (A : Option Addr) (n c : Nat) (hA : ArgInts w A n) (hE : ErrS w) (hD : Deb w) (hV : Env w) :
    Calls Tryz.prog 3 #[.slice A n c] w (BoolPost w true) := by
  have hS0 := strm_new (c := c) hA
  have HE : Hid (∀ w1, Pure w w1 → ErrS w1) := Lib.hid (fun _ h => hE.pure h)
  have HD : Hid (∀ w1, Pure w w1 → Deb w1) := Lib.hid (fun _ h => hD.pure h)
  obtain ⟨b, hb⟩ : ∃ b, b = w.heap.size := ⟨_, rfl⟩
  have P0 := pure_alloc w (.cells #[.slice A n c, .int .i64 0] 25)
  have HPS : Hid (∀ {w1 w' : World}, Pure w w1 → Mod (· = b) w1 w' → Pure w w') := Lib.hid (fun k h => k.trans' h (fun i hi hlt => by omega))
  rw [← hb] at hS0
  clear hE hD hV hA
  go_enter Tryz.func3, Tryz.ntmps3
  go_wp2_with fail
  rw [← hb]
  generalize (w.alloc (.cells #[.slice A n c, .int .i64 0] 25)) = w0 at *
  clear hb
  refine (rangeI_calls _ _ _ _ hS0 (by omega) (by omega) (by omega)).mono ?_
  rintro e w1 ⟨m, mI, hmI, hm8, rfl, hS1, hM1⟩
  have P1 := HPS.out P0 hM1
  have hm20 : m ≤ 10 := by omega
  have HIT := Lib.hid (moves_calls w1 b _ m mI hmI hS1 (by omega) (by omega))
  clear hS0 P0 hM1 hmI hm8 hS1
  go_wp2_with fail
  refine HIT.out.mono ?_
  rintro e w2 ⟨v, xs, rfl, hxl, hxz, hv, hS2, hM2⟩
  have P2 := HPS.out P1 hM2
  have HXZ := Lib.hid hxz
  have hx11 : xs.length ≤ 11 := by omega
  have HVS : Hid (∀ W, Mod (· = b) w2 W → Mvs W v xs) := Lib.hid (fun W h => Sl.strm hv hS2 h (by decide))
  have HP2 := Lib.hid P2
  have hS3 : Strm w2 b 200 := hS2.more (by omega)
  clear HIT hxz P1 P2 hM2 hv hS2 hxl
  have hbW := hS3.lt
  go_wp2_with fail
  have HGs := Lib.hid (show ∀ (D : Nat → Bool) (zzi : Nat) (zq zq' : World), (fun _ zq => (fun w => b < w.heap.size) zq) D zq → Mod (· = b) zq zq' → (fun _ zq => (fun w => b < w.heap.size) zq) (upd D zzi true) zq' from by intro D zzi zq zq' h hm; (exact Nat.lt_of_lt_of_le h hm.size))
  refine wp_region_inv (by kernel_rfl) (by kernel_rfl) (InvF (R := Mod (· = b)) [⟨fun zv zw => ∃ (g_0 : Nat), zv = .slice (some ⟨g_0, 0, none⟩) 5 5 ∧ w2.heap.size ≤ g_0 ∧ Blk zw g_0 9 #[(.string { data := #[100, 105, 115, 107] }), (.string { data := #[98, 111, 120] }), (.string { data := #[112, 104, 111, 110, 101] }), (.string { data := #[68] }), (.string { data := #[] })], (by rintro zv zw zx ⟨g_0, rfl, c0, q0⟩ hm; exact ⟨g_0, rfl, c0, (q0.modb hm (by omega))⟩), none, none⟩,
      .is (.pointer (some ⟨b, 0, none⟩)),
      .val (fun zv => ∃ (j_2 : Nat), zv = .int .i64 (j_2 : Int) ∧ j_2 < 5),
      ⟨fun zv zw => ∃ (g_3 : Nat) (j_3 : Nat), zv = .pointer (some ⟨g_3, j_3, none⟩) ∧ w2.heap.size ≤ g_3 ∧ j_3 < 5 ∧ Blk zw g_3 9 (strsV thingIds).toArray, (by rintro zv zw zx ⟨g_3, j_3, rfl, c0, c1, q0⟩ hm; exact ⟨g_3, j_3, rfl, c0, c1, (q0.modb hm (by omega))⟩), none, none⟩,
      .val (fun zv => ∃ (s_4 : Str), zv = .string ⟨s_4.toArray⟩ ∧ s_4 ∈ thingIds),
      ⟨fun zv zw => ∃ (g_5 : Nat), zv = .slice (some ⟨g_5, 0, none⟩) 5 5 ∧ w2.heap.size ≤ g_5 ∧ Blk zw g_5 9 #[(.string { data := #[97, 110, 110] }), (.string { data := #[98, 111, 98] }), (.string { data := #[99, 105, 100] }), (.string { data := #[] }), (.string { data := #[65] })], (by rintro zv zw zx ⟨g_5, rfl, c0, q0⟩ hm; exact ⟨g_5, rfl, c0, (q0.modb hm (by omega))⟩), none, none⟩,
      .is (.pointer (some ⟨b, 0, none⟩)),
      .val (fun zv => ∃ (j_7 : Nat), zv = .int .i64 (j_7 : Int) ∧ j_7 < 5),
      ⟨fun zv zw => ∃ (g_8 : Nat) (j_8 : Nat), zv = .pointer (some ⟨g_8, j_8, none⟩) ∧ w2.heap.size ≤ g_8 ∧ j_8 < 5 ∧ Blk zw g_8 9 (strsV whoIds).toArray, (by rintro zv zw zx ⟨g_8, j_8, rfl, c0, c1, q0⟩ hm; exact ⟨g_8, j_8, rfl, c0, c1, (q0.modb hm (by omega))⟩), none, none⟩,
      .val (fun zv => ∃ (s_9 : Str), zv = .string ⟨s_9.toArray⟩ ∧ s_9 ∈ whoIds),
      .val (fun zv => ∃ (s_10 : Str), zv = .string ⟨s_10.toArray⟩ ∧ s_10 ∈ thingIds),
      .val (fun zv => ∃ (s_11 : Str), zv = .string ⟨s_11.toArray⟩ ∧ s_11 ∈ whoIds)]
      (GB w2 (· = b) w2.heap.size b (200) (fun D => (D 2).toNat + (D 7).toNat) (fun _ zq => (fun w => b < w.heap.size) zq))) (InvF.start (GB.start hS3 (Mod.refl _ _) (Nat.le_refl _) (hbW))) ?_ ?_
  · refine .cons ?_ (.cons ?_ (.cons ?_ (.cons ?_ (.cons ?_ (.cons ?_ (.cons ?_ (.cons ?_ (.cons ?_ (.cons ?_ (.cons ?_ (.cons ?_ .nil)))))))))))
    · intro D V zw1 a hR hI K hK   -- 0: Op.buildSlice 29 5 #[(0, Operand.const (Value.string { data := #[100, 
      obtain ⟨hS1, hM1, hB1, hG1⟩ := hI.1
      rw [if_pos (by rfl)]
      go_simp
      exact hK (_) _ (hI.next hR (by kernel_rfl) ((Mod.refl _ _).alloc _) (GB.quiet hI.1 (pure_alloc _ _) (by have hn := hR.not; simp [upd, hn] <;> omega) (HGs.out D 0 _ _ (hI.1).g ((Mod.refl _ _).alloc _))) (⟨_, upd_same V 0 _, (by omega), (Blk.new _ _ _)⟩))
    · intro D V zw1 a hR hI K hK   -- 1: Op.move (Operand.tmp 3)
      obtain ⟨hS1, hM1, hB1, hG1⟩ := hI.1
      have ze3 := hR.frame.other (t := 3) (by kernel_rfl) rfl
      rw [if_pos (by rfl)]
      go_simp
      exact hK (.pointer (some ⟨b, 0, none⟩)) _ (hI.next hR (by kernel_rfl) (Mod.refl _ _) (GB.quiet hI.1 (Mod.refl _ _) (by have hn := hR.not; simp [upd, hn] <;> omega) (HGs.out D 1 zw1 zw1 (hI.1).g (Mod.refl _ _))) (upd_same V 1 _))
    · intro D V zw1 a hR hI K hK   -- 2: Op.call { callee := Callee.value (Operand.func 10), args := #[Operand.
      obtain ⟨hS1, hM1, hB1, hG1⟩ := hI.1
      have zd1 := hR.pred 1 (by kernel_rfl)
      have zF1 : V 1 = .pointer (some ⟨b, 0, none⟩) := hI.2 1 zd1 rfl
      have zf1 := zF1; clear zF1
      have ze25 := hR.frame.done (t := 25) (j := 1) (by kernel_rfl) hR.ok zd1
      rw [if_pos (by rfl)]
      have := Bool.toNat_le (D 2)
      have := Bool.toNat_le (D 7)
      have hNB : 200 + ((D 2).toNat + (D 7).toNat) ≤ 1000000000 := by omega
      skip
      go_simp
      refine (next_calls _ _ _ _ hS1 hNB (by omega) (by omega)).mono ?_
      rintro e zw2 ⟨kk, hk1, hk2, rfl, hS2, hm2⟩
      obtain ⟨j_0, rfl⟩ := Int.eq_ofNat_of_zero_le hk1
      have hj : j_0 < 5 := by omega
      exact hK (.int .i64 (j_0 : Int)) _ (hI.next hR (by kernel_rfl) hm2 (GB.asks hI.1 (fun _ h _ => h) hS2 hm2 (by have hn := hR.not; simp [upd, hn] <;> omega) (HGs.out D 2 _ _ (hI.1).g hm2)) (⟨j_0, upd_same V 2 _, hj⟩))
    · intro D V zw1 a hR hI K hK   -- 3: Op.indexAddr 29 (Operand.tmp 24) (Operand.tmp 26)
      obtain ⟨hS1, hM1, hB1, hG1⟩ := hI.1
      have zd0 := hR.pred 0 (by kernel_rfl)
      have zF0 : ∃ (g_0 : Nat), V 0 = .slice (some ⟨g_0, 0, none⟩) 5 5 ∧ w2.heap.size ≤ g_0 ∧ Blk zw1 g_0 9 #[(.string { data := #[100, 105, 115, 107] }), (.string { data := #[98, 111, 120] }), (.string { data := #[112, 104, 111, 110, 101] }), (.string { data := #[68] }), (.string { data := #[] })] := hI.2 0 zd0 rfl
      obtain ⟨g_0, zf0, c0_0, b0_0⟩ := zF0
      have zd2 := hR.pred 2 (by kernel_rfl)
      have zF2 : ∃ (j_2 : Nat), V 2 = .int .i64 (j_2 : Int) ∧ j_2 < 5 := hI.2 2 zd2 rfl
      obtain ⟨j_2, zf2, c2_0⟩ := zF2
      have ze24 := hR.frame.done (t := 24) (j := 0) (by kernel_rfl) hR.ok zd0
      have ze26 := hR.frame.done (t := 26) (j := 2) (by kernel_rfl) hR.ok zd2
      have i1 : (0 : Int) ≤ (j_2 : Int) := by omega
      have i2 : (j_2 : Int) < 5 := by omega
      rw [if_pos (by rfl)]
      go_simp
      exact hK (_) _ (hI.next hR (by kernel_rfl) (Mod.refl _ _) (GB.quiet hI.1 (Mod.refl _ _) (by have hn := hR.not; simp [upd, hn] <;> omega) (HGs.out D 3 zw1 zw1 (hI.1).g (Mod.refl _ _))) (⟨g_0, j_2, upd_same V 3 _, (by first | assumption | omega), (by first | assumption | omega), b0_0⟩))
    · intro D V zw1 a hR hI K hK   -- 4: Op.load 9 (Operand.tmp 27)
      obtain ⟨hS1, hM1, hB1, hG1⟩ := hI.1
      have zd3 := hR.pred 3 (by kernel_rfl)
      have zF3 : ∃ (g_3 : Nat) (j_3 : Nat), V 3 = .pointer (some ⟨g_3, j_3, none⟩) ∧ w2.heap.size ≤ g_3 ∧ j_3 < 5 ∧ Blk zw1 g_3 9 (strsV thingIds).toArray := hI.2 3 zd3 rfl
      obtain ⟨g_3, j_3, zf3, c3_0, c3_1, b3_0⟩ := zF3
      have ze27 := hR.frame.done (t := 27) (j := 3) (by kernel_rfl) hR.ok zd3
      have hj3 : j_3 < thingIds.length := c3_1
      have hc : zw1.cell? ⟨g_3, j_3, none⟩ = some (.string ⟨thingIds[j_3].toArray⟩) := (b3_0.cell j_3).trans (by simp [strsV, hj3])
      have hmem : thingIds[j_3] ∈ thingIds := List.getElem_mem _
      generalize thingIds[j_3] = s_0 at hc hmem
      rw [if_pos (by rfl)]
      go_simp
      exact hK (_) _ (hI.next hR (by kernel_rfl) (Mod.refl _ _) (GB.quiet hI.1 (Mod.refl _ _) (by have hn := hR.not; simp [upd, hn] <;> omega) (HGs.out D 4 zw1 zw1 (hI.1).g (Mod.refl _ _))) (⟨s_0, upd_same V 4 _, hmem⟩))
    · intro D V zw1 a hR hI K hK   -- 5: Op.buildSlice 29 5 #[(0, Operand.const (Value.string { data := #[97, 1
      obtain ⟨hS1, hM1, hB1, hG1⟩ := hI.1
      rw [if_pos (by rfl)]
      go_simp
      exact hK (_) _ (hI.next hR (by kernel_rfl) ((Mod.refl _ _).alloc _) (GB.quiet hI.1 (pure_alloc _ _) (by have hn := hR.not; simp [upd, hn] <;> omega) (HGs.out D 5 _ _ (hI.1).g ((Mod.refl _ _).alloc _))) (⟨_, upd_same V 5 _, (by omega), (Blk.new _ _ _)⟩))
    · intro D V zw1 a hR hI K hK   -- 6: Op.move (Operand.tmp 3)
      obtain ⟨hS1, hM1, hB1, hG1⟩ := hI.1
      have ze3 := hR.frame.other (t := 3) (by kernel_rfl) rfl
      rw [if_pos (by rfl)]
      go_simp
      exact hK (.pointer (some ⟨b, 0, none⟩)) _ (hI.next hR (by kernel_rfl) (Mod.refl _ _) (GB.quiet hI.1 (Mod.refl _ _) (by have hn := hR.not; simp [upd, hn] <;> omega) (HGs.out D 6 zw1 zw1 (hI.1).g (Mod.refl _ _))) (upd_same V 6 _))
    · intro D V zw1 a hR hI K hK   -- 7: Op.call { callee := Callee.value (Operand.func 10), args := #[Operand.
      obtain ⟨hS1, hM1, hB1, hG1⟩ := hI.1
      have zd6 := hR.pred 6 (by kernel_rfl)
      have zF6 : V 6 = .pointer (some ⟨b, 0, none⟩) := hI.2 6 zd6 rfl
      have zf6 := zF6; clear zF6
      have ze30 := hR.frame.done (t := 30) (j := 6) (by kernel_rfl) hR.ok zd6
      rw [if_pos (by rfl)]
      have := Bool.toNat_le (D 2)
      have := Bool.toNat_le (D 7)
      have hNB : 200 + ((D 2).toNat + (D 7).toNat) ≤ 1000000000 := by omega
      skip
      go_simp
      refine (next_calls _ _ _ _ hS1 hNB (by omega) (by omega)).mono ?_
      rintro e zw2 ⟨kk, hk1, hk2, rfl, hS2, hm2⟩
      obtain ⟨j_0, rfl⟩ := Int.eq_ofNat_of_zero_le hk1
      have hj : j_0 < 5 := by omega
      exact hK (.int .i64 (j_0 : Int)) _ (hI.next hR (by kernel_rfl) hm2 (GB.asks hI.1 (fun _ h _ => h) hS2 hm2 (by have hn := hR.not; simp [upd, hn] <;> omega) (HGs.out D 7 _ _ (hI.1).g hm2)) (⟨j_0, upd_same V 7 _, hj⟩))
    · intro D V zw1 a hR hI K hK   -- 8: Op.indexAddr 29 (Operand.tmp 29) (Operand.tmp 31)
      obtain ⟨hS1, hM1, hB1, hG1⟩ := hI.1
      have zd5 := hR.pred 5 (by kernel_rfl)
      have zF5 : ∃ (g_5 : Nat), V 5 = .slice (some ⟨g_5, 0, none⟩) 5 5 ∧ w2.heap.size ≤ g_5 ∧ Blk zw1 g_5 9 #[(.string { data := #[97, 110, 110] }), (.string { data := #[98, 111, 98] }), (.string { data := #[99, 105, 100] }), (.string { data := #[] }), (.string { data := #[65] })] := hI.2 5 zd5 rfl
      obtain ⟨g_5, zf5, c5_0, b5_0⟩ := zF5
      have zd7 := hR.pred 7 (by kernel_rfl)
      have zF7 : ∃ (j_7 : Nat), V 7 = .int .i64 (j_7 : Int) ∧ j_7 < 5 := hI.2 7 zd7 rfl
      obtain ⟨j_7, zf7, c7_0⟩ := zF7
      have ze29 := hR.frame.done (t := 29) (j := 5) (by kernel_rfl) hR.ok zd5
      have ze31 := hR.frame.done (t := 31) (j := 7) (by kernel_rfl) hR.ok zd7
      have i1 : (0 : Int) ≤ (j_7 : Int) := by omega
      have i2 : (j_7 : Int) < 5 := by omega
      rw [if_pos (by rfl)]
      go_simp
      exact hK (_) _ (hI.next hR (by kernel_rfl) (Mod.refl _ _) (GB.quiet hI.1 (Mod.refl _ _) (by have hn := hR.not; simp [upd, hn] <;> omega) (HGs.out D 8 zw1 zw1 (hI.1).g (Mod.refl _ _))) (⟨g_5, j_7, upd_same V 8 _, (by first | assumption | omega), (by first | assumption | omega), b5_0⟩))
    · intro D V zw1 a hR hI K hK   -- 9: Op.load 9 (Operand.tmp 32)
      obtain ⟨hS1, hM1, hB1, hG1⟩ := hI.1
      have zd8 := hR.pred 8 (by kernel_rfl)
      have zF8 : ∃ (g_8 : Nat) (j_8 : Nat), V 8 = .pointer (some ⟨g_8, j_8, none⟩) ∧ w2.heap.size ≤ g_8 ∧ j_8 < 5 ∧ Blk zw1 g_8 9 (strsV whoIds).toArray := hI.2 8 zd8 rfl
      obtain ⟨g_8, j_8, zf8, c8_0, c8_1, b8_0⟩ := zF8
      have ze32 := hR.frame.done (t := 32) (j := 8) (by kernel_rfl) hR.ok zd8
      have hj3 : j_8 < whoIds.length := c8_1
      have hc : zw1.cell? ⟨g_8, j_8, none⟩ = some (.string ⟨whoIds[j_8].toArray⟩) := (b8_0.cell j_8).trans (by simp [strsV, hj3])
      have hmem : whoIds[j_8] ∈ whoIds := List.getElem_mem _
      generalize whoIds[j_8] = s_0 at hc hmem
      rw [if_pos (by rfl)]
      go_simp
      exact hK (_) _ (hI.next hR (by kernel_rfl) (Mod.refl _ _) (GB.quiet hI.1 (Mod.refl _ _) (by have hn := hR.not; simp [upd, hn] <;> omega) (HGs.out D 9 zw1 zw1 (hI.1).g (Mod.refl _ _))) (⟨s_0, upd_same V 9 _, hmem⟩))
    · intro D V zw1 a hR hI K hK   -- 10: Op.assign (Operand.tmp 28)
      obtain ⟨hS1, hM1, hB1, hG1⟩ := hI.1
      have zd4 := hR.pred 4 (by kernel_rfl)
      have zF4 : ∃ (s_4 : Str), V 4 = .string ⟨s_4.toArray⟩ ∧ s_4 ∈ thingIds := hI.2 4 zd4 rfl
      obtain ⟨s_4, zf4, c4_0⟩ := zF4
      have ze28 := hR.frame.done (t := 28) (j := 4) (by kernel_rfl) hR.ok zd4
      rw [if_pos (by rfl)]
      go_simp
      exact hK (.string ⟨s_4.toArray⟩) _ (hI.next hR (by kernel_rfl) (Mod.refl _ _) (GB.quiet hI.1 (Mod.refl _ _) (by have hn := hR.not; simp [upd, hn] <;> omega) (HGs.out D 10 zw1 zw1 (hI.1).g (Mod.refl _ _))) (⟨s_4, upd_same V 10 _, (by first | assumption | omega)⟩))
    · intro D V zw1 a hR hI K hK   -- 11: Op.assign (Operand.tmp 33)
      obtain ⟨hS1, hM1, hB1, hG1⟩ := hI.1
      have zd9 := hR.pred 9 (by kernel_rfl)
      have zF9 : ∃ (s_9 : Str), V 9 = .string ⟨s_9.toArray⟩ ∧ s_9 ∈ whoIds := hI.2 9 zd9 rfl
      obtain ⟨s_9, zf9, c9_0⟩ := zF9
      have ze33 := hR.frame.done (t := 33) (j := 9) (by kernel_rfl) hR.ok zd9
      rw [if_pos (by rfl)]
      go_simp
      exact hK (.string ⟨s_9.toArray⟩) _ (hI.next hR (by kernel_rfl) (Mod.refl _ _) (GB.quiet hI.1 (Mod.refl _ _) (by have hn := hR.not; simp [upd, hn] <;> omega) (HGs.out D 11 zw1 zw1 (hI.1).g (Mod.refl _ _))) (⟨s_9, upd_same V 11 _, (by first | assumption | omega)⟩))
  · intro D V w3 hD hI
    obtain ⟨hS1, hM1, hB1, hG1⟩ := hI.1
    have hSx : Strm w3 b (200 + 2) := hS1.more (by show _ ≤ _; have := Bool.toNat_le (D 2); have := Bool.toNat_le (D 7); omega)
    clear hS1
    have hMx := hM1
    clear hM1
    have hBx := hB1
    clear hB1
    have hGx := hG1
    clear hG1
    have zF0 : ∃ (g_0 : Nat), V 0 = .slice (some ⟨g_0, 0, none⟩) 5 5 ∧ w2.heap.size ≤ g_0 ∧ Blk w3 g_0 9 #[(.string { data := #[100, 105, 115, 107] }), (.string { data := #[98, 111, 120] }), (.string { data := #[112, 104, 111, 110, 101] }), (.string { data := #[68] }), (.string { data := #[] })] := hI.2 0 (hD 0 (by decide)) rfl
    obtain ⟨g_0, zf0, c0_0, b0_0⟩ := zF0
    have zF1 : V 1 = .pointer (some ⟨b, 0, none⟩) := hI.2 1 (hD 1 (by decide)) rfl
    have zf1 := zF1; clear zF1
    have zF2 : ∃ (j_2 : Nat), V 2 = .int .i64 (j_2 : Int) ∧ j_2 < 5 := hI.2 2 (hD 2 (by decide)) rfl
    obtain ⟨j_2, zf2, c2_0⟩ := zF2
    have zF3 : ∃ (g_3 : Nat) (j_3 : Nat), V 3 = .pointer (some ⟨g_3, j_3, none⟩) ∧ w2.heap.size ≤ g_3 ∧ j_3 < 5 ∧ Blk w3 g_3 9 (strsV thingIds).toArray := hI.2 3 (hD 3 (by decide)) rfl
    obtain ⟨g_3, j_3, zf3, c3_0, c3_1, b3_0⟩ := zF3
    have zF4 : ∃ (s_4 : Str), V 4 = .string ⟨s_4.toArray⟩ ∧ s_4 ∈ thingIds := hI.2 4 (hD 4 (by decide)) rfl
    obtain ⟨s_4, zf4, c4_0⟩ := zF4
    have zF5 : ∃ (g_5 : Nat), V 5 = .slice (some ⟨g_5, 0, none⟩) 5 5 ∧ w2.heap.size ≤ g_5 ∧ Blk w3 g_5 9 #[(.string { data := #[97, 110, 110] }), (.string { data := #[98, 111, 98] }), (.string { data := #[99, 105, 100] }), (.string { data := #[] }), (.string { data := #[65] })] := hI.2 5 (hD 5 (by decide)) rfl
    obtain ⟨g_5, zf5, c5_0, b5_0⟩ := zF5
    have zF6 : V 6 = .pointer (some ⟨b, 0, none⟩) := hI.2 6 (hD 6 (by decide)) rfl
    have zf6 := zF6; clear zF6
    have zF7 : ∃ (j_7 : Nat), V 7 = .int .i64 (j_7 : Int) ∧ j_7 < 5 := hI.2 7 (hD 7 (by decide)) rfl
    obtain ⟨j_7, zf7, c7_0⟩ := zF7
    have zF8 : ∃ (g_8 : Nat) (j_8 : Nat), V 8 = .pointer (some ⟨g_8, j_8, none⟩) ∧ w2.heap.size ≤ g_8 ∧ j_8 < 5 ∧ Blk w3 g_8 9 (strsV whoIds).toArray := hI.2 8 (hD 8 (by decide)) rfl
    obtain ⟨g_8, j_8, zf8, c8_0, c8_1, b8_0⟩ := zF8
    have zF9 : ∃ (s_9 : Str), V 9 = .string ⟨s_9.toArray⟩ ∧ s_9 ∈ whoIds := hI.2 9 (hD 9 (by decide)) rfl
    obtain ⟨s_9, zf9, c9_0⟩ := zF9
    have zF10 : ∃ (s_10 : Str), V 10 = .string ⟨s_10.toArray⟩ ∧ s_10 ∈ thingIds := hI.2 10 (hD 10 (by decide)) rfl
    obtain ⟨s_10, zf10, c10_0⟩ := zF10
    have zF11 : ∃ (s_11 : Str), V 11 = .string ⟨s_11.toArray⟩ ∧ s_11 ∈ whoIds := hI.2 11 (hD 11 (by decide)) rfl
    obtain ⟨s_11, zf11, c11_0⟩ := zF11
    clear hI hD HGs
    simp only [frAll, Act.put, List.setIfInBounds_toArray, List.set_cons_zero, List.set_cons_succ, Nat.zero_add, Nat.reduceAdd, zf0, zf1, zf2, zf3, zf4, zf5, zf6, zf7, zf8, zf9, zf10, zf11]
    clear zf0 zf1 zf2 zf3 zf4 zf5 zf6 zf7 zf8 zf9 zf10 zf11
    clear V D
    have hthl := thingIds_len _ c10_0
    have hwhl := whoIds_len _ c11_0
    generalize s_10 = th at *
    generalize s_11 = who at *
    have HM3 := Lib.hid hMx
    have hS4 := hSx
    have hbl3 := hSx.lt
    clear c10_0 c11_0 hMx hSx hGx
    go_wp2_with fail
    refine (next_calls _ b _ _ hS4 (by omega) (by omega) (by omega)).mono ?_
    rintro e w4 ⟨z4, hz40, hz41, rfl, hS5, hM4⟩
    have HM4 := Lib.hid (HM3.out.trans hM4)
    have hbl4 := hS5.lt
    clear HM3 hM4 hS4
    go_wp2_with fail
    refine (pickv_calls _ b _ _ _ _ #[.int .i64 0, .int .i64 5, .int .i64 30, .int .i64 100, .int .i64 (-1), .int .i64 5761440, .int .i64 z4] (hS5.alloc _) (Blk.new _ _ _) (by omega) (by omega) rfl (by simp [intsOf]) (by simp [intsOf]) rfl).mono ?_
    rintro e w5 ⟨at_, hat, rfl, hS6, hM5⟩
    have hM25 := (HM4.out.alloc _).trans hM5
    have P5 := HPS.out HP2.out hM25
    have hv5 := HVS.out _ hM25
    have HP5 := Lib.hid P5
    have HIT : Hid (∀ W, Pure w5 W → Mvs W v xs) := Lib.hid (fun W h => hv5.pure h)
    have HT : Hid (∀ W, Pure w W → _) := Lib.hid (fun W hW => taken_calls W (HE.out _ hW) (HD.out _ hW))
    clear hat hS6 hM5 HM4 hS5 hM25 P5 hv5 HE HD HPS HVS HP2
    have HHR := Lib.hid (fun W (h : Pure w5 W) => holder_calls W v xs th at_ (HIT.out _ h) HXZ.out (by omega) (by omega))
    have HHG := Lib.hid (fun W (h : Pure w5 W) => holding_calls W v xs who at_ (HIT.out _ h) HXZ.out (by omega) (by omega))
    have HMF := Lib.hid (fun W (h : Pure w5 W) => movesFault_calls W v xs (HIT.out _ h) HXZ.out (by omega))
    have HCM := Lib.hid (fun W (h : Pure w5 W) => checkMoves_calls W v xs (HIT.out _ h) HXZ.out (by omega))
    have HRO := Lib.hid (fun W (h : Pure w5 W) => holderOf_calls W v xs th at_ (HIT.out _ h) (by omega))
    have HRG := Lib.hid (fun W (h : Pure w5 W) => holdingOf_calls W v xs who at_ (HIT.out _ h) (by omega))
    have HK1 := Lib.hid (fun W gf ga (hF : Blk W gf 32 #[.int .i64 (mvsE xs)]) (hA : Blk W ga 3 #[.int .i64 at_]) => moveAsk_calls W gf ga _ _ xs th at_ hF hA (by omega))
    have HK2 := Lib.hid (fun W gf ga (hF : Blk W gf 32 #[.int .i64 (mvsE xs)]) (hA : Blk W ga 3 #[.int .i64 at_]) => moveAsk_calls W gf ga _ _ xs who at_ hF hA (by omega))
    have HLL : Hid (askE xs who at_ = 0 → ((keysM xs at_).mergeSort fun x y => decide (x ≤ y)).filter (fun t => decide (hAt xs at_ t = who)) = (hasL xs at_ who xs []).mergeSort fun x y => decide (x ≤ y)) := Lib.hid (fun h => holding_eq (by
      rintro rfl
      have hk : keyB [] = false := by decide
      by_cases h3 : mvsE xs = 0 <;> simp [askE, firstErr, hk, h3] at h))
    have HHS : Hid (hdS xs th at_ = if askE xs th at_ ≠ 0 then [] else hAt xs at_ th) := Lib.hid rfl
    have HHE : Hid (hdE xs th at_ = if askE xs th at_ ≠ 0 then askE xs th at_ else if hAt xs at_ th = [] then 8 else 0) := Lib.hid rfl
    clear HIT HXZ
    unfold HrPost at HHR
    unfold HgPost at HHG
    generalize mvsE xs = f0 at *
    generalize askE xs th at_ = er at *
    generalize askE xs who at_ = ew at *
    generalize hdS xs th at_ = sS at *
    generalize hdE xs th at_ = sE at *
    generalize hAt xs at_ th = ht at *
    generalize ((keysM xs at_).mergeSort fun x y => decide (x ≤ y)).filter (fun t => decide (hAt xs at_ t = who)) = L1 at *
    generalize ((hasL xs at_ who xs []).mergeSort fun x y => decide (x ≤ y)) = L2 at *
    have HA6 := Lib.hid (Blk.new w5 3 #[.int .i64 at_])
    have hM6 := pure_alloc w5 (.cells #[.int .i64 at_] 3)
    have HM6 := Lib.hid hM6
    have HC6 := Lib.hid (HHR.out _ hM6)
    have hA6 := HA6.out
    have a0 := hA6.cell 0; have af0 := hA6.frozen 0; simp at a0
    clear HHR hM6 hA6
    go_wp2_with fail
    refine HC6.out.mono ?_
    rintro e w7 ⟨rfl, m7⟩
    have HM7 := Lib.hid (HM6.out.trans m7)
    have HA7 := Lib.hid (HA6.out.mod m7 _root_.id)
    generalize w5.heap.size = ga at *
    have HC7 := Lib.hid (HHG.out _ HM7.out)
    have hA7 := HA7.out
    have b0 := hA7.cell 0; simp at b0
    clear HC6 HM6 HA6 m7 HHG hA7 a0 af0
    go_wp2_with fail
    refine HC7.out.mono ?_
    rintro e w8 ⟨Ah, nh, ch, rfl, hne, hz, m8⟩
    have HNE := Lib.hid hne
    have HZ := Lib.hid hz
    have HM8 := Lib.hid (HM7.out.trans m8)
    have HA8 := Lib.hid (HA7.out.mod m8 _root_.id)
    have HC8 := Lib.hid (HMF.out _ HM8.out)
    clear HC7 HM7 HA7 hne hz m8 HMF b0
    go_wp2_with fail
    refine HC8.out.mono ?_
    rintro e w9 ⟨rfl, m9⟩
    have HF10 := Lib.hid (Blk.new w9 32 #[.int .i64 f0])
    have HA10 := Lib.hid ((HA8.out.mod m9 _root_.id).alloc (.cells #[.int .i64 f0] 32))
    have HM10 := Lib.hid ((HM8.out.trans m9).alloc (.cells #[.int .i64 f0] 32))
    have HM810 := Lib.hid (m9.alloc (.cells #[.int .i64 f0] 32))
    clear HC8 m9 HM8 HA8
    go_wp2_with fail
    generalize (w9.alloc (.cells #[.int .i64 f0] 32)) = w10 at *
    generalize w9.heap.size = gf at *
    have HCM10 := Lib.hid (fun W (h : Pure w10 W) => HCM.out W (HM10.out.trans h))
    clear HCM
    have HGs := Lib.hid (show ∀ (D : Nat → Bool) (zzi : Nat) (zq zq' : World), (fun _ zq => (fun Z => Blk Z gf 32 #[.int .i64 f0]) zq) D zq → Mod (fun _ => False) zq zq' → (fun _ zq => (fun Z => Blk Z gf 32 #[.int .i64 f0]) zq) (upd D zzi true) zq' from by intro D zzi zq zq' h hm; (exact h.modp hm))
    refine wp_region_inv (by kernel_rfl) (by kernel_rfl) (InvF (R := Mod (fun _ => False)) [.is (v),
        .is (.int .i64 f0),
        .is (.int .i64 f0),
        .is (.bool false)]
        (PB w10 (fun _ => False) w10.heap.size (fun _ zq => (fun Z => Blk Z gf 32 #[.int .i64 f0]) zq))) (InvF.start (PB.start (Mod.refl _ _) (Nat.le_refl _) (HF10.out.drew))) ?_ ?_
    · refine .cons ?_ (.cons ?_ (.cons ?_ (.cons ?_ .nil)))
      · intro D V zw1 a hR hI K hK   -- 0: Op.move (Operand.tmp 4)
        obtain ⟨hM1, hB1, hG1⟩ := hI.1
        have ze4 := hR.frame.other (t := 4) (by kernel_rfl) rfl
        rw [if_pos (by rfl)]
        go_simp
        exact hK (v) _ (hI.next hR (by kernel_rfl) (Mod.refl _ _) (PB.quiet hI.1 (Mod.refl _ _) (HGs.out D 0 zw1 zw1 (hI.1).g (Mod.refl _ _))) (upd_same V 0 _))
      · intro D V zw1 a hR hI K hK   -- 1: Op.call { callee := Callee.value (Operand.func 15), args := #[Operand.
        obtain ⟨hM1, hB1, hG1⟩ := hI.1
        have zd0 := hR.pred 0 (by kernel_rfl)
        have zF0 : V 0 = v := hI.2 0 zd0 rfl
        have zf0 := zF0; clear zF0
        have ze55 := hR.frame.done (t := 55) (j := 0) (by kernel_rfl) hR.ok zd0
        rw [if_pos (by rfl)]
        go_simp
        refine (HCM10.out _ hM1).mono ?_
        rintro e zw2 ⟨rfl, hm2⟩
        exact hK (.int .i64 f0) _ (hI.next hR (by kernel_rfl) hm2 (PB.quiet hI.1 hm2 (HGs.out D 1 _ _ (hI.1).g hm2)) (upd_same V 1 _))
      · intro D V zw1 a hR hI K hK   -- 2: Op.load 32 (Operand.tmp 12)
        obtain ⟨hM1, hB1, hG1⟩ := hI.1
        have ze12 := hR.frame.other (t := 12) (by kernel_rfl) rfl
        have zx0 := hG1.cell 0
        simp at zx0
        rw [if_pos (by rfl)]
        go_simp
        exact hK (.int .i64 f0) _ (hI.next hR (by kernel_rfl) (Mod.refl _ _) (PB.quiet hI.1 (Mod.refl _ _) (HGs.out D 2 zw1 zw1 (hI.1).g (Mod.refl _ _))) (upd_same V 2 _))
      · intro D V zw1 a hR hI K hK   -- 3: Op.binOp BinOp.neq 32 (Operand.tmp 56) (Operand.tmp 57) 32
        obtain ⟨hM1, hB1, hG1⟩ := hI.1
        have zd1 := hR.pred 1 (by kernel_rfl)
        have zF1 : V 1 = .int .i64 f0 := hI.2 1 zd1 rfl
        have zf1 := zF1; clear zF1
        have zd2 := hR.pred 2 (by kernel_rfl)
        have zF2 : V 2 = .int .i64 f0 := hI.2 2 zd2 rfl
        have zf2 := zF2; clear zF2
        have ze56 := hR.frame.done (t := 56) (j := 1) (by kernel_rfl) hR.ok zd1
        have ze57 := hR.frame.done (t := 57) (j := 2) (by kernel_rfl) hR.ok zd2
        rw [if_pos (by rfl)]
        go_simp
        exact hK (.bool false) _ (hI.next hR (by kernel_rfl) (Mod.refl _ _) (PB.quiet hI.1 (Mod.refl _ _) (HGs.out D 3 zw1 zw1 (hI.1).g (Mod.refl _ _))) (upd_same V 3 _))
    · intro D V w11 hD hI
      obtain ⟨hM1, hB1, hG1⟩ := hI.1
      have hMx := hM1
      clear hM1
      have hBx := hB1
      clear hB1
      have hGx := hG1
      clear hG1
      have zF0 : V 0 = v := hI.2 0 (hD 0 (by decide)) rfl
      have zf0 := zF0; clear zF0
      have zF1 : V 1 = .int .i64 f0 := hI.2 1 (hD 1 (by decide)) rfl
      have zf1 := zF1; clear zF1
      have zF2 : V 2 = .int .i64 f0 := hI.2 2 (hD 2 (by decide)) rfl
      have zf2 := zF2; clear zF2
      have zF3 : V 3 = .bool false := hI.2 3 (hD 3 (by decide)) rfl
      have zf3 := zF3; clear zF3
      clear hI hD HGs
      simp only [frAll, Act.put, List.setIfInBounds_toArray, List.set_cons_zero, List.set_cons_succ, Nat.zero_add, Nat.reduceAdd, zf0, zf1, zf2, zf3]
      clear zf0 zf1 zf2 zf3
      clear V D
      have HM11 := Lib.hid (HM10.out.trans hMx)
      have HM811 := Lib.hid (HM810.out.trans hMx)
      have HA11 := Lib.hid (HA10.out.mod hMx _root_.id)
      have HF11 := Lib.hid hGx
      have HC11 := Lib.hid (HK1.out _ _ _ hGx HA11.out)
      clear HM10 HM810 HA10 HF10 hMx hGx HCM10 HK1
      go_wp2_with fail
      refine HC11.out.mono ?_
      rintro e w12 ⟨rfl, m12⟩
      have HC12 := Lib.hid (HK2.out _ _ _ (HF11.out.mod m12 _root_.id) (HA11.out.mod m12 _root_.id))
      have HA12 := Lib.hid (HA11.out.mod m12 _root_.id)
      have HM12 := Lib.hid (HM11.out.trans m12)
      have HM812 := Lib.hid (HM811.out.trans m12)
      clear HC11 HK2 HA11 HF11 m12 HM11 HM811
      go_wp2_with fail
      refine HC12.out.mono ?_
      rintro e w13 ⟨rfl, m13⟩
      have HM13 := Lib.hid (HM12.out.trans m13)
      have HM813 := Lib.hid (HM812.out.trans m13)
      have hA13 := HA12.out.mod m13 _root_.id
      have HA13 := Lib.hid hA13
      have d0 := hA13.cell 0; simp at d0
      have hsn : (([] : Str) != []) = false := rfl
      have hen : (ew != ew) = false := by simp
      clear HC12 HA12 HM12 HM812 m13 hA13
      by_cases he : er = 0
      · subst he
        have HC13 := Lib.hid (HRO.out _ HM13.out)
        have H1 : Hid (sS = ht) := Lib.hid (by rw [HHS.out, if_neg (by simp)])
        have H2 : Hid (sE = if ht = [] then 8 else 0) := Lib.hid (by rw [HHE.out, if_neg (by simp)])
        clear HHS HHE HRO
        obtain rfl := H1.out
        go_wp2_with fail
        refine HC13.out.mono ?_
        rintro e w14 ⟨rfl, m14⟩
        have HM14 := Lib.hid (HM13.out.trans m14)
        have HM814 := Lib.hid (HM813.out.trans m14)
        have hA14 := HA13.out.mod m14 _root_.id
        have k0 := hA14.cell 0; simp at k0
        clear HC13 m14 hA14 HM13 HM813 d0
        by_cases h0 : sS = []
        · subst h0
          obtain rfl : sE = 8 := H2.out
          clear H1 H2
          by_cases hw : ew = 0
          · subst hw
            have hS8 := HZ.out rfl
            have HRGq := Lib.hid (HRG.out _ (HM14.out))
            have HM8q := Lib.hid (HM814.out)
            have HPQ := Lib.hid (HP5.out.trans (HM14.out))
            have HS8 := Lib.hid hS8
            rw [HLL.out rfl] at HS8
            clear hS8
            go_wp2_with fail
            refine HRGq.out.mono ?_
            rintro e wr ⟨A2, n2, c2, rfl, hs2, mr⟩
            have HEQ := Lib.hid (equalS_calls wr _ _ _ (HS8.out.pure (HM8q.out.trans mr)) hs2)
            have HPR := Lib.hid (HPQ.out.trans mr)
            clear hs2 mr
            go_wp2_with fail
            refine HEQ.out.mono ?_
            rintro e ws ⟨rfl, ms⟩
            have P := HPR.out.trans ms
            go_wp2_with fail
            refine (HT.out _ P).mono ?_
            rintro e wt ⟨rfl, mt⟩
            go_wp2_with fail
            go_ret
            exact ⟨rfl, P.trans mt⟩
          · obtain ⟨rfl, rfl, rfl⟩ := HNE.out hw
            have hwn : (ew != 0) = true := by simpa using hw
            have P := HP5.out.trans (HM14.out)
            go_wp2_with fail
            refine (HT.out _ P).mono ?_
            rintro e wt ⟨rfl, mt⟩
            go_wp2_with fail
            go_ret
            exact ⟨rfl, P.trans mt⟩
        · obtain rfl : sE = 0 := by have := H2.out; rw [if_neg h0] at this; exact this
          have hs1 : (sS == []) = false := by simpa using h0
          have hs2 : (sS != sS) = false := by simp
          clear H1 H2
          by_cases hw : ew = 0
          · subst hw
            have hS8 := HZ.out rfl
            have HRGq := Lib.hid (HRG.out _ (HM14.out))
            have HM8q := Lib.hid (HM814.out)
            have HPQ := Lib.hid (HP5.out.trans (HM14.out))
            have HS8 := Lib.hid hS8
            rw [HLL.out rfl] at HS8
            clear hS8
            go_wp2_with fail
            refine HRGq.out.mono ?_
            rintro e wr ⟨A2, n2, c2, rfl, hs2, mr⟩
            have HEQ := Lib.hid (equalS_calls wr _ _ _ (HS8.out.pure (HM8q.out.trans mr)) hs2)
            have HPR := Lib.hid (HPQ.out.trans mr)
            clear hs2 mr
            go_wp2_with fail
            refine HEQ.out.mono ?_
            rintro e ws ⟨rfl, ms⟩
            have P := HPR.out.trans ms
            go_wp2_with fail
            refine (HT.out _ P).mono ?_
            rintro e wt ⟨rfl, mt⟩
            go_wp2_with fail
            go_ret
            exact ⟨rfl, P.trans mt⟩
          · obtain ⟨rfl, rfl, rfl⟩ := HNE.out hw
            have hwn : (ew != 0) = true := by simpa using hw
            have P := HP5.out.trans (HM14.out)
            go_wp2_with fail
            refine (HT.out _ P).mono ?_
            rintro e wt ⟨rfl, mt⟩
            go_wp2_with fail
            go_ret
            exact ⟨rfl, P.trans mt⟩
      · obtain rfl : sE = er := by rw [HHE.out, if_pos he]
        obtain rfl : sS = [] := by rw [HHS.out, if_pos he]
        have he1 : (sE == 0) = false := by simpa using he
        have he2 : (sE != sE) = false := by simp
        clear HHS HHE HRO
        by_cases hw : ew = 0
        · subst hw
          have hS8 := HZ.out rfl
          have HRGq := Lib.hid (HRG.out _ (HM13.out))
          have HM8q := Lib.hid (HM813.out)
          have HPQ := Lib.hid (HP5.out.trans (HM13.out))
          have HS8 := Lib.hid hS8
          rw [HLL.out rfl] at HS8
          clear hS8
          go_wp2_with fail
          refine HRGq.out.mono ?_
          rintro e wr ⟨A2, n2, c2, rfl, hs2, mr⟩
          have HEQ := Lib.hid (equalS_calls wr _ _ _ (HS8.out.pure (HM8q.out.trans mr)) hs2)
          have HPR := Lib.hid (HPQ.out.trans mr)
          clear hs2 mr
          go_wp2_with fail
          refine HEQ.out.mono ?_
          rintro e ws ⟨rfl, ms⟩
          have P := HPR.out.trans ms
          go_wp2_with fail
          refine (HT.out _ P).mono ?_
          rintro e wt ⟨rfl, mt⟩
          go_wp2_with fail
          go_ret
          exact ⟨rfl, P.trans mt⟩
        · obtain ⟨rfl, rfl, rfl⟩ := HNE.out hw
          have hwn : (ew != 0) = true := by simpa using hw
          have P := HP5.out.trans (HM13.out)
          go_wp2_with fail
          refine (HT.out _ P).mono ?_
          rintro e wt ⟨rfl, mt⟩
          go_wp2_with fail
          go_ret
          exact ⟨rfl, P.trans mt⟩

end Go.Proofs.YtglekmflcaacjaaGreatDoor
