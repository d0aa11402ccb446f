/- Texts of the proof of ItemTotals, put together: SrtP, TotP. -/
import Derived.Test.YtbdeicbdehgeiaaGreatDoorItemTotalsZ11
import Derived.Sort.OwnSorted
import Derived.Lib.SlicesCompact
/- Sorted lists of strings, without doubles: plain. -/
namespace Go.Proofs.YtbdeicbdehgeiaaGreatDoor
set_option linter.unusedVariables false
set_option linter.unusedSimpArgs false
open Go.RowKit Go.Sort

def uniq : List Str → List Str
  | [] => []
  | x :: xs => if x ∈ xs then uniq xs else x :: uniq xs
theorem mem_uniq {x : Str} : ∀ {l : List Str}, x ∈ uniq l ↔ x ∈ l
  | [] => Iff.rfl
  | y :: l => by
    unfold uniq
    split
    · rename_i h
      rw [mem_uniq]
      constructor
      · intro hx; exact List.mem_cons_of_mem _ hx
      · intro hx
        rcases List.mem_cons.1 hx with rfl | hx
        · exact h
        · exact hx
    · rw [List.mem_cons, List.mem_cons, mem_uniq]
theorem nodup_uniq : ∀ l : List Str, (uniq l).Nodup
  | [] => List.nodup_nil
  | y :: l => by
    unfold uniq
    split
    · exact nodup_uniq l
    · rename_i h
      exact List.nodup_cons.2 ⟨fun hx => h (mem_uniq.1 hx), nodup_uniq l⟩
def leQ (x y : Str) : Bool := decide (x ≤ y)
theorem leQ_trans (a b c : Str) (h1 : leQ a b = true) (h2 : leQ b c = true) : leQ a c = true := by
  simp only [leQ, decide_eq_true_eq] at *
  exact List.le_trans h1 h2
theorem leQ_total (a b : Str) : (leQ a b || leQ b a) = true := by
  simp only [leQ, Bool.or_eq_true, decide_eq_true_eq]
  exact List.le_total a b
theorem sorted_le (l : List Str) : (l.mergeSort fun x y => decide (x ≤ y)).Pairwise (· ≤ ·) := by
  have h := List.pairwise_mergeSort (le := leQ) leQ_trans leQ_total l
  have e : l.mergeSort leQ = l.mergeSort fun x y => decide (x ≤ y) := rfl
  rw [e] at h
  exact h.imp fun h => by simpa [leQ] using h
theorem lt_of {a b : Str} (h : a ≤ b) (hne : a ≠ b) : a < b := by
  by_cases h1 : a < b
  · exact h1
  · exact absurd (List.le_antisymm h (List.not_lt.1 h1)) hne
theorem sorted_lt {l : List Str} (hn : l.Nodup) : (l.mergeSort fun x y => decide (x ≤ y)).Pairwise (· < ·) := by
  have h1 := sorted_le l
  have h2 : (l.mergeSort fun x y => decide (x ≤ y)).Nodup := (List.mergeSort_perm _ _).nodup_iff.2 hn
  exact (h1.and h2).imp fun ⟨a, b⟩ => lt_of a b
theorem compactUp_sorted {zs : List Str} (h : zs.Pairwise (· ≤ ·)) : ∀ m, m ≤ zs.length → (Lib.compactUpTo zs.toArray m).Pairwise (· < ·) ∧ ∀ x, x ∈ Lib.compactUpTo zs.toArray m ↔ x ∈ zs.take m
  | 0, _ => by simp [Lib.compactUpTo]
  | m + 1, hm => by
    obtain ⟨h1, h2⟩ := compactUp_sorted h m (by omega)
    have hml : m < zs.length := by omega
    have hg : zs.toArray[m]! = zs[m] := by rw [getElem!_pos zs.toArray m (by simpa using hml)]; simp
    have hle : ∀ j (hj : j < m), zs[j] ≤ zs[m] := fun j hj => (List.pairwise_iff_getElem.1 h) j m (by omega) hml hj
    rw [Lib.compactUpTo_succ, hg, List.take_succ_eq_append_getElem hml]
    by_cases hk : Lib.keeps zs.toArray m = true
    · rw [if_pos hk]
      refine ⟨List.pairwise_append.2 ⟨h1, List.pairwise_singleton _ _, ?_⟩, fun x => ?_⟩
      · intro x hx y hy
        rw [List.mem_singleton.1 hy]
        have hx2 := (h2 x).1 hx
        obtain ⟨j, hj, rfl⟩ := List.getElem_of_mem hx2
        rw [List.getElem_take]
        have hjm : j < m := by simp at hj; omega
        refine lt_of (hle j hjm) (fun he => ?_)
        unfold Lib.keeps at hk
        simp only [decide_eq_true_eq] at hk
        rcases hk with hk | hk
        · omega
        · refine hk ?_
          have hm1 : m - 1 < zs.length := by omega
          have hg1 : zs.toArray[m - 1]! = zs[m - 1] := by rw [getElem!_pos zs.toArray (m - 1) (by simpa using hm1)]; simp
          rw [hg, hg1]
          refine List.le_antisymm ?_ (hle (m - 1) (by omega))
          rw [← he]
          rcases Nat.eq_or_lt_of_le (show j ≤ m - 1 by omega) with e | hlt
          · subst e; exact List.le_refl _
          · exact (List.pairwise_iff_getElem.1 h) j (m - 1) (by omega) hm1 hlt
      · rw [List.mem_append, List.mem_append, h2 x]
    · rw [if_neg hk, List.append_nil]
      refine ⟨h1, fun x => ?_⟩
      rw [h2 x, List.mem_append]
      constructor
      · exact .inl
      · rintro (hx | hx)
        · exact hx
        · unfold Lib.keeps at hk
          simp only [decide_eq_true_eq, not_or, Decidable.not_not] at hk
          obtain ⟨h0, he⟩ := hk
          have hm1 : m - 1 < zs.length := by omega
          have hg1 : zs.toArray[m - 1]! = zs[m - 1] := by rw [getElem!_pos zs.toArray (m - 1) (by simpa using hm1)]; simp
          rw [hg, hg1] at he
          rw [List.mem_singleton.1 hx, he]
          have : m - 1 < (zs.take m).length := by simp; omega
          have hmem := List.getElem_mem this
          rw [List.getElem_take] at hmem
          exact hmem
theorem compact_sorted {zs : List Str} (h : zs.Pairwise (· ≤ ·)) : (Lib.compact zs).Pairwise (· < ·) ∧ ∀ x, x ∈ Lib.compact zs ↔ x ∈ zs := by
  have := compactUp_sorted h zs.length (Nat.le_refl _)
  rw [List.take_length] at this
  exact this
theorem strict_unique {a b : List Str} (ha : a.Pairwise (· < ·)) (hb : b.Pairwise (· < ·)) (hm : ∀ x, x ∈ a ↔ x ∈ b) : a = b := by
  have na : a.Nodup := ha.imp fun h e => by subst e; exact List.lt_irrefl _ h
  have nb : b.Nodup := hb.imp fun h e => by subst e; exact List.lt_irrefl _ h
  refine List.Perm.eq_of_pairwise (le := fun x y => x < y) (fun x y _ _ h1 h2 => absurd (List.lt_trans h1 h2) (List.lt_irrefl _)) ha hb ((List.perm_ext_iff_of_nodup na nb).2 hm)
/-- A set's keys, sorted, are the sorted list with its doubles struck. -/
theorem compact_uniq (S : List Str) : Lib.compact (S.mergeSort fun x y => decide (x ≤ y)) = (uniq S).mergeSort fun x y => decide (x ≤ y) := by
  obtain ⟨h1, h2⟩ := compact_sorted (sorted_le S)
  refine strict_unique h1 (sorted_lt (nodup_uniq S)) (fun x => ?_)
  rw [h2 x, (List.mergeSort_perm _ _).mem_iff, (List.mergeSort_perm _ _).mem_iff, mem_uniq]

end Go.Proofs.YtbdeicbdehgeiaaGreatDoor

/- Totals: the plain law. -/
namespace Go.Proofs.YtbdeicbdehgeiaaGreatDoor
set_option linter.unusedVariables false
set_option linter.unusedSimpArgs false
open Go.RowKit

/-- What a custodian has. -/
structure Tot where
  cust : Str
  items : Int
  fams : Int
  bytes : Int
/-- One more item. -/
def totA (t : Tot) (x : Itm) : Tot := ⟨x.cust, t.items + 1, if x.par = [] then t.fams + 1 else t.fams, t.bytes + (x.text.length : Int)⟩
def tot0 : Tot := ⟨[], 0, 0, 0⟩
/-- What a custodian has of a list; none: nothing. -/
def totF (l : List Itm) (c : Str) : Option Tot := l.foldl (fun a x => if x.cust = c then some (totA (a.getD tot0) x) else a) none
theorem totF_nil (c : Str) : totF [] c = none := rfl
theorem totF_snoc (l : List Itm) (x : Itm) (c : Str) : totF (l ++ [x]) c = if c = x.cust then some (totA ((totF l c).getD tot0) x) else totF l c := by
  unfold totF
  rw [List.foldl_append]
  by_cases h : x.cust = c
  · simp [h]
  · simp [h, Ne.symm h]
theorem totF_spec (c : Str) : ∀ (n : Nat) (l : List Itm), l.length = n → ((totF l c).isSome = true ↔ ∃ x ∈ l, x.cust = c) ∧ ∀ t, totF l c = some t → t.cust = c ∧ 0 ≤ t.items ∧ t.items ≤ l.length ∧ 0 ≤ t.fams ∧ t.fams ≤ l.length
  | 0, l, h => by
    obtain rfl := List.eq_nil_of_length_eq_zero h
    simp [totF]
  | n + 1, l, h => by
    obtain ⟨r, x, rfl⟩ : ∃ r x, l = r ++ [x] := by
      rcases List.eq_nil_or_concat l with h1 | ⟨r, x, h1⟩
      · rw [h1] at h; cases h
      · exact ⟨r, x, by rw [h1, List.concat_eq_append]⟩
    obtain ⟨h1, h2⟩ := totF_spec c n r (by simpa using h)
    rw [totF_snoc]
    by_cases hc : c = x.cust
    · subst hc
      rw [if_pos rfl]
      refine ⟨by simp, fun t ht => ?_⟩
      injection ht with ht
      subst ht
      have h3 : 0 ≤ ((totF r x.cust).getD tot0).items ∧ ((totF r x.cust).getD tot0).items ≤ r.length ∧ 0 ≤ ((totF r x.cust).getD tot0).fams ∧ ((totF r x.cust).getD tot0).fams ≤ r.length := by
        cases hq : totF r x.cust with
        | none => simp [tot0]
        | some t => exact (h2 t hq).2
      unfold totA
      simp only [List.length_append, List.length_cons, List.length_nil]
      refine ⟨trivial, by omega, by omega, ?_, ?_⟩ <;> split <;> omega
    · rw [if_neg hc]
      refine ⟨h1.trans ?_, fun t ht => ?_⟩
      · constructor
        · rintro ⟨y, hy, he⟩; exact ⟨y, by simp [hy], he⟩
        · rintro ⟨y, hy, he⟩
          rcases List.mem_append.1 hy with hy | hy
          · exact ⟨y, hy, he⟩
          · rw [List.mem_singleton.1 hy] at he; exact absurd he.symm hc
      · have := h2 t ht
        simp only [List.length_append, List.length_cons, List.length_nil]
        refine ⟨this.1, by omega, by omega, by omega, by omega⟩
/-- The custodians, sorted. -/
def custS (l : List Itm) : List Str := (uniq (l.map (·.cust))).mergeSort fun x y => decide (x ≤ y)
/-- The totals, by custodian. -/
def totL (l : List Itm) : List Tot := (custS l).map fun c => (totF l c).getD tot0
theorem mem_custS {l : List Itm} {c : Str} : c ∈ custS l ↔ (totF l c).isSome = true := by
  rw [(totF_spec c l.length l rfl).1]
  unfold custS
  rw [List.mem_mergeSort, mem_uniq, List.mem_map]
/-- Two lists with the same members, both rising, are the same. -/
theorem perm_up_eq {α : Type} {lt : α → α → Prop} (has : ∀ a b, lt a b → lt b a → False) : ∀ {xs ys : List α}, xs.Perm ys → xs.Pairwise lt → ys.Pairwise lt → xs = ys
  | [], ys, hp, _, _ => (List.nil_perm.1 hp).symm
  | x :: xs, [], hp, _, _ => absurd (List.perm_nil.1 hp) (by simp)
  | x :: xs, y :: ys, hp, hx, hy => by
    obtain ⟨hx1, hx2⟩ := List.pairwise_cons.1 hx
    obtain ⟨hy1, hy2⟩ := List.pairwise_cons.1 hy
    have e : x = y := by
      rcases List.mem_cons.1 (hp.mem_iff.1 (by simp : x ∈ x :: xs)) with h | h
      · exact h
      · rcases List.mem_cons.1 (hp.mem_iff.2 (by simp : y ∈ y :: ys)) with h2 | h2
        · exact h2.symm
        · exact (has _ _ (hx1 _ h2) (hy1 _ h)).elim
    subst e
    rw [perm_up_eq has ((List.perm_cons _).1 hp) hx2 hy2]
theorem custS_sorted (l : List Itm) : (custS l).Pairwise (· < ·) := sorted_lt (nodup_uniq _)
theorem totL_sorted (l : List Itm) : (totL l).Pairwise fun a b => a.cust < b.cust := by
  unfold totL
  refine List.pairwise_map.2 ((custS_sorted l).imp_of_mem fun {a b} ha hb hlt => ?_)
  have h : ∀ c, c ∈ custS l → ((totF l c).getD tot0).cust = c := fun c hc => by
    have h1 := mem_custS.1 hc
    cases hq : totF l c with
    | none => rw [hq] at h1; cases h1
    | some t => exact ((totF_spec c l.length l rfl).2 t hq).1
  rw [h a ha, h b hb]
  exact hlt
/-- A list that rises and has the totals of all custodians is that list. -/
theorem totL_unique {l : List Itm} {cs : List Str} (ys : List Tot) (hp : ys.Perm (cs.map fun c => (totF l c).getD tot0)) (hcs : cs.Perm (custS l)) (hr : ys.Pairwise fun a b => a.cust < b.cust) : ys = totL l :=
  perm_up_eq (fun a b h1 h2 => List.lt_irrefl _ (List.lt_trans h1 h2)) (hp.trans (hcs.map _)) hr (totL_sorted l)

/-- The bytes of a custodian's texts. -/
theorem totF_bytes (c : Str) : ∀ (n : Nat) (l : List Itm), l.length = n → (∀ x ∈ l, x.text.length ≤ 30000) → ∀ t, totF l c = some t → 0 ≤ t.bytes ∧ t.bytes ≤ 30000 * (l.length : Int)
  | 0, l, h, _, t, ht => by
    obtain rfl := List.eq_nil_of_length_eq_zero h
    cases ht
  | n + 1, l, h, hb, t, ht => by
    obtain ⟨r, x, rfl⟩ : ∃ r x, l = r ++ [x] := by
      rcases List.eq_nil_or_concat l with h1 | ⟨r, x, h1⟩
      · rw [h1] at h; cases h
      · exact ⟨r, x, by rw [h1, List.concat_eq_append]⟩
    have hx := hb x (by simp)
    have ih := totF_bytes c n r (by simpa using h) (fun y hy => hb y (by simp [hy]))
    rw [totF_snoc] at ht
    simp only [List.length_append, List.length_cons, List.length_nil]
    by_cases hc : c = x.cust
    · subst hc
      rw [if_pos rfl] at ht
      injection ht with ht
      subst ht
      have h3 : 0 ≤ ((totF r x.cust).getD tot0).bytes ∧ ((totF r x.cust).getD tot0).bytes ≤ 30000 * (r.length : Int) := by
        cases hq : totF r x.cust with
        | none => simp only [Option.getD_none, tot0]; omega
        | some t => exact ih t hq
      unfold totA
      simp only []
      omega
    · rw [if_neg hc] at ht
      have := ih t ht
      omega

end Go.Proofs.YtbdeicbdehgeiaaGreatDoor
