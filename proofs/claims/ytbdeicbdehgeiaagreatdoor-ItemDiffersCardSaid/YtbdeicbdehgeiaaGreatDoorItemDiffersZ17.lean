/- Texts of the proof of ItemDiffers, put together: SrtP, TotP, DifP, StoP. -/
import Derived.Test.YtbdeicbdehgeiaaGreatDoorItemDiffersZ10
import Derived.Sort.OwnSorted
import Derived.Lib.SlicesCompact
/- Sorted lists of strings, without doubles: plain. -/
namespace Go.Proofs.YtbdeicbdehgeiaaGreatDoor
set_option linter.unusedVariables false
set_option linter.unusedSimpArgs false
open Go.RowKit Go.Sort

def uniq : List Str → List Str
  | [] => []
  | x :: xs => if x ∈ xs then uniq xs else x :: uniq xs
theorem mem_uniq {x : Str} : ∀ {l : List Str}, x ∈ uniq l ↔ x ∈ l
  | [] => Iff.rfl
  | y :: l => by
    unfold uniq
    split
    · rename_i h
      rw [mem_uniq]
      constructor
      · intro hx; exact List.mem_cons_of_mem _ hx
      · intro hx
        rcases List.mem_cons.1 hx with rfl | hx
        · exact h
        · exact hx
    · rw [List.mem_cons, List.mem_cons, mem_uniq]
theorem nodup_uniq : ∀ l : List Str, (uniq l).Nodup
  | [] => List.nodup_nil
  | y :: l => by
    unfold uniq
    split
    · exact nodup_uniq l
    · rename_i h
      exact List.nodup_cons.2 ⟨fun hx => h (mem_uniq.1 hx), nodup_uniq l⟩
def leQ (x y : Str) : Bool := decide (x ≤ y)
theorem leQ_trans (a b c : Str) (h1 : leQ a b = true) (h2 : leQ b c = true) : leQ a c = true := by
  simp only [leQ, decide_eq_true_eq] at *
  exact List.le_trans h1 h2
theorem leQ_total (a b : Str) : (leQ a b || leQ b a) = true := by
  simp only [leQ, Bool.or_eq_true, decide_eq_true_eq]
  exact List.le_total a b
theorem sorted_le (l : List Str) : (l.mergeSort fun x y => decide (x ≤ y)).Pairwise (· ≤ ·) := by
  have h := List.pairwise_mergeSort (le := leQ) leQ_trans leQ_total l
  have e : l.mergeSort leQ = l.mergeSort fun x y => decide (x ≤ y) := rfl
  rw [e] at h
  exact h.imp fun h => by simpa [leQ] using h
theorem lt_of {a b : Str} (h : a ≤ b) (hne : a ≠ b) : a < b := by
  by_cases h1 : a < b
  · exact h1
  · exact absurd (List.le_antisymm h (List.not_lt.1 h1)) hne
theorem sorted_lt {l : List Str} (hn : l.Nodup) : (l.mergeSort fun x y => decide (x ≤ y)).Pairwise (· < ·) := by
  have h1 := sorted_le l
  have h2 : (l.mergeSort fun x y => decide (x ≤ y)).Nodup := (List.mergeSort_perm _ _).nodup_iff.2 hn
  exact (h1.and h2).imp fun ⟨a, b⟩ => lt_of a b
theorem compactUp_sorted {zs : List Str} (h : zs.Pairwise (· ≤ ·)) : ∀ m, m ≤ zs.length → (Lib.compactUpTo zs.toArray m).Pairwise (· < ·) ∧ ∀ x, x ∈ Lib.compactUpTo zs.toArray m ↔ x ∈ zs.take m
  | 0, _ => by simp [Lib.compactUpTo]
  | m + 1, hm => by
    obtain ⟨h1, h2⟩ := compactUp_sorted h m (by omega)
    have hml : m < zs.length := by omega
    have hg : zs.toArray[m]! = zs[m] := by rw [getElem!_pos zs.toArray m (by simpa using hml)]; simp
    have hle : ∀ j (hj : j < m), zs[j] ≤ zs[m] := fun j hj => (List.pairwise_iff_getElem.1 h) j m (by omega) hml hj
    rw [Lib.compactUpTo_succ, hg, List.take_succ_eq_append_getElem hml]
    by_cases hk : Lib.keeps zs.toArray m = true
    · rw [if_pos hk]
      refine ⟨List.pairwise_append.2 ⟨h1, List.pairwise_singleton _ _, ?_⟩, fun x => ?_⟩
      · intro x hx y hy
        rw [List.mem_singleton.1 hy]
        have hx2 := (h2 x).1 hx
        obtain ⟨j, hj, rfl⟩ := List.getElem_of_mem hx2
        rw [List.getElem_take]
        have hjm : j < m := by simp at hj; omega
        refine lt_of (hle j hjm) (fun he => ?_)
        unfold Lib.keeps at hk
        simp only [decide_eq_true_eq] at hk
        rcases hk with hk | hk
        · omega
        · refine hk ?_
          have hm1 : m - 1 < zs.length := by omega
          have hg1 : zs.toArray[m - 1]! = zs[m - 1] := by rw [getElem!_pos zs.toArray (m - 1) (by simpa using hm1)]; simp
          rw [hg, hg1]
          refine List.le_antisymm ?_ (hle (m - 1) (by omega))
          rw [← he]
          rcases Nat.eq_or_lt_of_le (show j ≤ m - 1 by omega) with e | hlt
          · subst e; exact List.le_refl _
          · exact (List.pairwise_iff_getElem.1 h) j (m - 1) (by omega) hm1 hlt
      · rw [List.mem_append, List.mem_append, h2 x]
    · rw [if_neg hk, List.append_nil]
      refine ⟨h1, fun x => ?_⟩
      rw [h2 x, List.mem_append]
      constructor
      · exact .inl
      · rintro (hx | hx)
        · exact hx
        · unfold Lib.keeps at hk
          simp only [decide_eq_true_eq, not_or, Decidable.not_not] at hk
          obtain ⟨h0, he⟩ := hk
          have hm1 : m - 1 < zs.length := by omega
          have hg1 : zs.toArray[m - 1]! = zs[m - 1] := by rw [getElem!_pos zs.toArray (m - 1) (by simpa using hm1)]; simp
          rw [hg, hg1] at he
          rw [List.mem_singleton.1 hx, he]
          have : m - 1 < (zs.take m).length := by simp; omega
          have hmem := List.getElem_mem this
          rw [List.getElem_take] at hmem
          exact hmem
theorem compact_sorted {zs : List Str} (h : zs.Pairwise (· ≤ ·)) : (Lib.compact zs).Pairwise (· < ·) ∧ ∀ x, x ∈ Lib.compact zs ↔ x ∈ zs := by
  have := compactUp_sorted h zs.length (Nat.le_refl _)
  rw [List.take_length] at this
  exact this
theorem strict_unique {a b : List Str} (ha : a.Pairwise (· < ·)) (hb : b.Pairwise (· < ·)) (hm : ∀ x, x ∈ a ↔ x ∈ b) : a = b := by
  have na : a.Nodup := ha.imp fun h e => by subst e; exact List.lt_irrefl _ h
  have nb : b.Nodup := hb.imp fun h e => by subst e; exact List.lt_irrefl _ h
  refine List.Perm.eq_of_pairwise (le := fun x y => x < y) (fun x y _ _ h1 h2 => absurd (List.lt_trans h1 h2) (List.lt_irrefl _)) ha hb ((List.perm_ext_iff_of_nodup na nb).2 hm)
/-- A set's keys, sorted, are the sorted list with its doubles struck. -/
theorem compact_uniq (S : List Str) : Lib.compact (S.mergeSort fun x y => decide (x ≤ y)) = (uniq S).mergeSort fun x y => decide (x ≤ y) := by
  obtain ⟨h1, h2⟩ := compact_sorted (sorted_le S)
  refine strict_unique h1 (sorted_lt (nodup_uniq S)) (fun x => ?_)
  rw [h2 x, (List.mergeSort_perm _ _).mem_iff, (List.mergeSort_perm _ _).mem_iff, mem_uniq]

end Go.Proofs.YtbdeicbdehgeiaaGreatDoor

/- Totals: the plain law. -/
namespace Go.Proofs.YtbdeicbdehgeiaaGreatDoor
set_option linter.unusedVariables false
set_option linter.unusedSimpArgs false
open Go.RowKit

/-- What a custodian has. -/
structure Tot where
  cust : Str
  items : Int
  fams : Int
  bytes : Int
/-- One more item. -/
def totA (t : Tot) (x : Itm) : Tot := ⟨x.cust, t.items + 1, if x.par = [] then t.fams + 1 else t.fams, t.bytes + (x.text.length : Int)⟩
def tot0 : Tot := ⟨[], 0, 0, 0⟩
/-- What a custodian has of a list; none: nothing. -/
def totF (l : List Itm) (c : Str) : Option Tot := l.foldl (fun a x => if x.cust = c then some (totA (a.getD tot0) x) else a) none
theorem totF_nil (c : Str) : totF [] c = none := rfl
theorem totF_snoc (l : List Itm) (x : Itm) (c : Str) : totF (l ++ [x]) c = if c = x.cust then some (totA ((totF l c).getD tot0) x) else totF l c := by
  unfold totF
  rw [List.foldl_append]
  by_cases h : x.cust = c
  · simp [h]
  · simp [h, Ne.symm h]
theorem totF_spec (c : Str) : ∀ (n : Nat) (l : List Itm), l.length = n → ((totF l c).isSome = true ↔ ∃ x ∈ l, x.cust = c) ∧ ∀ t, totF l c = some t → t.cust = c ∧ 0 ≤ t.items ∧ t.items ≤ l.length ∧ 0 ≤ t.fams ∧ t.fams ≤ l.length
  | 0, l, h => by
    obtain rfl := List.eq_nil_of_length_eq_zero h
    simp [totF]
  | n + 1, l, h => by
    obtain ⟨r, x, rfl⟩ : ∃ r x, l = r ++ [x] := by
      rcases List.eq_nil_or_concat l with h1 | ⟨r, x, h1⟩
      · rw [h1] at h; cases h
      · exact ⟨r, x, by rw [h1, List.concat_eq_append]⟩
    obtain ⟨h1, h2⟩ := totF_spec c n r (by simpa using h)
    rw [totF_snoc]
    by_cases hc : c = x.cust
    · subst hc
      rw [if_pos rfl]
      refine ⟨by simp, fun t ht => ?_⟩
      injection ht with ht
      subst ht
      have h3 : 0 ≤ ((totF r x.cust).getD tot0).items ∧ ((totF r x.cust).getD tot0).items ≤ r.length ∧ 0 ≤ ((totF r x.cust).getD tot0).fams ∧ ((totF r x.cust).getD tot0).fams ≤ r.length := by
        cases hq : totF r x.cust with
        | none => simp [tot0]
        | some t => exact (h2 t hq).2
      unfold totA
      simp only [List.length_append, List.length_cons, List.length_nil]
      refine ⟨trivial, by omega, by omega, ?_, ?_⟩ <;> split <;> omega
    · rw [if_neg hc]
      refine ⟨h1.trans ?_, fun t ht => ?_⟩
      · constructor
        · rintro ⟨y, hy, he⟩; exact ⟨y, by simp [hy], he⟩
        · rintro ⟨y, hy, he⟩
          rcases List.mem_append.1 hy with hy | hy
          · exact ⟨y, hy, he⟩
          · rw [List.mem_singleton.1 hy] at he; exact absurd he.symm hc
      · have := h2 t ht
        simp only [List.length_append, List.length_cons, List.length_nil]
        refine ⟨this.1, by omega, by omega, by omega, by omega⟩
/-- The custodians, sorted. -/
def custS (l : List Itm) : List Str := (uniq (l.map (·.cust))).mergeSort fun x y => decide (x ≤ y)
/-- The totals, by custodian. -/
def totL (l : List Itm) : List Tot := (custS l).map fun c => (totF l c).getD tot0
theorem mem_custS {l : List Itm} {c : Str} : c ∈ custS l ↔ (totF l c).isSome = true := by
  rw [(totF_spec c l.length l rfl).1]
  unfold custS
  rw [List.mem_mergeSort, mem_uniq, List.mem_map]
/-- Two lists with the same members, both rising, are the same. -/
theorem perm_up_eq {α : Type} {lt : α → α → Prop} (has : ∀ a b, lt a b → lt b a → False) : ∀ {xs ys : List α}, xs.Perm ys → xs.Pairwise lt → ys.Pairwise lt → xs = ys
  | [], ys, hp, _, _ => (List.nil_perm.1 hp).symm
  | x :: xs, [], hp, _, _ => absurd (List.perm_nil.1 hp) (by simp)
  | x :: xs, y :: ys, hp, hx, hy => by
    obtain ⟨hx1, hx2⟩ := List.pairwise_cons.1 hx
    obtain ⟨hy1, hy2⟩ := List.pairwise_cons.1 hy
    have e : x = y := by
      rcases List.mem_cons.1 (hp.mem_iff.1 (by simp : x ∈ x :: xs)) with h | h
      · exact h
      · rcases List.mem_cons.1 (hp.mem_iff.2 (by simp : y ∈ y :: ys)) with h2 | h2
        · exact h2.symm
        · exact (has _ _ (hx1 _ h2) (hy1 _ h)).elim
    subst e
    rw [perm_up_eq has ((List.perm_cons _).1 hp) hx2 hy2]
theorem custS_sorted (l : List Itm) : (custS l).Pairwise (· < ·) := sorted_lt (nodup_uniq _)
theorem totL_sorted (l : List Itm) : (totL l).Pairwise fun a b => a.cust < b.cust := by
  unfold totL
  refine List.pairwise_map.2 ((custS_sorted l).imp_of_mem fun {a b} ha hb hlt => ?_)
  have h : ∀ c, c ∈ custS l → ((totF l c).getD tot0).cust = c := fun c hc => by
    have h1 := mem_custS.1 hc
    cases hq : totF l c with
    | none => rw [hq] at h1; cases h1
    | some t => exact ((totF_spec c l.length l rfl).2 t hq).1
  rw [h a ha, h b hb]
  exact hlt
/-- A list that rises and has the totals of all custodians is that list. -/
theorem totL_unique {l : List Itm} {cs : List Str} (ys : List Tot) (hp : ys.Perm (cs.map fun c => (totF l c).getD tot0)) (hcs : cs.Perm (custS l)) (hr : ys.Pairwise fun a b => a.cust < b.cust) : ys = totL l :=
  perm_up_eq (fun a b h1 h2 => List.lt_irrefl _ (List.lt_trans h1 h2)) (hp.trans (hcs.map _)) hr (totL_sorted l)

/-- The bytes of a custodian's texts. -/
theorem totF_bytes (c : Str) : ∀ (n : Nat) (l : List Itm), l.length = n → (∀ x ∈ l, x.text.length ≤ 30000) → ∀ t, totF l c = some t → 0 ≤ t.bytes ∧ t.bytes ≤ 30000 * (l.length : Int)
  | 0, l, h, _, t, ht => by
    obtain rfl := List.eq_nil_of_length_eq_zero h
    cases ht
  | n + 1, l, h, hb, t, ht => by
    obtain ⟨r, x, rfl⟩ : ∃ r x, l = r ++ [x] := by
      rcases List.eq_nil_or_concat l with h1 | ⟨r, x, h1⟩
      · rw [h1] at h; cases h
      · exact ⟨r, x, by rw [h1, List.concat_eq_append]⟩
    have hx := hb x (by simp)
    have ih := totF_bytes c n r (by simpa using h) (fun y hy => hb y (by simp [hy]))
    rw [totF_snoc] at ht
    simp only [List.length_append, List.length_cons, List.length_nil]
    by_cases hc : c = x.cust
    · subst hc
      rw [if_pos rfl] at ht
      injection ht with ht
      subst ht
      have h3 : 0 ≤ ((totF r x.cust).getD tot0).bytes ∧ ((totF r x.cust).getD tot0).bytes ≤ 30000 * (r.length : Int) := by
        cases hq : totF r x.cust with
        | none => simp only [Option.getD_none, tot0]; omega
        | some t => exact ih t hq
      unfold totA
      simp only []
      omega
    · rw [if_neg hc] at ht
      have := ih t ht
      omega

end Go.Proofs.YtbdeicbdehgeiaaGreatDoor

/- Differ: the plain law. -/
namespace Go.Proofs.YtbdeicbdehgeiaaGreatDoor
set_option linter.unusedVariables false
set_option linter.unusedSimpArgs false
open Go.RowKit

theorem plc_no : ∀ {l : List Itm} {s : Str}, plc l s = none → ∀ x ∈ l, x.id ≠ s
  | [], s, _, x, hx => by cases hx
  | y :: l, s, h, x, hx => by
    unfold plc at h
    split at h
    · cases h
    · rename_i h1
      rcases List.mem_cons.1 hx with rfl | hx
      · exact h1
      · exact plc_no (by simpa using h) x hx
/-- The item with an id. -/
def atS (l : List Itm) (s : Str) : Option Itm := (plc l s).bind fun k => l[k]?
theorem atS_none {l : List Itm} {s : Str} : atS l s = none ↔ ∀ x ∈ l, x.id ≠ s := by
  unfold atS
  cases h : plc l s with
  | none =>
    simp only [Option.bind_none, true_iff]
    intro x hx he
    exact plc_no h x hx he
  | some k =>
    obtain ⟨hk, he⟩ := plc_lt l s k h
    simp only [Option.bind_some, List.getElem?_eq_getElem hk, reduceCtorEq, false_iff]
    intro h2
    exact h2 _ (List.getElem_mem hk) he
theorem atS_mem {l : List Itm} {s : Str} {x : Itm} (h : atS l s = some x) : x ∈ l ∧ x.id = s := by
  unfold atS at h
  cases h1 : plc l s with
  | none => rw [h1] at h; cases h
  | some k =>
    obtain ⟨hk, he⟩ := plc_lt l s k h1
    rw [h1, Option.bind_some, List.getElem?_eq_getElem hk] at h
    injection h with h
    exact ⟨h ▸ List.getElem_mem hk, h ▸ he⟩
theorem atS_self {l : List Itm} (hd : l.Pairwise fun x y => x.id ≠ y.id) {x : Itm} (hx : x ∈ l) : atS l x.id = some x := by
  obtain ⟨k, hk, rfl⟩ := List.getElem_of_mem hx
  unfold atS
  rw [plc_self hd k hk, Option.bind_some, List.getElem?_eq_getElem hk]
/-- A change. -/
structure Chg where
  id : Str
  what : Int
/-- What has changed at an id. -/
def difF (a b : List Itm) (s : Str) : Option Int := match atS a s, atS b s with
  | none, none => none
  | none, some _ => some 1
  | some _, none => some 2
  | some x, some y => if x.text ≠ y.text then some 3 else if itEq x y = false then some 4 else none
def difG (a b : List Itm) (s : Str) : Option Chg := (difF a b s).map fun z => ⟨s, z⟩
def allS (a b : List Itm) : List Str := (uniq ((a ++ b).map (·.id))).mergeSort fun x y => decide (x ≤ y)
/-- The changes, by id. -/
def difL (a b : List Itm) : List Chg := (allS a b).filterMap (difG a b)
theorem mem_allS {a b : List Itm} {s : Str} : s ∈ allS a b ↔ ∃ x ∈ a ++ b, x.id = s := by
  unfold allS
  rw [List.mem_mergeSort, mem_uniq, List.mem_map]
theorem difG_id {a b : List Itm} {s : Str} {c : Chg} (h : difG a b s = some c) : c.id = s := by
  unfold difG at h
  cases hq : difF a b s with
  | none => rw [hq] at h; cases h
  | some z =>
    rw [hq] at h
    injection h with h
    rw [← h]
theorem difL_sorted (a b : List Itm) : (difL a b).Pairwise fun x y => x.id < y.id := by
  unfold difL
  refine List.pairwise_filterMap.2 ((sorted_lt (nodup_uniq _)).imp fun {s t} hst c hc d hd => ?_)
  rw [difG_id hc, difG_id hd]
  exact hst
/-- The other way: first what is gone or has changed, then what is new. -/
def difU (a b : List Itm) : List Chg := (a.filterMap fun x => difG a b x.id) ++ (b.filterMap fun x => if atS a x.id = none then some ⟨x.id, 1⟩ else none)
theorem mem_difL {a b : List Itm} {c : Chg} : c ∈ difL a b ↔ difF a b c.id = some c.what := by
  unfold difL
  rw [List.mem_filterMap]
  constructor
  · rintro ⟨s, _, h⟩
    obtain rfl := difG_id h
    unfold difG at h
    cases hq : difF a b c.id with
    | none => rw [hq] at h; cases h
    | some z =>
      rw [hq] at h
      injection h with h
      rw [← h]
  · intro h
    refine ⟨c.id, mem_allS.2 ?_, by unfold difG; rw [h]; rfl⟩
    unfold difF at h
    cases h1 : atS a c.id with
    | some x => exact ⟨x, List.mem_append_left _ (atS_mem h1).1, (atS_mem h1).2⟩
    | none =>
      cases h2 : atS b c.id with
      | some x => exact ⟨x, List.mem_append_right _ (atS_mem h2).1, (atS_mem h2).2⟩
      | none => rw [h1, h2] at h; cases h
theorem mem_difU {a b : List Itm} {c : Chg} : c ∈ difU a b ↔ difF a b c.id = some c.what := by
  unfold difU
  rw [List.mem_append, List.mem_filterMap, List.mem_filterMap]
  constructor
  · rintro (⟨x, hx, h⟩ | ⟨x, hx, h⟩)
    · obtain h1 := difG_id h
      rw [← h1] at h
      unfold difG at h
      cases hq : difF a b c.id with
      | none => rw [hq] at h; cases h
      | some z =>
        rw [hq] at h
        injection h with h
        rw [← h]
    · split at h
      · rename_i h0
        injection h with h
        subst h
        unfold difF
        rw [h0]
        cases h2 : atS b x.id with
        | none => exact absurd rfl (atS_none.1 h2 x hx)
        | some y => rfl
      · cases h
  · intro h
    cases h1 : atS a c.id with
    | some x =>
      refine .inl ⟨x, (atS_mem h1).1, ?_⟩
      rw [(atS_mem h1).2]
      unfold difG
      rw [h]
      rfl
    | none =>
      refine .inr ?_
      unfold difF at h
      rw [h1] at h
      cases h2 : atS b c.id with
      | none => rw [h2] at h; cases h
      | some y =>
        rw [h2] at h
        injection h with h
        refine ⟨y, (atS_mem h2).1, ?_⟩
        rw [(atS_mem h2).2, if_pos h1, h]
/-- A list that rises and has the same changes is that list. -/
theorem difL_unique {a b : List Itm} (ys : List Chg) (hm : ∀ c, c ∈ ys ↔ c ∈ difU a b) (hr : ys.Pairwise fun x y => x.id < y.id) : ys = difL a b := by
  have has : ∀ x y : Chg, x.id < y.id → y.id < x.id → False := fun x y h1 h2 => List.lt_irrefl _ (List.lt_trans h1 h2)
  have nd : ∀ {zs : List Chg}, (zs.Pairwise fun x y => x.id < y.id) → zs.Nodup := fun h => h.imp fun {x y} h1 h2 => by subst h2; exact List.lt_irrefl _ h1
  refine perm_up_eq has ((List.perm_ext_iff_of_nodup (nd hr) (nd (difL_sorted a b))).2 fun c => ?_) hr (difL_sorted a b)
  rw [hm, mem_difU, mem_difL]

end Go.Proofs.YtbdeicbdehgeiaaGreatDoor

/- Stores: the plain law. -/
namespace Go.Proofs.YtbdeicbdehgeiaaGreatDoor
set_option linter.unusedVariables false
set_option linter.unusedSimpArgs false
open Go.RowKit

/-- The errors of the items of a store together. -/
def storeE (l : List Itm) : Int := if (List.range l.length).any (lpB l) then 14 else if l.any (ruleB l) then 16 else if (List.range l.length).any (fun i => decide (4 < (chn l l.length i).length)) then 2 else 0
theorem fnd_atS : fnd = atS := rfl
def Dst (l : List Itm) : Prop := l.Pairwise fun x y => x.id ≠ y.id
theorem fnd_iff {l : List Itm} (hd : Dst l) {s : Str} {x : Itm} : fnd l s = some x ↔ x ∈ l ∧ x.id = s :=
  ⟨fun h => atS_mem h, fun ⟨h, e⟩ => by rw [← e]; exact atS_self hd h⟩
theorem Dst.perm {l m : List Itm} (h : Dst l) (hp : m.Perm l) : Dst m := (hp.pairwise_iff (fun {_ _} hne => Ne.symm hne)).2 h
theorem Dst.ids {l : List Itm} (h : Dst l) : (l.map (·.id)).Nodup := List.pairwise_map.2 h
theorem fnd_perm {l m : List Itm} (h : Dst l) (hp : m.Perm l) (s : Str) : fnd m s = fnd l s := by
  cases hl : fnd l s with
  | none =>
    rw [fnd_atS] at hl ⊢
    rw [atS_none] at hl ⊢
    exact fun x hx => hl x (hp.mem_iff.1 hx)
  | some x =>
    obtain ⟨h1, h2⟩ := (fnd_iff h).1 hl
    exact (fnd_iff (h.perm hp)).2 ⟨hp.mem_iff.2 h1, h2⟩
theorem byF_perm {l m : List Itm} (h : Dst l) (hp : m.Perm l) : byF m = byF l := by
  funext s
  unfold byF
  rw [fnd_perm h hp]
theorem byF_some {l : List Itm} (h : Dst l) {s : Str} {v : Value} : byF l s = some v ↔ ∃ x ∈ l, x.id = s ∧ v = itA x := by
  unfold byF
  constructor
  · intro hv
    cases hf : fnd l s with
    | none => rw [hf] at hv; cases hv
    | some x =>
      rw [hf] at hv
      obtain ⟨h1, h2⟩ := (fnd_iff h).1 hf
      exact ⟨x, h1, h2, by simpa using hv.symm⟩
  · rintro ⟨x, hx, he, rfl⟩
    rw [(fnd_iff h).2 ⟨hx, he⟩]
    rfl
theorem byF_has {l : List Itm} (h : Dst l) {s : Str} : (byF l s).isSome = true ↔ s ∈ l.map (·.id) := by
  rw [Option.isSome_iff_exists, List.mem_map]
  constructor
  · rintro ⟨v, hv⟩
    obtain ⟨x, hx, he, _⟩ := (byF_some h).1 hv
    exact ⟨x, hx, he⟩
  · rintro ⟨x, hx, he⟩
    exact ⟨itA x, (byF_some h).2 ⟨x, hx, he, rfl⟩⟩
/-- Rising by their ids. -/
def Rise (l : List Itm) : Prop := l.Pairwise fun x y => x.id < y.id
theorem Rise.dst {l : List Itm} (h : Rise l) : Dst l := h.imp fun h e => by rw [e] at h; exact List.lt_irrefl _ h
theorem rise_unique {l m : List Itm} (hl : Rise l) (hm : Rise m) (h : ∀ x, x ∈ l ↔ x ∈ m) : l = m := by
  have nl : l.Nodup := hl.imp fun h e => by subst e; exact List.lt_irrefl _ h
  have nm : m.Nodup := hm.imp fun h e => by subst e; exact List.lt_irrefl _ h
  exact perm_up_eq (lt := fun x y : Itm => x.id < y.id) (fun a b h1 h2 => List.lt_irrefl _ (List.lt_trans h1 h2)) ((List.perm_ext_iff_of_nodup nl nm).2 h) hl hm
/-- An item that excludes one of a list. -/
def clash (l : List Itm) (z : Itm) : Bool := match fnd l z.id with
  | none => false
  | some x => !itEq x z
def isNew (l : List Itm) (z : Itm) : Bool := (fnd l z.id).isNone
/-- The items of a list that a store has not. -/
def newsI (l zs : List Itm) : List Itm := zs.filter (isNew l)
theorem newsI_snoc (l zs : List Itm) (z : Itm) : newsI l (zs ++ [z]) = if isNew l z = true then newsI l zs ++ [z] else newsI l zs := by
  unfold newsI
  rw [List.filter_append]
  by_cases h : isNew l z = true <;> simp [h]
theorem isNew_iff {l : List Itm} {z : Itm} : isNew l z = true ↔ ∀ x ∈ l, x.id ≠ z.id := by
  unfold isNew
  rw [Option.isNone_iff_eq_none, fnd_atS, atS_none]
theorem fnd_append (l m : List Itm) (s : Str) : fnd (l ++ m) s = (fnd l s).or (fnd m s) := by
  induction l with
  | nil => simp [fnd_nil]
  | cons x l ih =>
    rw [List.cons_append, fnd_cons, fnd_cons, ih]
    by_cases h : x.id = s <;> simp [h]
/-- The items with more of them: their ids are different, if those of each list are. -/
theorem dst_news {l zs : List Itm} (hl : Dst l) (hz : Dst zs) : Dst (l ++ newsI l zs) := by
  refine List.pairwise_append.2 ⟨hl, hz.sublist List.filter_sublist, fun x hx z hz he => ?_⟩
  have := (List.mem_filter.1 hz).2
  exact isNew_iff.1 this x hx he
theorem newsI_take {l zs : List Itm} {k : Nat} (h : k < zs.length) : newsI l (zs.take (k + 1)) = if isNew l zs[k] = true then newsI l (zs.take k) ++ [zs[k]] else newsI l (zs.take k) := by
  rw [List.take_succ_eq_append_getElem h, newsI_snoc]
/-- What is found among the items and the news so far. -/
theorem fnd_news {l zs : List Itm} (hz : Dst zs) {k : Nat} (h : k < zs.length) : fnd (l ++ newsI l (zs.take k)) zs[k].id = fnd l zs[k].id := by
  rw [fnd_append]
  have : fnd (newsI l (zs.take k)) zs[k].id = none := by
    rw [fnd_atS, atS_none]
    intro x hx he
    have h1 := (List.mem_filter.1 hx).1
    obtain ⟨j, hj, rfl⟩ := List.getElem_of_mem h1
    rw [List.getElem_take] at he
    have hjk : j < k := by simp at hj; omega
    exact (List.pairwise_iff_getElem.1 hz) j k (by omega) h hjk he
  rw [this]
  simp
theorem byF_snoc {l : List Itm} {z : Itm} (h : ∀ x ∈ l, x.id ≠ z.id) : byF (l ++ [z]) = fun s => if s = z.id then some (itA z) else byF l s := by
  funext s
  unfold byF
  rw [fnd_append, fnd_cons, fnd_nil]
  by_cases hs : s = z.id
  · subst hs
    have : fnd l z.id = none := by rw [fnd_atS, atS_none]; exact h
    simp [this]
  · rw [if_neg (Ne.symm hs), if_neg hs]
    simp
/-- The error of the first item that excludes another one; 0: none. -/
def clashE (l zs : List Itm) : Int := if zs.any (clash l) then 13 else 0
theorem clash_old {l : List Itm} {z x : Itm} (h : fnd l z.id = some x) : clash l z = !itEq x z ∧ isNew l z = false := by
  unfold clash isNew
  rw [h]
  exact ⟨rfl, rfl⟩
theorem clash_new {l : List Itm} {z : Itm} (h : fnd l z.id = none) : clash l z = false ∧ isNew l z = true := by
  unfold clash isNew
  rw [h]
  exact ⟨rfl, rfl⟩
/-- The end of the way above item i. -/
def endI (l : List Itm) (i : Nat) : Nat := (chn l l.length i).getLast?.getD i
/-- All items above item i are there. -/
def cplB (l : List Itm) (i : Nat) : Bool := match l[endI l i]? with
  | none => true
  | some x => decide (x.par = [])
/-- The items that are complete, or those that are not. -/
def selC (l : List Itm) (want : Bool) (k : Nat) : List Itm := ((List.range k).filter fun i => cplB l i == want).filterMap fun i => l[i]?
theorem selC_zero (l : List Itm) (want : Bool) : selC l want 0 = [] := rfl
theorem selC_succ {l : List Itm} {want : Bool} {k : Nat} (h : k < l.length) : selC l want (k + 1) = if cplB l k = want then selC l want k ++ [l[k]] else selC l want k := by
  unfold selC
  rw [List.range_succ, List.filter_append, List.filterMap_append]
  by_cases hc : cplB l k = want
  · simp [hc, h]
  · have : (cplB l k == want) = false := by simpa using hc
    simp [hc, this]
theorem selC_mem {l : List Itm} {want : Bool} {k : Nat} {x : Itm} : x ∈ selC l want k ↔ ∃ i, i < k ∧ cplB l i = want ∧ l[i]? = some x := by
  unfold selC
  simp [List.mem_filterMap, and_assoc]
theorem selC_sub (l : List Itm) (want : Bool) : ∀ k, k ≤ l.length → (selC l want k).Sublist (l.take k)
  | 0, _ => by simp [selC_zero]
  | k + 1, h => by
    rw [selC_succ (by omega), List.take_succ_eq_append_getElem (by omega)]
    split
    · exact (selC_sub l want k (by omega)).append (List.Sublist.refl _)
    · exact (selC_sub l want k (by omega)).trans (List.sublist_append_left _ _)
theorem selC_rise {l : List Itm} (h : Rise l) (want : Bool) : Rise (selC l want l.length) := by
  have := selC_sub l want l.length (Nat.le_refl _)
  rw [List.take_length] at this
  exact List.Pairwise.sublist this h
theorem selC_len (l : List Itm) (want : Bool) {k : Nat} (h : k ≤ l.length) : (selC l want k).length ≤ k := by
  have := (selC_sub l want k h).length_le
  simp at this
  omega
/-- A rising list of the items that are wanted is that list. -/
theorem selC_unique {l : List Itm} (hl : Rise l) {want : Bool} {ys : List Itm} (hy : Rise ys) (hm : ∀ x, x ∈ ys ↔ ∃ i, ∃ h : i < l.length, x = l[i] ∧ cplB l i = want) : ys = selC l want l.length := by
  refine rise_unique hy (selC_rise hl want) (fun x => ?_)
  rw [hm, selC_mem]
  constructor
  · rintro ⟨i, h, rfl, hc⟩
    exact ⟨i, h, hc, List.getElem?_eq_getElem h⟩
  · rintro ⟨i, h, hc, he⟩
    rw [List.getElem?_eq_getElem h] at he
    injection he with he
    exact ⟨i, h, he.symm, hc⟩
theorem any_false_iff {α : Type} {p : α → Bool} {l : List α} : l.any p = false ↔ ∀ x ∈ l, p x = false := by simp
/-- An item's number, by its id. -/
theorem num_of {l : List Itm} {x : Itm} (h : x ∈ l) : ∃ i, ∃ hi : i < l.length, l[i] = x := List.getElem_of_mem h

end Go.Proofs.YtbdeicbdehgeiaaGreatDoor
