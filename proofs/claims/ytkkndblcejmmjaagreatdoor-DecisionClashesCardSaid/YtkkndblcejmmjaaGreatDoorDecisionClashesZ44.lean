/- Texts of the proof of DecisionClashes, put together: SrtQ, ClaT, ClaU, ClaS, ClaV, LawDecisionClashes. -/
import Derived.Test.YtkkndblcejmmjaaGreatDoorDecisionClashesZ7
import Derived.Test.YtkkndblcejmmjaaGreatDoorDecisionClashesZ10
import Derived.Test.YtkkndblcejmmjaaGreatDoorDecisionClashesZ11
import Derived.Test.YtkkndblcejmmjaaGreatDoorDecisionClashesZ14
import Derived.Test.YtkkndblcejmmjaaGreatDoorDecisionClashesZ16
import Derived.Test.YtkkndblcejmmjaaGreatDoorDecisionClashesZ17
import Derived.Test.YtkkndblcejmmjaaGreatDoorDecisionClashesZ27
import Derived.Test.YtkkndblcejmmjaaGreatDoorDecisionClashesZ37
import Derived.Test.YtkkndblcejmmjaaGreatDoorDecisionClashesZ39
import Derived.Test.YtkkndblcejmmjaaGreatDoorDecisionClashesZ43
import Derived.Great.Walk
import Derived.Shelf.SlSortCmp.WholeK
import Derived.Sort.OwnSorted
import Derived.Shelf.SlicesQ.Equal
import Derived.Shelf.Small.Strs
import Derived.Shelf.Small.Bits
import Derived.Laws.StructEq
/- slices.SortFunc over rows of structs: between the shelf's words and mine. -/
namespace Go.Proofs.YtkkndblcejmmjaaGreatDoor
set_option linter.unusedVariables false
set_option linter.unusedSimpArgs false
open Go.RowKit Go.Sort Go.Shelf

section
variable {α : Type} {enc : α → List Value} {k : Nat}
theorem flatK_len (hk : ∀ x, (enc x).length = k) : ∀ xs : List α, (xs.flatMap enc).length = xs.length * k
 | [] => by simp
 | x :: xs => by
  rw [List.flatMap_cons, List.length_append, hk, flatK_len hk xs, List.length_cons, Nat.add_mul]
  omega
theorem own_lenK {w : World} {base g n cap : Nat} {e : TypeId} {v : Value} {xs : List α} (hk : ∀ x, (enc x).length = k) (h0 : 0 < k) (h : w.ownsRow base e k v n (xs.flatMap enc)) : n = xs.length := by
 have h1 := h.1
 rw [flatK_len hk] at h1
 exact (Nat.eq_of_mul_eq_mul_right h0 h1).symm
variable [Inhabited α]
theorem flatK_at (hk : ∀ x, (enc x).length = k) (h0 : 0 < k) : ∀ (xs : List α) (t : Nat), t < xs.length * k → (xs.flatMap enc)[t]? = some (enc xs[t / k]!)[t % k]!
 | [], t, h => by simp at h
 | x :: xs, t, h => by
  rw [List.flatMap_cons]
  by_cases ht : t < k
  ·rw [List.getElem?_append_left (by rw [hk]; exact ht), Nat.div_eq_of_lt ht, Nat.mod_eq_of_lt ht]
   have : t < (enc x).length := by rw [hk]; exact ht
   simp [this]
  ·obtain ⟨s, rfl⟩ : ∃ s, t = s + k := ⟨t - k, by omega⟩
   rw [List.getElem?_append_right (by rw [hk]; omega), hk, Nat.add_sub_cancel, Nat.add_div_right _ h0, Nat.add_mod_right]
   have hs : s < xs.length * k := by rw [List.length_cons, Nat.add_mul] at h; omega
   rw [flatK_at hk h0 xs s hs]
   simp
theorem holdsK_own {w : World} {base g n cap : Nat} {e : TypeId} {xs : List α} (hk : ∀ x, (enc x).length = k) (h0 : 0 < k) (h : w.ownsRow base e k (.slice (some ⟨g, 0, none⟩) n cap) n (xs.flatMap enc)) : HoldsK enc k w g 0 xs.toArray := by
 have hn := own_lenK (g := g) (cap := cap) hk h0 h
 subst hn
 intro j hj
 rw [size_flatK] at hj
 have hj' : j < xs.length * k := by simpa using hj
 rw [Nat.zero_add]
 refine ⟨?_, h.frozenAt j⟩
 rw [h.cellAt j hj', flatK_at hk h0 xs j hj', get_flatK _ _ _ _ hj]
 simp
theorem flatK_list (hk : ∀ x, (enc x).length = k) (h0 : 0 < k) (xs : List α) : (flatK enc k xs.toArray).toList = xs.flatMap enc := by
 apply List.ext_getElem?
 intro t
 by_cases ht : t < xs.length * k
 ·rw [flatK_at hk h0 xs t ht]
  have h1 : t < (flatK enc k xs.toArray).size := by rw [size_flatK]; simpa using ht
  rw [Array.getElem?_toList, Array.getElem?_eq_getElem h1, ← getElem!_pos _ t h1, get_flatK _ _ _ _ (by simpa using ht)]
  simp
 ·rw [List.getElem?_eq_none (by simp; omega), List.getElem?_eq_none (by rw [flatK_len hk]; omega)]
theorem takeK (cur F : Array Value) (h : F.size ≤ cur.size) : (putCells id 0 F cur).toList.take F.size = F.toList := by
 apply List.ext_getElem?
 intro j
 by_cases hj : j < F.size
 ·rw [List.getElem?_take_of_lt hj, Array.getElem?_toList]
  simp [putCells, hj, show j < cur.size by omega]
 ·rw [List.getElem?_take_eq_none (by omega), List.getElem?_eq_none (by simp; omega)]
theorem own_sortedK {w : World} {base g n cap m : Nat} {e : TypeId} {os : Array Obj} {xs ys : List α} (hk : ∀ x, (enc x).length = k) (h0 : 0 < k) (h : w.ownsRow base e k (.slice (some ⟨g, 0, none⟩) n cap) n (xs.flatMap enc)) (hl : ys.length = xs.length) :
  (sortWorldK enc k w g 0 m ys.toArray os).ownsRow base e k (.slice (some ⟨g, 0, none⟩) n cap) n (ys.flatMap enc) ∧ Mod (· = g) w (sortWorldK enc k w g 0 m ys.toArray os) := by
 have hn := own_lenK (g := g) (cap := cap) hk h0 h
 subst hn
 rcases h.2 with ⟨h1, _⟩ | ⟨g', cap', cur, hv, hb, hg, h1, h2, h3, h4⟩
 ·cases h1
 cases hv
 have hgl : g < w.heap.size := (Array.getElem?_eq_some_iff.1 hg).1
 have hF : (flatK enc k ys.toArray).size = xs.length * k := by rw [size_flatK]; simp [hl]
 have hcap : xs.length * k ≤ cap * k := Nat.mul_le_mul_right k h1
 refine ⟨⟨by rw [flatK_len hk, hl], .inr ⟨g, cap, putCells id 0 (flatK enc k ys.toArray) cur, rfl, hb, ?_, h1, h2, by simp [putCells, h3], ?_⟩⟩, ?_⟩
 ·unfold sortWorldK putRowK
  rw [heap_grow_old _ _ (by simpa using hgl)]
  simp [putRow, mapBlock, Sort.ahead, Array.getElem?_modify, hg, onCells]
 ·have := takeK cur (flatK enc k ys.toArray) (by rw [hF, h3]; exact hcap)
  rw [hF, flatK_list hk h0] at this
  exact this
 ·unfold sortWorldK putRowK
  refine ⟨rfl, rfl, rfl, by simp, fun j hj hne => ?_⟩
  rw [heap_grow_old _ _ (by simpa using hj)]
  have : g ≠ j := fun e => hne e.symm
  simp [putRow, mapBlock, Sort.ahead, Array.getElem?_modify, this]
end
def NonePost (w : World) (e : Ending) (w' : World) : Prop := e = .returned (.tuple #[]) ∧ Pure w w'
/-- A comparison that may make memory of its own. -/
def GrowPost (w : World) (c : Int) (e : Ending) (w' : World) : Prop := e = .returned (.int .i64 c) ∧ ∃ q os, w' = grow (w.drewN q) os
/-- The order of comparisons of strings. -/
theorem compareBytes_lt : ∀ a b : Str, (Lib.compareBytes a b < 0 ↔ a < b)
 | [], [] => by simp [Lib.compareBytes]
 | [], b :: s => by simp [Lib.compareBytes]
 | a :: r, [] => by simp [Lib.compareBytes]
 | a :: r, b :: s => by
  unfold Lib.compareBytes
  rw [List.cons_lt_cons_iff]
  by_cases h1 : a < b
  ·rw [if_pos h1]
   simp [h1]
  ·rw [if_neg h1]
   by_cases h2 : b < a
   ·rw [if_pos h2]
    have h3 : a ≠ b := fun e => by subst e; exact h1 h2
    simp [h1, h3]
   ·rw [if_neg h2, compareBytes_lt r s]
    have h3 : a = b := by
     have := UInt8.le_antisymm (UInt8.not_lt.1 h2) (UInt8.not_lt.1 h1)
     exact this
    simp [h3]
/-- Comparing by a string. -/
def cfBy {α : Type} (key : α → Str) (x y : α) : Int := Lib.compareBytes (key x) (key y)
theorem ltBy {α : Type} (key : α → Str) (x y : α) : ltOf (cfBy key) x y = decide (key x < key y) := by
 unfold ltOf cfBy
 rw [Bool.eq_iff_iff]
 simpa using compareBytes_lt (key x) (key y)
theorem swoBy {α : Type} [Inhabited α] (key : α → Str) : SWO (ltOf (cfBy key)) where
 irrefl x := by rw [ltBy]; simp
 trans x y z h1 h2 := by
  rw [ltBy] at *
  simp only [decide_eq_true_eq] at *
  exact List.lt_trans h1 h2
 ntrans x y z h1 h2 := by
  rw [ltBy] at *
  simp only [decide_eq_false_iff_not, List.not_lt] at *
  exact List.le_trans h2 h1
/-- Sorted by a key that parts them: rising. -/
theorem sortedIn_lt {α : Type} [Inhabited α] (key : α → Str) {xs : List α} {d : Array α} (hp : PermIn 0 xs.length xs.toArray d) (hs : SortedIn (ltOf (cfBy key)) 0 xs.length d) (hd : (xs.map key).Nodup) : d.toList.Perm xs ∧ d.toList.Pairwise fun a b => key a < key b := by
 obtain ⟨hz, _, hp2⟩ := hp
 have hz' : d.size = xs.length := by simpa using hz
 have e1 : (d.extract 0 xs.length).toList = d.toList := by rw [← hz', Array.extract_size]
 have e2 : (xs.toArray.extract 0 xs.length).toList = xs := by
  have := Array.extract_size (xs := xs.toArray)
  simp at this ⊢
 rw [e1, e2] at hp2
 refine ⟨hp2, ?_⟩
 have hd2 : (d.toList.map key).Nodup := (hp2.map key).nodup_iff.2 hd
 rw [List.pairwise_iff_getElem]
 intro i j hi hj hij
 have hi' : i < d.size := by simpa using hi
 have hj' : j < d.size := by simpa using hj
 have h := hs i j (Nat.zero_le _) hij (by omega)
 rw [getElem!_pos d j hj', getElem!_pos d i hi', ltBy] at h
 simp only [decide_eq_false_iff_not, List.not_lt] at h
 have hne : key d.toList[i] ≠ key d.toList[j] := by
  have := (List.pairwise_iff_getElem.1 hd2) i j (by simpa using hi) (by simpa using hj) hij
  simpa using this
 exact Decidable.byContradiction fun hlt => hne (List.le_antisymm (by simpa using h) (List.not_lt.1 hlt))

end Go.Proofs.YtkkndblcejmmjaaGreatDoor

/- Scores: plain law; rows of clashes and scores: ==, slices.Equal, slices.SortFunc. -/
namespace Go.Proofs.YtkkndblcejmmjaaGreatDoor
set_option linter.unusedVariables false
set_option linter.unusedSimpArgs false
open Go.RowKit Go.Sort Go.Shelf
attribute [local go_sem ↓] Go.wp_at_zero Go.wp_at_succ

/-- What a reviewer scored. -/
structure Sco where
 rev : Str
 looked : Int
 same : Int
def sco0 : Sco := ⟨[], 0, 0⟩
instance : Inhabited Sco := ⟨sco0⟩
instance : Inhabited Cla := ⟨⟨[], [], [], []⟩⟩
def samI (fd : Str) (p : LkR) : Int := if chIn p.1.vals fd = chIn p.2.vals fd then 1 else 0
/-- One more look. -/
def scoA (fd : Str) (t : Sco) (p : LkR) : Sco := ⟨p.1.rev, t.looked + 1, t.same + samI fd p⟩
def scoF (fd : Str) (l : List LkR) (r : Str) : Option Sco := l.foldl (fun a p => if p.1.rev = r then some (scoA fd (a.getD sco0) p) else a) none
theorem scoF_snoc (fd : Str) (l : List LkR) (x : LkR) (r : Str) : scoF fd (l ++ [x]) r = if r = x.1.rev then some (scoA fd ((scoF fd l r).getD sco0) x) else scoF fd l r := by
 unfold scoF
 rw [List.foldl_append]
 by_cases h : x.1.rev = r
 ·simp [h]
 ·simp [h, Ne.symm h]
theorem scoF_spec (fd r : Str) : ∀ (n : Nat) (l : List LkR), l.length = n → ((scoF fd l r).isSome = true ↔ ∃ x ∈ l, x.1.rev = r) ∧ ∀ t, scoF fd l r = some t → t.rev = r ∧ 0 ≤ t.looked ∧ t.looked ≤ l.length ∧ 0 ≤ t.same ∧ t.same ≤ l.length
 | 0, l, h => by
  obtain rfl := List.eq_nil_of_length_eq_zero h
  simp [scoF]
 | n + 1, l, h => by
  obtain ⟨k, x, rfl⟩ : ∃ k x, l = k ++ [x] := by
   rcases List.eq_nil_or_concat l with h1 | ⟨k, x, h1⟩
   ·rw [h1] at h; cases h
   ·exact ⟨k, x, by rw [h1, List.concat_eq_append]⟩
  obtain ⟨h1, h2⟩ := scoF_spec fd r n k (by simpa using h)
  rw [scoF_snoc]
  by_cases hc : r = x.1.rev
  ·subst hc
   rw [if_pos rfl]
   refine ⟨by simp, fun t ht => ?_⟩
   injection ht with ht
   subst ht
   have h3 : 0 ≤ ((scoF fd k x.1.rev).getD sco0).looked ∧ ((scoF fd k x.1.rev).getD sco0).looked ≤ k.length ∧ 0 ≤ ((scoF fd k x.1.rev).getD sco0).same ∧ ((scoF fd k x.1.rev).getD sco0).same ≤ k.length := by
    cases hq : scoF fd k x.1.rev with
    | none => simp [sco0]
    | some t => exact (h2 t hq).2
   unfold scoA samI
   simp only [List.length_append, List.length_cons, List.length_nil]
   refine ⟨trivial, by omega, by omega, ?_, ?_⟩ <;> split <;> omega
  ·rw [if_neg hc]
   refine ⟨h1.trans ?_, fun t ht => ?_⟩
   ·constructor
    ·rintro ⟨y, hy, he⟩; exact ⟨y, by simp [hy], he⟩
    ·rintro ⟨y, hy, he⟩
     rcases List.mem_append.1 hy with hy | hy
     ·exact ⟨y, hy, he⟩
     ·rw [List.mem_singleton.1 hy] at he; exact absurd he.symm hc
   ·have := h2 t ht
    simp only [List.length_append, List.length_cons, List.length_nil]
    refine ⟨this.1, by omega, by omega, by omega, by omega⟩
/-- The reviewers, sorted. -/
def revU (l : List LkR) : List Str := uniq (l.map (·.1.rev))
def revS (l : List LkR) : List Str := (revU l).mergeSort fun x y => decide (x ≤ y)
def scoL (fd : Str) (l : List LkR) : List Sco := (revS l).map fun r => (scoF fd l r).getD sco0
theorem mem_revS {fd : Str} {l : List LkR} {r : Str} : r ∈ revS l ↔ (scoF fd l r).isSome = true := by
 rw [(scoF_spec fd r l.length l rfl).1]
 unfold revS revU
 rw [List.mem_mergeSort, mem_uniq, List.mem_map]
theorem perm_up_eqQ {α : Type} {lt : α → α → Prop} (has : ∀ a b, lt a b → lt b a → False) : ∀ {xs ys : List α}, xs.Perm ys → xs.Pairwise lt → ys.Pairwise lt → xs = ys
 | [], ys, hp, _, _ => (List.nil_perm.1 hp).symm
 | x :: xs, [], hp, _, _ => absurd (List.perm_nil.1 hp) (by simp)
 | x :: xs, y :: ys, hp, hx, hy => by
  obtain ⟨hx1, hx2⟩ := List.pairwise_cons.1 hx
  obtain ⟨hy1, hy2⟩ := List.pairwise_cons.1 hy
  have e : x = y := by
   rcases List.mem_cons.1 (hp.mem_iff.1 (by simp : x ∈ x :: xs)) with h | h
   ·exact h
   ·rcases List.mem_cons.1 (hp.mem_iff.2 (by simp : y ∈ y :: ys)) with h2 | h2
    ·exact h2.symm
    ·exact (has _ _ (hx1 _ h2) (hy1 _ h)).elim
  subst e
  rw [perm_up_eqQ has ((List.perm_cons _).1 hp) hx2 hy2]
theorem revS_sorted (l : List LkR) : (revS l).Pairwise (· < ·) := sorted_lt (nodup_uniq _)
theorem scoL_sorted (fd : Str) (l : List LkR) : (scoL fd l).Pairwise fun a b => a.rev < b.rev := by
 unfold scoL
 refine List.pairwise_map.2 ((revS_sorted l).imp_of_mem fun {a b} ha hb hlt => ?_)
 have h : ∀ c, c ∈ revS l → ((scoF fd l c).getD sco0).rev = c := fun c hc => by
  have h1 := (mem_revS (fd := fd)).1 hc
  cases hq : scoF fd l c with
  | none => rw [hq] at h1; cases h1
  | some t => exact ((scoF_spec fd c l.length l rfl).2 t hq).1
 rw [h a ha, h b hb]
 exact hlt
theorem scoL_unique {fd : Str} {l : List LkR} {cs : List Str} (ys : List Sco) (hp : ys.Perm (cs.map fun c => (scoF fd l c).getD sco0)) (hcs : cs.Perm (revS l)) (hr : ys.Pairwise fun a b => a.rev < b.rev) : ys = scoL fd l :=
 perm_up_eqQ (fun a b h1 h2 => List.lt_irrefl _ (List.lt_trans h1 h2)) (hp.trans (hcs.map _)) hr (scoL_sorted fd l)
theorem revU_len (l : List LkR) : (revU l).length ≤ l.length := by
 have h := uniq_len (l.map (·.1.rev))
 simpa [revU] using h
theorem revS_len (l : List LkR) : (revS l).length ≤ l.length := by
 unfold revS
 rw [List.length_mergeSort]
 exact revU_len l
theorem scoL_len (fd : Str) (l : List LkR) : (scoL fd l).length = (revS l).length := by simp [scoL]
theorem revS_mem {l : List LkR} {r : Str} (h : r ∈ revS l) : ∃ x ∈ l, x.1.rev = r := by
 unfold revS revU at h
 rw [(List.mergeSort_perm _ _).mem_iff, mem_uniq, List.mem_map] at h
 exact h

def scoC (x : Sco) : List Value := [.string ⟨x.rev.toArray⟩, .int .i64 x.looked, .int .i64 x.same]
def scoVA (x : Sco) : Value := .agg #[.string ⟨x.rev.toArray⟩, .int .i64 x.looked, .int .i64 x.same]
def scoV (xs : List Sco) : List Value := xs.flatMap scoC
theorem scoV_len (xs : List Sco) : (scoV xs).length = xs.length * 3 := flatK_len (enc := scoC) (k := 3) (fun _ => rfl) xs
theorem scoV_snoc (xs : List Sco) (x : Sco) : scoV (xs ++ [x]) = scoV xs ++ scoC x := by simp [scoV]
def scoEq (x y : Sco) : Bool := decide (x.rev = y.rev) && decide (x.looked = y.looked) && decide (x.same = y.same)
theorem scoEq_refl (x : Sco) : scoEq x x = true := by simp [scoEq]

theorem eqTypeSco : Tryz.prog.stoodInHeld 96 = false := by kernel_rfl
theorem eqGuardTSco : Tryz.prog.eqGuardType Tryz.prog.depth 96 = false := by kernel_rfl
theorem eqStructSco : Tryz.prog.underlying 96 = some (.struct (Tryz.prog.fieldsOf 96)) := by kernel_rfl
set_option maxRecDepth 100000 in
set_option maxHeartbeats 2000000 in
theorem eqInSco (x y : Sco) (w : World) : Sem.run Tryz.prog (Op.equalIn 10000 96 (scoVA x) (scoVA y)) w = .ok (scoEq x y) w := by
 have us := Tryz.underlying9
 have ag := Tryz.isAgg9
 have zs := Tryz.sizeOf9
 have ui := Tryz.underlying3
 have ai := Tryz.isAgg3
 have zi := Tryz.sizeOf3
 have hS := eqStructSco
 unfold scoVA scoEq
 rw [show (10000 : Nat) = 9999 + 1 from rfl, run_equalIn_agg w 9999 96 _ _ hS eqTypeSco]
 simp only [Program.fieldsOf, Tryz.underlying96]
 clear hS
 go_simp
 (repeat' split) <;> simp_all
theorem neqSco (x y : Sco) (w : World) : Sem.run Tryz.prog (binOp .neq 96 (scoVA x) (scoVA y)) w = .ok (.bool (!scoEq x y)) w := by
 have h := eqInSco x y w
 unfold scoVA at h ⊢
 rw [run_neq_struct, h]
 rfl
theorem guardSco (op : BinOp) (a b : Operand) (x y : Sco) (w : World) : Sem.run Tryz.prog (eqGuard op 96 a b (scoVA x) (scoVA y)) w = .ok () w :=
 run_eqGuard_agg w op 96 a b _ _ eqGuardTSco
theorem neqAtSco : NeqAt Tryz.prog 96 (fun x => .agg (scoC x).toArray) scoEq := ⟨neqSco, guardSco⟩


set_option maxRecDepth 100000 in
set_option maxHeartbeats 2000000 in
theorem equal0Sco_calls (w : World) (A1 A2 : Option Addr) (c1 c2 : Nat) : Calls Tryz.prog 49 #[.slice A1 0 c1, .slice A2 0 c2] w (BoolPost w true) := by
 go_enter Tryz.func49, Tryz.ntmps49
 go_wp2_with fail
 refine wp_loop_rounds 1 ?_
 rw [rounds_succ]
 go_wp2_with fail
 go_ret
 exact BoolPost.of rfl (Mod.refl _ _)
set_option maxHeartbeats 1000000 in
theorem equalSco_calls (w : World) (v1 v2 : Value) (xs : List Sco) (h1 : Sl w 96 3 v1 (scoV xs)) (h2 : Sl w 96 3 v2 (scoV xs)) : Calls Tryz.prog 49 #[v1, v2] w (BoolPost w true) := by
 obtain ⟨A1, n1, c1, rfl, a1, a2, a3, a4⟩ := h1
 obtain ⟨A2, n2, c2, rfl, b1, b2, b3, b4⟩ := h2
 rw [scoV_len] at a3 b3
 obtain rfl : n1 = xs.length := by omega
 obtain rfl : n2 = xs.length := by omega
 by_cases h0 : xs.length = 0
 ·rw [h0]
  exact equal0Sco_calls w A1 A2 c1 c2
 obtain ⟨g1, o1, rfl, r1⟩ := a4 (by omega)
 obtain ⟨g2, o2, rfl, r2⟩ := b4 (by omega)
 have hk : ∀ x, (scoC x).length = 3 := fun _ => rfl
 have hr : ∀ {g o : Nat}, RowAt w 96 g o (scoV xs) → ∀ j, j < xs.length → ∀ i v, (scoC xs[j]!)[i]? = some v → w.cell? ⟨g, o + j * 3 + i, none⟩ = some v := fun {g o} r j hj i v hv => by
  have hi : i < 3 := by
   rw [← hk xs[j]!]
   exact (List.getElem?_eq_some_iff.1 hv).1
  have h := r.cell (i := j * 3 + i) (u := v) (by
   show (xs.flatMap scoC)[j * 3 + i]? = some v
   rw [flatK_at hk (by omega) xs (j * 3 + i) (by omega), show (j * 3 + i) / 3 = j by omega, show (j * 3 + i) % 3 = i by omega]
   obtain ⟨h3, h4⟩ := List.getElem?_eq_some_iff.1 hv
   rw [getElem!_pos _ i h3, h4])
  rw [Nat.add_assoc]
  exact h
 refine (AnyQ.slices_Equal Tryz.eqSco 3 Tryz.isAgg96 Tryz.sizeOf96 scoC hk scoEq neqAtSco g1 o1 xs.length c1 g2 o2 xs.length c2 xs xs w (Nat.le_refl _) (Nat.le_refl _) (by omega) (by omega) (hr r1) (hr r2)).mono ?_
 rintro e w' ⟨rfl, q, rfl⟩
 rw [Lib.allEq_all scoEq _ _ rfl (fun j _ => scoEq_refl _)]
 exact BoolPost.of rfl ((Mod.refl _ _).drewN q)


set_option maxRecDepth 100000 in
set_option maxHeartbeats 2000000 in
theorem insert0Sco_calls (w : World) (A : Option Addr) (cap : Nat) (fv : Value) : Calls Tryz.prog 195 #[.slice A 0 cap, .int .i64 0, .int .i64 0, fv] w (NonePost w) := by
 go_enter Tryz.func195, Tryz.ntmps195
 go_wp2_with fail
 refine wp_loop_rounds 1 ?_
 rw [rounds_succ]
 go_wp2_with fail
 go_end0
 exact ⟨rfl, Mod.refl _ _⟩
set_option maxRecDepth 100000 in
set_option maxHeartbeats 2000000 in
theorem pdq0Sco_calls (w : World) (A : Option Addr) (cap : Nat) (fv vl : Value) : Calls Tryz.prog 158 #[.slice A 0 cap, .int .i64 0, .int .i64 0, vl, fv] w (NonePost w) := by
 have H := Lib.hid (insert0Sco_calls w A cap fv)
 go_enter Tryz.func158, Tryz.ntmps158
 go_wp2_with fail
 refine wp_loop_rounds 1 ?_
 rw [rounds_succ]
 go_wp2_with fail
 refine H.out.mono ?_
 rintro e w1 ⟨rfl, hm⟩
 go_wp2_with fail
 go_end0
 exact ⟨rfl, hm⟩
set_option maxRecDepth 100000 in
set_option maxHeartbeats 2000000 in
theorem sort0Sco_calls (w : World) (A : Option Addr) (cap : Nat) (fv : Value) : Calls Tryz.prog 108 #[.slice A 0 cap, fv] w (NonePost w) := by
 have HL : Hid (Calls Tryz.prog 139 #[.int .u64 0] w fun e w' => (∃ x : Int, e = .returned (.int .i64 x)) ∧ w' = w) := Lib.hid ((Any.bits_Len Tryz.bitsLenK 0 w (by omega) (by omega)).mono fun _ _ ⟨h, k⟩ => ⟨⟨_, h⟩, k⟩)
 have H := Lib.hid (fun (vl : Value) (W : World) => pdq0Sco_calls W A cap fv vl)
 go_enter Tryz.func108, Tryz.ntmps108
 go_wp2_with fail
 refine HL.out.mono ?_
 rintro e w1 ⟨⟨v, rfl⟩, rfl⟩
 go_wp2_with fail
 refine (H.out _ _).mono ?_
 rintro e w2 ⟨rfl, hm2⟩
 go_wp2_with fail
 go_end0
 exact ⟨rfl, hm2⟩
def SrtScoPost (w : World) (base : Nat) (v : Value) (n : Nat) (xs : List Sco) (e : Ending) (w' : World) : Prop :=
 ∃ ys : List Sco, ys.Perm xs ∧ (ys.Pairwise fun a b => a.rev < b.rev) ∧ e = .returned (.tuple #[]) ∧ w'.ownsRow base 96 3 v n (scoV ys) ∧ Mod (fun k => v.ownBlock = some k) w w'
set_option maxHeartbeats 1000000 in
theorem sortSco_calls (w : World) (base n : Nat) (v : Value) (xs : List Sco) (F : Nat) (hown : w.ownsRow base 96 3 v n (scoV xs)) (hd : (xs.map fun z => z.rev).Nodup) (h12 : xs.length ≤ 1000000)
  (eg : ∀ args w, Sem.run Tryz.prog (callFunc F args) w = .ok (.enter F args) w) (hF : ∀ (x y : Sco) (W : World), Calls Tryz.prog F #[.agg (scoC x).toArray, .agg (scoC y).toArray] W (GrowPost W (cfBy (fun z : Sco => z.rev) x y))) :
  Calls Tryz.prog 108 #[v, .func (.func F) #[] #[]] w (SrtScoPost w base v n xs) := by
 have hk : ∀ x, (scoC x).length = 3 := fun _ => rfl
 have hnx : n = xs.length := own_lenK (enc := scoC) (k := 3) (g := 0) (cap := 0) hk (by omega) hown
 rcases hown.2 with ⟨rfl, h0⟩ | ⟨g, cap, cur, rfl, hbase, hb, h1, h2, h3, h4⟩
 ·have e : xs = [] := List.eq_nil_of_length_eq_zero (by omega)
  subst e
  refine (sort0Sco_calls w none 0 _).mono ?_
  rintro e w' ⟨rfl, hm⟩
  exact ⟨[], List.Perm.refl _, List.Pairwise.nil, rfl, own_pure hown hm, Mod.of_pure hm⟩
 ·subst hnx
  have hH := holdsK_own (enc := scoC) (k := 3) hk (by omega) hown
  have hs := AnyQ.slices_SortFunc Tryz.srtSco 3 Tryz.isAgg96 Tryz.sizeOf96 scoC hk (fun x v hv => by
   simp only [scoC, List.mem_cons, List.not_mem_nil, or_false] at hv
   rcases hv with rfl | rfl | rfl <;> rfl) (cfBy fun z : Sco => z.rev) (swoBy fun z : Sco => z.rev) F #[] g 0 cap xs.toArray w eg (fun m os dk hz x y => hF x y _) hH (lt_of_heap hb) (by simp; omega)
  refine (show Calls Tryz.prog 108 #[.slice (some ⟨g, 0, none⟩) xs.length cap, .func (.func F) #[] #[]] w _ from hs).mono ?_
  rintro e w' ⟨rfl, d, m, os, hp, hq, rfl⟩
  obtain ⟨p1, p2⟩ := sortedIn_lt (fun z : Sco => z.rev) hp hq hd
  obtain ⟨o1, o2⟩ := own_sortedK (enc := scoC) (k := 3) (ys := d.toList) (m := m) (os := os) hk (by omega) hown (by simpa using p1.length_eq)
  rw [Array.toArray_toList] at o1 o2
  exact ⟨d.toList, p1, p2, rfl, o1, o2.mono fun i hi => by subst hi; rfl⟩

def claVA (x : Cla) : Value := .agg #[.string ⟨x.item.toArray⟩, .string ⟨x.field.toArray⟩, .string ⟨x.fst.toArray⟩, .string ⟨x.snd.toArray⟩]
def claEq (x y : Cla) : Bool := decide (x.item = y.item) && decide (x.field = y.field) && decide (x.fst = y.fst) && decide (x.snd = y.snd)
theorem claEq_refl (x : Cla) : claEq x x = true := by simp [claEq]

theorem eqTypeCla : Tryz.prog.stoodInHeld 92 = false := by kernel_rfl
theorem eqGuardTCla : Tryz.prog.eqGuardType Tryz.prog.depth 92 = false := by kernel_rfl
theorem eqStructCla : Tryz.prog.underlying 92 = some (.struct (Tryz.prog.fieldsOf 92)) := by kernel_rfl
set_option maxRecDepth 100000 in
set_option maxHeartbeats 2000000 in
theorem eqInCla (x y : Cla) (w : World) : Sem.run Tryz.prog (Op.equalIn 10000 92 (claVA x) (claVA y)) w = .ok (claEq x y) w := by
 have us := Tryz.underlying9
 have ag := Tryz.isAgg9
 have zs := Tryz.sizeOf9
 have ui := Tryz.underlying3
 have ai := Tryz.isAgg3
 have zi := Tryz.sizeOf3
 have hS := eqStructCla
 unfold claVA claEq
 rw [show (10000 : Nat) = 9999 + 1 from rfl, run_equalIn_agg w 9999 92 _ _ hS eqTypeCla]
 simp only [Program.fieldsOf, Tryz.underlying92]
 clear hS
 go_simp
 (repeat' split) <;> simp_all
theorem neqCla (x y : Cla) (w : World) : Sem.run Tryz.prog (binOp .neq 92 (claVA x) (claVA y)) w = .ok (.bool (!claEq x y)) w := by
 have h := eqInCla x y w
 unfold claVA at h ⊢
 rw [run_neq_struct, h]
 rfl
theorem guardCla (op : BinOp) (a b : Operand) (x y : Cla) (w : World) : Sem.run Tryz.prog (eqGuard op 92 a b (claVA x) (claVA y)) w = .ok () w :=
 run_eqGuard_agg w op 92 a b _ _ eqGuardTCla
theorem neqAtCla : NeqAt Tryz.prog 92 (fun x => .agg (claC x).toArray) claEq := ⟨neqCla, guardCla⟩


set_option maxRecDepth 100000 in
set_option maxHeartbeats 2000000 in
theorem equal0Cla_calls (w : World) (A1 A2 : Option Addr) (c1 c2 : Nat) : Calls Tryz.prog 47 #[.slice A1 0 c1, .slice A2 0 c2] w (BoolPost w true) := by
 go_enter Tryz.func47, Tryz.ntmps47
 go_wp2_with fail
 refine wp_loop_rounds 1 ?_
 rw [rounds_succ]
 go_wp2_with fail
 go_ret
 exact BoolPost.of rfl (Mod.refl _ _)
set_option maxHeartbeats 1000000 in
theorem equalCla_calls (w : World) (v1 v2 : Value) (xs : List Cla) (h1 : Sl w 92 4 v1 (claV xs)) (h2 : Sl w 92 4 v2 (claV xs)) : Calls Tryz.prog 47 #[v1, v2] w (BoolPost w true) := by
 obtain ⟨A1, n1, c1, rfl, a1, a2, a3, a4⟩ := h1
 obtain ⟨A2, n2, c2, rfl, b1, b2, b3, b4⟩ := h2
 rw [claV_len] at a3 b3
 obtain rfl : n1 = xs.length := by omega
 obtain rfl : n2 = xs.length := by omega
 by_cases h0 : xs.length = 0
 ·rw [h0]
  exact equal0Cla_calls w A1 A2 c1 c2
 obtain ⟨g1, o1, rfl, r1⟩ := a4 (by omega)
 obtain ⟨g2, o2, rfl, r2⟩ := b4 (by omega)
 have hk : ∀ x, (claC x).length = 4 := fun _ => rfl
 have hr : ∀ {g o : Nat}, RowAt w 92 g o (claV xs) → ∀ j, j < xs.length → ∀ i v, (claC xs[j]!)[i]? = some v → w.cell? ⟨g, o + j * 4 + i, none⟩ = some v := fun {g o} r j hj i v hv => by
  have hi : i < 4 := by
   rw [← hk xs[j]!]
   exact (List.getElem?_eq_some_iff.1 hv).1
  have h := r.cell (i := j * 4 + i) (u := v) (by
   show (xs.flatMap claC)[j * 4 + i]? = some v
   rw [flatK_at hk (by omega) xs (j * 4 + i) (by omega), show (j * 4 + i) / 4 = j by omega, show (j * 4 + i) % 4 = i by omega]
   obtain ⟨h3, h4⟩ := List.getElem?_eq_some_iff.1 hv
   rw [getElem!_pos _ i h3, h4])
  rw [Nat.add_assoc]
  exact h
 refine (AnyQ.slices_Equal Tryz.eqCla 4 Tryz.isAgg92 Tryz.sizeOf92 claC hk claEq neqAtCla g1 o1 xs.length c1 g2 o2 xs.length c2 xs xs w (Nat.le_refl _) (Nat.le_refl _) (by omega) (by omega) (hr r1) (hr r2)).mono ?_
 rintro e w' ⟨rfl, q, rfl⟩
 rw [Lib.allEq_all claEq _ _ rfl (fun j _ => claEq_refl _)]
 exact BoolPost.of rfl ((Mod.refl _ _).drewN q)


set_option maxRecDepth 100000 in
set_option maxHeartbeats 1000000 in
theorem scoC1_calls (x y : Sco) (W : World) : Calls Tryz.prog 109 #[.agg (scoC x).toArray, .agg (scoC y).toArray] W (GrowPost W (cfBy (fun z : Sco => z.rev) x y)) := by
 have H := fun W' => Any.strings_Compare Tryz.cmpStrK ⟨x.rev.toArray⟩ ⟨y.rev.toArray⟩ W'
 change ∀ W', Calls Tryz.prog 82 #[.string ⟨x.rev.toArray⟩, .string ⟨y.rev.toArray⟩] W' (fun e w' => e = .returned (.int .i64 (cfBy (fun z : Sco => z.rev) x y)) ∧ w' = W') at H
 generalize cfBy (fun z : Sco => z.rev) x y = c at *
 have HC := Lib.hid H
 clear H
 unfold scoC
 go_enter Tryz.func109, Tryz.ntmps109
 go_wp2_with fail
 refine (HC.out _).mono ?_
 rintro e w' ⟨rfl, rfl⟩
 go_wp2_with fail
 go_ret
 exact ⟨rfl, 0, _, by rw [alloc_eq_grow, alloc_eq_grow, grow_grow]; rfl⟩


end Go.Proofs.YtkkndblcejmmjaaGreatDoor

/- Scores of the program. -/
namespace Go.Proofs.YtkkndblcejmmjaaGreatDoor
set_option linter.unusedVariables false
set_option linter.unusedSimpArgs false
open Go.RowKit Go.Maps Go.Sort Go.Shelf

theorem mapsKeysSO_calls (mb : Option Nat) (W : World) : Calls Tryz.prog 105 #[.map mb] W fun e w' => e = .returned (.func (.func 155) #[] #[.pointer (some ⟨W.heap.size, 0, none⟩)]) ∧ w' = W.alloc (.cells #[.map mb] 152) :=
 callsIn_wide.1 (AnyZ.keys_in Tryz.keysSO Fence.wide 5 trivial rfl mb W)

set_option maxHeartbeats 1000000 in
theorem sortedSO_calls (b n : Nat) (f : Str → Option Value) (w : World) (hM : MapS w b n f) (hn : n ≤ 1000000) (K : List Str) (hKn : K.Nodup) (hK : ∀ x, x ∈ K ↔ (f x).isSome = true) :
  Calls Tryz.prog 98 #[.func (.func 155) #[] #[.pointer (some ⟨w.heap.size, 0, none⟩)]] (w.alloc (.cells #[.map (some b)] 152)) (SortedPost (w.alloc (.cells #[.map (some b)] 152)) (K.mergeSort fun x y => decide (x ≤ y))) := by
 obtain ⟨D0, hown, _, hhas⟩ := hM
 have hsz := size_keys hown
 have hperm : K.Perm (strKeys D0) := perm_keys hown hKn (fun x => by rw [hK x, hhas x])
 have hbl := hown.lt
 have hseq : SeqGives Fence.wide 2 Tryz.prog 155 #[.pointer (some ⟨w.heap.size, 0, none⟩)] encStr (fun ss => ss.Perm (strKeys D0)) (Maps.size D0) (w.alloc (.cells #[.map (some b)] 152)) :=
  AnyZ.keys_gives (ρ := Tryz.keysSO_ren) { Tryz.keysSO with } Fence.wide _ trivial rfl (by omega) w.heap.size b n D0 _ (by simp) (by simp) (by
   obtain ⟨es, clock, hb, Ft, hs, hD⟩ := hown
   exact ⟨es, clock, (Below.heap_alloc _ _ b hbl).trans hb, Ft, hs, hD⟩)
 have hmain := callsIn_wide.1 (AnyZ.sorted_in Tryz.sortedK Fence.wide 5 trivial trivial trivial trivial rfl (by omega) (sortsK _) (enters_of Tryz.func150 (by kernel_rfl) rfl) 155 #[.pointer (some ⟨w.heap.size, 0, none⟩)] trivial (enters_of Tryz.func155 (by kernel_rfl) rfl) _ (Maps.size D0) (by unfold maxLen; omega) (by omega) _ hseq)
 refine hmain.mono ?_
 rintro e w' ⟨v, ss, rfl, hS, hrow, hnil, hb⟩
 have he : ss.mergeSort (fun x y => decide (x ≤ y)) = K.mergeSort fun x y => decide (x ≤ y) := mergeSort_of_perm (hS.trans hperm.symm)
 rw [he] at hrow
 have hl : ss.length = (K.mergeSort fun x y => decide (x ≤ y)).length := by rw [← he]; simp
 rw [hl] at hrow
 exact ⟨v, rfl, hrow, Mod.of_below hb⟩


end Go.Proofs.YtkkndblcejmmjaaGreatDoor
namespace Go.Proofs.YtkkndblcejmmjaaGreatDoor
open Go.RowKit

def scoFV (fd : Str) (l : List LkR) (c : Str) : Option Value := (scoF fd l c).map scoVA
theorem scoFV_nil (fd : Str) : scoFV fd [] = fun _ => none := by funext c; rfl
theorem scoFV_getD (fd : Str) (l : List LkR) (c : Str) : (scoFV fd l c).getD (scoVA sco0) = scoVA ((scoF fd l c).getD sco0) := by
 unfold scoFV
 cases scoF fd l c <;> rfl
theorem scoFV_take {fd : Str} {l : List LkR} {k : Nat} (h : k < l.length) : (fun c => if c = l[k].1.rev then some (scoVA (scoA fd ((scoF fd (l.take k) l[k].1.rev).getD sco0) l[k])) else scoFV fd (l.take k) c) = scoFV fd (l.take (k + 1)) := by
 funext c
 unfold scoFV
 rw [List.take_succ_eq_append_getElem h, scoF_snoc]
 by_cases hc : c = l[k].1.rev
 ·rw [if_pos hc, if_pos hc, hc]
  rfl
 ·rw [if_neg hc, if_neg hc]
theorem scoFV_keys (fd : Str) (l : List LkR) (x : Str) : x ∈ revU l ↔ (scoFV fd l x).isSome = true := by
 have h := mem_revS (fd := fd) (l := l) (r := x)
 unfold revS at h
 rw [(List.mergeSort_perm _ _).mem_iff] at h
 rw [h]
 unfold scoFV
 cases scoF fd l x <;> simp
theorem zero_sco (W : World) : (zeroValue 96).run Tryz.prog W = .ok (scoVA sco0) W := by kernel_rfl
theorem info_sco : (Tryz.prog.info? 96).map (fun i => (i.zero, i.size, i.bytes)) = some (some (scoVA sco0), 3, 32) := by kernel_rfl
theorem sco_bounds {fd : Str} {l : List LkR} (hl : l.length ≤ 4000) (c : Str) : 0 ≤ ((scoF fd l c).getD sco0).looked ∧ ((scoF fd l c).getD sco0).looked ≤ 4000 ∧ 0 ≤ ((scoF fd l c).getD sco0).same ∧ ((scoF fd l c).getD sco0).same ≤ 4000 := by
 cases h : scoF fd l c with
 | none => simp [sco0]
 | some t =>
  obtain ⟨_, h1, h2, h3, h4⟩ := (scoF_spec fd c _ l rfl).2 t h
  simp only [Option.getD_some]
  omega
theorem looksP_mem {al : List AskR} {ds : List DecR} {at_ : Int} {p : LkR} (h : p ∈ looksP al ds at_) : p.1 ∈ ds ∧ p.2 ∈ ds := by
 unfold looksP at h
 obtain ⟨i, _, hi⟩ := List.mem_filterMap.1 h
 unfold lkO at hi
 cases hs : sekO al ds at_ i with
 | none => rw [hs] at hi; cases hi
 | some s =>
  cases hf : firO al ds at_ i with
  | none => rw [hs, hf] at hi; cases hi
  | some f =>
   rw [hs, hf] at hi
   simp only at hi
   split at hi
   ·cases hi
   ·injection hi with hi
    subst hi
    exact ⟨(firO_item hf).1, (latO_mem al _ ds hs).1⟩
theorem looksP_len (al : List AskR) (ds : List DecR) (at_ : Int) : (looksP al ds at_).length ≤ ds.length := by
 rw [← fiL_looks]
 have h1 := List.length_filterMap_le (lkO al ds at_) (fiL al ds at_)
 have h2 := fiL_len al ds at_
 omega
theorem MapS.norow {w : World} {b n : Nat} {f : Str → Option Value} (h : MapS w b n f) (g : Nat) (arr : Array Value) (e : TypeId) (fr : Nat × Nat) (hg : w.heap[g]? = some (.cells arr e fr)) : ¬ g = b := by
 rintro rfl
 obtain ⟨D0, hown, _⟩ := h
 obtain ⟨es, clock, hbb, _⟩ := hown
 rw [hbb] at hg
 cases hg
/-- What is wrong with a question after the scores. -/
def scE (L : LayR) (ds : List DecR) (fd : Str) (at_ : Int) : Int := if decsE L ds ≠ 0 then decsE L ds else if askI L.asks fd < 0 then 8 else moE at_
def ScsPost (w : World) (q : Int) (SL : List Sco) (e : Ending) (w' : World) : Prop :=
 ∃ (A : Option Addr) (k c : Nat), e = .returned (.tuple #[.slice A k c, .int .i64 q]) ∧ (q ≠ 0 → k = 0) ∧ (q = 0 → Sl w' 96 3 (.slice A k c) (scoV SL)) ∧ Pure w w'
def S1Rel (w w7 : World) (bm : Nat) (fd : Str) (lks : List LkR) (gk : Nat) (i : Value) (wr : World) : Prop :=
 ∃ k n : Nat, lks.length - k = gk ∧ k ≤ lks.length ∧ i = .int .i64 (k : Int) ∧ MapS wr bm n (scoFV fd (lks.take k)) ∧ n ≤ k ∧ Pure w wr ∧ Mod (· = bm) w7 wr ∧ w7.heap.size ≤ wr.heap.size
def S2Rel (W1 : World) (base : Nat) (fd : Str) (l : List LkR) (gk : Nat) (x i : Value) (wr : World) : Prop :=
 ∃ (k : Nat) (A : Option Addr) (cap : Nat), (revS l).length - k = gk ∧ k ≤ (revS l).length ∧ x = .slice A k cap ∧ i = .int .i64 (k : Int) ∧ wr.ownsRow base 96 3 (.slice A k cap) k (scoV ((scoL fd l).take k)) ∧ Pure W1 wr ∧ base ≤ wr.heap.size

set_option maxRecDepth 100000 in
set_option maxHeartbeats 16000000 in
theorem scores_calls (w : World) (vl : Value) (L : LayR) (A3 : Option Addr) (n3 c3 : Nat) (ds : List DecR) (fd : Str) (at_ : Int) (hL : LayV w L vl) (hLB : LayB L) (hD : Decs w (.slice A3 n3 c3) ds) (hz : ∀ d ∈ ds, DecB d) (hn : ds.length ≤ 4000) (hk : decsE L ds = 0 → ∀ d ∈ ds, ∀ z ∈ d.vals, 0 ≤ kIx L.asks z.field) :
  Calls Tryz.prog 44 #[vl, .slice A3 n3 c3, .string ⟨fd.toArray⟩, .int .i64 at_] w (ScsPost w (scE L ds fd at_) (scoL fd (looksP L.asks ds at_))) := by
 have hmm := @run_makeMap Tryz.prog
 obtain ⟨i0, hi0, hz0, hz1, hz2⟩ := info_parts info_sco
 have HCK := Lib.hid (fun W (h : Pure w W) => dcheck_calls W vl L A3 n3 c3 ds (hL.pure h) hLB (hD.pure h) hz hn)
 have HLK := Lib.hid (fun (h0 : decsE L ds = 0) W (h : Pure w W) => looks_calls W vl L A3 n3 c3 ds at_ (hL.pure h) hLB (hD.pure h) hz hn (hk h0))
 have HAK := Lib.hid (fun W (h : Pure w W) => ask_calls W vl L fd (hL.pure h))
 have HQ : Hid (scE L ds fd at_ = if decsE L ds ≠ 0 then decsE L ds else if askI L.asks fd < 0 then 8 else moE at_) := Lib.hid rfl
 have HMO := Lib.hid (fun W => momentE_calls W at_)
 have hlk := Nat.le_trans (looksP_len L.asks ds at_) hn
 have HFC : Hid (∀ p ∈ looksP L.asks ds at_, (∀ W, Pure w W → DecEl W p.1 ∧ DecEl W p.2) ∧ DecB p.1) := Lib.hid (fun p hp => ⟨fun W h => ⟨(hD.2 _ (looksP_mem hp).1).pure h, (hD.2 _ (looksP_mem hp).2).pure h⟩, hz _ (looksP_mem hp).1⟩)
 obtain ⟨A, n, c, A2, n2, c2, rfl, _, _⟩ := hL
 have HB0 := Lib.hid (Blk.new w 29 #[.slice A n c, .slice A2 n2 c2])
 have HP0 := Lib.hid (pure_alloc w (.cells #[.slice A n c, .slice A2 n2 c2] 29))
 generalize scE L ds fd at_ = q at *
 generalize decsE L ds = qs at *
 generalize moE at_ = mo at *
 generalize looksP L.asks ds at_ = lks at *
 generalize askI L.asks fd = ai at *
 clear hLB hD hz hk
 go_enter Tryz.func44, Tryz.ntmps44
 go_upto_region 1 with (fail)
 generalize (w.alloc (.cells #[.slice A n c, .slice A2 n2 c2] 29)) = w1 at *
 generalize hg4 : w.heap.size = g4 at *
 obtain ⟨e1, he1⟩ : ∃ e : Int, (if decide (ai < 0) = true then (8 : Int) else 0) = e := ⟨_, rfl⟩
 have HE1 := Lib.hid he1
 have HFE : Hid (∀ (W : World) (g : Nat), Blk W g 41 #[.int .i64 qs, .int .i64 e1, .int .i64 mo] → Calls Tryz.prog 55 #[.slice (some ⟨g, 0, none⟩) 3 3] W (IntPost W q)) := Lib.hid (fun W g h => by
  have h2 := firstE_calls W g 3 [qs, e1, mo] h.row0 (by simp)
  have e : firstErr [qs, e1, mo] = q := by
   rw [cof3, HQ.out, ← he1]
   by_cases h8 : ai < 0 <;> simp [h8]
  rwa [e] at h2)
 clear he1
 have HGs := Lib.hid (show ∀ (D : Nat → Bool) (zzi : Nat) (zq zq' : World), (fun _ zq => (fun Z => Blk Z g4 29 #[.slice A n c, .slice A2 n2 c2]) zq) D zq → Mod (fun _ => False) zq zq' → (fun _ zq => (fun Z => Blk Z g4 29 #[.slice A n c, .slice A2 n2 c2]) zq) (upd D zzi true) zq' from by intro D zzi zq zq' h hm; (exact h.modp hm))
 refine wp_region_inv (by kernel_rfl) (by kernel_rfl) (InvF (R := Mod (fun _ => False)) [.is (.agg #[.slice A n c, .slice A2 n2 c2]),
   .is (.slice A3 n3 c3),
   .is (.int .i64 qs),
   .is (.agg #[.slice A n c, .slice A2 n2 c2]),
   .is (.string ⟨fd.toArray⟩),
   .is (.int .i64 ai),
   .is (.bool (decide (ai < 0))),
   .is (.int .i64 e1),
   .is (.int .i64 at_),
   .is (.int .i64 mo),
   ⟨fun zv zw => ∃ (g_10 : Nat), zv = .slice (some ⟨g_10, 0, none⟩) 3 3 ∧ w1.heap.size ≤ g_10 ∧ Blk zw g_10 41 #[.int .i64 qs, .int .i64 e1, .int .i64 mo], (by rintro zv zw zx ⟨g_10, rfl, c0, q0⟩ hm; exact ⟨g_10, rfl, c0, (q0.modp hm)⟩), none, some 11⟩,
   .is (.int .i64 q),
   .is (.int .i64 q)]
   (PB w (fun _ => False) w1.heap.size (fun _ zq => (fun Z => Blk Z g4 29 #[.slice A n c, .slice A2 n2 c2]) zq))) (InvF.start (PB.start HP0.out (Nat.le_refl _) (HB0.out.drew))) ?_ ?_
 ·refine .cons ?_ (.cons ?_ (.cons ?_ (.cons ?_ (.cons ?_ (.cons ?_ (.cons ?_ (.cons ?_ (.cons ?_ (.cons ?_ (.cons ?_ (.cons ?_ (.cons ?_ .nil))))))))))))
  ·intro D V zw1 a hR hI K hK
   obtain ⟨hM1, hB1, hG1⟩ := hI.1
   have ze4 := hR.frame.other (t := 4) (by kernel_rfl) rfl
   have zx0 := hG1.cell 0; have zx1 := hG1.cell 1
   simp at zx0 zx1
   rw [if_pos (by rfl)]
   go_simp
   exact hK (.agg #[.slice A n c, .slice A2 n2 c2]) _ (hI.next hR (by kernel_rfl) (Mod.refl _ _) (PB.quiet hI.1 (Mod.refl _ _) (HGs.out D 0 zw1 zw1 (hI.1).g (Mod.refl _ _))) (upd_same V 0 _))
  ·intro D V zw1 a hR hI K hK
   obtain ⟨hM1, hB1, hG1⟩ := hI.1
   have ze1 := hR.frame.other (t := 1) (by kernel_rfl) rfl
   rw [if_pos (by rfl)]
   go_simp
   exact hK (.slice A3 n3 c3) _ (hI.next hR (by kernel_rfl) (Mod.refl _ _) (PB.quiet hI.1 (Mod.refl _ _) (HGs.out D 1 zw1 zw1 (hI.1).g (Mod.refl _ _))) (upd_same V 1 _))
  ·intro D V zw1 a hR hI K hK
   obtain ⟨hM1, hB1, hG1⟩ := hI.1
   have zd0 := hR.pred 0 (by kernel_rfl)
   have zF0 : V 0 = .agg #[.slice A n c, .slice A2 n2 c2] := hI.2 0 zd0 rfl
   have zf0 := zF0; clear zF0
   have zd1 := hR.pred 1 (by kernel_rfl)
   have zF1 : V 1 = .slice A3 n3 c3 := hI.2 1 zd1 rfl
   have zf1 := zF1; clear zF1
   have ze18 := hR.frame.done (t := 18) (j := 0) (by kernel_rfl) hR.ok zd0
   have ze19 := hR.frame.done (t := 19) (j := 1) (by kernel_rfl) hR.ok zd1
   rw [if_pos (by rfl)]
   go_simp
   refine (HCK.out _ hM1).mono ?_
   rintro e zw2 ⟨rfl, hm2⟩
   exact hK (.int .i64 qs) _ (hI.next hR (by kernel_rfl) hm2 (PB.quiet hI.1 hm2 (HGs.out D 2 _ _ (hI.1).g hm2)) (upd_same V 2 _))
  ·intro D V zw1 a hR hI K hK
   obtain ⟨hM1, hB1, hG1⟩ := hI.1
   have ze4 := hR.frame.other (t := 4) (by kernel_rfl) rfl
   have zx0 := hG1.cell 0; have zx1 := hG1.cell 1
   simp at zx0 zx1
   rw [if_pos (by rfl)]
   go_simp
   exact hK (.agg #[.slice A n c, .slice A2 n2 c2]) _ (hI.next hR (by kernel_rfl) (Mod.refl _ _) (PB.quiet hI.1 (Mod.refl _ _) (HGs.out D 3 zw1 zw1 (hI.1).g (Mod.refl _ _))) (upd_same V 3 _))
  ·intro D V zw1 a hR hI K hK
   obtain ⟨hM1, hB1, hG1⟩ := hI.1
   have ze2 := hR.frame.other (t := 2) (by kernel_rfl) rfl
   rw [if_pos (by rfl)]
   go_simp
   exact hK (.string ⟨fd.toArray⟩) _ (hI.next hR (by kernel_rfl) (Mod.refl _ _) (PB.quiet hI.1 (Mod.refl _ _) (HGs.out D 4 zw1 zw1 (hI.1).g (Mod.refl _ _))) (upd_same V 4 _))
  ·intro D V zw1 a hR hI K hK
   obtain ⟨hM1, hB1, hG1⟩ := hI.1
   have zd3 := hR.pred 3 (by kernel_rfl)
   have zF3 : V 3 = .agg #[.slice A n c, .slice A2 n2 c2] := hI.2 3 zd3 rfl
   have zf3 := zF3; clear zF3
   have zd4 := hR.pred 4 (by kernel_rfl)
   have zF4 : V 4 = .string ⟨fd.toArray⟩ := hI.2 4 zd4 rfl
   have zf4 := zF4; clear zF4
   have ze21 := hR.frame.done (t := 21) (j := 3) (by kernel_rfl) hR.ok zd3
   have ze22 := hR.frame.done (t := 22) (j := 4) (by kernel_rfl) hR.ok zd4
   rw [if_pos (by rfl)]
   go_simp
   refine (HAK.out _ hM1).mono ?_
   rintro e zw2 ⟨rfl, hm2⟩
   exact hK (.int .i64 ai) _ (hI.next hR (by kernel_rfl) hm2 (PB.quiet hI.1 hm2 (HGs.out D 5 _ _ (hI.1).g hm2)) (upd_same V 5 _))
  ·intro D V zw1 a hR hI K hK
   obtain ⟨hM1, hB1, hG1⟩ := hI.1
   have zd5 := hR.pred 5 (by kernel_rfl)
   have zF5 : V 5 = .int .i64 ai := hI.2 5 zd5 rfl
   have zf5 := zF5; clear zF5
   have ze23 := hR.frame.done (t := 23) (j := 5) (by kernel_rfl) hR.ok zd5
   rw [if_pos (by rfl)]
   go_simp
   exact hK (.bool (decide (ai < 0))) _ (hI.next hR (by kernel_rfl) (Mod.refl _ _) (PB.quiet hI.1 (Mod.refl _ _) (HGs.out D 6 zw1 zw1 (hI.1).g (Mod.refl _ _))) (upd_same V 6 _))
  ·intro D V zw1 a hR hI K hK
   obtain ⟨hM1, hB1, hG1⟩ := hI.1
   have zd6 := hR.pred 6 (by kernel_rfl)
   have zF6 : V 6 = .bool (decide (ai < 0)) := hI.2 6 zd6 rfl
   have zf6 := zF6; clear zF6
   have ze24 := hR.frame.done (t := 24) (j := 6) (by kernel_rfl) hR.ok zd6
   rw [if_pos (by rfl)]
   go_simp
   refine (whenQ_calls _ _ _ e1 HE1.out).mono ?_
   rintro e zw2 ⟨rfl, hm2⟩
   exact hK (.int .i64 e1) _ (hI.next hR (by kernel_rfl) hm2 (PB.quiet hI.1 hm2 (HGs.out D 7 _ _ (hI.1).g hm2)) (upd_same V 7 _))
  ·intro D V zw1 a hR hI K hK
   obtain ⟨hM1, hB1, hG1⟩ := hI.1
   have ze3 := hR.frame.other (t := 3) (by kernel_rfl) rfl
   rw [if_pos (by rfl)]
   go_simp
   exact hK (.int .i64 at_) _ (hI.next hR (by kernel_rfl) (Mod.refl _ _) (PB.quiet hI.1 (Mod.refl _ _) (HGs.out D 8 zw1 zw1 (hI.1).g (Mod.refl _ _))) (upd_same V 8 _))
  ·intro D V zw1 a hR hI K hK
   obtain ⟨hM1, hB1, hG1⟩ := hI.1
   have zd8 := hR.pred 8 (by kernel_rfl)
   have zF8 : V 8 = .int .i64 at_ := hI.2 8 zd8 rfl
   have zf8 := zF8; clear zF8
   have ze26 := hR.frame.done (t := 26) (j := 8) (by kernel_rfl) hR.ok zd8
   rw [if_pos (by rfl)]
   go_simp
   refine (HMO.out _).mono ?_
   rintro e zw2 ⟨rfl, hm2⟩
   exact hK (.int .i64 mo) _ (hI.next hR (by kernel_rfl) hm2 (PB.quiet hI.1 hm2 (HGs.out D 9 _ _ (hI.1).g hm2)) (upd_same V 9 _))
  ·intro D V zw1 a hR hI K hK
   obtain ⟨hM1, hB1, hG1⟩ := hI.1
   have zd2 := hR.pred 2 (by kernel_rfl)
   have zF2 : V 2 = .int .i64 qs := hI.2 2 zd2 rfl
   have zf2 := zF2; clear zF2
   have zd7 := hR.pred 7 (by kernel_rfl)
   have zF7 : V 7 = .int .i64 e1 := hI.2 7 zd7 rfl
   have zf7 := zF7; clear zF7
   have zd9 := hR.pred 9 (by kernel_rfl)
   have zF9 : V 9 = .int .i64 mo := hI.2 9 zd9 rfl
   have zf9 := zF9; clear zF9
   have ze20 := hR.frame.done (t := 20) (j := 2) (by kernel_rfl) hR.ok zd2
   have ze25 := hR.frame.done (t := 25) (j := 7) (by kernel_rfl) hR.ok zd7
   have ze27 := hR.frame.done (t := 27) (j := 9) (by kernel_rfl) hR.ok zd9
   rw [if_pos (by rfl)]
   go_simp
   exact hK (_) _ (hI.next hR (by kernel_rfl) ((Mod.refl _ _).alloc _) (PB.quiet hI.1 (pure_alloc _ _) (HGs.out D 10 _ _ (hI.1).g ((Mod.refl _ _).alloc _))) (⟨_, upd_same V 10 _, (by omega), (Blk.new _ _ _)⟩))
  ·intro D V zw1 a hR hI K hK
   obtain ⟨hM1, hB1, hG1⟩ := hI.1
   have zd10 := hR.pred 10 (by kernel_rfl)
   have zF10 : ∃ (g_10 : Nat), V 10 = .slice (some ⟨g_10, 0, none⟩) 3 3 ∧ w1.heap.size ≤ g_10 ∧ Blk zw1 g_10 41 #[.int .i64 qs, .int .i64 e1, .int .i64 mo] := hI.2 10 zd10 (by show (!D 11) = true; rw [hR.not]; rfl)
   obtain ⟨g_10, zf10, c10_0, b10_0⟩ := zF10
   have ze28 := hR.frame.done (t := 28) (j := 10) (by kernel_rfl) hR.ok zd10
   rw [if_pos (by rfl)]
   go_simp
   refine (HFE.out _ _ b10_0).mono ?_
   rintro e zw2 ⟨rfl, hm2⟩
   exact hK (.int .i64 q) _ (hI.next hR (by kernel_rfl) hm2 (PB.quiet hI.1 hm2 (HGs.out D 11 _ _ (hI.1).g hm2)) (upd_same V 11 _))
  ·intro D V zw1 a hR hI K hK
   obtain ⟨hM1, hB1, hG1⟩ := hI.1
   have zd11 := hR.pred 11 (by kernel_rfl)
   have zF11 : V 11 = .int .i64 q := hI.2 11 zd11 rfl
   have zf11 := zF11; clear zF11
   have ze29 := hR.frame.done (t := 29) (j := 11) (by kernel_rfl) hR.ok zd11
   rw [if_pos (by rfl)]
   go_simp
   exact hK (.int .i64 q) _ (hI.next hR (by kernel_rfl) (Mod.refl _ _) (PB.quiet hI.1 (Mod.refl _ _) (HGs.out D 12 zw1 zw1 (hI.1).g (Mod.refl _ _))) (upd_same V 12 _))
 ·intro D V w6 hD hI
  obtain ⟨hM1, hB1, hG1⟩ := hI.1
  have hMx := hM1
  clear hM1
  have hBx := hB1
  clear hB1
  have hGx := hG1
  clear hG1
  have zF0 : V 0 = .agg #[.slice A n c, .slice A2 n2 c2] := hI.2 0 (hD 0 (by decide)) rfl
  have zf0 := zF0; clear zF0
  have zF1 : V 1 = .slice A3 n3 c3 := hI.2 1 (hD 1 (by decide)) rfl
  have zf1 := zF1; clear zF1
  have zF2 : V 2 = .int .i64 qs := hI.2 2 (hD 2 (by decide)) rfl
  have zf2 := zF2; clear zF2
  have zF3 : V 3 = .agg #[.slice A n c, .slice A2 n2 c2] := hI.2 3 (hD 3 (by decide)) rfl
  have zf3 := zF3; clear zF3
  have zF4 : V 4 = .string ⟨fd.toArray⟩ := hI.2 4 (hD 4 (by decide)) rfl
  have zf4 := zF4; clear zF4
  have zF5 : V 5 = .int .i64 ai := hI.2 5 (hD 5 (by decide)) rfl
  have zf5 := zF5; clear zF5
  have zF6 : V 6 = .bool (decide (ai < 0)) := hI.2 6 (hD 6 (by decide)) rfl
  have zf6 := zF6; clear zF6
  have zF7 : V 7 = .int .i64 e1 := hI.2 7 (hD 7 (by decide)) rfl
  have zf7 := zF7; clear zF7
  have zF8 : V 8 = .int .i64 at_ := hI.2 8 (hD 8 (by decide)) rfl
  have zf8 := zF8; clear zF8
  have zF9 : V 9 = .int .i64 mo := hI.2 9 (hD 9 (by decide)) rfl
  have zf9 := zF9; clear zF9
  have zF11 : V 11 = .int .i64 q := hI.2 11 (hD 11 (by decide)) rfl
  have zf11 := zF11; clear zF11
  have zF12 : V 12 = .int .i64 q := hI.2 12 (hD 12 (by decide)) rfl
  have zf12 := zF12; clear zF12
  clear hI hD HGs
  simp only [frAll, Act.put, List.setIfInBounds_toArray, List.set_cons_zero, List.set_cons_succ, Nat.zero_add, Nat.reduceAdd, zf0, zf1, zf2, zf3, zf4, zf5, zf6, zf7, zf8, zf9, zf11, zf12]
  clear zf0 zf1 zf2 zf3 zf4 zf5 zf6 zf7 zf8 zf9 zf11 zf12
  generalize V 10 = u10
  clear V D
  have HP6 := Lib.hid hMx
  have HB6 := Lib.hid hGx
  clear hMx hGx hBx HB0 HP0 HCK HAK HMO HFE HE1
  by_cases h0 : q = 0
  rotate_left
  ·have h0' : (q != 0) = true := by simpa using h0
   clear HLK HQ HB6 HFC
   go_wp2_with fail
   refine bodyPost_ret (v := .tuple #[.slice none 0 0, .int .i64 q]) (by simp [results, Tryz.results44, go_sem]) rfl ?_
   exact ⟨none, 0, 0, rfl, fun _ => rfl, fun h => absurd h h0, HP6.out⟩
  subst h0
  have hq0 : qs = 0 := Decidable.byContradiction fun h => h (by have := HQ.out; rw [if_pos h] at this; omega)
  have HM0 := Lib.hid (MapS.made w6)
  have HP7 := Lib.hid (HP6.out.trans (pure_alloc w6 (.map #[] 0)))
  have HB7 := Lib.hid (HB6.out.alloc (.map #[] 0))
  have hgb : g4 ≤ w6.heap.size := by have := HP6.out.size; omega
  have HLW := Lib.hid (HLK.out hq0 _ HP7.out)
  clear HLK HQ hq0 HP6 HB6
  go_upto_region 5 with (fail)
  clear hmm
  have hbs : w6.heap.size < (w6.alloc (.map #[] 0)).heap.size := by simp
  generalize w6.heap.size = bm at *
  generalize w6.alloc (.map #[] 0) = w7 at *
  have hX := HB7.out
  have l0 := hX.cell 0; have l1 := hX.cell 1; simp at l0 l1
  clear hX HB7
  go_wp2_with fail
  refine HLW.out.mono ?_
  rintro e w8 ⟨A4, c4, rfl, hlks, hm⟩
  have HP8 := Lib.hid (HP7.out.trans hm)
  have HMN := Lib.hid (HM0.out.pure hm)
  have HSL := Lib.hid hlks.1
  have hb8 : bm < w8.heap.size := by have := hm.size; omega
  clear hlks hm HP7 HM0 HLW l0 l1 hbs
  go_wp2_with fail
  go_loopg [39] lks.length (fun gk i wr => S1Rel w w8 bm fd lks gk i wr)
  case atStart => exact ⟨0, 0, by omega, by omega, rfl, by rw [List.take_zero, scoFV_nil]; exact HMN.out, by omega, HP8.out, Mod.refl _ _, by omega⟩
  case round =>
   obtain ⟨k, nn, rfl, hk, rfl, hM, hnk, hm, hm8, hsz⟩ := hrel
   by_cases hlt : k < lks.length
   ·have hLk : Lks wr (.slice A4 lks.length c4) lks := ⟨HSL.out.mod hm8 (fun g arr fr hg => HMN.out.norow g arr _ fr hg), fun p hp => (HFC.out p hp).1 wr hm⟩
    obtain ⟨g, off, rfl, hcells⟩ := hLk.cells hlt
    have HEL := Lib.hid (fun W (h : Pure wr W) => (HFC.out _ (List.getElem_mem hlt)).1 W (hm.trans h))
    have hrl : (lks[k]).1.rev.length ≤ 1000 := (HFC.out _ (List.getElem_mem hlt)).2.2.2.2.2.1
    obtain ⟨b1, b2, b3, b4⟩ := sco_bounds (fd := fd) (l := lks.take k) (by simp; omega) (lks[k]).1.rev
    have HTK := Lib.hid (scoFV_take (fd := fd) hlt)
    have HGD := Lib.hid (scoFV_getD fd (lks.take k) (lks[k]).1.rev)
    clear hLk
    generalize lks[k] = p at *
    generalize (scoF fd (lks.take k) p.1.rev).getD sco0 = t at *
    have hlook := (hM.al (.cells (lkC p).toArray 151)).lookup (e := 96) Tryz.underlying152 zero_sco p.1.rev (by omega)
    rw [HGD.out] at hlook
    have HTA : Hid (scoVA (scoA fd t p) = .agg #[.string ⟨p.1.rev.toArray⟩, .int .i64 (t.looked + 1), .int .i64 (t.same + samI fd p)]) := Lib.hid rfl
    obtain ⟨⟨xno, xat, xrev, xitem, xsec, xA, xc, xv⟩, ⟨yno, yat, yrev, yitem, ysec, yA, yc, yv⟩⟩ := p
    obtain ⟨tr, tl, ts⟩ := t
    unfold scoVA at hlook
    simp only [] at hlook b1 b2 b3 b4 hrl HTK HTA HEL
    have q0 : wr.cell? ⟨g, off + k * 12, none⟩ = some (.int .i64 xno) := hcells 0 (by omega)
    have q1 : wr.cell? ⟨g, off + k * 12 + 1, none⟩ = some (.int .i64 xat) := hcells 1 (by omega)
    have q2 : wr.cell? ⟨g, off + k * 12 + 2, none⟩ = some (.string ⟨xrev.toArray⟩) := hcells 2 (by omega)
    have q3 : wr.cell? ⟨g, off + k * 12 + 3, none⟩ = some (.string ⟨xitem.toArray⟩) := hcells 3 (by omega)
    have q4 : wr.cell? ⟨g, off + k * 12 + 4, none⟩ = some (.bool xsec) := hcells 4 (by omega)
    have q5 : wr.cell? ⟨g, off + k * 12 + 5, none⟩ = some (.slice xA xv.length xc) := hcells 5 (by omega)
    have q6 : wr.cell? ⟨g, off + k * 12 + 6, none⟩ = some (.int .i64 yno) := hcells 6 (by omega)
    have q7 : wr.cell? ⟨g, off + k * 12 + 7, none⟩ = some (.int .i64 yat) := hcells 7 (by omega)
    have q8 : wr.cell? ⟨g, off + k * 12 + 8, none⟩ = some (.string ⟨yrev.toArray⟩) := hcells 8 (by omega)
    have q9 : wr.cell? ⟨g, off + k * 12 + 9, none⟩ = some (.string ⟨yitem.toArray⟩) := hcells 9 (by omega)
    have q10 : wr.cell? ⟨g, off + k * 12 + 10, none⟩ = some (.bool ysec) := hcells 10 (by omega)
    have q11 : wr.cell? ⟨g, off + k * 12 + 11, none⟩ = some (.slice yA yv.length yc) := hcells 11 (by omega)
    have hkl : (k : Int) < (lks.length : Int) := by omega
    have hlook2 : (Instr.lookup 152 (.map (some bm)) (.string ⟨xrev.toArray⟩) false).run Tryz.prog (wr.alloc (.cells #[.int .i64 xno, .int .i64 xat, .string ⟨xrev.toArray⟩, .string ⟨xitem.toArray⟩, .bool xsec, .slice xA xv.length xc, .int .i64 yno, .int .i64 yat, .string ⟨yrev.toArray⟩, .string ⟨yitem.toArray⟩, .bool ysec, .slice yA yv.length yc] 151)) = .ok (.agg #[.string ⟨tr.toArray⟩, .int .i64 tl, .int .i64 ts]) (wr.alloc (.cells #[.int .i64 xno, .int .i64 xat, .string ⟨xrev.toArray⟩, .string ⟨xitem.toArray⟩, .bool xsec, .slice xA xv.length xc, .int .i64 yno, .int .i64 yat, .string ⟨yrev.toArray⟩, .string ⟨yitem.toArray⟩, .bool ysec, .slice yA yv.length yc] 151)) := hlook
    clear hcells hlook
    go_upto_region 11 with (fail)
    have HV1 := Lib.hid (fun W (h : Pure wr W) => value_calls W _ xv fd ((HEL.out W h).1))
    have HV2 := Lib.hid (fun W (h : Pure wr W) => value_calls W _ yv fd ((HEL.out W h).2))
    have HSI : Hid (samI fd (⟨xno, xat, xrev, xitem, xsec, xA, xc, xv⟩, ⟨yno, yat, yrev, yitem, ysec, yA, yc, yv⟩) = if chIn xv fd = chIn yv fd then 1 else 0) := Lib.hid rfl
    have HX2 := Lib.hid ((Blk.new wr 151 #[.int .i64 xno, .int .i64 xat, .string ⟨xrev.toArray⟩, .string ⟨xitem.toArray⟩, .bool xsec, .slice xA xv.length xc, .int .i64 yno, .int .i64 yat, .string ⟨yrev.toArray⟩, .string ⟨yitem.toArray⟩, .bool ysec, .slice yA yv.length yc]).alloc (.cells #[.string ⟨xrev.toArray⟩, .int .i64 (tl + 1), .int .i64 ts] 96))
    have HY2 : Hid (Blk ((wr.alloc (.cells #[.int .i64 xno, .int .i64 xat, .string ⟨xrev.toArray⟩, .string ⟨xitem.toArray⟩, .bool xsec, .slice xA xv.length xc, .int .i64 yno, .int .i64 yat, .string ⟨yrev.toArray⟩, .string ⟨yitem.toArray⟩, .bool ysec, .slice yA yv.length yc] 151)).alloc (.cells #[.string ⟨xrev.toArray⟩, .int .i64 (tl + 1), .int .i64 ts] 96)) (wr.heap.size + 1) 96 #[.string ⟨xrev.toArray⟩, .int .i64 (tl + 1), .int .i64 ts]) := Lib.hid (Blk.new' (by simp))
    have HPA : Hid (Pure wr ((wr.alloc (.cells #[.int .i64 xno, .int .i64 xat, .string ⟨xrev.toArray⟩, .string ⟨xitem.toArray⟩, .bool xsec, .slice xA xv.length xc, .int .i64 yno, .int .i64 yat, .string ⟨yrev.toArray⟩, .string ⟨yitem.toArray⟩, .bool ysec, .slice yA yv.length yc] 151)).alloc (.cells #[.string ⟨xrev.toArray⟩, .int .i64 (tl + 1), .int .i64 ts] 96))) := Lib.hid ((pure_alloc wr (.cells #[.int .i64 xno, .int .i64 xat, .string ⟨xrev.toArray⟩, .string ⟨xitem.toArray⟩, .bool xsec, .slice xA xv.length xc, .int .i64 yno, .int .i64 yat, .string ⟨yrev.toArray⟩, .string ⟨yitem.toArray⟩, .bool ysec, .slice yA yv.length yc] 151)).trans (pure_alloc _ (.cells #[.string ⟨xrev.toArray⟩, .int .i64 (tl + 1), .int .i64 ts] 96)))
    have HM := Lib.hid hM
    have HP := Lib.hid hm
    have HM8 := Lib.hid hm8
    unfold ChPost at HV1 HV2
    generalize chIn xv fd = e1 at *
    generalize chIn yv fd = e2 at *
    clear hM hm hm8 hlook2 q0 q1 q2 q3 q4 q5 q6 q7 q8 q9 q10 q11 HEL HGD
    generalize ((wr.alloc (.cells #[.int .i64 xno, .int .i64 xat, .string ⟨xrev.toArray⟩, .string ⟨xitem.toArray⟩, .bool xsec, .slice xA xv.length xc, .int .i64 yno, .int .i64 yat, .string ⟨yrev.toArray⟩, .string ⟨yitem.toArray⟩, .bool ysec, .slice yA yv.length yc] 151)).alloc (.cells #[.string ⟨xrev.toArray⟩, .int .i64 (tl + 1), .int .i64 ts] 96)) = wa at *
    generalize hg13 : wr.heap.size = g13 at *
    have HGs := Lib.hid (show ∀ (D : Nat → Bool) (zzi : Nat) (zq zq' : World), (fun _ zq => (fun Z => Blk Z g13 151 #[.int .i64 xno, .int .i64 xat, .string ⟨xrev.toArray⟩, .string ⟨xitem.toArray⟩, .bool xsec, .slice xA xv.length xc, .int .i64 yno, .int .i64 yat, .string ⟨yrev.toArray⟩, .string ⟨yitem.toArray⟩, .bool ysec, .slice yA yv.length yc] ∧ Blk Z (g13 + 1) 96 #[.string ⟨xrev.toArray⟩, .int .i64 (tl + 1), .int .i64 ts]) zq) D zq → Mod (fun _ => False) zq zq' → (fun _ zq => (fun Z => Blk Z g13 151 #[.int .i64 xno, .int .i64 xat, .string ⟨xrev.toArray⟩, .string ⟨xitem.toArray⟩, .bool xsec, .slice xA xv.length xc, .int .i64 yno, .int .i64 yat, .string ⟨yrev.toArray⟩, .string ⟨yitem.toArray⟩, .bool ysec, .slice yA yv.length yc] ∧ Blk Z (g13 + 1) 96 #[.string ⟨xrev.toArray⟩, .int .i64 (tl + 1), .int .i64 ts]) zq) (upd D zzi true) zq' from by intro D zzi zq zq' h hm; (exact ⟨h.1.modp hm, h.2.modp hm⟩))
    refine wp_region_inv (by kernel_rfl) (by kernel_rfl) (InvF (R := Mod (fun _ => False)) [.is (.pointer (some ⟨g13, 0, none⟩)),
      .is (.pointer (some ⟨g13, 5, none⟩)),
      .is (.slice xA xv.length xc),
      .is (.string ⟨fd.toArray⟩),
      ⟨fun zv zw => ∃ (A_4 : Option Addr) (c_4 : Nat), zv = .slice A_4 e1.length c_4 ∧ SlK zw (.slice A_4 e1.length c_4) e1, (by rintro zv zw zx ⟨A_4, c_4, rfl, q0⟩ hm; exact ⟨A_4, c_4, rfl, (SlK.pure q0 hm)⟩), none, none⟩,
      .is (.pointer (some ⟨g13, 6, none⟩)),
      .is (.pointer (some ⟨g13, 11, none⟩)),
      .is (.slice yA yv.length yc),
      .is (.string ⟨fd.toArray⟩),
      ⟨fun zv zw => ∃ (A_9 : Option Addr) (c_9 : Nat), zv = .slice A_9 e2.length c_9 ∧ SlK zw (.slice A_9 e2.length c_9) e2, (by rintro zv zw zx ⟨A_9, c_9, rfl, q0⟩ hm; exact ⟨A_9, c_9, rfl, (SlK.pure q0 hm)⟩), none, none⟩,
      .is (.bool (decide (e1 = e2)))]
      (PB wr (fun _ => False) wa.heap.size (fun _ zq => (fun Z => Blk Z g13 151 #[.int .i64 xno, .int .i64 xat, .string ⟨xrev.toArray⟩, .string ⟨xitem.toArray⟩, .bool xsec, .slice xA xv.length xc, .int .i64 yno, .int .i64 yat, .string ⟨yrev.toArray⟩, .string ⟨yitem.toArray⟩, .bool ysec, .slice yA yv.length yc] ∧ Blk Z (g13 + 1) 96 #[.string ⟨xrev.toArray⟩, .int .i64 (tl + 1), .int .i64 ts]) zq))) (InvF.start (PB.start HPA.out (Nat.le_refl _) (⟨HX2.out.drew, HY2.out.drew⟩))) ?_ ?_
    ·refine .cons ?_ (.cons ?_ (.cons ?_ (.cons ?_ (.cons ?_ (.cons ?_ (.cons ?_ (.cons ?_ (.cons ?_ (.cons ?_ (.cons ?_ .nil))))))))))
     ·intro D V zw1 a hR hI K hK
      obtain ⟨hM1, hB1, hG1⟩ := hI.1
      have ze13 := hR.frame.other (t := 13) (by kernel_rfl) rfl
      rw [if_pos (by rfl)]
      go_simp
      exact hK (.pointer (some ⟨g13, 0, none⟩)) _ (hI.next hR (by kernel_rfl) (Mod.refl _ _) (PB.quiet hI.1 (Mod.refl _ _) (HGs.out D 0 zw1 zw1 (hI.1).g (Mod.refl _ _))) (upd_same V 0 _))
     ·intro D V zw1 a hR hI K hK
      obtain ⟨hM1, hB1, hG1⟩ := hI.1
      have zd0 := hR.pred 0 (by kernel_rfl)
      have zF0 : V 0 = .pointer (some ⟨g13, 0, none⟩) := hI.2 0 zd0 rfl
      have zf0 := zF0; clear zF0
      have ze56 := hR.frame.done (t := 56) (j := 0) (by kernel_rfl) hR.ok zd0
      rw [if_pos (by rfl)]
      go_simp
      exact hK (.pointer (some ⟨g13, 5, none⟩)) _ (hI.next hR (by kernel_rfl) (Mod.refl _ _) (PB.quiet hI.1 (Mod.refl _ _) (HGs.out D 1 zw1 zw1 (hI.1).g (Mod.refl _ _))) (upd_same V 1 _))
     ·intro D V zw1 a hR hI K hK
      obtain ⟨hM1, hB1, hG1⟩ := hI.1
      have zd1 := hR.pred 1 (by kernel_rfl)
      have zF1 : V 1 = .pointer (some ⟨g13, 5, none⟩) := hI.2 1 zd1 rfl
      have zf1 := zF1; clear zF1
      have ze57 := hR.frame.done (t := 57) (j := 1) (by kernel_rfl) hR.ok zd1
      have zx := hG1.1.cell 5
      simp at zx
      rw [if_pos (by rfl)]
      go_simp
      exact hK (.slice xA xv.length xc) _ (hI.next hR (by kernel_rfl) (Mod.refl _ _) (PB.quiet hI.1 (Mod.refl _ _) (HGs.out D 2 zw1 zw1 (hI.1).g (Mod.refl _ _))) (upd_same V 2 _))
     ·intro D V zw1 a hR hI K hK
      obtain ⟨hM1, hB1, hG1⟩ := hI.1
      have ze2 := hR.frame.other (t := 2) (by kernel_rfl) rfl
      rw [if_pos (by rfl)]
      go_simp
      exact hK (.string ⟨fd.toArray⟩) _ (hI.next hR (by kernel_rfl) (Mod.refl _ _) (PB.quiet hI.1 (Mod.refl _ _) (HGs.out D 3 zw1 zw1 (hI.1).g (Mod.refl _ _))) (upd_same V 3 _))
     ·intro D V zw1 a hR hI K hK
      obtain ⟨hM1, hB1, hG1⟩ := hI.1
      have zd2 := hR.pred 2 (by kernel_rfl)
      have zF2 : V 2 = .slice xA xv.length xc := hI.2 2 zd2 rfl
      have zf2 := zF2; clear zF2
      have zd3 := hR.pred 3 (by kernel_rfl)
      have zF3 : V 3 = .string ⟨fd.toArray⟩ := hI.2 3 zd3 rfl
      have zf3 := zF3; clear zF3
      have ze58 := hR.frame.done (t := 58) (j := 2) (by kernel_rfl) hR.ok zd2
      have ze59 := hR.frame.done (t := 59) (j := 3) (by kernel_rfl) hR.ok zd3
      rw [if_pos (by rfl)]
      go_simp
      refine (HV1.out zw1 hM1).mono ?_
      rintro e zw2 ⟨A_0, c_0, rfl, hsl, hm2⟩
      exact hK (.slice A_0 e1.length c_0) _ (hI.next hR (by kernel_rfl) hm2 (PB.quiet hI.1 hm2 (HGs.out D 4 _ _ (hI.1).g hm2)) (⟨A_0, c_0, upd_same V 4 _, hsl⟩))
     ·intro D V zw1 a hR hI K hK
      obtain ⟨hM1, hB1, hG1⟩ := hI.1
      have ze13 := hR.frame.other (t := 13) (by kernel_rfl) rfl
      rw [if_pos (by rfl)]
      go_simp
      exact hK (.pointer (some ⟨g13, 6, none⟩)) _ (hI.next hR (by kernel_rfl) (Mod.refl _ _) (PB.quiet hI.1 (Mod.refl _ _) (HGs.out D 5 zw1 zw1 (hI.1).g (Mod.refl _ _))) (upd_same V 5 _))
     ·intro D V zw1 a hR hI K hK
      obtain ⟨hM1, hB1, hG1⟩ := hI.1
      have zd5 := hR.pred 5 (by kernel_rfl)
      have zF5 : V 5 = .pointer (some ⟨g13, 6, none⟩) := hI.2 5 zd5 rfl
      have zf5 := zF5; clear zF5
      have ze61 := hR.frame.done (t := 61) (j := 5) (by kernel_rfl) hR.ok zd5
      rw [if_pos (by rfl)]
      go_simp
      exact hK (.pointer (some ⟨g13, 11, none⟩)) _ (hI.next hR (by kernel_rfl) (Mod.refl _ _) (PB.quiet hI.1 (Mod.refl _ _) (HGs.out D 6 zw1 zw1 (hI.1).g (Mod.refl _ _))) (upd_same V 6 _))
     ·intro D V zw1 a hR hI K hK
      obtain ⟨hM1, hB1, hG1⟩ := hI.1
      have zd6 := hR.pred 6 (by kernel_rfl)
      have zF6 : V 6 = .pointer (some ⟨g13, 11, none⟩) := hI.2 6 zd6 rfl
      have zf6 := zF6; clear zF6
      have ze62 := hR.frame.done (t := 62) (j := 6) (by kernel_rfl) hR.ok zd6
      have zx := hG1.1.cell 11
      simp at zx
      rw [if_pos (by rfl)]
      go_simp
      exact hK (.slice yA yv.length yc) _ (hI.next hR (by kernel_rfl) (Mod.refl _ _) (PB.quiet hI.1 (Mod.refl _ _) (HGs.out D 7 zw1 zw1 (hI.1).g (Mod.refl _ _))) (upd_same V 7 _))
     ·intro D V zw1 a hR hI K hK
      obtain ⟨hM1, hB1, hG1⟩ := hI.1
      have ze2 := hR.frame.other (t := 2) (by kernel_rfl) rfl
      rw [if_pos (by rfl)]
      go_simp
      exact hK (.string ⟨fd.toArray⟩) _ (hI.next hR (by kernel_rfl) (Mod.refl _ _) (PB.quiet hI.1 (Mod.refl _ _) (HGs.out D 8 zw1 zw1 (hI.1).g (Mod.refl _ _))) (upd_same V 8 _))
     ·intro D V zw1 a hR hI K hK
      obtain ⟨hM1, hB1, hG1⟩ := hI.1
      have zd7 := hR.pred 7 (by kernel_rfl)
      have zF7 : V 7 = .slice yA yv.length yc := hI.2 7 zd7 rfl
      have zf7 := zF7; clear zF7
      have zd8 := hR.pred 8 (by kernel_rfl)
      have zF8 : V 8 = .string ⟨fd.toArray⟩ := hI.2 8 zd8 rfl
      have zf8 := zF8; clear zF8
      have ze63 := hR.frame.done (t := 63) (j := 7) (by kernel_rfl) hR.ok zd7
      have ze64 := hR.frame.done (t := 64) (j := 8) (by kernel_rfl) hR.ok zd8
      rw [if_pos (by rfl)]
      go_simp
      refine (HV2.out zw1 hM1).mono ?_
      rintro e zw2 ⟨A_0, c_0, rfl, hsl, hm2⟩
      exact hK (.slice A_0 e2.length c_0) _ (hI.next hR (by kernel_rfl) hm2 (PB.quiet hI.1 hm2 (HGs.out D 9 _ _ (hI.1).g hm2)) (⟨A_0, c_0, upd_same V 9 _, hsl⟩))
     ·intro D V zw1 a hR hI K hK
      obtain ⟨hM1, hB1, hG1⟩ := hI.1
      have zd4 := hR.pred 4 (by kernel_rfl)
      have zF4 : ∃ (A_4 : Option Addr) (c_4 : Nat), V 4 = .slice A_4 e1.length c_4 ∧ SlK zw1 (.slice A_4 e1.length c_4) e1 := hI.2 4 zd4 rfl
      obtain ⟨A_4, c_4, zf4, b4_0⟩ := zF4
      have zd9 := hR.pred 9 (by kernel_rfl)
      have zF9 : ∃ (A_9 : Option Addr) (c_9 : Nat), V 9 = .slice A_9 e2.length c_9 ∧ SlK zw1 (.slice A_9 e2.length c_9) e2 := hI.2 9 zd9 rfl
      obtain ⟨A_9, c_9, zf9, b9_0⟩ := zF9
      have ze60 := hR.frame.done (t := 60) (j := 4) (by kernel_rfl) hR.ok zd4
      have ze65 := hR.frame.done (t := 65) (j := 9) (by kernel_rfl) hR.ok zd9
      rw [if_pos (by rfl)]
      go_simp
      refine (equalG_calls zw1 _ _ e1 e2 b4_0 b9_0).mono ?_
      rintro e zw2 ⟨rfl, hm2⟩
      exact hK (.bool (decide (e1 = e2))) _ (hI.next hR (by kernel_rfl) hm2 (PB.quiet hI.1 hm2 (HGs.out D 10 _ _ (hI.1).g hm2)) (upd_same V 10 _))
    ·intro D V wb hD hI
     obtain ⟨hM1, hB1, hG1⟩ := hI.1
     have hMx := hM1
     clear hM1
     have hBx := hB1
     clear hB1
     have hGx := hG1
     clear hG1
     have zF0 : V 0 = .pointer (some ⟨g13, 0, none⟩) := hI.2 0 (hD 0 (by decide)) rfl
     have zf0 := zF0; clear zF0
     have zF1 : V 1 = .pointer (some ⟨g13, 5, none⟩) := hI.2 1 (hD 1 (by decide)) rfl
     have zf1 := zF1; clear zF1
     have zF2 : V 2 = .slice xA xv.length xc := hI.2 2 (hD 2 (by decide)) rfl
     have zf2 := zF2; clear zF2
     have zF3 : V 3 = .string ⟨fd.toArray⟩ := hI.2 3 (hD 3 (by decide)) rfl
     have zf3 := zF3; clear zF3
     have zF4 : ∃ (A_4 : Option Addr) (c_4 : Nat), V 4 = .slice A_4 e1.length c_4 ∧ SlK wb (.slice A_4 e1.length c_4) e1 := hI.2 4 (hD 4 (by decide)) rfl
     obtain ⟨A_4, c_4, zf4, b4_0⟩ := zF4
     have zF5 : V 5 = .pointer (some ⟨g13, 6, none⟩) := hI.2 5 (hD 5 (by decide)) rfl
     have zf5 := zF5; clear zF5
     have zF6 : V 6 = .pointer (some ⟨g13, 11, none⟩) := hI.2 6 (hD 6 (by decide)) rfl
     have zf6 := zF6; clear zF6
     have zF7 : V 7 = .slice yA yv.length yc := hI.2 7 (hD 7 (by decide)) rfl
     have zf7 := zF7; clear zF7
     have zF8 : V 8 = .string ⟨fd.toArray⟩ := hI.2 8 (hD 8 (by decide)) rfl
     have zf8 := zF8; clear zF8
     have zF9 : ∃ (A_9 : Option Addr) (c_9 : Nat), V 9 = .slice A_9 e2.length c_9 ∧ SlK wb (.slice A_9 e2.length c_9) e2 := hI.2 9 (hD 9 (by decide)) rfl
     obtain ⟨A_9, c_9, zf9, b9_0⟩ := zF9
     have zF10 : V 10 = .bool (decide (e1 = e2)) := hI.2 10 (hD 10 (by decide)) rfl
     have zf10 := zF10; clear zF10
     clear hI hD HGs
     simp only [frAll, Act.put, List.setIfInBounds_toArray, List.set_cons_zero, List.set_cons_succ, Nat.zero_add, Nat.reduceAdd, zf0, zf1, zf2, zf3, zf4, zf5, zf6, zf7, zf8, zf9, zf10]
     clear zf0 zf1 zf2 zf3 zf4 zf5 zf6 zf7 zf8 zf9 zf10
     clear V D
     have HPB := Lib.hid hMx
     have hY := hGx.2
     have hwb : g13 ≤ wb.heap.size := by have := hMx.size; omega
     clear hMx hGx hBx HX2 HY2 HPA HV1 HV2 b4_0 b9_0
     generalize hfe : decide (e1 = e2) = fe at *
     have HFE := Lib.hid hfe
     clear hfe
     cases fe
     ·have he : ¬ e1 = e2 := of_decide_eq_false HFE.out
      obtain ⟨w9, hrun3, hms3, hm3⟩ := (HM.out.pure HPB.out).store (t := 152) (e := 96) Tryz.underlying152 (by omega) xrev (by omega) (scoVA (scoA fd ⟨tr, tl, ts⟩ (⟨xno, xat, xrev, xitem, xsec, xA, xc, xv⟩, ⟨yno, yat, yrev, yitem, ysec, yA, yc, yv⟩)))
      rw [HTK.out] at hms3
      rw [HTA.out, HSI.out, if_neg he, Int.add_zero] at hrun3
      have HMS := Lib.hid hms3
      have HP9 := Lib.hid ((HP.out.trans HPB.out).trans' hm3 (fun i hi hl => by omega))
      have HM9 := Lib.hid ((HM8.out.trans (Mod.of_pure HPB.out)).trans hm3)
      have hsz9 := HM9.out.size
      clear hms3 hm3 HTK HTA HSI HFE he HM HP HM8 HPB
      have d0 := hY.cell 0; have d1 := hY.cell 1; have d2 := hY.cell 2; simp at d0 d1 d2
      clear hY
      go_wp2_with fail
      go_roundg (lks.length - (k + 1))
      case measure => omega
      case rel => exact ⟨k + 1, nn + 1, rfl, by omega, by simp, HMS.out, by omega, HP9.out, HM9.out, hsz9⟩
     ·have he : e1 = e2 := of_decide_eq_true HFE.out
      have HY3 := Lib.hid (hY.set 2 (.int .i64 (ts + 1)))
      have HM3 : Hid (Mod (· = g13 + 1) wb (wb.setCell ⟨g13 + 1, 2, none⟩ (.int .i64 (ts + 1)))) := Lib.hid (Mod.setCell (S := (· = g13 + 1)) (Mod.refl _ wb) (p := ⟨g13 + 1, 2, none⟩) (.inl rfl) _)
      have HPC : Hid (Pure wr (wb.setCell ⟨g13 + 1, 2, none⟩ (.int .i64 (ts + 1)))) := Lib.hid (HPB.out.trans' HM3.out (fun i hi hl => by omega))
      have d0 := hY.cell 0; have df0 := hY.frozen 0; have d1 := hY.cell 1; have df1 := hY.frozen 1; have d2 := hY.cell 2; have df2 := hY.frozen 2; simp at d0 d1 d2
      clear hY
      go_upto_region 13 with (fail)
      clear d0 d1 d2 df0 df1 df2
      generalize (wb.setCell ⟨g13 + 1, 2, none⟩ (.int .i64 (ts + 1))) = wc at *
      obtain ⟨w9, hrun3, hms3, hm3⟩ := (HM.out.pure HPC.out).store (t := 152) (e := 96) Tryz.underlying152 (by omega) xrev (by omega) (scoVA (scoA fd ⟨tr, tl, ts⟩ (⟨xno, xat, xrev, xitem, xsec, xA, xc, xv⟩, ⟨yno, yat, yrev, yitem, ysec, yA, yc, yv⟩)))
      rw [HTK.out] at hms3
      rw [HTA.out, HSI.out, if_pos he] at hrun3
      have HMS := Lib.hid hms3
      have HP9 := Lib.hid ((HP.out.trans HPC.out).trans' hm3 (fun i hi hl => by omega))
      have HM9 := Lib.hid ((HM8.out.trans (Mod.of_pure HPC.out)).trans hm3)
      have hsz9 := HM9.out.size
      have hY := HY3.out
      simp only [List.setIfInBounds_toArray, List.set_cons_succ, List.set_cons_zero] at hY
      clear hms3 hm3 HTK HTA HSI HFE he HM HP HM8 HPB HPC HM3 HY3
      have d0 := hY.cell 0; have d1 := hY.cell 1; have d2 := hY.cell 2; simp at d0 d1 d2
      clear hY
      go_wp2_with fail
      go_roundg (lks.length - (k + 1))
      case measure => omega
      case rel => exact ⟨k + 1, nn + 1, rfl, by omega, by simp, HMS.out, by omega, HP9.out, HM9.out, hsz9⟩
   ·obtain rfl : k = lks.length := by omega
    rw [List.take_length] at hM
    have HKS := Lib.hid (mapsKeysSO_calls (some bm) wr)
    have HSO := Lib.hid (sortedSO_calls bm nn (scoFV fd lks) wr hM (by omega) (revU lks) (nodup_uniq _) (scoFV_keys fd lks))
    have HMS : Hid (∀ W, Pure wr W → MapS W bm nn (scoFV fd lks)) := Lib.hid (fun W h => hM.pure h)
    have HM1 := Lib.hid hm
    have hcl := revS_len lks
    clear hM hm hm8 HSL HMN
    go_wp2_with fail
    refine HKS.out.mono ?_
    rintro e w3 ⟨rfl, rfl⟩
    clear HKS
    go_wp2_with fail
    refine HSO.out.mono ?_
    rintro e w4 ⟨v4, rfl, own4, m4⟩
    have HK4 : Hid (∀ W, Pure w4 W → Sl W 9 1 v4 (strsV (revS lks))) := Lib.hid (fun W h => (Sl.of_own own4).pure h)
    have HP4 := Lib.hid ((pure_alloc wr (.cells #[.map (some bm)] 152)).trans m4)
    have HMS4 : Hid (∀ W, Pure w4 W → MapS W bm nn (scoFV fd lks)) := Lib.hid (fun W h => HMS.out W (HP4.out.trans h))
    have hfm := (Sl.of_own own4).form
    obtain ⟨A5, n5, c5, rfl⟩ := hfm
    have hn5 : (revS lks).length = n5 := (HK4.out w4 (Mod.refl _ _)).lenS
    subst hn5
    have HM4 := Lib.hid (HM1.out.trans HP4.out)
    have HLL := Lib.hid (scoL_len fd lks)
    have HLG : Hid (∀ k (h : k < (revS lks).length) (h2 : k < (scoL fd lks).length), (scoFV fd lks (revS lks)[k]).getD (scoVA sco0) = scoVA (scoL fd lks)[k]) := Lib.hid (fun k h h2 => by rw [scoFV_getD]; simp [scoL])
    have HBK : Hid (∀ c ∈ revS lks, c.length ≤ 1000000) := Lib.hid (fun c hc => by
     obtain ⟨x, hx, rfl⟩ := revS_mem hc
     have : x.1.rev.length ≤ 1000 := (HFC.out x hx).2.2.2.2.2.1
     omega)
    clear HSO own4 m4 HMS HM1 HP4 HFC
    go_wp2_with fail
    obtain ⟨base, hbase⟩ : ∃ base, base = w4.heap.size := ⟨_, rfl⟩
    have hs1 := Nat.le_of_eq hbase
    have hs2 := Nat.le_of_eq hbase.symm
    clear hbase
    go_loopg [15, 80] (revS lks).length (fun gk x i wr => S2Rel w4 base fd lks gk x i wr)
    case atStart => exact ⟨0, none, 0, by omega, by omega, rfl, rfl, World.ownsRow_nil _ _ _ _, Mod.refl _ _, by omega⟩
    case round =>
     obtain ⟨k, Ao, cap, rfl, hk, rfl, rfl, hown, hm, hbs⟩ := hrel
     by_cases hlt : k < (revS lks).length
     ·have S1 := HK4.out _ hm
      obtain ⟨gr, off, rfl, hrow⟩ := S1.rowS (by omega)
      have q1 := hrow.cell (strsV_get (revS lks) k hlt)
      have hlook := (HMS4.out _ hm).lookup (e := 96) Tryz.underlying152 zero_sco (revS lks)[k] (HBK.out _ (List.getElem_mem hlt))
      have hk2 : k < (scoL fd lks).length := by rw [HLL.out]; exact hlt
      rw [HLG.out k hlt hk2] at hlook
      have HTT : Hid (scoV ((scoL fd lks).take (k + 1)) = scoV ((scoL fd lks).take k) ++ scoC (scoL fd lks)[k]) := Lib.hid (by rw [List.take_succ_eq_append_getElem hk2, scoV_snoc])
      clear S1 hrow
      generalize (scoL fd lks)[k] = t at *
      generalize (revS lks)[k] = ck at *
      generalize scoV ((scoL fd lks).take k) = tv at *
      obtain ⟨tr, tl, ts⟩ := t
      unfold scoVA at hlook
      unfold scoC at HTT
      simp only [] at hlook HTT
      go_wp2_with (at_builtin; refine wpList_append_lies _ rfl _ _ _ rfl base 96 i0 _ 3 32 Tryz.underlying83 hi0 hz0 hz1 hz2 rfl (by omega) (.slice Ao k cap) k (tv) rfl (hown.alloc _) ⟨wr.heap.size, 0, none⟩ 1 1 [.string ⟨tr.toArray⟩, .int .i64 tl, .int .i64 ts] rfl rfl (World.news_of_block (cs := #[.string ⟨tr.toArray⟩, .int .i64 tl, .int .i64 ts]) (t := 96) (fr := (0, 0)) (heap_alloc_new wr _)) (by simp [Value.oneCell']) (by omega) (by simp [maxLen]; omega) (by omega) (by have := hm.size; simp; omega) (wr.heap.size + 1) (by simp) ?_; intro g5 cap5 w5 hown5 hgrow hat hlt5)
      go_roundg ((revS lks).length - (k + 1))
      case measure => omega
      case rel =>
       refine ⟨k + 1, some ⟨g5, 0, none⟩, cap5, rfl, by omega, rfl, by simp, ?_, (hm.alloc _).grown hgrow (fun j hj => .inr (by have := own_block hown j hj; omega)), by have := hgrow.size; simp at this; omega⟩
       rw [HTT.out]
       simpa using hown5
     ·obtain rfl : k = (revS lks).length := by omega
      have hown2 := hown
      rw [← HLL.out, List.take_length, HLL.out] at hown2
      have HO := Lib.hid (Sl.of_own hown2)
      have HMF := Lib.hid (HM4.out.trans hm)
      clear hown hown2 hm HK4 HMS4 HLG HBK
      go_wp2_with fail
      refine bodyPost_ret (v := .tuple #[.slice Ao (revS lks).length cap, .int .i64 0]) (by simp [results, Tryz.results44, go_sem]) rfl ?_
      exact ⟨Ao, _, cap, rfl, fun h => absurd rfl h, fun _ => HO.out, HMF.out⟩

end Go.Proofs.YtkkndblcejmmjaaGreatDoor

/- ClashesAt of the reference. -/
namespace Go.Proofs.YtkkndblcejmmjaaGreatDoor
set_option linter.unusedVariables false
set_option linter.unusedSimpArgs false
open Go.RowKit

theorem okL_item {al : List AskR} {ds : List DecR} {at_ : Int} {i : Str} (h : okL al ds at_ i = true) : (oneD al ds at_ i).item = i := by
 unfold okL at h
 unfold oneD
 rw [Bool.and_eq_true, Bool.and_eq_true] at h
 obtain ⟨y, hy⟩ := Option.isSome_iff_exists.1 h.2.1
 rw [hy]
 unfold oneO at hy
 have h2 := (latO_mem al _ ds hy).2
 unfold prG at h2
 rw [Bool.and_eq_true] at h2
 exact of_decide_eq_true h2.1
def clE (ok : Bool) (al : List AskR) (p : LkR) : List Cla := if ok = true then clF al p else []
theorem lks_step {al : List AskR} {ds : List DecR} {at_ : Int} {I : List Str} {k : Nat} (h : k < I.length) : clsL al ((I.take (k + 1)).filterMap (lkO al ds at_)) = clsL al ((I.take k).filterMap (lkO al ds at_)) ++ clE (okL al ds at_ I[k]) al (oneD al ds at_ I[k], twoD al ds at_ I[k]) := by
 rw [List.take_succ_eq_append_getElem h, List.filterMap_append]
 unfold clsL clE
 rw [List.flatMap_append]
 have e := okL_lk al ds at_ I[k]
 by_cases hc : okL al ds at_ I[k] = true
 ·rw [if_pos hc] at e ⊢; simp [e]
 ·rw [if_neg hc] at e ⊢; simp [e]
def RsOut (w2 : World) (base g3 : Nat) (lay : Array Value) (al : List AskR) (ds : List DecR) (at_ : Int) (I : List Str) (gk : Nat) (x i : Value) (wr : World) : Prop :=
 ∃ (k cap : Nat) (Ao : Option Addr) (xs : List Cla), I.length - k = gk ∧ k ≤ I.length ∧ x = .slice Ao xs.length cap ∧ i = .int .i64 (k : Int) ∧ xs = clsL al ((I.take k).filterMap (lkO al ds at_)) ∧ xs.length ≤ 100 * k ∧ wr.ownsRow base 92 4 (.slice Ao xs.length cap) xs.length (claV xs) ∧ Blk wr g3 29 lay ∧ Pure w2 wr ∧ base ≤ wr.heap.size
def RsIn (w2 : World) (base g3 g10 g11 : Nat) (lay bx bY : Array Value) (al : List AskR) (ok : Bool) (p : LkR) (xs0 : List Cla) (gk : Nat) (x i : Value) (wr : World) : Prop :=
 ∃ (j cap : Nat) (Ao : Option Addr) (xs : List Cla), al.length - j = gk ∧ j ≤ al.length ∧ x = .slice Ao xs.length cap ∧ i = .int .i64 (j : Int) ∧ xs = xs0 ++ clE ok (al.take j) p ∧ xs.length ≤ xs0.length + j ∧ wr.ownsRow base 92 4 (.slice Ao xs.length cap) xs.length (claV xs) ∧ Blk wr g3 29 lay ∧ Blk wr g10 40 bx ∧ Blk wr g11 40 bY ∧ Pure w2 wr ∧ base ≤ wr.heap.size
def RcsPost (w : World) (XL : List Cla) (e : Ending) (w' : World) : Prop := ∃ (A : Option Addr) (k c : Nat), e = .returned (.slice A k c) ∧ Sl w' 92 4 (.slice A k c) (claV XL) ∧ Pure w w'
theorem items_len (ds : List DecR) : (itemsD ds).length ≤ ds.length := by
 have h1 := compact_le2 ((ds.map (·.item)).mergeSort fun x y => decide (x ≤ y))
 rw [List.length_mergeSort, List.length_map] at h1
 exact h1

set_option maxRecDepth 100000 in
set_option maxHeartbeats 16000000 in
theorem clashesAt_calls (w : World) (vl : Value) (L : LayR) (A3 : Option Addr) (n3 c3 : Nat) (ds : List DecR) (at_ : Int) (hL : LayV w L vl) (hLB : LayB L) (hD : Decs w (.slice A3 n3 c3) ds) (hz : ∀ d ∈ ds, DecB d) (hn : ds.length ≤ 4000) (hk : ∀ d ∈ ds, ∀ z ∈ d.vals, 0 ≤ kIx L.asks z.field) :
  Calls Tryz.prog 48 #[vl, .slice A3 n3 c3, .int .i64 at_] w (RcsPost w (clsL L.asks (looksP L.asks ds at_))) := by
 have HLK := Lib.hid (fun W (h : Pure w W) i => rlooks_calls W vl L A3 n3 c3 ds i at_ (hL.pure h) hLB (hD.pure h) hz hn hk)
 have HDI := Lib.hid (fun W (h : Pure w W) => decidedItems_calls W A3 n3 c3 ds (hD.pure h) hn)
 have HE1 := Lib.hid (fun W (h : Pure w W) i => dec_facts (L := L) (oneD_in L.asks ds at_ i) (hD.2.pure h) hz hk)
 have HE2 := Lib.hid (fun W (h : Pure w W) i => dec_facts (L := L) (twoD_in L.asks ds at_ i) (hD.2.pure h) hz hk)
 have hil := Nat.le_trans (items_len ds) hn
 have HQ : Hid (looksP L.asks ds at_ = (itemsD ds).filterMap (lkO L.asks ds at_)) := Lib.hid rfl
 have hla := hLB.1
 obtain ⟨A, n, c, A2, n2, c2, rfl, hA, hR⟩ := hL
 have hal := hA.len
 subst hal
 have HA := Lib.hid (fun W (h : Pure w W) => hA.pure h)
 have HB0 := Lib.hid (Blk.new w 29 #[.slice A L.asks.length c, .slice A2 n2 c2])
 have HP0 := Lib.hid (pure_alloc w (.cells #[.slice A L.asks.length c, .slice A2 n2 c2] 29))
 generalize looksP L.asks ds at_ = LP at *
 generalize itemsD ds = I at *
 clear hLB hD hz hk hA hR
 go_enter Tryz.func48, Tryz.ntmps48
 go_upto_region 1 with (fail)
 generalize (w.alloc (.cells #[.slice A L.asks.length c, .slice A2 n2 c2] 29)) = w1 at *
 generalize hg3 : w.heap.size = g3 at *
 clear hg3
 go_wp2_with fail
 refine (HDI.out _ HP0.out).mono ?_
 rintro e w2 ⟨v2, rfl, hsl, hm⟩
 have HSI := Lib.hid (fun W (h : Pure w2 W) => hsl.pure h)
 obtain ⟨A4, n4, c4, rfl⟩ := hsl.form
 have hn4 := hsl.lenS
 have HP2 := Lib.hid (HP0.out.trans hm)
 have HB2 := Lib.hid (HB0.out.modp hm)
 have hbw := HB2.out.lt
 subst hn4
 clear hsl hm HP0 HB0 HDI
 go_wp2_with fail
 obtain ⟨base, hbase⟩ : ∃ base, base = w2.heap.size := ⟨_, rfl⟩
 have hs1 := Nat.le_of_eq hbase
 have hs2 := Nat.le_of_eq hbase.symm
 clear hbase
 go_loopg [7, 18] I.length (fun gk x i wr => RsOut w2 base g3 #[.slice A L.asks.length c, .slice A2 n2 c2] L.asks ds at_ I gk x i wr)
 case atStart => exact ⟨0, 0, none, [], by omega, by omega, rfl, rfl, rfl, by simp, World.ownsRow_nil _ _ _ _, HB2.out, Mod.refl _ _, by omega⟩
 case round =>
  obtain ⟨k, cap, Ao, xs, rfl, hk, rfl, rfl, hxs, hxl, hO, hB, hm, hbs⟩ := hrel
  have HXS := Lib.hid hxs
  clear hxs
  by_cases hlt : k < I.length
  ·obtain ⟨gr, off, rfl, hrow⟩ := (HSI.out _ hm).rowS (by omega)
   have q1 := hrow.cell (strsV_get _ k hlt)
   have HST := Lib.hid (lks_step (al := L.asks) (at_ := at_) (ds := ds) hlt)
   have HOI := Lib.hid (fun h : okL L.asks ds at_ I[k] = true => okL_item h)
   have HLW := Lib.hid (HLK.out wr (HP2.out.trans hm) I[k])
   have HF1 := Lib.hid (fun W (h : Pure w2 W) => HE1.out W (HP2.out.trans h) I[k])
   have HF2 := Lib.hid (fun W (h : Pure w2 W) => HE2.out W (HP2.out.trans h) I[k])
   have HO := Lib.hid hO
   have HM := Lib.hid hm
   have HB := Lib.hid hB
   have hYB := hB
   clear hrow hO hm hB
   have l0 := hYB.cell 0; have l1 := hYB.cell 1; simp at l0 l1
   clear hYB
   generalize okL L.asks ds at_ I[k] = ok at *
   generalize oneD L.asks ds at_ I[k] = x at *
   generalize twoD L.asks ds at_ I[k] = y at *
   generalize hs : I[k] = s at *
   clear hs
   obtain ⟨xno, xat, xrev, xitem, xsec, xA, xc, xv⟩ := x
   obtain ⟨yno, yat, yrev, yitem, ysec, yA, yc, yv⟩ := y
   unfold RkPost at HLW
   simp only [DecVal.eq, decC] at HLW
   simp only at HOI
   go_wp2_with fail
   refine HLW.out.mono ?_
   rintro e w5 ⟨rfl, hm5⟩
   have HO5 := Lib.hid (own_pure HO.out hm5)
   have HB5 := Lib.hid (HB.out.modp hm5)
   have HM5 := Lib.hid (HM.out.trans hm5)
   have hb5 : base ≤ w5.heap.size := by have := hm5.size; omega
   clear hm5 HO HB HM HLW q1 l0 l1 hbs
   go_upto_region 6 with (fail)
   have HX6 := Lib.hid ((Blk.new w5 40 #[.int .i64 xno, .int .i64 xat, .string ⟨xrev.toArray⟩, .string ⟨xitem.toArray⟩, .bool xsec, .slice xA xv.length xc]).alloc (.cells #[.int .i64 yno, .int .i64 yat, .string ⟨yrev.toArray⟩, .string ⟨yitem.toArray⟩, .bool ysec, .slice yA yv.length yc] 40))
   have HY6 : Hid (Blk ((w5.alloc (.cells #[.int .i64 xno, .int .i64 xat, .string ⟨xrev.toArray⟩, .string ⟨xitem.toArray⟩, .bool xsec, .slice xA xv.length xc] 40)).alloc (.cells #[.int .i64 yno, .int .i64 yat, .string ⟨yrev.toArray⟩, .string ⟨yitem.toArray⟩, .bool ysec, .slice yA yv.length yc] 40)) (w5.heap.size + 1) 40 #[.int .i64 yno, .int .i64 yat, .string ⟨yrev.toArray⟩, .string ⟨yitem.toArray⟩, .bool ysec, .slice yA yv.length yc]) := Lib.hid (Blk.new' (by simp))
   have HPA : Hid (Pure w5 ((w5.alloc (.cells #[.int .i64 xno, .int .i64 xat, .string ⟨xrev.toArray⟩, .string ⟨xitem.toArray⟩, .bool xsec, .slice xA xv.length xc] 40)).alloc (.cells #[.int .i64 yno, .int .i64 yat, .string ⟨yrev.toArray⟩, .string ⟨yitem.toArray⟩, .bool ysec, .slice yA yv.length yc] 40))) := Lib.hid ((pure_alloc w5 (.cells #[.int .i64 xno, .int .i64 xat, .string ⟨xrev.toArray⟩, .string ⟨xitem.toArray⟩, .bool xsec, .slice xA xv.length xc] 40)).trans (pure_alloc _ (.cells #[.int .i64 yno, .int .i64 yat, .string ⟨yrev.toArray⟩, .string ⟨yitem.toArray⟩, .bool ysec, .slice yA yv.length yc] 40)))
   have HO6 := Lib.hid (own_pure HO5.out HPA.out)
   have HB6 := Lib.hid (HB5.out.modp HPA.out)
   have HM6 := Lib.hid (HM5.out.trans HPA.out)
   have hb6 : base ≤ ((w5.alloc (.cells #[.int .i64 xno, .int .i64 xat, .string ⟨xrev.toArray⟩, .string ⟨xitem.toArray⟩, .bool xsec, .slice xA xv.length xc] 40)).alloc (.cells #[.int .i64 yno, .int .i64 yat, .string ⟨yrev.toArray⟩, .string ⟨yitem.toArray⟩, .bool ysec, .slice yA yv.length yc] 40)).heap.size := by simp; omega
   clear HPA HO5 HB5 HM5 hb5
   generalize ((w5.alloc (.cells #[.int .i64 xno, .int .i64 xat, .string ⟨xrev.toArray⟩, .string ⟨xitem.toArray⟩, .bool xsec, .slice xA xv.length xc] 40)).alloc (.cells #[.int .i64 yno, .int .i64 yat, .string ⟨yrev.toArray⟩, .string ⟨yitem.toArray⟩, .bool ysec, .slice yA yv.length yc] 40)) = w6 at *
   generalize w5.heap.size = g10 at *
   have hX := HB6.out
   have l0 := hX.cell 0; have l1 := hX.cell 1; simp at l0 l1
   clear hX
   go_wp2_with fail
   go_loopg [7, 34] L.asks.length (fun gk x i wr => RsIn w2 base g3 g10 (g10 + 1) #[.slice A L.asks.length c, .slice A2 n2 c2] #[.int .i64 xno, .int .i64 xat, .string ⟨xrev.toArray⟩, .string ⟨xitem.toArray⟩, .bool xsec, .slice xA xv.length xc] #[.int .i64 yno, .int .i64 yat, .string ⟨yrev.toArray⟩, .string ⟨yitem.toArray⟩, .bool ysec, .slice yA yv.length yc] L.asks ok (⟨xno, xat, xrev, xitem, xsec, xA, xc, xv⟩, ⟨yno, yat, yrev, yitem, ysec, yA, yc, yv⟩) xs gk x i wr)
   case atStart => exact ⟨0, cap, Ao, xs, by omega, by omega, rfl, rfl, by simp [clE, clF], by omega, HO6.out, HB6.out, HX6.out, HY6.out, HM6.out, hb6⟩
   case round =>
    clear HX6 HY6 HO6 HB6 HM6 hb6 l0 l1
    obtain ⟨j, cap2, Ao2, zs, rfl, hj, rfl, rfl, hzs, hzl, hO, hB, hX, hY, hm, hb2⟩ := hrel
    by_cases hjl : j < L.asks.length
    ·obtain ⟨ga, oa, rfl, a0, a1, a2, a3⟩ := (HA.out _ (HP2.out.trans hm)).cells hjl
     have HCT := Lib.hid (clF_take (p := (⟨xno, xat, xrev, xitem, xsec, xA, xc, xv⟩, ⟨yno, yat, yrev, yitem, ysec, yA, yc, yv⟩)) hjl)
     generalize L.asks[j] = ak at *
     obtain ⟨af, aA, ac, ach, am, ap⟩ := ak
     simp only at a0 a1 a2 a3 HCT
     have hE1 := HF1.out _ hm
     have hE2 := HF2.out _ hm
     have HV1 := Lib.hid (fun W (h : Pure wr W) => choicesIn_calls W _ xv af (hE1.1.pure h) (by have := hE1.2.1.2.2.2.2.2.2.1; simp only at this; omega))
     have HV2 := Lib.hid (fun W (h : Pure wr W) => choicesIn_calls W _ yv af (hE2.1.pure h) (by have := hE2.2.1.2.2.2.2.2.2.1; simp only at this; omega))
     have HZS := Lib.hid hzs
     have HAB := Lib.hid (Blk.new wr 88 #[.string ⟨af.toArray⟩, .slice aA ach.length ac, .bool am, .int .i64 ap])
     have HO2 := Lib.hid (own_pure hO (pure_alloc _ (.cells #[.string ⟨af.toArray⟩, .slice aA ach.length ac, .bool am, .int .i64 ap] 88)))
     have HB2 := Lib.hid (hB.alloc (.cells #[.string ⟨af.toArray⟩, .slice aA ach.length ac, .bool am, .int .i64 ap] 88))
     have HX2 := Lib.hid (hX.alloc (.cells #[.string ⟨af.toArray⟩, .slice aA ach.length ac, .bool am, .int .i64 ap] 88))
     have HY2 := Lib.hid (hY.alloc (.cells #[.string ⟨af.toArray⟩, .slice aA ach.length ac, .bool am, .int .i64 ap] 88))
     have HM2 := Lib.hid (hm.alloc (.cells #[.string ⟨af.toArray⟩, .slice aA ach.length ac, .bool am, .int .i64 ap] 88))
     have HO := Lib.hid hO
     have HB := Lib.hid hB
     have HX := Lib.hid hX
     have HY := Lib.hid hY
     have HM := Lib.hid hm
     have HPA : Hid (Pure wr (wr.alloc (.cells #[.string ⟨af.toArray⟩, .slice aA ach.length ac, .bool am, .int .i64 ap] 88))) := Lib.hid (pure_alloc _ _)
     have hb3 : base ≤ (wr.alloc (.cells #[.string ⟨af.toArray⟩, .slice aA ach.length ac, .bool am, .int .i64 ap] 88)).heap.size := by simp; omega
     have hjk : (j : Int) < (L.asks.length : Int) := by omega
     unfold ChPost at HV1 HV2
     generalize chIn xv af = e1 at *
     generalize chIn yv af = e2 at *
     clear hE1 hE2 hzs hO hB hX hY hm
     go_upto_region 9 with (fail)
     clear a0 a1 a2 a3
     generalize (wr.alloc (.cells #[.string ⟨af.toArray⟩, .slice aA ach.length ac, .bool am, .int .i64 ap] 88)) = wa at *
     generalize wr.heap.size = g14 at *
     cases ok
     ·have hok := True.intro
      have HGs := Lib.hid (show ∀ (D : Nat → Bool) (zzi : Nat) (zq zq' : World), (fun _ zq => (fun Z => Blk Z g10 40 #[.int .i64 xno, .int .i64 xat, .string ⟨xrev.toArray⟩, .string ⟨xitem.toArray⟩, .bool xsec, .slice xA xv.length xc] ∧ Blk Z (g10 + 1) 40 #[.int .i64 yno, .int .i64 yat, .string ⟨yrev.toArray⟩, .string ⟨yitem.toArray⟩, .bool ysec, .slice yA yv.length yc] ∧ Blk Z g14 88 #[.string ⟨af.toArray⟩, .slice aA ach.length ac, .bool am, .int .i64 ap]) zq) D zq → Mod (fun _ => False) zq zq' → (fun _ zq => (fun Z => Blk Z g10 40 #[.int .i64 xno, .int .i64 xat, .string ⟨xrev.toArray⟩, .string ⟨xitem.toArray⟩, .bool xsec, .slice xA xv.length xc] ∧ Blk Z (g10 + 1) 40 #[.int .i64 yno, .int .i64 yat, .string ⟨yrev.toArray⟩, .string ⟨yitem.toArray⟩, .bool ysec, .slice yA yv.length yc] ∧ Blk Z g14 88 #[.string ⟨af.toArray⟩, .slice aA ach.length ac, .bool am, .int .i64 ap]) zq) (upd D zzi true) zq' from by intro D zzi zq zq' h hm; (exact ⟨h.1.modp hm, h.2.1.modp hm, h.2.2.modp hm⟩))
      refine wp_region_inv (by kernel_rfl) (by kernel_rfl) (InvF (R := Mod (fun _ => False)) [.is (.bool false),
        .is (.bool false),
        .is (undef),
        .is (undef),
        .is (undef),
        .is (undef),
        .is (undef),
        .is (undef),
        .is (undef),
        .is (undef),
        .is (undef),
        .is (undef),
        .is (undef),
        .is (undef),
        .is (.bool false)]
        (PB wr (fun _ => False) wa.heap.size (fun _ zq => (fun Z => Blk Z g10 40 #[.int .i64 xno, .int .i64 xat, .string ⟨xrev.toArray⟩, .string ⟨xitem.toArray⟩, .bool xsec, .slice xA xv.length xc] ∧ Blk Z (g10 + 1) 40 #[.int .i64 yno, .int .i64 yat, .string ⟨yrev.toArray⟩, .string ⟨yitem.toArray⟩, .bool ysec, .slice yA yv.length yc] ∧ Blk Z g14 88 #[.string ⟨af.toArray⟩, .slice aA ach.length ac, .bool am, .int .i64 ap]) zq))) (InvF.start (PB.start HPA.out (Nat.le_refl _) (⟨HX2.out.drew, HY2.out.drew, HAB.out.drew⟩))) ?_ ?_
      ·refine .cons ?_ (.cons ?_ (.cons ?_ (.cons ?_ (.cons ?_ (.cons ?_ (.cons ?_ (.cons ?_ (.cons ?_ (.cons ?_ (.cons ?_ (.cons ?_ (.cons ?_ (.cons ?_ (.cons ?_ .nil))))))))))))))
       ·intro D V zw1 a hR hI K hK
        obtain ⟨hM1, hB1, hG1⟩ := hI.1
        have ze12 := hR.frame.other (t := 12) (by kernel_rfl) rfl
        rw [if_pos (by rfl)]
        go_simp
        exact hK (.bool false) _ (hI.next hR (by kernel_rfl) (Mod.refl _ _) (PB.quiet hI.1 (Mod.refl _ _) (HGs.out D 0 zw1 zw1 (hI.1).g (Mod.refl _ _))) (upd_same V 0 _))
       ·intro D V zw1 a hR hI K hK
        obtain ⟨hM1, hB1, hG1⟩ := hI.1
        have zd0 := hR.pred 0 (by kernel_rfl)
        have zF0 : V 0 = .bool false := hI.2 0 zd0 rfl
        have zf0 := zF0; clear zF0
        have ze38 := hR.frame.done (t := 38) (j := 0) (by kernel_rfl) hR.ok zd0
        rw [if_pos (by rfl)]
        go_simp
        exact hK (.bool false) _ (hI.next hR (by kernel_rfl) (Mod.refl _ _) (PB.quiet hI.1 (Mod.refl _ _) (HGs.out D 1 zw1 zw1 (hI.1).g (Mod.refl _ _))) (upd_same V 1 _))
       ·intro D V zw1 a hR hI K hK
        obtain ⟨hM1, hB1, hG1⟩ := hI.1
        have zd1 := hR.pred 1 (by kernel_rfl)
        have zF1 : V 1 = .bool false := hI.2 1 zd1 rfl
        have zf1 := zF1; clear zF1
        have ze39 := hR.frame.done (t := 39) (j := 1) (by kernel_rfl) hR.ok zd1
        rw [if_neg (by simp [Region.wanted, yielded, ze39, zf1])]
        exact hK undef _ (hI.next hR (by kernel_rfl) (Mod.refl _ _) (PB.quiet hI.1 (Mod.refl _ _) (HGs.out D 2 zw1 zw1 (hI.1).g (Mod.refl _ _))) (upd_same V 2 _))
       ·intro D V zw1 a hR hI K hK
        obtain ⟨hM1, hB1, hG1⟩ := hI.1
        have zd1 := hR.pred 1 (by kernel_rfl)
        have zF1 : V 1 = .bool false := hI.2 1 zd1 rfl
        have zf1 := zF1; clear zF1
        have ze39 := hR.frame.done (t := 39) (j := 1) (by kernel_rfl) hR.ok zd1
        rw [if_neg (by simp [Region.wanted, yielded, ze39, zf1])]
        exact hK undef _ (hI.next hR (by kernel_rfl) (Mod.refl _ _) (PB.quiet hI.1 (Mod.refl _ _) (HGs.out D 3 zw1 zw1 (hI.1).g (Mod.refl _ _))) (upd_same V 3 _))
       ·intro D V zw1 a hR hI K hK
        obtain ⟨hM1, hB1, hG1⟩ := hI.1
        have zd1 := hR.pred 1 (by kernel_rfl)
        have zF1 : V 1 = .bool false := hI.2 1 zd1 rfl
        have zf1 := zF1; clear zF1
        have ze39 := hR.frame.done (t := 39) (j := 1) (by kernel_rfl) hR.ok zd1
        rw [if_neg (by simp [Region.wanted, yielded, ze39, zf1])]
        exact hK undef _ (hI.next hR (by kernel_rfl) (Mod.refl _ _) (PB.quiet hI.1 (Mod.refl _ _) (HGs.out D 4 zw1 zw1 (hI.1).g (Mod.refl _ _))) (upd_same V 4 _))
       ·intro D V zw1 a hR hI K hK
        obtain ⟨hM1, hB1, hG1⟩ := hI.1
        have zd1 := hR.pred 1 (by kernel_rfl)
        have zF1 : V 1 = .bool false := hI.2 1 zd1 rfl
        have zf1 := zF1; clear zF1
        have ze39 := hR.frame.done (t := 39) (j := 1) (by kernel_rfl) hR.ok zd1
        rw [if_neg (by simp [Region.wanted, yielded, ze39, zf1])]
        exact hK undef _ (hI.next hR (by kernel_rfl) (Mod.refl _ _) (PB.quiet hI.1 (Mod.refl _ _) (HGs.out D 5 zw1 zw1 (hI.1).g (Mod.refl _ _))) (upd_same V 5 _))
       ·intro D V zw1 a hR hI K hK
        obtain ⟨hM1, hB1, hG1⟩ := hI.1
        have zd1 := hR.pred 1 (by kernel_rfl)
        have zF1 : V 1 = .bool false := hI.2 1 zd1 rfl
        have zf1 := zF1; clear zF1
        have ze39 := hR.frame.done (t := 39) (j := 1) (by kernel_rfl) hR.ok zd1
        rw [if_neg (by simp [Region.wanted, yielded, ze39, zf1])]
        exact hK undef _ (hI.next hR (by kernel_rfl) (Mod.refl _ _) (PB.quiet hI.1 (Mod.refl _ _) (HGs.out D 6 zw1 zw1 (hI.1).g (Mod.refl _ _))) (upd_same V 6 _))
       ·intro D V zw1 a hR hI K hK
        obtain ⟨hM1, hB1, hG1⟩ := hI.1
        have zd1 := hR.pred 1 (by kernel_rfl)
        have zF1 : V 1 = .bool false := hI.2 1 zd1 rfl
        have zf1 := zF1; clear zF1
        have ze39 := hR.frame.done (t := 39) (j := 1) (by kernel_rfl) hR.ok zd1
        rw [if_neg (by simp [Region.wanted, yielded, ze39, zf1])]
        exact hK undef _ (hI.next hR (by kernel_rfl) (Mod.refl _ _) (PB.quiet hI.1 (Mod.refl _ _) (HGs.out D 7 zw1 zw1 (hI.1).g (Mod.refl _ _))) (upd_same V 7 _))
       ·intro D V zw1 a hR hI K hK
        obtain ⟨hM1, hB1, hG1⟩ := hI.1
        have zd1 := hR.pred 1 (by kernel_rfl)
        have zF1 : V 1 = .bool false := hI.2 1 zd1 rfl
        have zf1 := zF1; clear zF1
        have ze39 := hR.frame.done (t := 39) (j := 1) (by kernel_rfl) hR.ok zd1
        rw [if_neg (by simp [Region.wanted, yielded, ze39, zf1])]
        exact hK undef _ (hI.next hR (by kernel_rfl) (Mod.refl _ _) (PB.quiet hI.1 (Mod.refl _ _) (HGs.out D 8 zw1 zw1 (hI.1).g (Mod.refl _ _))) (upd_same V 8 _))
       ·intro D V zw1 a hR hI K hK
        obtain ⟨hM1, hB1, hG1⟩ := hI.1
        have zd1 := hR.pred 1 (by kernel_rfl)
        have zF1 : V 1 = .bool false := hI.2 1 zd1 rfl
        have zf1 := zF1; clear zF1
        have ze39 := hR.frame.done (t := 39) (j := 1) (by kernel_rfl) hR.ok zd1
        rw [if_neg (by simp [Region.wanted, yielded, ze39, zf1])]
        exact hK undef _ (hI.next hR (by kernel_rfl) (Mod.refl _ _) (PB.quiet hI.1 (Mod.refl _ _) (HGs.out D 9 zw1 zw1 (hI.1).g (Mod.refl _ _))) (upd_same V 9 _))
       ·intro D V zw1 a hR hI K hK
        obtain ⟨hM1, hB1, hG1⟩ := hI.1
        have zd1 := hR.pred 1 (by kernel_rfl)
        have zF1 : V 1 = .bool false := hI.2 1 zd1 rfl
        have zf1 := zF1; clear zF1
        have ze39 := hR.frame.done (t := 39) (j := 1) (by kernel_rfl) hR.ok zd1
        rw [if_neg (by simp [Region.wanted, yielded, ze39, zf1])]
        exact hK undef _ (hI.next hR (by kernel_rfl) (Mod.refl _ _) (PB.quiet hI.1 (Mod.refl _ _) (HGs.out D 10 zw1 zw1 (hI.1).g (Mod.refl _ _))) (upd_same V 10 _))
       ·intro D V zw1 a hR hI K hK
        obtain ⟨hM1, hB1, hG1⟩ := hI.1
        have zd1 := hR.pred 1 (by kernel_rfl)
        have zF1 : V 1 = .bool false := hI.2 1 zd1 rfl
        have zf1 := zF1; clear zF1
        have ze39 := hR.frame.done (t := 39) (j := 1) (by kernel_rfl) hR.ok zd1
        rw [if_neg (by simp [Region.wanted, yielded, ze39, zf1])]
        exact hK undef _ (hI.next hR (by kernel_rfl) (Mod.refl _ _) (PB.quiet hI.1 (Mod.refl _ _) (HGs.out D 11 zw1 zw1 (hI.1).g (Mod.refl _ _))) (upd_same V 11 _))
       ·intro D V zw1 a hR hI K hK
        obtain ⟨hM1, hB1, hG1⟩ := hI.1
        have zd1 := hR.pred 1 (by kernel_rfl)
        have zF1 : V 1 = .bool false := hI.2 1 zd1 rfl
        have zf1 := zF1; clear zF1
        have ze39 := hR.frame.done (t := 39) (j := 1) (by kernel_rfl) hR.ok zd1
        rw [if_neg (by simp [Region.wanted, yielded, ze39, zf1])]
        exact hK undef _ (hI.next hR (by kernel_rfl) (Mod.refl _ _) (PB.quiet hI.1 (Mod.refl _ _) (HGs.out D 12 zw1 zw1 (hI.1).g (Mod.refl _ _))) (upd_same V 12 _))
       ·intro D V zw1 a hR hI K hK
        obtain ⟨hM1, hB1, hG1⟩ := hI.1
        have zd1 := hR.pred 1 (by kernel_rfl)
        have zF1 : V 1 = .bool false := hI.2 1 zd1 rfl
        have zf1 := zF1; clear zF1
        have ze39 := hR.frame.done (t := 39) (j := 1) (by kernel_rfl) hR.ok zd1
        rw [if_neg (by simp [Region.wanted, yielded, ze39, zf1])]
        exact hK undef _ (hI.next hR (by kernel_rfl) (Mod.refl _ _) (PB.quiet hI.1 (Mod.refl _ _) (HGs.out D 13 zw1 zw1 (hI.1).g (Mod.refl _ _))) (upd_same V 13 _))
       ·intro D V zw1 a hR hI K hK
        obtain ⟨hM1, hB1, hG1⟩ := hI.1
        have zd1 := hR.pred 1 (by kernel_rfl)
        have zF1 : V 1 = .bool false := hI.2 1 zd1 rfl
        have zf1 := zF1; clear zF1
        have zd13 := hR.pred 13 (by kernel_rfl)
        have zF13 : V 13 = undef := hI.2 13 zd13 rfl
        have zf13 := zF13; clear zF13
        have ze39 := hR.frame.done (t := 39) (j := 1) (by kernel_rfl) hR.ok zd1
        have ze51 := hR.frame.done (t := 51) (j := 13) (by kernel_rfl) hR.ok zd13
        rw [if_pos (by rfl)]
        go_simp
        exact hK (.bool false) _ (hI.next hR (by kernel_rfl) (Mod.refl _ _) (PB.quiet hI.1 (Mod.refl _ _) (HGs.out D 14 zw1 zw1 (hI.1).g (Mod.refl _ _))) (upd_same V 14 _))
      ·intro D V wb hD hI
       obtain ⟨hM1, hB1, hG1⟩ := hI.1
       have hMx := hM1
       clear hM1
       have hBx := hB1
       clear hB1
       have hGx := hG1
       clear hG1
       have zF0 : V 0 = .bool false := hI.2 0 (hD 0 (by decide)) rfl
       have zf0 := zF0; clear zF0
       have zF1 : V 1 = .bool false := hI.2 1 (hD 1 (by decide)) rfl
       have zf1 := zF1; clear zF1
       have zF2 : V 2 = undef := hI.2 2 (hD 2 (by decide)) rfl
       have zf2 := zF2; clear zF2
       have zF3 : V 3 = undef := hI.2 3 (hD 3 (by decide)) rfl
       have zf3 := zF3; clear zF3
       have zF4 : V 4 = undef := hI.2 4 (hD 4 (by decide)) rfl
       have zf4 := zF4; clear zF4
       have zF5 : V 5 = undef := hI.2 5 (hD 5 (by decide)) rfl
       have zf5 := zF5; clear zF5
       have zF6 : V 6 = undef := hI.2 6 (hD 6 (by decide)) rfl
       have zf6 := zF6; clear zF6
       have zF7 : V 7 = undef := hI.2 7 (hD 7 (by decide)) rfl
       have zf7 := zF7; clear zF7
       have zF8 : V 8 = undef := hI.2 8 (hD 8 (by decide)) rfl
       have zf8 := zF8; clear zF8
       have zF9 : V 9 = undef := hI.2 9 (hD 9 (by decide)) rfl
       have zf9 := zF9; clear zF9
       have zF10 : V 10 = undef := hI.2 10 (hD 10 (by decide)) rfl
       have zf10 := zF10; clear zF10
       have zF11 : V 11 = undef := hI.2 11 (hD 11 (by decide)) rfl
       have zf11 := zF11; clear zF11
       have zF12 : V 12 = undef := hI.2 12 (hD 12 (by decide)) rfl
       have zf12 := zF12; clear zF12
       have zF13 : V 13 = undef := hI.2 13 (hD 13 (by decide)) rfl
       have zf13 := zF13; clear zF13
       have zF14 : V 14 = .bool false := hI.2 14 (hD 14 (by decide)) rfl
       have zf14 := zF14; clear zF14
       clear hI hD HGs
       simp only [frAll, Act.put, List.setIfInBounds_toArray, List.set_cons_zero, List.set_cons_succ, Nat.zero_add, Nat.reduceAdd, zf0, zf1, zf2, zf3, zf4, zf5, zf6, zf7, zf8, zf9, zf10, zf11, zf12, zf13, zf14]
       clear zf0 zf1 zf2 zf3 zf4 zf5 zf6 zf7 zf8 zf9 zf10 zf11 zf12 zf13 zf14
       clear V D
       have HO6 := Lib.hid (own_pure HO.out hMx)
       have HB6 := Lib.hid (HB.out.modp hMx)
       have HX6 := Lib.hid (HX.out.modp hMx)
       have HY6 := Lib.hid (HY.out.modp hMx)
       have HM6 := Lib.hid (HM.out.trans hMx)
       have hb6 : base ≤ wb.heap.size := by have := hMx.size; omega
       have HCN : Hid (xs ++ clE false (L.asks.take (j + 1)) (⟨xno, xat, xrev, xitem, xsec, xA, xc, xv⟩, ⟨yno, yat, yrev, yitem, ysec, yA, yc, yv⟩) = zs) := Lib.hid (by rw [HZS.out]; rfl)
       clear hMx hGx hBx HO HB HX HY HM HO2 HB2 HX2 HY2 HM2 HAB HPA HV1 HV2 HCT
       go_wp2_with fail
       go_roundg (L.asks.length - (j + 1))
       case measure => omega
       case rel => exact ⟨j + 1, cap2, Ao2, zs, rfl, by omega, rfl, by simp, HCN.out.symm, by omega, HO6.out, HB6.out, HX6.out, HY6.out, HM6.out, hb6⟩
     ·have hok := True.intro
      have HGs := Lib.hid (show ∀ (D : Nat → Bool) (zzi : Nat) (zq zq' : World), (fun _ zq => (fun Z => Blk Z g10 40 #[.int .i64 xno, .int .i64 xat, .string ⟨xrev.toArray⟩, .string ⟨xitem.toArray⟩, .bool xsec, .slice xA xv.length xc] ∧ Blk Z (g10 + 1) 40 #[.int .i64 yno, .int .i64 yat, .string ⟨yrev.toArray⟩, .string ⟨yitem.toArray⟩, .bool ysec, .slice yA yv.length yc] ∧ Blk Z g14 88 #[.string ⟨af.toArray⟩, .slice aA ach.length ac, .bool am, .int .i64 ap]) zq) D zq → Mod (fun _ => False) zq zq' → (fun _ zq => (fun Z => Blk Z g10 40 #[.int .i64 xno, .int .i64 xat, .string ⟨xrev.toArray⟩, .string ⟨xitem.toArray⟩, .bool xsec, .slice xA xv.length xc] ∧ Blk Z (g10 + 1) 40 #[.int .i64 yno, .int .i64 yat, .string ⟨yrev.toArray⟩, .string ⟨yitem.toArray⟩, .bool ysec, .slice yA yv.length yc] ∧ Blk Z g14 88 #[.string ⟨af.toArray⟩, .slice aA ach.length ac, .bool am, .int .i64 ap]) zq) (upd D zzi true) zq' from by intro D zzi zq zq' h hm; (exact ⟨h.1.modp hm, h.2.1.modp hm, h.2.2.modp hm⟩))
      refine wp_region_inv (by kernel_rfl) (by kernel_rfl) (InvF (R := Mod (fun _ => False)) [.is (.bool true),
        .is (.bool true),
        .is (.pointer (some ⟨g10, 5, none⟩)),
        .is (.slice xA xv.length xc),
        .is (.pointer (some ⟨g14, 0, none⟩)),
        .is (.string ⟨af.toArray⟩),
        ⟨fun zv zw => ∃ (A_6 : Option Addr) (c_6 : Nat), zv = .slice A_6 e1.length c_6 ∧ SlK zw (.slice A_6 e1.length c_6) e1, (by rintro zv zw zx ⟨A_6, c_6, rfl, q0⟩ hm; exact ⟨A_6, c_6, rfl, (SlK.pure q0 hm)⟩), none, none⟩,
        .is (.pointer (some ⟨g10 + 1, 5, none⟩)),
        .is (.slice yA yv.length yc),
        .is (.pointer (some ⟨g14, 0, none⟩)),
        .is (.string ⟨af.toArray⟩),
        ⟨fun zv zw => ∃ (A_11 : Option Addr) (c_11 : Nat), zv = .slice A_11 e2.length c_11 ∧ SlK zw (.slice A_11 e2.length c_11) e2, (by rintro zv zw zx ⟨A_11, c_11, rfl, q0⟩ hm; exact ⟨A_11, c_11, rfl, (SlK.pure q0 hm)⟩), none, none⟩,
        .is (.bool (decide (e1 = e2))),
        .is (.bool (!decide (e1 = e2))),
        .is (.bool (!decide (e1 = e2)))]
        (PB wr (fun _ => False) wa.heap.size (fun _ zq => (fun Z => Blk Z g10 40 #[.int .i64 xno, .int .i64 xat, .string ⟨xrev.toArray⟩, .string ⟨xitem.toArray⟩, .bool xsec, .slice xA xv.length xc] ∧ Blk Z (g10 + 1) 40 #[.int .i64 yno, .int .i64 yat, .string ⟨yrev.toArray⟩, .string ⟨yitem.toArray⟩, .bool ysec, .slice yA yv.length yc] ∧ Blk Z g14 88 #[.string ⟨af.toArray⟩, .slice aA ach.length ac, .bool am, .int .i64 ap]) zq))) (InvF.start (PB.start HPA.out (Nat.le_refl _) (⟨HX2.out.drew, HY2.out.drew, HAB.out.drew⟩))) ?_ ?_
      ·refine .cons ?_ (.cons ?_ (.cons ?_ (.cons ?_ (.cons ?_ (.cons ?_ (.cons ?_ (.cons ?_ (.cons ?_ (.cons ?_ (.cons ?_ (.cons ?_ (.cons ?_ (.cons ?_ (.cons ?_ .nil))))))))))))))
       ·intro D V zw1 a hR hI K hK
        obtain ⟨hM1, hB1, hG1⟩ := hI.1
        have ze12 := hR.frame.other (t := 12) (by kernel_rfl) rfl
        rw [if_pos (by rfl)]
        go_simp
        exact hK (.bool true) _ (hI.next hR (by kernel_rfl) (Mod.refl _ _) (PB.quiet hI.1 (Mod.refl _ _) (HGs.out D 0 zw1 zw1 (hI.1).g (Mod.refl _ _))) (upd_same V 0 _))
       ·intro D V zw1 a hR hI K hK
        obtain ⟨hM1, hB1, hG1⟩ := hI.1
        have zd0 := hR.pred 0 (by kernel_rfl)
        have zF0 : V 0 = .bool true := hI.2 0 zd0 rfl
        have zf0 := zF0; clear zF0
        have ze38 := hR.frame.done (t := 38) (j := 0) (by kernel_rfl) hR.ok zd0
        rw [if_pos (by rfl)]
        go_simp
        exact hK (.bool true) _ (hI.next hR (by kernel_rfl) (Mod.refl _ _) (PB.quiet hI.1 (Mod.refl _ _) (HGs.out D 1 zw1 zw1 (hI.1).g (Mod.refl _ _))) (upd_same V 1 _))
       ·intro D V zw1 a hR hI K hK
        obtain ⟨hM1, hB1, hG1⟩ := hI.1
        have zd1 := hR.pred 1 (by kernel_rfl)
        have zF1 : V 1 = .bool true := hI.2 1 zd1 rfl
        have zf1 := zF1; clear zF1
        have ze10 := hR.frame.other (t := 10) (by kernel_rfl) rfl
        have ze39 := hR.frame.done (t := 39) (j := 1) (by kernel_rfl) hR.ok zd1
        rw [if_pos (by simp [Region.wanted, yielded, ze39, zf1])]
        go_simp
        exact hK (.pointer (some ⟨g10, 5, none⟩)) _ (hI.next hR (by kernel_rfl) (Mod.refl _ _) (PB.quiet hI.1 (Mod.refl _ _) (HGs.out D 2 zw1 zw1 (hI.1).g (Mod.refl _ _))) (upd_same V 2 _))
       ·intro D V zw1 a hR hI K hK
        obtain ⟨hM1, hB1, hG1⟩ := hI.1
        have zd2 := hR.pred 2 (by kernel_rfl)
        have zF2 : V 2 = .pointer (some ⟨g10, 5, none⟩) := hI.2 2 zd2 rfl
        have zf2 := zF2; clear zF2
        have zd1 := hR.pred 1 (by kernel_rfl)
        have zF1 : V 1 = .bool true := hI.2 1 zd1 rfl
        have zf1 := zF1; clear zF1
        have ze40 := hR.frame.done (t := 40) (j := 2) (by kernel_rfl) hR.ok zd2
        have zx := hG1.1.cell 5
        simp at zx
        have ze39 := hR.frame.done (t := 39) (j := 1) (by kernel_rfl) hR.ok zd1
        rw [if_pos (by simp [Region.wanted, yielded, ze39, zf1])]
        go_simp
        exact hK (.slice xA xv.length xc) _ (hI.next hR (by kernel_rfl) (Mod.refl _ _) (PB.quiet hI.1 (Mod.refl _ _) (HGs.out D 3 zw1 zw1 (hI.1).g (Mod.refl _ _))) (upd_same V 3 _))
       ·intro D V zw1 a hR hI K hK
        obtain ⟨hM1, hB1, hG1⟩ := hI.1
        have zd1 := hR.pred 1 (by kernel_rfl)
        have zF1 : V 1 = .bool true := hI.2 1 zd1 rfl
        have zf1 := zF1; clear zF1
        have ze14 := hR.frame.other (t := 14) (by kernel_rfl) rfl
        have ze39 := hR.frame.done (t := 39) (j := 1) (by kernel_rfl) hR.ok zd1
        rw [if_pos (by simp [Region.wanted, yielded, ze39, zf1])]
        go_simp
        exact hK (.pointer (some ⟨g14, 0, none⟩)) _ (hI.next hR (by kernel_rfl) (Mod.refl _ _) (PB.quiet hI.1 (Mod.refl _ _) (HGs.out D 4 zw1 zw1 (hI.1).g (Mod.refl _ _))) (upd_same V 4 _))
       ·intro D V zw1 a hR hI K hK
        obtain ⟨hM1, hB1, hG1⟩ := hI.1
        have zd4 := hR.pred 4 (by kernel_rfl)
        have zF4 : V 4 = .pointer (some ⟨g14, 0, none⟩) := hI.2 4 zd4 rfl
        have zf4 := zF4; clear zF4
        have zd1 := hR.pred 1 (by kernel_rfl)
        have zF1 : V 1 = .bool true := hI.2 1 zd1 rfl
        have zf1 := zF1; clear zF1
        have ze42 := hR.frame.done (t := 42) (j := 4) (by kernel_rfl) hR.ok zd4
        have zx := hG1.2.2.cell 0
        simp at zx
        have ze39 := hR.frame.done (t := 39) (j := 1) (by kernel_rfl) hR.ok zd1
        rw [if_pos (by simp [Region.wanted, yielded, ze39, zf1])]
        go_simp
        exact hK (.string ⟨af.toArray⟩) _ (hI.next hR (by kernel_rfl) (Mod.refl _ _) (PB.quiet hI.1 (Mod.refl _ _) (HGs.out D 5 zw1 zw1 (hI.1).g (Mod.refl _ _))) (upd_same V 5 _))
       ·intro D V zw1 a hR hI K hK
        obtain ⟨hM1, hB1, hG1⟩ := hI.1
        have zd3 := hR.pred 3 (by kernel_rfl)
        have zF3 : V 3 = .slice xA xv.length xc := hI.2 3 zd3 rfl
        have zf3 := zF3; clear zF3
        have zd5 := hR.pred 5 (by kernel_rfl)
        have zF5 : V 5 = .string ⟨af.toArray⟩ := hI.2 5 zd5 rfl
        have zf5 := zF5; clear zF5
        have zd1 := hR.pred 1 (by kernel_rfl)
        have zF1 : V 1 = .bool true := hI.2 1 zd1 rfl
        have zf1 := zF1; clear zF1
        have ze41 := hR.frame.done (t := 41) (j := 3) (by kernel_rfl) hR.ok zd3
        have ze43 := hR.frame.done (t := 43) (j := 5) (by kernel_rfl) hR.ok zd5
        have ze39 := hR.frame.done (t := 39) (j := 1) (by kernel_rfl) hR.ok zd1
        rw [if_pos (by simp [Region.wanted, yielded, ze39, zf1])]
        go_simp
        refine (HV1.out zw1 hM1).mono ?_
        rintro e zw2 ⟨A_0, c_0, rfl, hsl, hm2⟩
        exact hK (.slice A_0 e1.length c_0) _ (hI.next hR (by kernel_rfl) hm2 (PB.quiet hI.1 hm2 (HGs.out D 6 _ _ (hI.1).g hm2)) (⟨A_0, c_0, upd_same V 6 _, hsl⟩))
       ·intro D V zw1 a hR hI K hK
        obtain ⟨hM1, hB1, hG1⟩ := hI.1
        have zd1 := hR.pred 1 (by kernel_rfl)
        have zF1 : V 1 = .bool true := hI.2 1 zd1 rfl
        have zf1 := zF1; clear zF1
        have ze11 := hR.frame.other (t := 11) (by kernel_rfl) rfl
        have ze39 := hR.frame.done (t := 39) (j := 1) (by kernel_rfl) hR.ok zd1
        rw [if_pos (by simp [Region.wanted, yielded, ze39, zf1])]
        go_simp
        exact hK (.pointer (some ⟨g10 + 1, 5, none⟩)) _ (hI.next hR (by kernel_rfl) (Mod.refl _ _) (PB.quiet hI.1 (Mod.refl _ _) (HGs.out D 7 zw1 zw1 (hI.1).g (Mod.refl _ _))) (upd_same V 7 _))
       ·intro D V zw1 a hR hI K hK
        obtain ⟨hM1, hB1, hG1⟩ := hI.1
        have zd7 := hR.pred 7 (by kernel_rfl)
        have zF7 : V 7 = .pointer (some ⟨g10 + 1, 5, none⟩) := hI.2 7 zd7 rfl
        have zf7 := zF7; clear zF7
        have zd1 := hR.pred 1 (by kernel_rfl)
        have zF1 : V 1 = .bool true := hI.2 1 zd1 rfl
        have zf1 := zF1; clear zF1
        have ze45 := hR.frame.done (t := 45) (j := 7) (by kernel_rfl) hR.ok zd7
        have zx := hG1.2.1.cell 5
        simp at zx
        have ze39 := hR.frame.done (t := 39) (j := 1) (by kernel_rfl) hR.ok zd1
        rw [if_pos (by simp [Region.wanted, yielded, ze39, zf1])]
        go_simp
        exact hK (.slice yA yv.length yc) _ (hI.next hR (by kernel_rfl) (Mod.refl _ _) (PB.quiet hI.1 (Mod.refl _ _) (HGs.out D 8 zw1 zw1 (hI.1).g (Mod.refl _ _))) (upd_same V 8 _))
       ·intro D V zw1 a hR hI K hK
        obtain ⟨hM1, hB1, hG1⟩ := hI.1
        have zd1 := hR.pred 1 (by kernel_rfl)
        have zF1 : V 1 = .bool true := hI.2 1 zd1 rfl
        have zf1 := zF1; clear zF1
        have ze14 := hR.frame.other (t := 14) (by kernel_rfl) rfl
        have ze39 := hR.frame.done (t := 39) (j := 1) (by kernel_rfl) hR.ok zd1
        rw [if_pos (by simp [Region.wanted, yielded, ze39, zf1])]
        go_simp
        exact hK (.pointer (some ⟨g14, 0, none⟩)) _ (hI.next hR (by kernel_rfl) (Mod.refl _ _) (PB.quiet hI.1 (Mod.refl _ _) (HGs.out D 9 zw1 zw1 (hI.1).g (Mod.refl _ _))) (upd_same V 9 _))
       ·intro D V zw1 a hR hI K hK
        obtain ⟨hM1, hB1, hG1⟩ := hI.1
        have zd9 := hR.pred 9 (by kernel_rfl)
        have zF9 : V 9 = .pointer (some ⟨g14, 0, none⟩) := hI.2 9 zd9 rfl
        have zf9 := zF9; clear zF9
        have zd1 := hR.pred 1 (by kernel_rfl)
        have zF1 : V 1 = .bool true := hI.2 1 zd1 rfl
        have zf1 := zF1; clear zF1
        have ze47 := hR.frame.done (t := 47) (j := 9) (by kernel_rfl) hR.ok zd9
        have zx := hG1.2.2.cell 0
        simp at zx
        have ze39 := hR.frame.done (t := 39) (j := 1) (by kernel_rfl) hR.ok zd1
        rw [if_pos (by simp [Region.wanted, yielded, ze39, zf1])]
        go_simp
        exact hK (.string ⟨af.toArray⟩) _ (hI.next hR (by kernel_rfl) (Mod.refl _ _) (PB.quiet hI.1 (Mod.refl _ _) (HGs.out D 10 zw1 zw1 (hI.1).g (Mod.refl _ _))) (upd_same V 10 _))
       ·intro D V zw1 a hR hI K hK
        obtain ⟨hM1, hB1, hG1⟩ := hI.1
        have zd8 := hR.pred 8 (by kernel_rfl)
        have zF8 : V 8 = .slice yA yv.length yc := hI.2 8 zd8 rfl
        have zf8 := zF8; clear zF8
        have zd10 := hR.pred 10 (by kernel_rfl)
        have zF10 : V 10 = .string ⟨af.toArray⟩ := hI.2 10 zd10 rfl
        have zf10 := zF10; clear zF10
        have zd1 := hR.pred 1 (by kernel_rfl)
        have zF1 : V 1 = .bool true := hI.2 1 zd1 rfl
        have zf1 := zF1; clear zF1
        have ze46 := hR.frame.done (t := 46) (j := 8) (by kernel_rfl) hR.ok zd8
        have ze48 := hR.frame.done (t := 48) (j := 10) (by kernel_rfl) hR.ok zd10
        have ze39 := hR.frame.done (t := 39) (j := 1) (by kernel_rfl) hR.ok zd1
        rw [if_pos (by simp [Region.wanted, yielded, ze39, zf1])]
        go_simp
        refine (HV2.out zw1 hM1).mono ?_
        rintro e zw2 ⟨A_0, c_0, rfl, hsl, hm2⟩
        exact hK (.slice A_0 e2.length c_0) _ (hI.next hR (by kernel_rfl) hm2 (PB.quiet hI.1 hm2 (HGs.out D 11 _ _ (hI.1).g hm2)) (⟨A_0, c_0, upd_same V 11 _, hsl⟩))
       ·intro D V zw1 a hR hI K hK
        obtain ⟨hM1, hB1, hG1⟩ := hI.1
        have zd6 := hR.pred 6 (by kernel_rfl)
        have zF6 : ∃ (A_6 : Option Addr) (c_6 : Nat), V 6 = .slice A_6 e1.length c_6 ∧ SlK zw1 (.slice A_6 e1.length c_6) e1 := hI.2 6 zd6 rfl
        obtain ⟨A_6, c_6, zf6, b6_0⟩ := zF6
        have zd11 := hR.pred 11 (by kernel_rfl)
        have zF11 : ∃ (A_11 : Option Addr) (c_11 : Nat), V 11 = .slice A_11 e2.length c_11 ∧ SlK zw1 (.slice A_11 e2.length c_11) e2 := hI.2 11 zd11 rfl
        obtain ⟨A_11, c_11, zf11, b11_0⟩ := zF11
        have zd1 := hR.pred 1 (by kernel_rfl)
        have zF1 : V 1 = .bool true := hI.2 1 zd1 rfl
        have zf1 := zF1; clear zF1
        have ze44 := hR.frame.done (t := 44) (j := 6) (by kernel_rfl) hR.ok zd6
        have ze49 := hR.frame.done (t := 49) (j := 11) (by kernel_rfl) hR.ok zd11
        have ze39 := hR.frame.done (t := 39) (j := 1) (by kernel_rfl) hR.ok zd1
        rw [if_pos (by simp [Region.wanted, yielded, ze39, zf1])]
        go_simp
        refine (equalG_calls zw1 _ _ e1 e2 b6_0 b11_0).mono ?_
        rintro e zw2 ⟨rfl, hm2⟩
        exact hK (.bool (decide (e1 = e2))) _ (hI.next hR (by kernel_rfl) hm2 (PB.quiet hI.1 hm2 (HGs.out D 12 _ _ (hI.1).g hm2)) (upd_same V 12 _))
       ·intro D V zw1 a hR hI K hK
        obtain ⟨hM1, hB1, hG1⟩ := hI.1
        have zd12 := hR.pred 12 (by kernel_rfl)
        have zF12 : V 12 = .bool (decide (e1 = e2)) := hI.2 12 zd12 rfl
        have zf12 := zF12; clear zF12
        have zd1 := hR.pred 1 (by kernel_rfl)
        have zF1 : V 1 = .bool true := hI.2 1 zd1 rfl
        have zf1 := zF1; clear zF1
        have ze50 := hR.frame.done (t := 50) (j := 12) (by kernel_rfl) hR.ok zd12
        have ze39 := hR.frame.done (t := 39) (j := 1) (by kernel_rfl) hR.ok zd1
        rw [if_pos (by simp [Region.wanted, yielded, ze39, zf1])]
        go_simp
        exact hK (.bool (!decide (e1 = e2))) _ (hI.next hR (by kernel_rfl) (Mod.refl _ _) (PB.quiet hI.1 (Mod.refl _ _) (HGs.out D 13 zw1 zw1 (hI.1).g (Mod.refl _ _))) (upd_same V 13 _))
       ·intro D V zw1 a hR hI K hK
        obtain ⟨hM1, hB1, hG1⟩ := hI.1
        have zd1 := hR.pred 1 (by kernel_rfl)
        have zF1 : V 1 = .bool true := hI.2 1 zd1 rfl
        have zf1 := zF1; clear zF1
        have zd13 := hR.pred 13 (by kernel_rfl)
        have zF13 : V 13 = .bool (!decide (e1 = e2)) := hI.2 13 zd13 rfl
        have zf13 := zF13; clear zF13
        have ze39 := hR.frame.done (t := 39) (j := 1) (by kernel_rfl) hR.ok zd1
        have ze51 := hR.frame.done (t := 51) (j := 13) (by kernel_rfl) hR.ok zd13
        rw [if_pos (by rfl)]
        go_simp
        exact hK (.bool (!decide (e1 = e2))) _ (hI.next hR (by kernel_rfl) (Mod.refl _ _) (PB.quiet hI.1 (Mod.refl _ _) (HGs.out D 14 zw1 zw1 (hI.1).g (Mod.refl _ _))) (upd_same V 14 _))
      ·intro D V wb hD hI
       obtain ⟨hM1, hB1, hG1⟩ := hI.1
       have hMx := hM1
       clear hM1
       have hBx := hB1
       clear hB1
       have hGx := hG1
       clear hG1
       have zF0 : V 0 = .bool true := hI.2 0 (hD 0 (by decide)) rfl
       have zf0 := zF0; clear zF0
       have zF1 : V 1 = .bool true := hI.2 1 (hD 1 (by decide)) rfl
       have zf1 := zF1; clear zF1
       have zF2 : V 2 = .pointer (some ⟨g10, 5, none⟩) := hI.2 2 (hD 2 (by decide)) rfl
       have zf2 := zF2; clear zF2
       have zF3 : V 3 = .slice xA xv.length xc := hI.2 3 (hD 3 (by decide)) rfl
       have zf3 := zF3; clear zF3
       have zF4 : V 4 = .pointer (some ⟨g14, 0, none⟩) := hI.2 4 (hD 4 (by decide)) rfl
       have zf4 := zF4; clear zF4
       have zF5 : V 5 = .string ⟨af.toArray⟩ := hI.2 5 (hD 5 (by decide)) rfl
       have zf5 := zF5; clear zF5
       have zF6 : ∃ (A_6 : Option Addr) (c_6 : Nat), V 6 = .slice A_6 e1.length c_6 ∧ SlK wb (.slice A_6 e1.length c_6) e1 := hI.2 6 (hD 6 (by decide)) rfl
       obtain ⟨A_6, c_6, zf6, b6_0⟩ := zF6
       have zF7 : V 7 = .pointer (some ⟨g10 + 1, 5, none⟩) := hI.2 7 (hD 7 (by decide)) rfl
       have zf7 := zF7; clear zF7
       have zF8 : V 8 = .slice yA yv.length yc := hI.2 8 (hD 8 (by decide)) rfl
       have zf8 := zF8; clear zF8
       have zF9 : V 9 = .pointer (some ⟨g14, 0, none⟩) := hI.2 9 (hD 9 (by decide)) rfl
       have zf9 := zF9; clear zF9
       have zF10 : V 10 = .string ⟨af.toArray⟩ := hI.2 10 (hD 10 (by decide)) rfl
       have zf10 := zF10; clear zF10
       have zF11 : ∃ (A_11 : Option Addr) (c_11 : Nat), V 11 = .slice A_11 e2.length c_11 ∧ SlK wb (.slice A_11 e2.length c_11) e2 := hI.2 11 (hD 11 (by decide)) rfl
       obtain ⟨A_11, c_11, zf11, b11_0⟩ := zF11
       have zF12 : V 12 = .bool (decide (e1 = e2)) := hI.2 12 (hD 12 (by decide)) rfl
       have zf12 := zF12; clear zF12
       have zF13 : V 13 = .bool (!decide (e1 = e2)) := hI.2 13 (hD 13 (by decide)) rfl
       have zf13 := zF13; clear zF13
       have zF14 : V 14 = .bool (!decide (e1 = e2)) := hI.2 14 (hD 14 (by decide)) rfl
       have zf14 := zF14; clear zF14
       clear hI hD HGs
       simp only [frAll, Act.put, List.setIfInBounds_toArray, List.set_cons_zero, List.set_cons_succ, Nat.zero_add, Nat.reduceAdd, zf0, zf1, zf2, zf3, zf4, zf5, zf6, zf7, zf8, zf9, zf10, zf11, zf12, zf13, zf14]
       clear zf0 zf1 zf2 zf3 zf4 zf5 zf6 zf7 zf8 zf9 zf10 zf11 zf12 zf13 zf14
       clear V D
       have HO6 := Lib.hid (own_pure HO.out hMx)
       have HB6 := Lib.hid (HB.out.modp hMx)
       have HX6 := Lib.hid (HX.out.modp hMx)
       have HY6 := Lib.hid (HY.out.modp hMx)
       have HM6 := Lib.hid (HM.out.trans hMx)
       have hX := hGx.1
       have hY := hGx.2.1
       have hZ := hGx.2.2
       have hb6 : base ≤ wb.heap.size := by have := hMx.size; omega
       clear hMx hGx hBx HO HB HX HY HM HO2 HB2 HX2 HY2 HM2 HAB HPA HV1 HV2 b6_0 b11_0
       have d0 := hX.cell 0; have d1 := hX.cell 1; have d2 := hX.cell 2; have d3 := hX.cell 3; have d4 := hX.cell 4; have d5 := hX.cell 5; simp at d0 d1 d2 d3 d4 d5
       have r0 := hY.cell 0; have r1 := hY.cell 1; have r2 := hY.cell 2; have r3 := hY.cell 3; have r4 := hY.cell 4; have r5 := hY.cell 5; simp at r0 r1 r2 r3 r4 r5
       have m0 := hZ.cell 0; have m1 := hZ.cell 1; have m2 := hZ.cell 2; have m3 := hZ.cell 3; simp at m0 m1 m2 m3
       clear hX hY hZ
       generalize hfe : decide (e1 = e2) = fe at *
       have HFE := Lib.hid hfe
       clear hfe
       cases fe
       rotate_left
       ·have he : e1 = e2 := of_decide_eq_true HFE.out
        have HCN : Hid (xs ++ clE true (L.asks.take (j + 1)) (⟨xno, xat, xrev, xitem, xsec, xA, xc, xv⟩, ⟨yno, yat, yrev, yitem, ysec, yA, yc, yv⟩) = zs) := Lib.hid (by rw [show clE true (L.asks.take (j + 1)) (⟨xno, xat, xrev, xitem, xsec, xA, xc, xv⟩, ⟨yno, yat, yrev, yitem, ysec, yA, yc, yv⟩) = clF (L.asks.take (j + 1)) (⟨xno, xat, xrev, xitem, xsec, xA, xc, xv⟩, ⟨yno, yat, yrev, yitem, ysec, yA, yc, yv⟩) from rfl, HCT.out, if_pos he, HZS.out]; rfl)
        clear HCT he HFE
        go_wp2_with fail
        go_roundg (L.asks.length - (j + 1))
        case measure => omega
        case rel => exact ⟨j + 1, cap2, Ao2, zs, rfl, by omega, rfl, by simp, HCN.out.symm, by omega, HO6.out, HB6.out, HX6.out, HY6.out, HM6.out, hb6⟩
       ·have he : ¬ e1 = e2 := of_decide_eq_false HFE.out
        have hoi : xitem = s := HOI.out rfl
        have HCN : Hid (xs ++ clE true (L.asks.take (j + 1)) (⟨xno, xat, xrev, xitem, xsec, xA, xc, xv⟩, ⟨yno, yat, yrev, yitem, ysec, yA, yc, yv⟩) = zs ++ [⟨s, af, xrev, yrev⟩]) := Lib.hid (by rw [show clE true (L.asks.take (j + 1)) (⟨xno, xat, xrev, xitem, xsec, xA, xc, xv⟩, ⟨yno, yat, yrev, yitem, ysec, yA, yc, yv⟩) = clF (L.asks.take (j + 1)) (⟨xno, xat, xrev, xitem, xsec, xA, xc, xv⟩, ⟨yno, yat, yrev, yitem, ysec, yA, yc, yv⟩) from rfl, HCT.out, if_neg he, ← List.append_assoc, HZS.out, hoi]; rfl)
        obtain ⟨i0, hi0, hz0, hz1, hz2⟩ := info_parts info_cla
        have hownO := HO6.out
        have hmO := HM6.out
        have hzl2 : zs.length ≤ 1000000 := by omega
        clear HCT he HFE hoi
        go_wp2_with ((at_builtin; refine wpList_append_lies _ rfl _ _ _ rfl base 92 i0 _ 4 64 Tryz.underlying80 hi0 hz0 hz1 hz2 rfl (by omega) (.slice Ao2 zs.length cap2) zs.length (claV zs) rfl (hownO.alloc _) ⟨wb.heap.size, 0, none⟩ 1 1 [.string ⟨s.toArray⟩, .string ⟨af.toArray⟩, .string ⟨xrev.toArray⟩, .string ⟨yrev.toArray⟩] rfl rfl (World.news_of_block (cs := #[.string ⟨s.toArray⟩, .string ⟨af.toArray⟩, .string ⟨xrev.toArray⟩, .string ⟨yrev.toArray⟩]) (t := 92) (fr := (0, 0)) (heap_alloc_new wb _)) (by simp [Value.oneCell']) (by omega) (by simp [maxLen]; omega) (by omega) (by have := hmO.size; simp; omega) (wb.heap.size + 1) (by simp) ?_; intro g5 cap5 w5 hown5 hgrow hat hlt5))
        have mG := mod_grown hgrow
        have hob := own_block hownO
        have hoa := hownO.alloc (.cells #[.string ⟨s.toArray⟩, .string ⟨af.toArray⟩, .string ⟨xrev.toArray⟩, .string ⟨yrev.toArray⟩] 92 )
        have hzz := mG.size
        simp only [World.size_alloc] at hzz
        go_roundg (L.asks.length - (j + 1))
        case measure => omega
        case rel =>
         refine ⟨j + 1, cap5, some ⟨g5, 0, none⟩, zs ++ [⟨s, af, xrev, yrev⟩], rfl, by omega, by simp, by simp, HCN.out.symm, by simp; omega, by simpa [claV_snoc, claC] using hown5, (HB6.out.alloc (.cells #[.string ⟨s.toArray⟩, .string ⟨af.toArray⟩, .string ⟨xrev.toArray⟩, .string ⟨yrev.toArray⟩] 92 )).mod mG (fun hs => ?_), (HX6.out.alloc (.cells #[.string ⟨s.toArray⟩, .string ⟨af.toArray⟩, .string ⟨xrev.toArray⟩, .string ⟨yrev.toArray⟩] 92 )).mod mG (fun hs => ?_), (HY6.out.alloc (.cells #[.string ⟨s.toArray⟩, .string ⟨af.toArray⟩, .string ⟨xrev.toArray⟩, .string ⟨yrev.toArray⟩] 92 )).mod mG (fun hs => ?_), (HM6.out.alloc _).grown hgrow (fun i hi => .inr (by have := hob i hi; omega)), by omega⟩
         ·have h3 := HB6.out.alloc (.cells #[.string ⟨s.toArray⟩, .string ⟨af.toArray⟩, .string ⟨xrev.toArray⟩, .string ⟨yrev.toArray⟩] 92 ); unfold Blk at h3; exact absurd (own_ty hoa hs h3) (by decide)
         ·have h3 := HX6.out.alloc (.cells #[.string ⟨s.toArray⟩, .string ⟨af.toArray⟩, .string ⟨xrev.toArray⟩, .string ⟨yrev.toArray⟩] 92 ); unfold Blk at h3; exact absurd (own_ty hoa hs h3) (by decide)
         ·have h3 := HY6.out.alloc (.cells #[.string ⟨s.toArray⟩, .string ⟨af.toArray⟩, .string ⟨xrev.toArray⟩, .string ⟨yrev.toArray⟩] 92 ); unfold Blk at h3; exact absurd (own_ty hoa hs h3) (by decide)
    ·have hje : j = L.asks.length := by omega
     have HZE : Hid (clsL L.asks ((I.take (k + 1)).filterMap (lkO L.asks ds at_)) = zs) := Lib.hid (by rw [HST.out, hzs, ← HXS.out, hje, List.take_length])
     have HO := Lib.hid hO
     have HB := Lib.hid hB
     have HM := Lib.hid hm
     clear hO hB hX hY hm hzs hje
     go_wp2_with fail
     go_roundg (I.length - (k + 1))
     case measure => omega
     case rel => exact ⟨k + 1, cap2, Ao2, zs, rfl, by omega, rfl, by simp, HZE.out.symm, by omega, HO.out, HB.out, HM.out, hb2⟩
  ·have hke : k = I.length := by omega
   have HXE : Hid (xs = clsL L.asks LP) := Lib.hid (by rw [HXS.out, HQ.out, List.take_of_length_le (by omega)])
   have HO := Lib.hid hO
   have HM := Lib.hid hm
   clear hO hm hB HXS hke
   go_wp2_with fail
   go_ret
   exact ⟨Ao, xs.length, cap, rfl, by rw [← HXE.out]; exact Sl.of_own HO.out, HP2.out.trans HM.out⟩

end Go.Proofs.YtkkndblcejmmjaaGreatDoor

/- ScoresAt of the reference. -/
namespace Go.Proofs.YtkkndblcejmmjaaGreatDoor
set_option linter.unusedVariables false
set_option linter.unusedSimpArgs false
open Go.RowKit

/-- The keys that a range has met. -/
def KeyQ (f : Str → Option Value) (left : Str → Bool) (ss : List Str) : Prop := ss.Nodup ∧ ∀ s, s ∈ ss ↔ (f s).isSome = true ∧ left s = false
theorem KeyQ.start (f : Str → Option Value) : KeyQ f (fun s => (f s).isSome) [] := ⟨List.nodup_nil, fun s => by
 constructor
 ·intro h; cases h
 ·rintro ⟨h1, h2⟩
  have h3 : (f s).isSome = false := h2
  rw [h1] at h3
  cases h3⟩
theorem KeyQ.step {f : Str → Option Value} {left : Str → Bool} {ss : List Str} (h : KeyQ f left ss) {s : Str} {v : Value} (hs : left s = true) (hv : f s = some v) : KeyQ f (fun x => left x && !decide (x = s)) (ss ++ [s]) := by
 obtain ⟨h1, h2⟩ := h
 have hn : s ∉ ss := fun hm => by have := ((h2 s).1 hm).2; rw [hs] at this; cases this
 refine ⟨List.nodup_append.2 ⟨h1, by simp, fun a ha c hc hac => ?_⟩, fun x => ?_⟩
 ·simp at hc
  subst hac hc
  exact hn ha
 ·rw [List.mem_append, List.mem_singleton, h2]
  by_cases hx : x = s
  ·subst hx
   simp [hv]
  ·simp [hx]
theorem KeyQ.all {f : Str → Option Value} {left : Str → Bool} {ss : List Str} (h : KeyQ f left ss) (ha : ∀ s, left s = false) : ss.Nodup ∧ ∀ s, s ∈ ss ↔ (f s).isSome = true := ⟨h.1, fun s => by rw [h.2]; simp [ha s]⟩
theorem own_iterQ {w : World} {base n size b r cnt : Nat} {e : TypeId} {v : Value} {xs : List Value} {f : Str → Option Value} {left : Str → Bool} (h : w.ownsRow base e size v n xs) (hr : MapRg w b r f left cnt) : ¬ v.ownBlock = some r := fun hv => by
 obtain ⟨arr, ha⟩ := own_heap h hv
 exact hr.iter.1 _ _ _ ha
/-- A row of cells is no map. -/
theorem own_mapQ {w : World} {base n size b r cnt : Nat} {e : TypeId} {v : Value} {xs : List Value} {f : Str → Option Value} {left : Str → Bool} (h : w.ownsRow base e size v n xs) (hr : MapRg w b r f left cnt) : ¬ v.ownBlock = some b := fun hv => by
 obtain ⟨arr, ha⟩ := own_heap h hv
 obtain ⟨es, c, hb⟩ := hr.iter.2.2
 rw [hb] at ha
 cases ha

theorem flag_calls (w : World) (b : Bool) : Calls Tryz.prog 79 #[.bool b] w (IntPost w (if b = true then 1 else 0)) := by
 cases b
 ·go_enter Tryz.func79, Tryz.ntmps79
  go_wp2_with fail
  go_ret
  exact IntPost.of rfl (Mod.refl _ _)
 ·go_enter Tryz.func79, Tryz.ntmps79
  go_wp2_with fail
  go_ret
  exact IntPost.of rfl (Mod.refl _ _)
theorem sco_rev (fd : Str) (l : List LkR) {c : Str} (h : (scoF fd l c).isSome = true) : ((scoF fd l c).getD sco0).rev = c := by
 obtain ⟨t, ht⟩ := Option.isSome_iff_exists.1 h
 rw [ht]
 exact ((scoF_spec fd c _ l rfl).2 t ht).1
def SgetL (fd : Str) (l : List LkR) (ss : List Str) : List Sco := ss.map fun c => (scoF fd l c).getD sco0
theorem sget_all {fd : Str} {l : List LkR} {ss : List Str} (h : ss.Nodup ∧ ∀ s, s ∈ ss ↔ (scoFV fd l s).isSome = true) : ((SgetL fd l ss).map fun z => z.rev) = ss ∧ ss.Perm (revS l) := by
 have hi : ∀ s, s ∈ ss ↔ (scoF fd l s).isSome = true := fun s => by rw [h.2]; unfold scoFV; simp
 constructor
 ·unfold SgetL
  rw [List.map_map]
  have : ∀ s ∈ ss, ((fun z : Sco => z.rev) ∘ fun c => (scoF fd l c).getD sco0) s = id s := fun s hs => sco_rev fd l ((hi s).1 hs)
  rw [List.map_congr_left this, List.map_id]
 ·have hn : (revS l).Nodup := (revS_sorted l).imp fun h e => by subst e; exact List.lt_irrefl _ h
  exact (List.perm_ext_iff_of_nodup h.1 hn).2 (fun s => by rw [hi, mem_revS])
def lksT (al : List AskR) (ds : List DecR) (at_ : Int) (I : List Str) (k : Nat) : List LkR := (I.take k).filterMap (lkO al ds at_)
theorem lksT_len (al : List AskR) (ds : List DecR) (at_ : Int) (I : List Str) (k : Nat) : (lksT al ds at_ I k).length ≤ I.length := by
 unfold lksT
 have h1 := List.length_filterMap_le (lkO al ds at_) (I.take k)
 rw [List.length_take] at h1
 omega
theorem lksT_no {al : List AskR} {ds : List DecR} {at_ : Int} {I : List Str} {k : Nat} (h : k < I.length) (hc : okL al ds at_ I[k] = false) : lksT al ds at_ I (k + 1) = lksT al ds at_ I k := by
 unfold lksT
 rw [List.take_succ_eq_append_getElem h, List.filterMap_append]
 have e := okL_lk al ds at_ I[k]
 rw [hc] at e
 simp [e]
theorem lksT_yes {al : List AskR} {ds : List DecR} {at_ : Int} {I : List Str} {k : Nat} (h : k < I.length) (hc : okL al ds at_ I[k] = true) : lksT al ds at_ I (k + 1) = lksT al ds at_ I k ++ [(oneD al ds at_ I[k], twoD al ds at_ I[k])] := by
 unfold lksT
 rw [List.take_succ_eq_append_getElem h, List.filterMap_append]
 have e := okL_lk al ds at_ I[k]
 rw [hc, if_pos rfl] at e
 simp [e]
theorem scoFV_snoc (fd : Str) (l : List LkR) (p : LkR) : (fun c => if c = p.1.rev then some (scoVA (scoA fd ((scoF fd l p.1.rev).getD sco0) p)) else scoFV fd l c) = scoFV fd (l ++ [p]) := by
 funext c
 unfold scoFV
 rw [scoF_snoc]
 by_cases hc : c = p.1.rev
 ·rw [if_pos hc, if_pos hc, hc]
  rfl
 ·rw [if_neg hc, if_neg hc]
def V1Rel (w w3 : World) (bm g4 : Nat) (lay : Array Value) (fd : Str) (al : List AskR) (ds : List DecR) (at_ : Int) (I : List Str) (gk : Nat) (i : Value) (wr : World) : Prop :=
 ∃ k n : Nat, I.length - k = gk ∧ k ≤ I.length ∧ i = .int .i64 (k : Int) ∧ MapS wr bm n (scoFV fd (lksT al ds at_ I k)) ∧ n ≤ k ∧ Blk wr g4 29 lay ∧ Pure w wr ∧ Mod (· = bm) w3 wr ∧ w3.heap.size ≤ wr.heap.size
def V2Rel (w : World) (base b r n0 : Nat) (fd : Str) (l : List LkR) (gk : Nat) (x : Value) (wr : World) : Prop :=
 ∃ (left : Str → Bool) (ss : List Str) (A : Option Addr) (cap : Nat), x = .slice A ss.length cap ∧ MapRg wr b r (scoFV fd l) left gk ∧ ss.length + gk ≤ n0 ∧ KeyQ (scoFV fd l) left ss ∧
  wr.ownsRow base 96 3 (.slice A ss.length cap) ss.length (scoV (SgetL fd l ss)) ∧ Pure w wr ∧ base ≤ wr.heap.size
def RscPost (w : World) (SL : List Sco) (e : Ending) (w' : World) : Prop := ∃ (A : Option Addr) (n c : Nat), e = .returned (.slice A n c) ∧ Sl w' 96 3 (.slice A n c) (scoV SL) ∧ Pure w w'

set_option maxRecDepth 100000 in
set_option maxHeartbeats 16000000 in
theorem scoresAt_calls (w : World) (vl : Value) (L : LayR) (A3 : Option Addr) (n3 c3 : Nat) (ds : List DecR) (fd : Str) (at_ : Int) (hL : LayV w L vl) (hLB : LayB L) (hD : Decs w (.slice A3 n3 c3) ds) (hz : ∀ d ∈ ds, DecB d) (hn : ds.length ≤ 4000) (hk : ∀ d ∈ ds, ∀ z ∈ d.vals, 0 ≤ kIx L.asks z.field) :
  Calls Tryz.prog 50 #[vl, .slice A3 n3 c3, .string ⟨fd.toArray⟩, .int .i64 at_] w (RscPost w (scoL fd (looksP L.asks ds at_))) := by
 have hmm := @run_makeMap Tryz.prog
 obtain ⟨i0, hi0, hz0, hz1, hz2⟩ := info_parts info_sco
 have HLK := Lib.hid (fun W (h : Pure w W) i => rlooks_calls W vl L A3 n3 c3 ds i at_ (hL.pure h) hLB (hD.pure h) hz hn hk)
 have HDI := Lib.hid (fun W (h : Pure w W) => decidedItems_calls W A3 n3 c3 ds (hD.pure h) hn)
 have HE1 := Lib.hid (fun W (h : Pure w W) i => dec_facts (L := L) (oneD_in L.asks ds at_ i) (hD.2.pure h) hz hk)
 have HE2 := Lib.hid (fun W (h : Pure w W) i => dec_facts (L := L) (twoD_in L.asks ds at_ i) (hD.2.pure h) hz hk)
 have hil := Nat.le_trans (items_len ds) hn
 have HQ : Hid (looksP L.asks ds at_ = lksT L.asks ds at_ (itemsD ds) (itemsD ds).length) := Lib.hid (by unfold lksT looksP; rw [List.take_length])
 obtain ⟨A, n, c, A2, n2, c2, rfl, _, _⟩ := hL
 have HB0 := Lib.hid (Blk.new w 29 #[.slice A n c, .slice A2 n2 c2])
 have HP0 := Lib.hid (pure_alloc w (.cells #[.slice A n c, .slice A2 n2 c2] 29))
 generalize looksP L.asks ds at_ = LP at *
 generalize itemsD ds = I at *
 clear hLB hD hz hk
 go_enter Tryz.func50, Tryz.ntmps50
 go_upto_region 1 with (fail)
 have hs0 : w.heap.size < (w.alloc (.cells #[.slice A n c, .slice A2 n2 c2] 29)).heap.size := by simp
 generalize (w.alloc (.cells #[.slice A n c, .slice A2 n2 c2] 29)) = w1 at *
 generalize hg4 : w.heap.size = g4 at *
 have HM0 := Lib.hid (MapS.made w1)
 have HB1 := Lib.hid (HB0.out.alloc (.map #[] 0))
 have HP1 := Lib.hid (HP0.out.trans (pure_alloc w1 (.map #[] 0)))
 go_upto_region 2 with (fail)
 clear hmm HB0 HP0
 have hs1 : w1.heap.size < (w1.alloc (.map #[] 0)).heap.size := by simp
 generalize w1.heap.size = bm at *
 generalize w1.alloc (.map #[] 0) = w2 at *
 go_wp2_with fail
 refine (HDI.out _ HP1.out).mono ?_
 rintro e w3 ⟨v3, rfl, hsl, hm⟩
 have HSI := Lib.hid hsl
 obtain ⟨A4, n4, c4, rfl⟩ := hsl.form
 have hn4 := hsl.lenS
 have HP3 := Lib.hid (HP1.out.trans hm)
 have HB3 := Lib.hid (HB1.out.modp hm)
 have HM3 := Lib.hid (HM0.out.pure hm)
 have hb3 : bm < w3.heap.size := by have := hm.size; omega
 subst hn4
 clear hsl hm HP1 HB1 HM0 HDI hs1
 go_wp2_with fail
 go_loopg [23] I.length (fun gk i wr => V1Rel w w3 bm g4 #[.slice A n c, .slice A2 n2 c2] fd L.asks ds at_ I gk i wr)
 case atStart => exact ⟨0, 0, by omega, by omega, rfl, by rw [show lksT L.asks ds at_ I 0 = [] from rfl, scoFV_nil]; exact HM3.out, by omega, HB3.out, HP3.out, Mod.refl _ _, by omega⟩
 case round =>
  obtain ⟨k, nn, rfl, hk, rfl, hM, hnk, hB, hm, hm3, hsz⟩ := hrel
  by_cases hlt : k < I.length
  ·have hSL : Sl wr 9 1 (.slice A4 I.length c4) (strsV I) := HSI.out.mod hm3 (fun g arr fr hg => HM3.out.norow g arr _ fr hg)
   obtain ⟨gr, off, rfl, hrow⟩ := hSL.rowS (by omega)
   have q1 := hrow.cell (strsV_get _ k hlt)
   have HNO := Lib.hid (lksT_no (al := L.asks) (at_ := at_) (ds := ds) hlt)
   have HYE := Lib.hid (lksT_yes (al := L.asks) (at_ := at_) (ds := ds) hlt)
   have HLW := Lib.hid (HLK.out wr hm I[k])
   have HF1 := Lib.hid (HE1.out wr hm I[k])
   have HF2 := Lib.hid (HE2.out wr hm I[k])
   have hll := lksT_len L.asks ds at_ I k
   have HM := Lib.hid hM
   have HB := Lib.hid hB
   have HP := Lib.hid hm
   have HMO := Lib.hid hm3
   have hYB := hB
   clear hrow hSL hM hB hm hm3
   have l0 := hYB.cell 0; have l1 := hYB.cell 1; simp at l0 l1
   clear hYB
   generalize okL L.asks ds at_ I[k] = ok at *
   generalize oneD L.asks ds at_ I[k] = x at *
   generalize twoD L.asks ds at_ I[k] = y at *
   generalize I[k] = s at *
   obtain ⟨xno, xat, xrev, xitem, xsec, xA, xc, xv⟩ := x
   obtain ⟨yno, yat, yrev, yitem, ysec, yA, yc, yv⟩ := y
   unfold RkPost at HLW
   simp only [DecVal.eq, decC] at HLW
   go_wp2_with fail
   refine HLW.out.mono ?_
   rintro e w5 ⟨rfl, hm5⟩
   have HP5 := Lib.hid (HP.out.trans hm5)
   have HB5 := Lib.hid (HB.out.modp hm5)
   have HM5 := Lib.hid (HM.out.pure hm5)
   have HMO5 := Lib.hid (HMO.out.trans (Mod.of_pure hm5))
   have HQ5 := Lib.hid hm5
   have hs5 := hm5.size
   clear hm5 HP HB HM HMO HLW q1 l0 l1
   go_upto_region 6 with (fail)
   have HX6 := Lib.hid ((Blk.new w5 40 #[.int .i64 xno, .int .i64 xat, .string ⟨xrev.toArray⟩, .string ⟨xitem.toArray⟩, .bool xsec, .slice xA xv.length xc]).alloc (.cells #[.int .i64 yno, .int .i64 yat, .string ⟨yrev.toArray⟩, .string ⟨yitem.toArray⟩, .bool ysec, .slice yA yv.length yc] 40))
   have HY6 : Hid (Blk ((w5.alloc (.cells #[.int .i64 xno, .int .i64 xat, .string ⟨xrev.toArray⟩, .string ⟨xitem.toArray⟩, .bool xsec, .slice xA xv.length xc] 40)).alloc (.cells #[.int .i64 yno, .int .i64 yat, .string ⟨yrev.toArray⟩, .string ⟨yitem.toArray⟩, .bool ysec, .slice yA yv.length yc] 40)) (w5.heap.size + 1) 40 #[.int .i64 yno, .int .i64 yat, .string ⟨yrev.toArray⟩, .string ⟨yitem.toArray⟩, .bool ysec, .slice yA yv.length yc]) := Lib.hid (Blk.new' (by simp))
   have HPA : Hid (Pure w5 ((w5.alloc (.cells #[.int .i64 xno, .int .i64 xat, .string ⟨xrev.toArray⟩, .string ⟨xitem.toArray⟩, .bool xsec, .slice xA xv.length xc] 40)).alloc (.cells #[.int .i64 yno, .int .i64 yat, .string ⟨yrev.toArray⟩, .string ⟨yitem.toArray⟩, .bool ysec, .slice yA yv.length yc] 40))) := Lib.hid ((pure_alloc w5 (.cells #[.int .i64 xno, .int .i64 xat, .string ⟨xrev.toArray⟩, .string ⟨xitem.toArray⟩, .bool xsec, .slice xA xv.length xc] 40)).trans (pure_alloc _ (.cells #[.int .i64 yno, .int .i64 yat, .string ⟨yrev.toArray⟩, .string ⟨yitem.toArray⟩, .bool ysec, .slice yA yv.length yc] 40)))
   have HP6 := Lib.hid (HP5.out.trans HPA.out)
   have HB6 := Lib.hid (HB5.out.modp HPA.out)
   have HM6 := Lib.hid (HM5.out.pure HPA.out)
   have HMO6 := Lib.hid (HMO5.out.trans (Mod.of_pure HPA.out))
   have HQ6 := Lib.hid (HQ5.out.trans HPA.out)
   have hs6 : w5.heap.size + 2 = ((w5.alloc (.cells #[.int .i64 xno, .int .i64 xat, .string ⟨xrev.toArray⟩, .string ⟨xitem.toArray⟩, .bool xsec, .slice xA xv.length xc] 40)).alloc (.cells #[.int .i64 yno, .int .i64 yat, .string ⟨yrev.toArray⟩, .string ⟨yitem.toArray⟩, .bool ysec, .slice yA yv.length yc] 40)).heap.size := by simp
   clear HPA HP5 HB5 HM5 HMO5 HQ5
   generalize ((w5.alloc (.cells #[.int .i64 xno, .int .i64 xat, .string ⟨xrev.toArray⟩, .string ⟨xitem.toArray⟩, .bool xsec, .slice xA xv.length xc] 40)).alloc (.cells #[.int .i64 yno, .int .i64 yat, .string ⟨yrev.toArray⟩, .string ⟨yitem.toArray⟩, .bool ysec, .slice yA yv.length yc] 40)) = w6 at *
   generalize w5.heap.size = g12 at *
   cases ok
   ·have HN2 := Lib.hid (HNO.out rfl)
    clear HNO HYE HF1 HF2 HX6 HY6
    go_wp2_with fail
    go_roundg (I.length - (k + 1))
    case measure => omega
    case rel => exact ⟨k + 1, nn, rfl, by omega, by simp, by rw [HN2.out]; exact HM6.out, by omega, HB6.out, HP6.out, HMO6.out, by have := HMO6.out.size; omega⟩
   ·have HN2 := Lib.hid (HYE.out rfl)
    clear HNO HYE
    have hrl : xrev.length ≤ 1000 := HF1.out.2.1.2.2.2.2.1
    have HGD := Lib.hid (scoFV_getD fd (lksT L.asks ds at_ I k) xrev)
    have HTK := Lib.hid (scoFV_snoc fd (lksT L.asks ds at_ I k) (⟨xno, xat, xrev, xitem, xsec, xA, xc, xv⟩, ⟨yno, yat, yrev, yitem, ysec, yA, yc, yv⟩))
    obtain ⟨b1, b2, b3, b4⟩ := sco_bounds (fd := fd) (l := lksT L.asks ds at_ I k) (by omega) xrev
    simp only at HTK
    generalize lksT L.asks ds at_ I k = lT at *
    generalize (scoF fd lT xrev).getD sco0 = t at *
    have hlook := HM6.out.lookup (t := 152) (e := 96) Tryz.underlying152 zero_sco xrev (by omega)
    rw [HGD.out] at hlook
    have HTA : Hid (scoVA (scoA fd t (⟨xno, xat, xrev, xitem, xsec, xA, xc, xv⟩, ⟨yno, yat, yrev, yitem, ysec, yA, yc, yv⟩)) = .agg #[.string ⟨xrev.toArray⟩, .int .i64 (t.looked + 1), .int .i64 (t.same + samI fd (⟨xno, xat, xrev, xitem, xsec, xA, xc, xv⟩, ⟨yno, yat, yrev, yitem, ysec, yA, yc, yv⟩))]) := Lib.hid rfl
    obtain ⟨tr, tl, ts⟩ := t
    unfold scoVA at hlook
    simp only [] at hlook b1 b2 b3 b4 HTA
    have HSI : Hid (samI fd (⟨xno, xat, xrev, xitem, xsec, xA, xc, xv⟩, ⟨yno, yat, yrev, yitem, ysec, yA, yc, yv⟩) = if chIn xv fd = chIn yv fd then 1 else 0) := Lib.hid rfl
    have hX := HX6.out
    have d0 := hX.cell 0; have d1 := hX.cell 1; have d2 := hX.cell 2; have d3 := hX.cell 3; have d4 := hX.cell 4; have d5 := hX.cell 5; simp at d0 d1 d2 d3 d4 d5
    clear hX
    go_upto_region 8 with (fail)
    clear d0 d1 d2 d3 d4 d5
    have hX := HX6.out.alloc (.cells #[.string ⟨tr.toArray⟩, .int .i64 tl, .int .i64 ts] 96)
    have d0 := hX.cell 0; have d1 := hX.cell 1; have d2 := hX.cell 2; have d3 := hX.cell 3; have d4 := hX.cell 4; have d5 := hX.cell 5; simp at d0 d1 d2 d3 d4 d5
    clear hX
    go_upto_region 10 with (fail)
    clear d0 d1 d2 d3 d4 d5
    have HPA : Hid (Pure w6 (w6.alloc (.cells #[.string ⟨xrev.toArray⟩, .int .i64 (tl + 1), .int .i64 ts] 96))) := Lib.hid (pure_alloc _ _)
    have HV1 : Hid (∀ W, Mod (· = w6.heap.size) (w6.alloc (.cells #[.string ⟨xrev.toArray⟩, .int .i64 (tl + 1), .int .i64 ts] 96)) W → Calls Tryz.prog 78 #[.slice xA xv.length xc, .string ⟨fd.toArray⟩] W (ChPost W xv fd)) := Lib.hid (fun W h => choicesIn_calls W _ xv fd ((HF1.out.1).pure (HQ6.out.trans (HPA.out.trans' h (fun i hi hl => by omega)))) (by have := HF1.out.2.1.2.2.2.2.2.2.1; simp only at this; omega))
    have HV2 : Hid (∀ W, Mod (· = w6.heap.size) (w6.alloc (.cells #[.string ⟨xrev.toArray⟩, .int .i64 (tl + 1), .int .i64 ts] 96)) W → Calls Tryz.prog 78 #[.slice yA yv.length yc, .string ⟨fd.toArray⟩] W (ChPost W yv fd)) := Lib.hid (fun W h => choicesIn_calls W _ yv fd ((HF2.out.1).pure (HQ6.out.trans (HPA.out.trans' h (fun i hi hl => by omega)))) (by have := HF2.out.2.1.2.2.2.2.2.2.1; simp only at this; omega))
    have HX7 := Lib.hid (HX6.out.alloc (.cells #[.string ⟨xrev.toArray⟩, .int .i64 (tl + 1), .int .i64 ts] 96))
    have HY7 := Lib.hid (HY6.out.alloc (.cells #[.string ⟨xrev.toArray⟩, .int .i64 (tl + 1), .int .i64 ts] 96))
    have HS7 := Lib.hid (Blk.new w6 96 #[.string ⟨xrev.toArray⟩, .int .i64 (tl + 1), .int .i64 ts])
    have HM7 := Lib.hid (HM6.out.al (.cells #[.string ⟨xrev.toArray⟩, .int .i64 (tl + 1), .int .i64 ts] 96))
    have HB7 := Lib.hid (HB6.out.alloc (.cells #[.string ⟨xrev.toArray⟩, .int .i64 (tl + 1), .int .i64 ts] 96))
    have HP7 := Lib.hid (HP6.out.trans HPA.out)
    have HMO7 := Lib.hid (HMO6.out.trans (Mod.of_pure HPA.out))
    have hs7 : w6.heap.size < (w6.alloc (.cells #[.string ⟨xrev.toArray⟩, .int .i64 (tl + 1), .int .i64 ts] 96)).heap.size := by simp
    have hbw : w.heap.size ≤ w6.heap.size := HP6.out.size
    have hb6 : w3.heap.size ≤ w6.heap.size := HMO6.out.size
    have hgb : g4 < w6.heap.size := HB6.out.lt
    clear HF1 HF2 HQ6 HPA HX6 HY6 HM6 HB6 HP6 HMO6 hlook HGD
    unfold ChPost at HV1 HV2
    generalize chIn xv fd = e1 at *
    generalize chIn yv fd = e2 at *
    obtain ⟨fl, hfl⟩ : ∃ fl : Int, (if decide (e1 = e2) = true then (1 : Int) else 0) = fl := ⟨_, rfl⟩
    have hf1 : 0 ≤ fl := by rw [← hfl]; split <;> omega
    have hf2 : fl ≤ 1 := by rw [← hfl]; split <;> omega
    have HFL := Lib.hid hfl
    have HSF : Hid (samI fd (⟨xno, xat, xrev, xitem, xsec, xA, xc, xv⟩, ⟨yno, yat, yrev, yitem, ysec, yA, yc, yv⟩) = fl) := Lib.hid (by rw [HSI.out, ← hfl]; simp)
    have HFG := Lib.hid (fun W => flag_calls W (decide (e1 = e2)))
    rw [hfl] at HFG
    clear hfl HSI HFL
    generalize (w6.alloc (.cells #[.string ⟨xrev.toArray⟩, .int .i64 (tl + 1), .int .i64 ts] 96)) = wa at *
    generalize w6.heap.size = g15 at *
    have HGs := Lib.hid (show ∀ (D : Nat → Bool) (zzi : Nat) (zq zq' : World), zzi ≠ 14 → (fun D zq => (D 14 = false → (fun Z => Blk Z g15 96 #[.string ⟨xrev.toArray⟩, .int .i64 (tl + 1), .int .i64 ts]) zq) ∧ (fun Z => Blk Z g12 40 #[.int .i64 xno, .int .i64 xat, .string ⟨xrev.toArray⟩, .string ⟨xitem.toArray⟩, .bool xsec, .slice xA xv.length xc] ∧ Blk Z (g12 + 1) 40 #[.int .i64 yno, .int .i64 yat, .string ⟨yrev.toArray⟩, .string ⟨yitem.toArray⟩, .bool ysec, .slice yA yv.length yc]) zq) D zq → Mod (fun _ => False) zq zq' → (fun D zq => (D 14 = false → (fun Z => Blk Z g15 96 #[.string ⟨xrev.toArray⟩, .int .i64 (tl + 1), .int .i64 ts]) zq) ∧ (fun Z => Blk Z g12 40 #[.int .i64 xno, .int .i64 xat, .string ⟨xrev.toArray⟩, .string ⟨xitem.toArray⟩, .bool xsec, .slice xA xv.length xc] ∧ Blk Z (g12 + 1) 40 #[.int .i64 yno, .int .i64 yat, .string ⟨yrev.toArray⟩, .string ⟨yitem.toArray⟩, .bool ysec, .slice yA yv.length yc]) zq) (upd D zzi true) zq' from by intro D zzi zq zq' hi hh hm; refine ⟨fun hs => ?_, ?_⟩; (rw [upd_ne _ _ (Ne.symm hi)] at hs; have h := hh.1 hs; (exact h.modp hm)); (have h := hh.2; (exact ⟨h.1.modp hm, h.2.modp hm⟩)))
    refine wp_region_inv (by kernel_rfl) (by kernel_rfl) (InvF (R := Mod (fun _ => False)) [.is (.pointer (some ⟨g15, 2, none⟩)),
      .is (.int .i64 ts),
      .is (.pointer (some ⟨g12, 5, none⟩)),
      .is (.slice xA xv.length xc),
      .is (.string ⟨fd.toArray⟩),
      ⟨fun zv zw => ∃ (A_5 : Option Addr) (c_5 : Nat), zv = .slice A_5 e1.length c_5 ∧ SlK zw (.slice A_5 e1.length c_5) e1, (by rintro zv zw zx ⟨A_5, c_5, rfl, q0⟩ hm; exact ⟨A_5, c_5, rfl, (SlK.pure q0 hm)⟩), none, some 10⟩,
      .is (.pointer (some ⟨g12 + 1, 5, none⟩)),
      .is (.slice yA yv.length yc),
      .is (.string ⟨fd.toArray⟩),
      ⟨fun zv zw => ∃ (A_9 : Option Addr) (c_9 : Nat), zv = .slice A_9 e2.length c_9 ∧ SlK zw (.slice A_9 e2.length c_9) e2, (by rintro zv zw zx ⟨A_9, c_9, rfl, q0⟩ hm; exact ⟨A_9, c_9, rfl, (SlK.pure q0 hm)⟩), none, some 10⟩,
      .is (.bool (decide (e1 = e2))),
      .is (.int .i64 fl),
      .is (.int .i64 (ts + fl)),
      .is (.pointer (some ⟨g15, 2, none⟩)),
      ⟨fun zv zw => zv = undef ∧ Blk zw g15 96 #[.string ⟨xrev.toArray⟩, .int .i64 (tl + 1), .int .i64 (ts + fl)], (by rintro zv zw zx ⟨rfl, q0⟩ hm; exact ⟨rfl, (q0.modp hm)⟩), none, none⟩]
      (PB wa (· = g15) wa.heap.size (fun D zq => (D 14 = false → (fun Z => Blk Z g15 96 #[.string ⟨xrev.toArray⟩, .int .i64 (tl + 1), .int .i64 ts]) zq) ∧ (fun Z => Blk Z g12 40 #[.int .i64 xno, .int .i64 xat, .string ⟨xrev.toArray⟩, .string ⟨xitem.toArray⟩, .bool xsec, .slice xA xv.length xc] ∧ Blk Z (g12 + 1) 40 #[.int .i64 yno, .int .i64 yat, .string ⟨yrev.toArray⟩, .string ⟨yitem.toArray⟩, .bool ysec, .slice yA yv.length yc]) zq))) (InvF.start (PB.start (Mod.refl _ _) (Nat.le_refl _) (⟨fun _ => HS7.out.drew, ⟨HX7.out.drew, HY7.out.drew⟩⟩))) ?_ ?_
    ·refine .cons ?_ (.cons ?_ (.cons ?_ (.cons ?_ (.cons ?_ (.cons ?_ (.cons ?_ (.cons ?_ (.cons ?_ (.cons ?_ (.cons ?_ (.cons ?_ (.cons ?_ (.cons ?_ (.cons ?_ .nil))))))))))))))
     ·intro D V zw1 a hR hI K hK
      obtain ⟨hM1, hB1, hG1⟩ := hI.1
      obtain ⟨hGK, hG1⟩ := hG1
      have ze15 := hR.frame.other (t := 15) (by kernel_rfl) rfl
      rw [if_pos (by rfl)]
      go_simp
      exact hK (.pointer (some ⟨g15, 2, none⟩)) _ (hI.next hR (by kernel_rfl) (Mod.refl _ _) (PB.quiet hI.1 (Mod.refl _ _) (HGs.out D 0 zw1 zw1 (by omega) (hI.1).g (Mod.refl _ _))) (upd_same V 0 _))
     ·intro D V zw1 a hR hI K hK
      obtain ⟨hM1, hB1, hG1⟩ := hI.1
      obtain ⟨hGK, hG1⟩ := hG1
      have zd0 := hR.pred 0 (by kernel_rfl)
      have zF0 : V 0 = .pointer (some ⟨g15, 2, none⟩) := hI.2 0 zd0 rfl
      have zf0 := zF0; clear zF0
      have ze49 := hR.frame.done (t := 49) (j := 0) (by kernel_rfl) hR.ok zd0
      have zB := hGK (hR.later 14 rfl (by kernel_rfl))
      have zx0 := zB.cell 2
      simp at zx0
      rw [if_pos (by rfl)]
      go_simp
      exact hK (.int .i64 ts) _ (hI.next hR (by kernel_rfl) (Mod.refl _ _) (PB.quiet hI.1 (Mod.refl _ _) (HGs.out D 1 zw1 zw1 (by omega) (hI.1).g (Mod.refl _ _))) (upd_same V 1 _))
     ·intro D V zw1 a hR hI K hK
      obtain ⟨hM1, hB1, hG1⟩ := hI.1
      obtain ⟨hGK, hG1⟩ := hG1
      have ze12 := hR.frame.other (t := 12) (by kernel_rfl) rfl
      rw [if_pos (by rfl)]
      go_simp
      exact hK (.pointer (some ⟨g12, 5, none⟩)) _ (hI.next hR (by kernel_rfl) (Mod.refl _ _) (PB.quiet hI.1 (Mod.refl _ _) (HGs.out D 2 zw1 zw1 (by omega) (hI.1).g (Mod.refl _ _))) (upd_same V 2 _))
     ·intro D V zw1 a hR hI K hK
      obtain ⟨hM1, hB1, hG1⟩ := hI.1
      obtain ⟨hGK, hG1⟩ := hG1
      have zd2 := hR.pred 2 (by kernel_rfl)
      have zF2 : V 2 = .pointer (some ⟨g12, 5, none⟩) := hI.2 2 zd2 rfl
      have zf2 := zF2; clear zF2
      have ze51 := hR.frame.done (t := 51) (j := 2) (by kernel_rfl) hR.ok zd2
      have zx := hG1.1.cell 5
      simp at zx
      rw [if_pos (by rfl)]
      go_simp
      exact hK (.slice xA xv.length xc) _ (hI.next hR (by kernel_rfl) (Mod.refl _ _) (PB.quiet hI.1 (Mod.refl _ _) (HGs.out D 3 zw1 zw1 (by omega) (hI.1).g (Mod.refl _ _))) (upd_same V 3 _))
     ·intro D V zw1 a hR hI K hK
      obtain ⟨hM1, hB1, hG1⟩ := hI.1
      obtain ⟨hGK, hG1⟩ := hG1
      have ze2 := hR.frame.other (t := 2) (by kernel_rfl) rfl
      rw [if_pos (by rfl)]
      go_simp
      exact hK (.string ⟨fd.toArray⟩) _ (hI.next hR (by kernel_rfl) (Mod.refl _ _) (PB.quiet hI.1 (Mod.refl _ _) (HGs.out D 4 zw1 zw1 (by omega) (hI.1).g (Mod.refl _ _))) (upd_same V 4 _))
     ·intro D V zw1 a hR hI K hK
      obtain ⟨hM1, hB1, hG1⟩ := hI.1
      obtain ⟨hGK, hG1⟩ := hG1
      have zd3 := hR.pred 3 (by kernel_rfl)
      have zF3 : V 3 = .slice xA xv.length xc := hI.2 3 zd3 rfl
      have zf3 := zF3; clear zF3
      have zd4 := hR.pred 4 (by kernel_rfl)
      have zF4 : V 4 = .string ⟨fd.toArray⟩ := hI.2 4 zd4 rfl
      have zf4 := zF4; clear zF4
      have ze52 := hR.frame.done (t := 52) (j := 3) (by kernel_rfl) hR.ok zd3
      have ze53 := hR.frame.done (t := 53) (j := 4) (by kernel_rfl) hR.ok zd4
      rw [if_pos (by rfl)]
      go_simp
      refine (HV1.out zw1 hM1).mono ?_
      rintro e zw2 ⟨A_0, c_0, rfl, hsl, hm2⟩
      exact hK (.slice A_0 e1.length c_0) _ (hI.next hR (by kernel_rfl) hm2 (PB.quiet hI.1 hm2 (HGs.out D 5 _ _ (by omega) (hI.1).g hm2)) (⟨A_0, c_0, upd_same V 5 _, hsl⟩))
     ·intro D V zw1 a hR hI K hK
      obtain ⟨hM1, hB1, hG1⟩ := hI.1
      obtain ⟨hGK, hG1⟩ := hG1
      have ze13 := hR.frame.other (t := 13) (by kernel_rfl) rfl
      rw [if_pos (by rfl)]
      go_simp
      exact hK (.pointer (some ⟨g12 + 1, 5, none⟩)) _ (hI.next hR (by kernel_rfl) (Mod.refl _ _) (PB.quiet hI.1 (Mod.refl _ _) (HGs.out D 6 zw1 zw1 (by omega) (hI.1).g (Mod.refl _ _))) (upd_same V 6 _))
     ·intro D V zw1 a hR hI K hK
      obtain ⟨hM1, hB1, hG1⟩ := hI.1
      obtain ⟨hGK, hG1⟩ := hG1
      have zd6 := hR.pred 6 (by kernel_rfl)
      have zF6 : V 6 = .pointer (some ⟨g12 + 1, 5, none⟩) := hI.2 6 zd6 rfl
      have zf6 := zF6; clear zF6
      have ze55 := hR.frame.done (t := 55) (j := 6) (by kernel_rfl) hR.ok zd6
      have zx := hG1.2.cell 5
      simp at zx
      rw [if_pos (by rfl)]
      go_simp
      exact hK (.slice yA yv.length yc) _ (hI.next hR (by kernel_rfl) (Mod.refl _ _) (PB.quiet hI.1 (Mod.refl _ _) (HGs.out D 7 zw1 zw1 (by omega) (hI.1).g (Mod.refl _ _))) (upd_same V 7 _))
     ·intro D V zw1 a hR hI K hK
      obtain ⟨hM1, hB1, hG1⟩ := hI.1
      obtain ⟨hGK, hG1⟩ := hG1
      have ze2 := hR.frame.other (t := 2) (by kernel_rfl) rfl
      rw [if_pos (by rfl)]
      go_simp
      exact hK (.string ⟨fd.toArray⟩) _ (hI.next hR (by kernel_rfl) (Mod.refl _ _) (PB.quiet hI.1 (Mod.refl _ _) (HGs.out D 8 zw1 zw1 (by omega) (hI.1).g (Mod.refl _ _))) (upd_same V 8 _))
     ·intro D V zw1 a hR hI K hK
      obtain ⟨hM1, hB1, hG1⟩ := hI.1
      obtain ⟨hGK, hG1⟩ := hG1
      have zd7 := hR.pred 7 (by kernel_rfl)
      have zF7 : V 7 = .slice yA yv.length yc := hI.2 7 zd7 rfl
      have zf7 := zF7; clear zF7
      have zd8 := hR.pred 8 (by kernel_rfl)
      have zF8 : V 8 = .string ⟨fd.toArray⟩ := hI.2 8 zd8 rfl
      have zf8 := zF8; clear zF8
      have ze56 := hR.frame.done (t := 56) (j := 7) (by kernel_rfl) hR.ok zd7
      have ze57 := hR.frame.done (t := 57) (j := 8) (by kernel_rfl) hR.ok zd8
      rw [if_pos (by rfl)]
      go_simp
      refine (HV2.out zw1 hM1).mono ?_
      rintro e zw2 ⟨A_0, c_0, rfl, hsl, hm2⟩
      exact hK (.slice A_0 e2.length c_0) _ (hI.next hR (by kernel_rfl) hm2 (PB.quiet hI.1 hm2 (HGs.out D 9 _ _ (by omega) (hI.1).g hm2)) (⟨A_0, c_0, upd_same V 9 _, hsl⟩))
     ·intro D V zw1 a hR hI K hK
      obtain ⟨hM1, hB1, hG1⟩ := hI.1
      obtain ⟨hGK, hG1⟩ := hG1
      have zd5 := hR.pred 5 (by kernel_rfl)
      have zF5 : ∃ (A_5 : Option Addr) (c_5 : Nat), V 5 = .slice A_5 e1.length c_5 ∧ SlK zw1 (.slice A_5 e1.length c_5) e1 := hI.2 5 zd5 (by show (!D 10) = true; rw [hR.not]; rfl)
      obtain ⟨A_5, c_5, zf5, b5_0⟩ := zF5
      have zd9 := hR.pred 9 (by kernel_rfl)
      have zF9 : ∃ (A_9 : Option Addr) (c_9 : Nat), V 9 = .slice A_9 e2.length c_9 ∧ SlK zw1 (.slice A_9 e2.length c_9) e2 := hI.2 9 zd9 (by show (!D 10) = true; rw [hR.not]; rfl)
      obtain ⟨A_9, c_9, zf9, b9_0⟩ := zF9
      have ze54 := hR.frame.done (t := 54) (j := 5) (by kernel_rfl) hR.ok zd5
      have ze58 := hR.frame.done (t := 58) (j := 9) (by kernel_rfl) hR.ok zd9
      rw [if_pos (by rfl)]
      go_simp
      refine (equalG_calls zw1 _ _ e1 e2 b5_0 b9_0).mono ?_
      rintro e zw2 ⟨rfl, hm2⟩
      exact hK (.bool (decide (e1 = e2))) _ (hI.next hR (by kernel_rfl) hm2 (PB.quiet hI.1 hm2 (HGs.out D 10 _ _ (by omega) (hI.1).g hm2)) (upd_same V 10 _))
     ·intro D V zw1 a hR hI K hK
      obtain ⟨hM1, hB1, hG1⟩ := hI.1
      obtain ⟨hGK, hG1⟩ := hG1
      have zd10 := hR.pred 10 (by kernel_rfl)
      have zF10 : V 10 = .bool (decide (e1 = e2)) := hI.2 10 zd10 rfl
      have zf10 := zF10; clear zF10
      have ze59 := hR.frame.done (t := 59) (j := 10) (by kernel_rfl) hR.ok zd10
      rw [if_pos (by rfl)]
      go_simp
      refine (HFG.out zw1).mono ?_
      rintro e zw2 ⟨rfl, hm2⟩
      exact hK (.int .i64 fl) _ (hI.next hR (by kernel_rfl) hm2 (PB.quiet hI.1 hm2 (HGs.out D 11 _ _ (by omega) (hI.1).g hm2)) (upd_same V 11 _))
     ·intro D V zw1 a hR hI K hK
      obtain ⟨hM1, hB1, hG1⟩ := hI.1
      obtain ⟨hGK, hG1⟩ := hG1
      have zd1 := hR.pred 1 (by kernel_rfl)
      have zF1 : V 1 = .int .i64 ts := hI.2 1 zd1 rfl
      have zf1 := zF1; clear zF1
      have zd11 := hR.pred 11 (by kernel_rfl)
      have zF11 : V 11 = .int .i64 fl := hI.2 11 zd11 rfl
      have zf11 := zF11; clear zF11
      have ze50 := hR.frame.done (t := 50) (j := 1) (by kernel_rfl) hR.ok zd1
      have ze60 := hR.frame.done (t := 60) (j := 11) (by kernel_rfl) hR.ok zd11
      have zx : IntKind.i64.wrap (ts + fl) = ts + fl := IntWalk.i64_in _ (by omega)
      rw [if_pos (by rfl)]
      go_simp
      exact hK (.int .i64 (ts + fl)) _ (hI.next hR (by kernel_rfl) (Mod.refl _ _) (PB.quiet hI.1 (Mod.refl _ _) (HGs.out D 12 zw1 zw1 (by omega) (hI.1).g (Mod.refl _ _))) (upd_same V 12 _))
     ·intro D V zw1 a hR hI K hK
      obtain ⟨hM1, hB1, hG1⟩ := hI.1
      obtain ⟨hGK, hG1⟩ := hG1
      have ze15 := hR.frame.other (t := 15) (by kernel_rfl) rfl
      rw [if_pos (by rfl)]
      go_simp
      exact hK (.pointer (some ⟨g15, 2, none⟩)) _ (hI.next hR (by kernel_rfl) (Mod.refl _ _) (PB.quiet hI.1 (Mod.refl _ _) (HGs.out D 13 zw1 zw1 (by omega) (hI.1).g (Mod.refl _ _))) (upd_same V 13 _))
     ·intro D V zw1 a hR hI K hK
      obtain ⟨hM1, hB1, hG1⟩ := hI.1
      obtain ⟨hGK, hG1⟩ := hG1
      have zd13 := hR.pred 13 (by kernel_rfl)
      have zF13 : V 13 = .pointer (some ⟨g15, 2, none⟩) := hI.2 13 zd13 rfl
      have zf13 := zF13; clear zF13
      have zd12 := hR.pred 12 (by kernel_rfl)
      have zF12 : V 12 = .int .i64 (ts + fl) := hI.2 12 zd12 rfl
      have zf12 := zF12; clear zF12
      have ze62 := hR.frame.done (t := 62) (j := 13) (by kernel_rfl) hR.ok zd13
      have ze61 := hR.frame.done (t := 61) (j := 12) (by kernel_rfl) hR.ok zd12
      rw [if_pos (by rfl)]
      have hZ := hGK hR.not
      have zx2 := hZ.cell 2
      have zy2 := hZ.frozen 2
      simp at zx2
      have hB5 := hZ.set 2 (.int .i64 (ts + fl))
      have hmm : Mod (· = g15) zw1 (zw1.setCell ⟨g15, 2, none⟩ (.int .i64 (ts + fl))) := Mod.setCell (S := (· = g15)) (Mod.refl _ zw1) (p := ⟨g15, 2, none⟩) (.inl rfl) _
      go_simp
      refine hK undef _ (InvF.last ⟨hM1.trans hmm, (by simpa using hB1), ⟨fun hs => absurd hs (by rw [upd_same]; decide), ⟨hG1.1.mod hmm (by omega), hG1.2.mod hmm (by omega)⟩⟩⟩ ⟨upd_same _ 14 _, (by simpa using hB5)⟩ ?_)
      intro k hk hDk hlv
      have hkl := hR.lt k hDk
      have hv := hI.2 k hDk (liveB_of hlv)
      match k, hk, hDk, hlv, hkl, hv with
      | 0, _, _, _, _, hv => exact hv
      | 1, _, _, _, _, hv => exact hv
      | 2, _, _, _, _, hv => exact hv
      | 3, _, _, _, _, hv => exact hv
      | 4, _, _, _, _, hv => exact hv
      | 5, _, _, hlv, _, _ => exact absurd hlv (by show ¬ (!upd D 14 true 10) = true; rw [upd_ne _ _ (by omega), hR.pred 10 (by kernel_rfl)]; decide)
      | 6, _, _, _, _, hv => exact hv
      | 7, _, _, _, _, hv => exact hv
      | 8, _, _, _, _, hv => exact hv
      | 9, _, _, hlv, _, _ => exact absurd hlv (by show ¬ (!upd D 14 true 10) = true; rw [upd_ne _ _ (by omega), hR.pred 10 (by kernel_rfl)]; decide)
      | 10, _, _, _, _, hv => exact hv
      | 11, _, _, _, _, hv => exact hv
      | 12, _, _, _, _, hv => exact hv
      | 13, _, _, _, _, hv => exact hv
      | 14, hk, _, _, _, _ => exact absurd rfl hk
      | k + 15, _, _, _, hkl, _ => exact absurd hkl (by simp)
    ·intro D V wb hD hI
     obtain ⟨hM1, hB1, hG1⟩ := hI.1
     have hMx := hM1
     clear hM1
     have hBx := hB1
     clear hB1
     have hGx := hG1.2
     clear hG1
     have zF0 : V 0 = .pointer (some ⟨g15, 2, none⟩) := hI.2 0 (hD 0 (by decide)) rfl
     have zf0 := zF0; clear zF0
     have zF1 : V 1 = .int .i64 ts := hI.2 1 (hD 1 (by decide)) rfl
     have zf1 := zF1; clear zF1
     have zF2 : V 2 = .pointer (some ⟨g12, 5, none⟩) := hI.2 2 (hD 2 (by decide)) rfl
     have zf2 := zF2; clear zF2
     have zF3 : V 3 = .slice xA xv.length xc := hI.2 3 (hD 3 (by decide)) rfl
     have zf3 := zF3; clear zF3
     have zF4 : V 4 = .string ⟨fd.toArray⟩ := hI.2 4 (hD 4 (by decide)) rfl
     have zf4 := zF4; clear zF4
     have zF6 : V 6 = .pointer (some ⟨g12 + 1, 5, none⟩) := hI.2 6 (hD 6 (by decide)) rfl
     have zf6 := zF6; clear zF6
     have zF7 : V 7 = .slice yA yv.length yc := hI.2 7 (hD 7 (by decide)) rfl
     have zf7 := zF7; clear zF7
     have zF8 : V 8 = .string ⟨fd.toArray⟩ := hI.2 8 (hD 8 (by decide)) rfl
     have zf8 := zF8; clear zF8
     have zF10 : V 10 = .bool (decide (e1 = e2)) := hI.2 10 (hD 10 (by decide)) rfl
     have zf10 := zF10; clear zF10
     have zF11 : V 11 = .int .i64 fl := hI.2 11 (hD 11 (by decide)) rfl
     have zf11 := zF11; clear zF11
     have zF12 : V 12 = .int .i64 (ts + fl) := hI.2 12 (hD 12 (by decide)) rfl
     have zf12 := zF12; clear zF12
     have zF13 : V 13 = .pointer (some ⟨g15, 2, none⟩) := hI.2 13 (hD 13 (by decide)) rfl
     have zf13 := zF13; clear zF13
     have zF14 : V 14 = undef ∧ Blk wb g15 96 #[.string ⟨xrev.toArray⟩, .int .i64 (tl + 1), .int .i64 (ts + fl)] := hI.2 14 (hD 14 (by decide)) rfl
     obtain ⟨zf14, b14_0⟩ := zF14
     clear hI hD HGs
     simp only [frAll, Act.put, List.setIfInBounds_toArray, List.set_cons_zero, List.set_cons_succ, Nat.zero_add, Nat.reduceAdd, zf0, zf1, zf2, zf3, zf4, zf6, zf7, zf8, zf10, zf11, zf12, zf13, zf14]
     clear zf0 zf1 zf2 zf3 zf4 zf6 zf7 zf8 zf10 zf11 zf12 zf13 zf14
     generalize V 5 = u5
     generalize V 9 = u9
     clear V D
     have hY := b14_0
     have HM8 := Lib.hid (HM7.out.mod hMx (fun h => by omega))
     have HB8 := Lib.hid (HB7.out.mod hMx (by omega))
     have HP8 := Lib.hid (HP7.out.trans' hMx (fun i hi hl => by omega))
     have HMO8 := Lib.hid (HMO7.out.trans' hMx (fun i hi hl => by omega))
     have hX := hGx.1
     clear hMx hBx hGx HX7 HY7 HS7 HV1 HV2 HFG HM7 HB7 HP7 HMO7
     obtain ⟨w9, hrun3, hms3, hm9⟩ := HM8.out.store (t := 152) (e := 96) Tryz.underlying152 (by omega) xrev (by omega) (scoVA (scoA fd ⟨tr, tl, ts⟩ (⟨xno, xat, xrev, xitem, xsec, xA, xc, xv⟩, ⟨yno, yat, yrev, yitem, ysec, yA, yc, yv⟩)))
     rw [HTK.out] at hms3
     rw [HTA.out, HSF.out] at hrun3
     have HMS := Lib.hid hms3
     have HP9 := Lib.hid (HP8.out.trans' hm9 (fun i hi hl => by omega))
     have HM9 := Lib.hid (HMO8.out.trans hm9)
     have HB9 := Lib.hid (HB8.out.mod hm9 (by omega))
     have hsz9 := HM9.out.size
     clear hms3 hm9 HTK HTA HSF HM8 HP8 HMO8 HB8
     have d0 := hX.cell 0; have d1 := hX.cell 1; have d2 := hX.cell 2; have d3 := hX.cell 3; have d4 := hX.cell 4; have d5 := hX.cell 5; simp at d0 d1 d2 d3 d4 d5
     have e0 := hY.cell 0; have e1 := hY.cell 1; have e2 := hY.cell 2; simp at e0 e1 e2
     clear hX hY
     go_wp2_with fail
     go_roundg (I.length - (k + 1))
     case measure => omega
     case rel => exact ⟨k + 1, nn + 1, rfl, by omega, by simp, by rw [HN2.out]; exact HMS.out, by omega, HB9.out, HP9.out, HM9.out, hsz9⟩
  ·obtain rfl : k = I.length := by omega
   have HLT : Hid (lksT L.asks ds at_ I I.length = LP) := Lib.hid HQ.out.symm
   rw [HLT.out] at hM
   obtain ⟨w4, m, hrun, hrg, hmn, hp1, hs4⟩ := hM.range (t := 152) (e := 96) Tryz.underlying152
   have HRG := Lib.hid hrg
   have HPR := Lib.hid (hm.trans hp1)
   have hws := hm.size
   have hw4s : wr.heap.size < w4.heap.size := by omega
   clear hM hm hB hm3 HLK HE1 HE2 HSI HM3 hrg hp1 hs4 HQ HLT
   go_wp2_with fail
   obtain ⟨r, hr⟩ : ∃ r, r = wr.heap.size := ⟨_, rfl⟩
   have hr1 := Nat.le_of_eq hr
   have hr2 := Nat.le_of_eq hr.symm
   rw [← hr] at HRG ⊢
   clear hr
   go_loopg [16] m (fun gk x wx => V2Rel w g4 bm r m fd LP gk x wx)
   case atStart => exact ⟨_, [], none, 0, rfl, HRG.out, by simp, KeyQ.start _, World.ownsRow_nil _ _ _ _, HPR.out, by omega⟩
   case round =>
    have hrw : g4 ≤ r := by omega
    clear HRG HPR hrun w4 hw4s hr1 hr2 hws
    obtain ⟨left, ss, Ao, cap, rfl, hrg, hlen, hin, hown, hm, hbs⟩ := hrel
    have hrl := hrg.lt
    rcases hrg.next with ⟨h0, hall, hnx⟩ | ⟨s, v, w2, cnt2, hls, hfs, hnx, hrg2, hlt2, hm2, hsz2, hen⟩
    ·obtain ⟨k1, k2⟩ := sget_all (hin.all hall)
     have HSO := Lib.hid (sortSco_calls _ g4 ss.length (.slice Ao ss.length cap) (SgetL fd LP ss) 109 hown (by rw [k1]; exact hin.1) (by simp [SgetL]; omega) (enters_of Tryz.func109 (by kernel_rfl) rfl) (fun x y W => scoC1_calls x y W))
     have HPK := Lib.hid k2
     have HOB := Lib.hid (own_block hown)
     have HM := Lib.hid hm
     clear hrg hin hown hm hall k1 k2 h0
     go_wp2_with fail
     refine HSO.out.mono ?_
     rintro e w5 ⟨ys, hp, hup, rfl, hown3, hm3⟩
     have HE : Hid (ys = scoL fd LP) := Lib.hid (scoL_unique ys hp HPK.out hup)
     have HO3 := Lib.hid (Sl.of_own hown3)
     have HM5 := Lib.hid (HM.out.trans' hm3 (fun i hi hl => by have := HOB.out i hi; omega))
     clear HSO HPK HOB HM hp hup hown3 hm3
     go_wp2_with fail
     go_ret
     exact ⟨Ao, ss.length, cap, rfl, by rw [← HE.out]; exact HO3.out, HM5.out⟩
    ·have HKS := Lib.hid (hin.step hls hfs)
     obtain ⟨t, ht, rfl⟩ : ∃ t, (scoF fd LP s).getD sco0 = t ∧ v = scoVA t := by
      unfold scoFV at hfs
      cases hq : scoF fd LP s with
      | none => rw [hq] at hfs; cases hfs
      | some t => rw [hq] at hfs; exact ⟨t, rfl, by simpa using hfs.symm⟩
     have HXV : Hid (scoV (SgetL fd LP (ss ++ [s])) = scoV (SgetL fd LP ss) ++ scoC t) := Lib.hid (by
      unfold SgetL
      rw [List.map_append, List.map_singleton, ht, scoV_snoc])
     have hm22 : Pure w w2 := hm.trans' hm2 (fun k hk hl => by omega)
     have hown2 := own_mod hown hm2 (fun g hg hk => by subst hk; exact own_iterQ hown hrg hg)
     obtain ⟨tr, tl, ts⟩ := t
     have HRG2 := Lib.hid (hrg2.pure (pure_alloc w2 (.cells #[.string ⟨tr.toArray⟩, .int .i64 tl, .int .i64 ts] 96)))
     have HOW2 := Lib.hid (own_pure hown2 (pure_alloc w2 (.cells #[.string ⟨tr.toArray⟩, .int .i64 tl, .int .i64 ts] 96)))
     have HM2 := Lib.hid (hm22.alloc (.cells #[.string ⟨tr.toArray⟩, .int .i64 tl, .int .i64 ts] 96))
     have HB2 := Lib.hid (Blk.new w2 96 #[.string ⟨tr.toArray⟩, .int .i64 tl, .int .i64 ts])
     have hbw2 : g4 ≤ (w2.alloc (.cells #[.string ⟨tr.toArray⟩, .int .i64 tl, .int .i64 ts] 96)).heap.size := by rw [World.size_alloc]; omega
     generalize scoV (SgetL fd LP ss) = tv at *
     unfold scoC at HXV
     unfold scoVA at hnx hen
     simp only [] at HXV hnx hen
     clear hsz2 hrg hrg2 hin hown hm hm2 hm22 hls hfs hown2 ht
     go_upto_region 17 with (fail)
     generalize (w2.alloc (.cells #[.string ⟨tr.toArray⟩, .int .i64 tl, .int .i64 ts] 96)) = w5 at *
     generalize w2.heap.size = g18 at *
     have hB3 := HB2.out
     have own4 := HOW2.out
     have hm4 := HM2.out
     have c0 := hB3.cell 0; have c1 := hB3.cell 1; have c2 := hB3.cell 2; simp at c0 c1 c2
     have hsl : ss.length ≤ 4000 := by omega
     clear hB3 HB2 HOW2 HM2
     go_wp2_with (at_builtin; refine wpList_append_lies _ rfl _ _ _ rfl g4 96 i0 _ 3 32 Tryz.underlying83 hi0 hz0 hz1 hz2 rfl (by omega) (.slice Ao ss.length cap) ss.length (tv) rfl (own4.alloc _) ⟨w5.heap.size, 0, none⟩ 1 1 [.string ⟨tr.toArray⟩, .int .i64 tl, .int .i64 ts] rfl rfl (World.news_of_block (cs := #[.string ⟨tr.toArray⟩, .int .i64 tl, .int .i64 ts]) (t := 96) (fr := (0, 0)) (heap_alloc_new w5 _)) (by simp [Value.oneCell']) (by omega) (by simp [maxLen]; omega) (by omega) (by have := hm4.size; simp; omega) (w5.heap.size + 1) (by simp) ?_; intro g5 cap5 w5 hown5 hgrow hat hlt5)
     go_roundg cnt2
     case measure => exact hlt2
     case rel =>
      have hnb : ∀ k, (Value.slice Ao ss.length cap).ownBlock = some k → g4 ≤ k := fun k hk => own_block own4 k hk
      refine ⟨_, ss ++ [s], some ⟨g5, 0, none⟩, cap5, by simp, (HRG2.out.pure (pure_alloc _ _)).mod (mod_grown hgrow) (fun hk => own_mapQ own4 HRG2.out hk) (fun hk => own_iterQ own4 HRG2.out hk), by simp; omega, HKS.out, ?_, (hm4.alloc _).grown hgrow (fun k hk => .inr (by have := hnb k hk; omega)), by have := hgrow.size; simp at this; omega⟩
      rw [HXV.out]
      simpa using hown5

end Go.Proofs.YtkkndblcejmmjaaGreatDoor

/- The law DecisionClashes. -/
namespace Go.Proofs.YtkkndblcejmmjaaGreatDoor
set_option linter.unusedVariables false
set_option linter.unusedSimpArgs false
open Go.RowKit

theorem right_k {L : LayR} {ds : List DecR} (h : decsE L ds = 0) : (∀ d ∈ ds, ∀ z ∈ d.vals, 0 ≤ kIx L.asks z.field) ∧ ∀ d ∈ ds, d.vals.length ≠ 0 := by
 obtain ⟨_, h2⟩ := decsE_0 h
 constructor
 ·intro d hd z hz
  obtain ⟨k, hk, rfl⟩ := List.getElem_of_mem hd
  exact (valsE_ge (decE_0 (h2 k hk)).2.2.2.1 z hz).1
 ·intro d hd
  obtain ⟨k, hk, rfl⟩ := List.getElem_of_mem hd
  exact (decE_0 (h2 k hk)).2.2.2.2
theorem momentF_calls (w : World) (a : Int) : Calls Tryz.prog 38 #[.int .i64 a] w (IntPost w (moE a)) := by
 by_cases h1 : a < 0
 ·have HQ : Hid (moE a = 1) := Lib.hid (by unfold moE inB; rw [if_neg (by simp; omega)])
  generalize moE a = q at *
  go_enter Tryz.func38, Tryz.ntmps38
  go_wp2_with fail
  go_ret
  exact IntPost.of HQ.out (Mod.refl _ _)
 ·by_cases h2 : 5761440 ≤ a
  ·have HQ : Hid (moE a = 1) := Lib.hid (by unfold moE inB; rw [if_neg (by simp; omega)])
   generalize moE a = q at *
   go_enter Tryz.func38, Tryz.ntmps38
   go_wp2_with fail
   go_ret
   exact IntPost.of HQ.out (Mod.refl _ _)
  ·have HQ : Hid (moE a = 0) := Lib.hid (by unfold moE inB; rw [if_pos (by simp; omega)])
   generalize moE a = q at *
   go_enter Tryz.func38, Tryz.ntmps38
   go_wp2_with fail
   go_ret
   exact IntPost.of HQ.out (Mod.refl _ _)
theorem askI_any (al : List AskR) (s : Str) : (al.any fun x => x.field == s) = !decide (askI al s < 0) := by
 unfold askI
 cases h : askIx al s with
 | none =>
  unfold askIx at h
  rw [List.findIdx?_eq_none_iff] at h
  have : (al.any fun x => x.field == s) = false := by
   rw [List.any_eq_false]
   intro x hx
   have := h x hx
   simpa using this
  rw [this]
  rfl
 | some k =>
  obtain ⟨hk, hf, _⟩ := askIx_some h
  have h2 : (al.any fun x => x.field == s) = true := List.any_eq_true.2 ⟨al[k], List.getElem_mem hk, by simp [hf]⟩
  rw [h2]
  have : ¬ ((k : Int) < 0) := by omega
  simp [this]
set_option maxRecDepth 100000 in
set_option maxHeartbeats 1000000 in
theorem dcl1_calls (w : World) (g : Nat) (s : Str) (x : AskR) (hb : w.cell? ⟨g, 0, none⟩ = some (.string ⟨s.toArray⟩)) : Calls Tryz.prog 46 #[.agg #[.string ⟨x.field.toArray⟩, .slice x.A x.ch.length x.c, .bool x.many, .int .i64 x.spread], .pointer (some ⟨g, 0, none⟩)] w (BoolPost w (x.field == s)) := by
 have hb2 := cell_alloc hb (.cells #[.string ⟨x.field.toArray⟩, .slice x.A x.ch.length x.c, .bool x.many, .int .i64 x.spread] 88)
 clear hb
 go_enter Tryz.func46, Tryz.ntmps46
 go_wp2_with fail
 go_ret
 exact BoolPost.of rfl (pure_alloc _ _)

set_option maxRecDepth 100000 in
set_option maxHeartbeats 16000000 in
theorem DecisionClashes_calls (w : World) (A : Option Addr) (n c : Nat) (hA : ArgInts w A n) (hM : MlnS w) (hT : Asc w) : Calls Tryz.prog 7 #[.slice A n c] w (BoolPost w true) := by
 have hS0 := strm_new (c := c) hA
 have HMT : Hid (∀ w1, Pure w w1 → MlnS w1 ∧ Asc w1) := Lib.hid (fun _ h => ⟨hM.pure h, hT.pure h⟩)
 obtain ⟨b, hb⟩ : ∃ b, b = w.heap.size := ⟨_, rfl⟩
 have P0 := pure_alloc w (.cells #[.slice A n c, .int .i64 0] 25)
 have HPS : Hid (∀ {w1 w' : World}, Pure w w1 → Mod (· = b) w1 w' → Pure w w') := Lib.hid (fun k h => k.trans' h (fun i hi hlt => by omega))
 rw [← hb] at hS0
 clear hM hT hA
 go_enter Tryz.func7, Tryz.ntmps7
 go_wp2_with fail
 rw [← hb]
 generalize (w.alloc (.cells #[.slice A n c, .int .i64 0] 25)) = w0 at *
 clear hb
 refine (layout_calls w0 b _ hS0 (by omega)).mono ?_
 rintro e w1 ⟨Aa, Ar, na, ca, nr, cr, L, rfl, hL, hla, hlr, hab, hrb, hS1, hM1⟩
 have P1 := HPS.out P0 hM1
 have hLB : LayB L := ⟨by omega, by omega, hab, hrb⟩
 have HLB := Lib.hid hLB
 have hpl := pure_alloc w1 (.cells #[.slice Aa na ca, .slice Ar nr cr] 29)
 have HG := Lib.hid (Blk.new w1 29 #[.slice Aa na ca, .slice Ar nr cr])
 have HP2 := Lib.hid (P1.trans hpl)
 have hS2 := hS1.alloc (.cells #[.slice Aa na ca, .slice Ar nr cr] 29)
 have HLV : Hid (∀ W, Mod (· = b) (w1.alloc (.cells #[.slice Aa na ca, .slice Ar nr cr] 29)) W → LayV W L (.agg #[.slice Aa na ca, .slice Ar nr cr])) := Lib.hid (fun W h => (hL.pure hpl).strm hS2 h)
 have hb1 := hS1.lt
 clear hS0 P0 hM1 hL hab hrb hLB P1 hpl hS1
 go_upto_region 3 with (fail)
 generalize (w1.alloc (.cells #[.slice Aa na ca, .slice Ar nr cr] 29)) = w2 at *
 generalize w1.heap.size = gl at *
 clear w0 w1
 have HGs := Lib.hid (show ∀ (D : Nat → Bool) (zzi : Nat) (zq zq' : World), (fun _ zq => (fun Z => Blk Z gl 29 #[.slice Aa na ca, .slice Ar nr cr]) zq) D zq → Mod (· = b) zq zq' → (fun _ zq => (fun Z => Blk Z gl 29 #[.slice Aa na ca, .slice Ar nr cr]) zq) (upd D zzi true) zq' from by intro D zzi zq zq' h hm; (exact h.modb hm (by omega)))
 refine wp_region_inv (by kernel_rfl) (by kernel_rfl) (InvF (R := Mod (· = b)) [.is (.pointer (some ⟨b, 0, none⟩)),
   .is (.agg #[.slice Aa na ca, .slice Ar nr cr]),
   .is (.pointer (some ⟨b, 0, none⟩)),
   .val (fun zv => ∃ (q_3 : Nat), zv = .int .i64 (q_3 : Int) ∧ q_3 ≤ 9),
   ⟨fun zv zw => ∃ (base_4 : Nat) (c_4 : Nat) (A_4 : Option Addr) (ds_4 : List DecR), zv = .slice A_4 ds_4.length c_4 ∧ w2.heap.size ≤ base_4 ∧ ds_4.length ≤ 9 ∧ (∀ x ∈ ds_4, DecB x) ∧ DcB zw b base_4 A_4 c_4 ds_4, (by rintro zv zw zx ⟨base_4, c_4, A_4, ds_4, rfl, c0, c1, c2, q0⟩ hm; exact ⟨base_4, c_4, A_4, ds_4, rfl, c0, c1, c2, (q0.ask hm)⟩), none, none⟩,
   ⟨fun zv zw => ∃ (base_5 : Nat) (c_5 : Nat) (A_5 : Option Addr) (ds_5 : List DecR), zv = .slice A_5 ds_5.length c_5 ∧ w2.heap.size ≤ base_5 ∧ ds_5.length ≤ 9 ∧ (∀ x ∈ ds_5, DecB x) ∧ DcB zw b base_5 A_5 c_5 ds_5, (by rintro zv zw zx ⟨base_5, c_5, A_5, ds_5, rfl, c0, c1, c2, q0⟩ hm; exact ⟨base_5, c_5, A_5, ds_5, rfl, c0, c1, c2, (q0.ask hm)⟩), none, none⟩]
   (GB w2 (· = b) w2.heap.size b ((0 + 100)) (fun D => (D 3).toNat + 4500 * (D 4).toNat) (fun _ zq => (fun Z => Blk Z gl 29 #[.slice Aa na ca, .slice Ar nr cr]) zq))) (InvF.start (GB.start (hS2.more (by omega)) (Mod.refl _ _) (Nat.le_refl _) (HG.out.drew))) ?_ ?_
 ·refine .cons ?_ (.cons ?_ (.cons ?_ (.cons ?_ (.cons ?_ (.cons ?_ .nil)))))
  ·intro D V zw1 a hR hI K hK
   obtain ⟨hS1, hM1, hB1, hG1⟩ := hI.1
   have ze3 := hR.frame.other (t := 3) (by kernel_rfl) rfl
   rw [if_pos (by rfl)]
   go_simp
   exact hK (.pointer (some ⟨b, 0, none⟩)) _ (hI.next hR (by kernel_rfl) (Mod.refl _ _) (GB.quiet hI.1 (Mod.refl _ _) (by have hn := hR.not; simp [upd, hn] <;> omega) (HGs.out D 0 zw1 zw1 (hI.1).g (Mod.refl _ _))) (upd_same V 0 _))
  ·intro D V zw1 a hR hI K hK
   obtain ⟨hS1, hM1, hB1, hG1⟩ := hI.1
   have ze4 := hR.frame.other (t := 4) (by kernel_rfl) rfl
   have zx0 := hG1.cell 0; have zx1 := hG1.cell 1
   simp at zx0 zx1
   rw [if_pos (by rfl)]
   go_simp
   exact hK (.agg #[.slice Aa na ca, .slice Ar nr cr]) _ (hI.next hR (by kernel_rfl) (Mod.refl _ _) (GB.quiet hI.1 (Mod.refl _ _) (by have hn := hR.not; simp [upd, hn] <;> omega) (HGs.out D 1 zw1 zw1 (hI.1).g (Mod.refl _ _))) (upd_same V 1 _))
  ·intro D V zw1 a hR hI K hK
   obtain ⟨hS1, hM1, hB1, hG1⟩ := hI.1
   have ze3 := hR.frame.other (t := 3) (by kernel_rfl) rfl
   rw [if_pos (by rfl)]
   go_simp
   exact hK (.pointer (some ⟨b, 0, none⟩)) _ (hI.next hR (by kernel_rfl) (Mod.refl _ _) (GB.quiet hI.1 (Mod.refl _ _) (by have hn := hR.not; simp [upd, hn] <;> omega) (HGs.out D 2 zw1 zw1 (hI.1).g (Mod.refl _ _))) (upd_same V 2 _))
  ·intro D V zw1 a hR hI K hK
   obtain ⟨hS1, hM1, hB1, hG1⟩ := hI.1
   have zd2 := hR.pred 2 (by kernel_rfl)
   have zF2 : V 2 = .pointer (some ⟨b, 0, none⟩) := hI.2 2 zd2 rfl
   have zf2 := zF2; clear zF2
   have ze21 := hR.frame.done (t := 21) (j := 2) (by kernel_rfl) hR.ok zd2
   rw [if_pos (by rfl)]
   have := Bool.toNat_le (D 3)
   have := Bool.toNat_le (D 4)
   have hNB : (0 + 100) + ((D 3).toNat + 4500 * (D 4).toNat) ≤ 1000000000 := by omega
   skip
   go_simp
   refine (range_calls _ _ _ _ _ hS1 hNB (by omega) (by omega) (by omega)).mono ?_
   rintro e zw2 ⟨k_0, hk1, hk2, rfl, hS2, hm2⟩
   obtain ⟨q_0, rfl⟩ := Int.eq_ofNat_of_zero_le hk1
   exact hK (.int .i64 (q_0 : Int)) _ (hI.next hR (by kernel_rfl) hm2 (GB.asks hI.1 (fun _ h _ => h) hS2 hm2 (by have hn := hR.not; simp [upd, hn] <;> omega) (HGs.out D 3 _ _ (hI.1).g hm2)) (⟨q_0, upd_same V 3 _, (by first | assumption | omega)⟩))
  ·intro D V zw1 a hR hI K hK
   obtain ⟨hS1, hM1, hB1, hG1⟩ := hI.1
   have zd0 := hR.pred 0 (by kernel_rfl)
   have zF0 : V 0 = .pointer (some ⟨b, 0, none⟩) := hI.2 0 zd0 rfl
   have zf0 := zF0; clear zF0
   have zd1 := hR.pred 1 (by kernel_rfl)
   have zF1 : V 1 = .agg #[.slice Aa na ca, .slice Ar nr cr] := hI.2 1 zd1 rfl
   have zf1 := zF1; clear zF1
   have zd3 := hR.pred 3 (by kernel_rfl)
   have zF3 : ∃ (q_3 : Nat), V 3 = .int .i64 (q_3 : Int) ∧ q_3 ≤ 9 := hI.2 3 zd3 rfl
   obtain ⟨q_3, zf3, c3_0⟩ := zF3
   have ze19 := hR.frame.done (t := 19) (j := 0) (by kernel_rfl) hR.ok zd0
   have ze20 := hR.frame.done (t := 20) (j := 1) (by kernel_rfl) hR.ok zd1
   have ze22 := hR.frame.done (t := 22) (j := 3) (by kernel_rfl) hR.ok zd3
   rw [if_pos (by rfl)]
   have := Bool.toNat_le (D 3)
   have := Bool.toNat_le (D 4)
   have hNB : (0 + 100) + ((D 3).toNat + 4500 * (D 4).toNat) ≤ 1000000000 := by omega
   skip
   go_simp
   refine (decisions_calls _ b _ _ L q_3 hS1 (by omega) (by omega) (HLV.out _ hM1) hla HLB.out).mono ?_
   rintro e zw2 ⟨base_0, c_0, A_0, ds_0, rfl, hbb, hwb, hdg, hdl, hdz, hS2, hm2⟩
   exact hK (.slice A_0 ds_0.length c_0) _ (hI.next hR (by kernel_rfl) hm2 (GB.asks hI.1 (fun _ h _ => h) hS2 hm2 (by have hn := hR.not; simp [upd, hn] <;> omega) (HGs.out D 4 _ _ (hI.1).g hm2)) (⟨base_0, c_0, A_0, ds_0, upd_same V 4 _, (by omega), (by omega), hdz, (DcB.of hdg hbb hS2)⟩))
  ·intro D V zw1 a hR hI K hK
   obtain ⟨hS1, hM1, hB1, hG1⟩ := hI.1
   have zd4 := hR.pred 4 (by kernel_rfl)
   have zF4 : ∃ (base_4 : Nat) (c_4 : Nat) (A_4 : Option Addr) (ds_4 : List DecR), V 4 = .slice A_4 ds_4.length c_4 ∧ w2.heap.size ≤ base_4 ∧ ds_4.length ≤ 9 ∧ (∀ x ∈ ds_4, DecB x) ∧ DcB zw1 b base_4 A_4 c_4 ds_4 := hI.2 4 zd4 rfl
   obtain ⟨base_4, c_4, A_4, ds_4, zf4, c4_0, c4_1, c4_2, b4_0⟩ := zF4
   have ze23 := hR.frame.done (t := 23) (j := 4) (by kernel_rfl) hR.ok zd4
   rw [if_pos (by rfl)]
   go_simp
   exact hK (.slice A_4 ds_4.length c_4) _ (hI.next hR (by kernel_rfl) (Mod.refl _ _) (GB.quiet hI.1 (Mod.refl _ _) (by have hn := hR.not; simp [upd, hn] <;> omega) (HGs.out D 5 zw1 zw1 (hI.1).g (Mod.refl _ _))) (⟨base_4, c_4, A_4, ds_4, upd_same V 5 _, (by first | assumption | omega), (by first | assumption | omega), (by first | assumption | omega), b4_0⟩))
 ·intro D V w3 hD hI
  obtain ⟨hS1, hM1, hB1, hG1⟩ := hI.1
  have hSx : Strm w3 b ((0 + 100) + 4501) := hS1.more (by show _ ≤ _; have := Bool.toNat_le (D 3); have := Bool.toNat_le (D 4); omega)
  clear hS1
  have hMx := hM1
  clear hM1
  have hBx := hB1
  clear hB1
  have hGx := hG1
  clear hG1
  have zF0 : V 0 = .pointer (some ⟨b, 0, none⟩) := hI.2 0 (hD 0 (by decide)) rfl
  have zf0 := zF0; clear zF0
  have zF1 : V 1 = .agg #[.slice Aa na ca, .slice Ar nr cr] := hI.2 1 (hD 1 (by decide)) rfl
  have zf1 := zF1; clear zF1
  have zF2 : V 2 = .pointer (some ⟨b, 0, none⟩) := hI.2 2 (hD 2 (by decide)) rfl
  have zf2 := zF2; clear zF2
  have zF3 : ∃ (q_3 : Nat), V 3 = .int .i64 (q_3 : Int) ∧ q_3 ≤ 9 := hI.2 3 (hD 3 (by decide)) rfl
  obtain ⟨q_3, zf3, c3_0⟩ := zF3
  have zF4 : ∃ (base_4 : Nat) (c_4 : Nat) (A_4 : Option Addr) (ds_4 : List DecR), V 4 = .slice A_4 ds_4.length c_4 ∧ w2.heap.size ≤ base_4 ∧ ds_4.length ≤ 9 ∧ (∀ x ∈ ds_4, DecB x) ∧ DcB w3 b base_4 A_4 c_4 ds_4 := hI.2 4 (hD 4 (by decide)) rfl
  obtain ⟨base_4, c_4, A_4, ds_4, zf4, c4_0, c4_1, c4_2, b4_0⟩ := zF4
  have zF5 : ∃ (base_5 : Nat) (c_5 : Nat) (A_5 : Option Addr) (ds_5 : List DecR), V 5 = .slice A_5 ds_5.length c_5 ∧ w2.heap.size ≤ base_5 ∧ ds_5.length ≤ 9 ∧ (∀ x ∈ ds_5, DecB x) ∧ DcB w3 b base_5 A_5 c_5 ds_5 := hI.2 5 (hD 5 (by decide)) rfl
  obtain ⟨base_5, c_5, A_5, ds_5, zf5, c5_0, c5_1, c5_2, b5_0⟩ := zF5
  clear hI hD HGs
  simp only [frAll, Act.put, List.setIfInBounds_toArray, List.set_cons_zero, List.set_cons_succ, Nat.zero_add, Nat.reduceAdd, zf0, zf1, zf2, zf3, zf4, zf5]
  clear zf0 zf1 zf2 zf3 zf4 zf5
  clear V D
  have HDB := Lib.hid b5_0
  have HDZ := Lib.hid c5_2
  have HP3 := Lib.hid (HPS.out HP2.out hMx)
  have HM3 := Lib.hid hMx
  have HG3 := Lib.hid hGx
  have hdl : ds_5.length ≤ 9 := c5_1
  have hbg : gl < w3.heap.size := hGx.lt
  have hbw3 := hSx.lt
  clear b4_0 b5_0 c4_0 c4_1 c4_2 c5_0 c5_1 c5_2 c3_0 hMx hGx hBx HP2 HG hS2
  generalize ds_5 = ds at *
  generalize A_5 = A5 at *
  generalize c_5 = c5 at *
  generalize base_5 = base at *
  generalize hNx : 0 + 100 + 4501 = Nx at *
  have hNx2 : Nx ≤ 5000 := by omega
  clear hNx
  go_upto_region 4 with (fail)
  have HGs := Lib.hid (show ∀ (D : Nat → Bool) (zzi : Nat) (zq zq' : World), (fun _ zq => (fun Z => Blk Z gl 29 #[.slice Aa na ca, .slice Ar nr cr]) zq) D zq → Mod (· = b) zq zq' → (fun _ zq => (fun Z => Blk Z gl 29 #[.slice Aa na ca, .slice Ar nr cr]) zq) (upd D zzi true) zq' from by intro D zzi zq zq' h hm; (exact h.modb hm (by omega)))
  refine wp_region_inv (by kernel_rfl) (by kernel_rfl) (InvF (R := Mod (· = b)) [⟨fun zv zw => ∃ (g_0 : Nat), zv = .slice (some ⟨g_0, 0, none⟩) 4 4 ∧ w3.heap.size ≤ g_0 ∧ Blk zw g_0 9 #[(.string { data := #[114, 101, 115, 112] }), (.string { data := #[119, 104, 121] }), (.string { data := #[104, 111, 116] }), (.string { data := #[110, 111, 110, 101] })], (by rintro zv zw zx ⟨g_0, rfl, c0, q0⟩ hm; exact ⟨g_0, rfl, c0, (q0.modb hm (by omega))⟩), none, some 3⟩,
    .is (.pointer (some ⟨b, 0, none⟩)),
    .val (fun zv => ∃ (j_2 : Nat), zv = .int .i64 (j_2 : Int) ∧ j_2 < 4),
    ⟨fun zv zw => ∃ (g_3 : Nat) (j_3 : Nat), zv = .pointer (some ⟨g_3, j_3, none⟩) ∧ w3.heap.size ≤ g_3 ∧ j_3 < 4 ∧ Blk zw g_3 9 #[.string ⟨#[114, 101, 115, 112]⟩, .string ⟨#[119, 104, 121]⟩, .string ⟨#[104, 111, 116]⟩, .string ⟨#[110, 111, 110, 101]⟩], (by rintro zv zw zx ⟨g_3, j_3, rfl, c0, c1, q0⟩ hm; exact ⟨g_3, j_3, rfl, c0, c1, (q0.modb hm (by omega))⟩), none, some 4⟩,
    .val (fun zv => ∃ (s_4 : Str), zv = .string ⟨s_4.toArray⟩ ∧ s_4.length ≤ 100),
    .is (.pointer (some ⟨b, 0, none⟩)),
    ⟨fun zv zw => ∃ (g_6 : Nat), zv = .slice (some ⟨g_6, 0, none⟩) 7 7 ∧ w3.heap.size ≤ g_6 ∧ Blk zw g_6 3 #[(.int .i64 5), (.int .i64 10), (.int .i64 20), (.int .i64 100), (.int .i64 100), (.int .i64 (-1)), (.int .i64 5761440)], (by rintro zv zw zx ⟨g_6, rfl, c0, q0⟩ hm; exact ⟨g_6, rfl, c0, (q0.modb hm (by omega))⟩), none, some 7⟩,
    .val (fun zv => ∃ (k_7 : Int), zv = .int .i64 k_7 ∧ -1 ≤ k_7 ∧ k_7 ≤ 5761440),
    ⟨fun zv zw => ∃ (g_8 : Nat), zv = .pointer (some ⟨g_8, 0, none⟩) ∧ w3.heap.size ≤ g_8 ∧ Blk zw g_8 9 #[.string ⟨#[]⟩], (by rintro zv zw zx ⟨g_8, rfl, c0, q0⟩ hm; exact ⟨g_8, rfl, c0, (q0.modb hm (by omega))⟩), none, some 9⟩,
    ⟨fun zv zw => ∃ (g_9 : Nat) (s_9 : Str), zv = .pointer (some ⟨g_9, 0, none⟩) ∧ w3.heap.size ≤ g_9 ∧ s_9.length ≤ 100 ∧ Blk zw g_9 9 #[.string ⟨s_9.toArray⟩], (by rintro zv zw zx ⟨g_9, s_9, rfl, c0, c1, q0⟩ hm; exact ⟨g_9, s_9, rfl, c0, c1, (q0.modb hm (by omega))⟩), some 8, none⟩,
    .val (fun zv => ∃ (k_10 : Int), zv = .int .i64 k_10 ∧ -1 ≤ k_10 ∧ k_10 ≤ 5761440)]
    (GB w3 (· = b) w3.heap.size b (Nx) (fun D => (D 2).toNat + (D 7).toNat) (fun _ zq => (fun Z => Blk Z gl 29 #[.slice Aa na ca, .slice Ar nr cr]) zq))) (InvF.start (GB.start hSx (Mod.refl _ _) (Nat.le_refl _) (HG3.out.drew))) ?_ ?_
  ·refine .cons ?_ (.cons ?_ (.cons ?_ (.cons ?_ (.cons ?_ (.cons ?_ (.cons ?_ (.cons ?_ (.cons ?_ (.cons ?_ (.cons ?_ .nil))))))))))
   ·intro D V zw1 a hR hI K hK
    obtain ⟨hS1, hM1, hB1, hG1⟩ := hI.1
    rw [if_pos (by rfl)]
    go_simp
    exact hK (_) _ (hI.next hR (by kernel_rfl) ((Mod.refl _ _).alloc _) (GB.quiet hI.1 (pure_alloc _ _) (by have hn := hR.not; simp [upd, hn] <;> omega) (HGs.out D 0 _ _ (hI.1).g ((Mod.refl _ _).alloc _))) (⟨_, upd_same V 0 _, (by omega), (Blk.new _ _ _)⟩))
   ·intro D V zw1 a hR hI K hK
    obtain ⟨hS1, hM1, hB1, hG1⟩ := hI.1
    have ze3 := hR.frame.other (t := 3) (by kernel_rfl) rfl
    rw [if_pos (by rfl)]
    go_simp
    exact hK (.pointer (some ⟨b, 0, none⟩)) _ (hI.next hR (by kernel_rfl) (Mod.refl _ _) (GB.quiet hI.1 (Mod.refl _ _) (by have hn := hR.not; simp [upd, hn] <;> omega) (HGs.out D 1 zw1 zw1 (hI.1).g (Mod.refl _ _))) (upd_same V 1 _))
   ·intro D V zw1 a hR hI K hK
    obtain ⟨hS1, hM1, hB1, hG1⟩ := hI.1
    have zd1 := hR.pred 1 (by kernel_rfl)
    have zF1 : V 1 = .pointer (some ⟨b, 0, none⟩) := hI.2 1 zd1 rfl
    have zf1 := zF1; clear zF1
    have ze25 := hR.frame.done (t := 25) (j := 1) (by kernel_rfl) hR.ok zd1
    rw [if_pos (by rfl)]
    have := Bool.toNat_le (D 2)
    have := Bool.toNat_le (D 7)
    have hNB : Nx + ((D 2).toNat + (D 7).toNat) ≤ 1000000000 := by omega
    skip
    go_simp
    refine (next_calls _ _ _ _ hS1 hNB (by omega) (by omega)).mono ?_
    rintro e zw2 ⟨kk, hk1, hk2, rfl, hS2, hm2⟩
    obtain ⟨j_0, rfl⟩ := Int.eq_ofNat_of_zero_le hk1
    have hj : j_0 < 4 := by omega
    exact hK (.int .i64 (j_0 : Int)) _ (hI.next hR (by kernel_rfl) hm2 (GB.asks hI.1 (fun _ h _ => h) hS2 hm2 (by have hn := hR.not; simp [upd, hn] <;> omega) (HGs.out D 2 _ _ (hI.1).g hm2)) (⟨j_0, upd_same V 2 _, hj⟩))
   ·intro D V zw1 a hR hI K hK
    obtain ⟨hS1, hM1, hB1, hG1⟩ := hI.1
    have zd0 := hR.pred 0 (by kernel_rfl)
    have zF0 : ∃ (g_0 : Nat), V 0 = .slice (some ⟨g_0, 0, none⟩) 4 4 ∧ w3.heap.size ≤ g_0 ∧ Blk zw1 g_0 9 #[(.string { data := #[114, 101, 115, 112] }), (.string { data := #[119, 104, 121] }), (.string { data := #[104, 111, 116] }), (.string { data := #[110, 111, 110, 101] })] := hI.2 0 zd0 (by show (!D 3) = true; rw [hR.not]; rfl)
    obtain ⟨g_0, zf0, c0_0, b0_0⟩ := zF0
    have zd2 := hR.pred 2 (by kernel_rfl)
    have zF2 : ∃ (j_2 : Nat), V 2 = .int .i64 (j_2 : Int) ∧ j_2 < 4 := hI.2 2 zd2 rfl
    obtain ⟨j_2, zf2, c2_0⟩ := zF2
    have ze24 := hR.frame.done (t := 24) (j := 0) (by kernel_rfl) hR.ok zd0
    have ze26 := hR.frame.done (t := 26) (j := 2) (by kernel_rfl) hR.ok zd2
    have i1 : (0 : Int) ≤ (j_2 : Int) := by omega
    have i2 : (j_2 : Int) < 4 := by omega
    rw [if_pos (by rfl)]
    go_simp
    exact hK (_) _ (hI.next hR (by kernel_rfl) (Mod.refl _ _) (GB.quiet hI.1 (Mod.refl _ _) (by have hn := hR.not; simp [upd, hn] <;> omega) (HGs.out D 3 zw1 zw1 (hI.1).g (Mod.refl _ _))) (⟨g_0, j_2, upd_same V 3 _, (by first | assumption | omega), (by first | assumption | omega), b0_0⟩))
   ·intro D V zw1 a hR hI K hK
    obtain ⟨hS1, hM1, hB1, hG1⟩ := hI.1
    have zd3 := hR.pred 3 (by kernel_rfl)
    have zF3 : ∃ (g_3 : Nat) (j_3 : Nat), V 3 = .pointer (some ⟨g_3, j_3, none⟩) ∧ w3.heap.size ≤ g_3 ∧ j_3 < 4 ∧ Blk zw1 g_3 9 #[.string ⟨#[114, 101, 115, 112]⟩, .string ⟨#[119, 104, 121]⟩, .string ⟨#[104, 111, 116]⟩, .string ⟨#[110, 111, 110, 101]⟩] := hI.2 3 zd3 (by show (!D 4) = true; rw [hR.not]; rfl)
    obtain ⟨g_3, j_3, zf3, c3_0, c3_1, b3_0⟩ := zF3
    have ze27 := hR.frame.done (t := 27) (j := 3) (by kernel_rfl) hR.ok zd3
    obtain ⟨zs, hsl, hcell⟩ := strs_cell (M := 100) [[114, 101, 115, 112], [119, 104, 121], [104, 111, 116], [110, 111, 110, 101]] b3_0 c3_1 (by decide)
    rw [if_pos (by rfl)]
    go_simp
    exact hK (_) _ (hI.next hR (by kernel_rfl) (Mod.refl _ _) (GB.quiet hI.1 (Mod.refl _ _) (by have hn := hR.not; simp [upd, hn] <;> omega) (HGs.out D 4 zw1 zw1 (hI.1).g (Mod.refl _ _))) (⟨zs, upd_same V 4 _, hsl⟩))
   ·intro D V zw1 a hR hI K hK
    obtain ⟨hS1, hM1, hB1, hG1⟩ := hI.1
    have ze3 := hR.frame.other (t := 3) (by kernel_rfl) rfl
    rw [if_pos (by rfl)]
    go_simp
    exact hK (.pointer (some ⟨b, 0, none⟩)) _ (hI.next hR (by kernel_rfl) (Mod.refl _ _) (GB.quiet hI.1 (Mod.refl _ _) (by have hn := hR.not; simp [upd, hn] <;> omega) (HGs.out D 5 zw1 zw1 (hI.1).g (Mod.refl _ _))) (upd_same V 5 _))
   ·intro D V zw1 a hR hI K hK
    obtain ⟨hS1, hM1, hB1, hG1⟩ := hI.1
    rw [if_pos (by rfl)]
    go_simp
    exact hK (_) _ (hI.next hR (by kernel_rfl) ((Mod.refl _ _).alloc _) (GB.quiet hI.1 (pure_alloc _ _) (by have hn := hR.not; simp [upd, hn] <;> omega) (HGs.out D 6 _ _ (hI.1).g ((Mod.refl _ _).alloc _))) (⟨_, upd_same V 6 _, (by omega), (Blk.new _ _ _)⟩))
   ·intro D V zw1 a hR hI K hK
    obtain ⟨hS1, hM1, hB1, hG1⟩ := hI.1
    have zd5 := hR.pred 5 (by kernel_rfl)
    have zF5 : V 5 = .pointer (some ⟨b, 0, none⟩) := hI.2 5 zd5 rfl
    have zf5 := zF5; clear zF5
    have zd6 := hR.pred 6 (by kernel_rfl)
    have zF6 : ∃ (g_6 : Nat), V 6 = .slice (some ⟨g_6, 0, none⟩) 7 7 ∧ w3.heap.size ≤ g_6 ∧ Blk zw1 g_6 3 #[(.int .i64 5), (.int .i64 10), (.int .i64 20), (.int .i64 100), (.int .i64 100), (.int .i64 (-1)), (.int .i64 5761440)] := hI.2 6 zd6 (by show (!D 7) = true; rw [hR.not]; rfl)
    obtain ⟨g_6, zf6, c6_0, b6_0⟩ := zF6
    have ze29 := hR.frame.done (t := 29) (j := 5) (by kernel_rfl) hR.ok zd5
    have ze30 := hR.frame.done (t := 30) (j := 6) (by kernel_rfl) hR.ok zd6
    rw [if_pos (by rfl)]
    have := Bool.toNat_le (D 2)
    have := Bool.toNat_le (D 7)
    have hNB : Nx + ((D 2).toNat + (D 7).toNat) ≤ 1000000000 := by omega
    skip
    go_simp
    refine (pickv_calls _ _ _ _ 7 7 #[(.int .i64 5), (.int .i64 10), (.int .i64 20), (.int .i64 100), (.int .i64 100), (.int .i64 (-1)), (.int .i64 5761440)] hS1 b6_0 hNB (by omega) rfl (by omega) (by omega) rfl).mono ?_
    rintro e zw2 ⟨k_0, hk, rfl, hS2, hm2⟩
    have hk2 : -1 ≤ k_0 ∧ k_0 ≤ 5761440 := by simp [intsOf, Go.RowKit.intOf] at hk; omega
    exact hK (.int .i64 k_0) _ (hI.next hR (by kernel_rfl) hm2 (GB.asks hI.1 (fun _ h _ => h) hS2 hm2 (by have hn := hR.not; simp [upd, hn] <;> omega) (HGs.out D 7 _ _ (hI.1).g hm2)) (⟨k_0, upd_same V 7 _, hk2.1, hk2.2⟩))
   ·intro D V zw1 a hR hI K hK
    obtain ⟨hS1, hM1, hB1, hG1⟩ := hI.1
    rw [if_pos (by rfl)]
    go_simp
    exact hK (_) _ (hI.next hR (by kernel_rfl) ((Mod.refl _ _).alloc _) (GB.quiet hI.1 (pure_alloc _ _) (by have hn := hR.not; simp [upd, hn] <;> omega) (HGs.out D 8 _ _ (hI.1).g ((Mod.refl _ _).alloc _))) (⟨_, upd_same V 8 _, (by omega), (Blk.new _ _ _)⟩))
   ·intro D V zw1 a hR hI K hK
    obtain ⟨hS1, hM1, hB1, hG1⟩ := hI.1
    have zd8 := hR.pred 8 (by kernel_rfl)
    have zF8 : ∃ (g_8 : Nat), V 8 = .pointer (some ⟨g_8, 0, none⟩) ∧ w3.heap.size ≤ g_8 ∧ Blk zw1 g_8 9 #[.string ⟨#[]⟩] := hI.2 8 zd8 (by show (!D 9) = true; rw [hR.not]; rfl)
    obtain ⟨g_8, zf8, c8_0, b8_0⟩ := zF8
    have zd4 := hR.pred 4 (by kernel_rfl)
    have zF4 : ∃ (s_4 : Str), V 4 = .string ⟨s_4.toArray⟩ ∧ s_4.length ≤ 100 := hI.2 4 zd4 rfl
    obtain ⟨s_4, zf4, c4_0⟩ := zF4
    have ze6 := hR.frame.done (t := 6) (j := 8) (by kernel_rfl) hR.ok zd8
    have ze28 := hR.frame.done (t := 28) (j := 4) (by kernel_rfl) hR.ok zd4
    rw [if_pos (by rfl)]
    have zx0 := b8_0.cell 0; have zy0 := b8_0.frozen 0
    simp at zx0 zy0
    go_simp
    refine hK undef _ (InvF.last ?_ ?_ ?_)
    ·exact ⟨(hS1.setCell (by show _ < g_8; omega) _).more (by have hn := hR.not; simp [upd, hn] <;> omega), (hM1.setCell (.inr (by show _ ≤ g_8; omega)) _), (by simpa using hB1), hG1.far (by show gl ≠ g_8; omega) _⟩
    ·exact ⟨g_8, s_4, (upd_ne V (i := 9) (k := 8) undef (by omega)).trans zf8, (by first | assumption | omega), (by first | assumption | omega), (by have hset := (b8_0.set 0 (.string ⟨s_4.toArray⟩)); simpa using hset)⟩
    ·intro k hk hDk hlv
     have hkl := hR.lt k hDk
     have hv := hI.2 k hDk (liveB_of hlv)
     match k, hk, hDk, hlv, hkl, hv with
     | 0, _, _, hlv, _, _ => exact absurd hlv (by show ¬ (!upd D 9 true 3) = true; rw [upd_ne _ _ (by omega), hR.pred 3 (by kernel_rfl)]; decide)
     | 1, _, _, _, _, hv => exact hv
     | 2, _, _, _, _, hv => exact hv
     | 3, _, _, hlv, _, _ => exact absurd hlv (by show ¬ (!upd D 9 true 4) = true; rw [upd_ne _ _ (by omega), hR.pred 4 (by kernel_rfl)]; decide)
     | 4, _, _, _, _, hv => exact hv
     | 5, _, _, _, _, hv => exact hv
     | 6, _, _, hlv, _, _ => exact absurd hlv (by show ¬ (!upd D 9 true 7) = true; rw [upd_ne _ _ (by omega), hR.pred 7 (by kernel_rfl)]; decide)
     | 7, _, _, _, _, hv => exact hv
     | 8, _, _, hlv, _, _ => exact absurd hlv (by show ¬ (!upd D 9 true 9) = true; rw [upd_same]; decide)
     | 9, hk, _, _, _, _ => exact absurd rfl hk
     | 10, _, _, _, _, hv => exact hv
     | k + 11, _, _, _, hkl, _ => exact absurd hkl (by simp)
   ·intro D V zw1 a hR hI K hK
    obtain ⟨hS1, hM1, hB1, hG1⟩ := hI.1
    have zd7 := hR.pred 7 (by kernel_rfl)
    have zF7 : ∃ (k_7 : Int), V 7 = .int .i64 k_7 ∧ -1 ≤ k_7 ∧ k_7 ≤ 5761440 := hI.2 7 zd7 rfl
    obtain ⟨k_7, zf7, c7_0, c7_1⟩ := zF7
    have ze31 := hR.frame.done (t := 31) (j := 7) (by kernel_rfl) hR.ok zd7
    rw [if_pos (by rfl)]
    go_simp
    exact hK (.int .i64 k_7) _ (hI.next hR (by kernel_rfl) (Mod.refl _ _) (GB.quiet hI.1 (Mod.refl _ _) (by have hn := hR.not; simp [upd, hn] <;> omega) (HGs.out D 10 zw1 zw1 (hI.1).g (Mod.refl _ _))) (⟨k_7, upd_same V 10 _, (by first | assumption | omega), (by first | assumption | omega)⟩))
  ·intro D V w4 hD hI
   obtain ⟨hS1, hM1, hB1, hG1⟩ := hI.1
   have hSy : Strm w4 b (Nx + 2) := hS1.more (by show _ ≤ _; have := Bool.toNat_le (D 2); have := Bool.toNat_le (D 7); omega)
   clear hS1
   have hMy := hM1
   clear hM1
   have hBy := hB1
   clear hB1
   have hGy := hG1
   clear hG1
   have zF1 : V 1 = .pointer (some ⟨b, 0, none⟩) := hI.2 1 (hD 1 (by decide)) rfl
   have zf1 := zF1; clear zF1
   have zF2 : ∃ (j_2 : Nat), V 2 = .int .i64 (j_2 : Int) ∧ j_2 < 4 := hI.2 2 (hD 2 (by decide)) rfl
   obtain ⟨j_2, zf2, c2_0⟩ := zF2
   have zF4 : ∃ (s_4 : Str), V 4 = .string ⟨s_4.toArray⟩ ∧ s_4.length ≤ 100 := hI.2 4 (hD 4 (by decide)) rfl
   obtain ⟨s_4, zf4, c4_0⟩ := zF4
   have zF5 : V 5 = .pointer (some ⟨b, 0, none⟩) := hI.2 5 (hD 5 (by decide)) rfl
   have zf5 := zF5; clear zF5
   have zF7 : ∃ (k_7 : Int), V 7 = .int .i64 k_7 ∧ -1 ≤ k_7 ∧ k_7 ≤ 5761440 := hI.2 7 (hD 7 (by decide)) rfl
   obtain ⟨k_7, zf7, c7_0, c7_1⟩ := zF7
   have zF9 : ∃ (g_9 : Nat) (s_9 : Str), V 8 = .pointer (some ⟨g_9, 0, none⟩) ∧ w3.heap.size ≤ g_9 ∧ s_9.length ≤ 100 ∧ Blk w4 g_9 9 #[.string ⟨s_9.toArray⟩] := hI.2 9 (hD 9 (by decide)) rfl
   obtain ⟨g_9, s_9, zf9, c9_0, c9_1, b9_0⟩ := zF9
   have zF10 : ∃ (k_10 : Int), V 10 = .int .i64 k_10 ∧ -1 ≤ k_10 ∧ k_10 ≤ 5761440 := hI.2 10 (hD 10 (by decide)) rfl
   obtain ⟨k_10, zf10, c10_0, c10_1⟩ := zF10
   clear hI hD HGs
   simp only [frAll, Act.put, List.setIfInBounds_toArray, List.set_cons_zero, List.set_cons_succ, Nat.zero_add, Nat.reduceAdd, zf1, zf2, zf4, zf5, zf7, zf9, zf10]
   clear zf1 zf2 zf4 zf5 zf7 zf9 zf10
   generalize V 0 = u0
   generalize V 3 = u3
   generalize V 6 = u6
   clear V D
   have HDB4 := Lib.hid (HDB.out.ask hMy)
   have HP4 := Lib.hid (HPS.out HP3.out hMy)
   have hLW := HLV.out _ (HM3.out.trans hMy)
   have hA : Asks w4 (.slice Aa na ca) L.asks := by
    obtain ⟨A', n', c', A2', n2', c2', e, hA, _⟩ := hLW
    simp at e
    obtain ⟨⟨rfl, rfl, rfl⟩, rfl, rfl, rfl⟩ := e
    exact hA
   have HRK : Hid (decsE L ds = 0 → (∀ d ∈ ds, ∀ z ∈ d.vals, 0 ≤ kIx L.asks z.field) ∧ ∀ d ∈ ds, d.vals.length ≠ 0) := Lib.hid right_k
   have HCL := Lib.hid (clashes_calls w4 _ L A5 ds.length c5 ds k_10 hLW HLB.out HDB4.out.decs HDZ.out (by omega) (fun h => (HRK.out h).1))
   have HSC := Lib.hid (fun W (h : Pure w4 W) => scores_calls W _ L A5 ds.length c5 ds s_9 k_10 (hLW.pure h) HLB.out (HDB4.out.decs.pure h) HDZ.out (by omega) (fun h => (HRK.out h).1))
   have HDF := Lib.hid (fun W (h : Pure w4 W) => dsfault_calls W _ L A5 ds.length c5 ds (hLW.pure h) HLB.out (HDB4.out.decs.pure h) HDZ.out (by omega))
   have HCA := Lib.hid (fun (h0 : decsE L ds = 0) W (h : Pure w4 W) => clashesAt_calls W _ L A5 ds.length c5 ds k_10 (hLW.pure h) HLB.out (HDB4.out.decs.pure h) HDZ.out (by omega) (HRK.out h0).1)
   have HSA := Lib.hid (fun (h0 : decsE L ds = 0) W (h : Pure w4 W) => scoresAt_calls W _ L A5 ds.length c5 ds s_9 k_10 (hLW.pure h) HLB.out (HDB4.out.decs.pure h) HDZ.out (by omega) (HRK.out h0).1)
   have HCN : Hid (∀ W, Pure w4 W → Calls Tryz.prog 45 #[.slice Aa na ca, .func (.func 46) #[] #[.pointer (some ⟨g_9, 0, none⟩)]] W (BoolPost W (!decide (askI L.asks s_9 < 0)))) := Lib.hid (fun W h => by
    have h2 := containsA1_calls W (.slice Aa na ca) L.asks 46 (.pointer (some ⟨g_9, 0, none⟩)) (fun x => x.field == s_9) (hA.pure h).1 (fun _ _ => rfl) (fun x W2 _ hm => dcl1_calls W2 g_9 s_9 x (by rw [((b9_0.modp h).modp hm).cell 0]; rfl))
    rwa [askI_any] at h2)
   have HMF := Lib.hid (fun W => momentF_calls W k_10)
   have HQO : Hid (scE L ds s_9 k_10 = if decsE L ds ≠ 0 then decsE L ds else if askI L.asks s_9 < 0 then 8 else moE k_10) := Lib.hid rfl
   have HQF : Hid (cogE L ds k_10 = if decsE L ds ≠ 0 then decsE L ds else moE k_10) := Lib.hid rfl
   have HG4 := Lib.hid hGy
   have HF4 := Lib.hid b9_0
   have HDC := Lib.hid (fun W (h : Pure w4 W) => decides_calls W (HMT.out _ (HP4.out.trans h)).1 (HMT.out _ (HP4.out.trans h)).2)
   generalize k_10 = at_ at *
   generalize s_9 = fd at *
   generalize scE L ds fd at_ = qo at *
   generalize cogE L ds at_ = qf at *
   generalize decsE L ds = qs at *
   generalize askI L.asks fd = ai at *
   generalize hmo : moE at_ = mo at *
   generalize clsL L.asks (looksP L.asks ds at_) = CL at *
   generalize scoL fd (looksP L.asks ds at_) = SL at *
   have hX := HG4.out
   have x0 := hX.cell 0; have x1 := hX.cell 1; simp at x0 x1
   clear hX hLW hA hSy hMy hBy hGy hSx HDB HDB4 HDZ HP3 HM3 HG3 HLV HMT HRK hmo b9_0 c10_0 c10_1
   go_wp2_with fail
   refine HCL.out.mono ?_
   rintro e w5 ⟨A8, m8, k8, rfl, hk8, hs8, hm⟩
   have HK8 := Lib.hid hk8
   have HS5 := Lib.hid hs8
   have HM5 := Lib.hid hm
   have HG5 := Lib.hid (HG4.out.modp hm)
   have HF5 := Lib.hid (HF4.out.modp hm)
   clear x0 x1 hk8 hs8 hm HCL HG4 HF4
   have hX := HG5.out
   have hY := HF5.out
   have x0 := hX.cell 0; have x1 := hX.cell 1; simp at x0 x1
   have y0 := hY.cell 0; simp at y0
   clear hX hY
   go_wp2_with fail
   refine (HSC.out _ HM5.out).mono ?_
   rintro e w6 ⟨A9, m9, k9, rfl, hk9, hs9, hm⟩
   have HK9 := Lib.hid hk9
   have HS6 := Lib.hid hs9
   have HT6 : Hid (qf = 0 → Sl w6 92 4 (.slice A8 m8 k8) (claV CL)) := Lib.hid (fun h => (HS5.out h).pure hm)
   have HM6 := Lib.hid (HM5.out.trans hm)
   have HG6 := Lib.hid (HG5.out.modp hm)
   have HF6 := Lib.hid (HF5.out.modp hm)
   clear x0 x1 y0 hk9 hs9 hm HSC HS5 HM5 HG5 HF5
   have hX := HG6.out
   have x0 := hX.cell 0; have x1 := hX.cell 1; simp at x0 x1
   clear hX
   go_wp2_with fail
   refine (HDF.out _ HM6.out).mono ?_
   rintro e w9 ⟨rfl, hm⟩
   have HM9 := Lib.hid (HM6.out.trans hm)
   have HG9 := Lib.hid (HG6.out.modp hm)
   have HF9 := Lib.hid (HF6.out.modp hm)
   have HT9 : Hid (qf = 0 → Sl w9 92 4 (.slice A8 m8 k8) (claV CL)) := Lib.hid (fun h => (HT6.out h).pure hm)
   have HS9 : Hid (qo = 0 → Sl w9 96 3 (.slice A9 m9 k9) (scoV SL)) := Lib.hid (fun h => (HS6.out h).pure hm)
   clear x0 x1 hm HDF HM6 HG6 HF6 HT6 HS6
   generalize ho1 : (if qs = 0 ∧ ai < 0 then (8 : Int) else qs) = o1 at *
   have HO1 := Lib.hid ho1
   clear ho1
   generalize hf1 : (decide (qs = 0) && decide (ai < 0)) = f1 at *
   have HF1 := Lib.hid hf1
   clear hf1
   go_upto_region 9 with (fail)
   go_cut [59] (fun p wx => p = .bool f1 ∧ Pure w9 wx)
   case first =>
    by_cases h0 : qs = 0
    ·subst h0
     have HZ : Hid (f1 = decide (ai < 0)) := Lib.hid (by rw [← HF1.out]; simp)
     have hX := HG9.out
     have x0 := hX.cell 0; have x1 := hX.cell 1; simp at x0 x1
     clear hX
     generalize decide (ai < 0) = da at *
     go_wp2_with fail
     refine (HCN.out _ HM9.out).mono ?_
     rintro e wx ⟨rfl, hm⟩
     go_wp2_with fail
     go_meet
     exact ⟨by rw [HZ.out] <;> simp, hm⟩
    ·have h0' : (qs == 0) = false := by simpa using h0
     have HZ : Hid (f1 = false) := Lib.hid (by rw [← HF1.out]; simp [h0])
     clear h0
     go_wp2_with fail
     go_meet
     exact ⟨by rw [HZ.out], Mod.refl _ _⟩
   case rest =>
    obtain ⟨rfl, hmx⟩ := hcut
    obtain ⟨wx, hwx⟩ : ∃ W, W = wc := ⟨wc, rfl⟩
    subst hwx
    have HM10 := Lib.hid (HM9.out.trans hmx)
    have HG10 := Lib.hid (HG9.out.modp hmx)
    have HF10 := Lib.hid (HF9.out.modp hmx)
    have HT10 : Hid (qf = 0 → Sl wx 92 4 (.slice A8 m8 k8) (claV CL)) := Lib.hid (fun h => (HT9.out h).pure hmx)
    have HS10 : Hid (qo = 0 → Sl wx 96 3 (.slice A9 m9 k9) (scoV SL)) := Lib.hid (fun h => (HS9.out h).pure hmx)
    clear hmx HM9 HG9 HF9 HT9 HS9 HCN
    go_upto_if 59 with (fail)
    go_cut [13] (fun p wy => p = .int .i64 o1 ∧ Pure wx wy)
    case first =>
     cases f1
     ·have HZ : Hid (o1 = qs) := Lib.hid (by
       have h := HF1.out
       rw [← HO1.out, if_neg]
       rintro ⟨h1, h2⟩
       simp [h1, h2] at h)
      go_wp2_with fail
      go_meet
      exact ⟨by rw [HZ.out], Mod.refl _ _⟩
     ·have HZ : Hid (o1 = 8) := Lib.hid (by
       have h := HF1.out
       rw [Bool.and_eq_true] at h
       rw [← HO1.out, if_pos ⟨of_decide_eq_true h.1, of_decide_eq_true h.2⟩])
      go_wp2_with fail
      go_meet
      exact ⟨by rw [HZ.out], Mod.refl _ _⟩
    case rest =>
     obtain ⟨rfl, hmy⟩ := hcut
     have HM11 := Lib.hid (HM10.out.trans hmy)
     have HG11 := Lib.hid (HG10.out.modp hmy)
     have HF11 := Lib.hid (HF10.out.modp hmy)
     have HT11 := Lib.hid (fun h => (HT10.out h).pure hmy)
     have HS11 := Lib.hid (fun h => (HS10.out h).pure hmy)
     clear hmy HM10 HG10 HF10 HT10 HS10
     have HWO : Hid (∀ (W : World) (g : Nat), Blk W g 41 #[.int .i64 o1, .int .i64 mo] → Calls Tryz.prog 33 #[.slice (some ⟨g, 0, none⟩) 2 2] W (IntPost W qo)) := Lib.hid (fun W g h => by
      have := wrongOr_calls W g 2 [o1, mo] h.row0 (by simp)
      rw [cof2] at this
      have e : (if o1 ≠ 0 then o1 else mo) = qo := by
       rw [HQO.out, ← HO1.out]
       by_cases h1 : qs = 0
       ·subst h1
        by_cases h8 : ai < 0 <;> simp [h8]
       ·simp [h1]
      rwa [e] at this)
     have HWF : Hid (∀ (W : World) (g : Nat), Blk W g 41 #[.int .i64 qs, .int .i64 mo] → Calls Tryz.prog 33 #[.slice (some ⟨g, 0, none⟩) 2 2] W (IntPost W qf)) := Lib.hid (fun W g h => by
      have := wrongOr_calls W g 2 [qs, mo] h.row0 (by simp)
      rwa [cof2, ← HQF.out] at this)
     go_wp2_with fail
     refine (HMF.out _).mono ?_
     rintro e w12 ⟨rfl, hm⟩
     have HP12 := Lib.hid hm
     clear hm
     go_wp2_with fail
     refine (HWF.out _ _ (Blk.new' rfl)).mono ?_
     rintro e w13 ⟨rfl, hm⟩
     have HP13 := Lib.hid (HP12.out.trans ((pure_alloc _ _).trans hm))
     clear hm HP12
     go_wp2_with fail
     refine (HMF.out _).mono ?_
     rintro e w14 ⟨rfl, hm⟩
     have HP14 := Lib.hid (HP13.out.trans hm)
     clear hm HP13
     go_wp2_with fail
     refine (HWO.out _ _ (Blk.new' rfl)).mono ?_
     rintro e w15 ⟨rfl, hm⟩
     have HP15 := Lib.hid (HP14.out.trans ((pure_alloc _ _).trans hm))
     have HM15 := Lib.hid (HM11.out.trans HP15.out)
     have HG15 := Lib.hid (HG11.out.modp HP15.out)
     have HF15 := Lib.hid (HF11.out.modp HP15.out)
     have HS8 : Hid (qf = 0 → Sl w15 92 4 (.slice A8 m8 k8) (claV CL)) := Lib.hid (fun h => (HT11.out h).pure HP15.out)
     have HS9 : Hid (qo = 0 → Sl w15 96 3 (.slice A9 m9 k9) (scoV SL)) := Lib.hid (fun h => (HS11.out h).pure HP15.out)
     have HQS : Hid (qf = 0 → qs = 0) := Lib.hid (fun h => Decidable.byContradiction fun h1 => by have := HQF.out; rw [if_pos h1] at this; omega)
     have HQT : Hid (qo = 0 → qf = 0) := Lib.hid (fun h => by
      have h2 := HQF.out
      have h3 := HQO.out
      by_cases h4 : qs = 0
      ·rw [if_neg (by simp [h4])] at h2 h3
       by_cases h8 : ai < 0
       ·rw [if_pos h8] at h3; omega
       ·rw [if_neg h8] at h3; omega
      ·rw [if_pos h4] at h3; omega)
     clear hm HP14 HP15 HM11 HG11 HF11 HT11 HS11 HWO HWF HMF HQO HQF HO1 HF1
     by_cases h2 : qf = 0
     ·have HCAX := Lib.hid (HCA.out (HQS.out h2))
      have HSAX := Lib.hid (HSA.out (HQS.out h2))
      clear HCA HSA HQS HQT
      subst h2
      have HSX := Lib.hid (HS8.out rfl)
      clear HS8
      by_cases h1 : qo = 0
      ·subst h1
       have HSY := Lib.hid (HS9.out rfl)
       clear HS9
       have hX := HG15.out
       have x0 := hX.cell 0; have x1 := hX.cell 1; simp at x0 x1
       clear hX
       go_wp2_with fail
       refine (HCAX.out _ HM15.out).mono ?_
       rintro e w17 ⟨A17, m17, c17, rfl, hcr, hm⟩
       have HEF := Lib.hid (equalCla_calls w17 _ _ CL (HSX.out.pure hm) hcr)
       have HM17 := Lib.hid (HM15.out.trans hm)
       have HG17 := Lib.hid (HG15.out.modp hm)
       have HF17 := Lib.hid (HF15.out.modp hm)
       have HS17 := Lib.hid (HSY.out.pure hm)
       clear hm hcr HCAX x0 x1 HM15 HG15 HF15 HSX HSY
       go_wp2_with fail
       refine HEF.out.mono ?_
       rintro e w18 ⟨rfl, hm⟩
       have HM18 := Lib.hid (HM17.out.trans hm)
       have HG18 := Lib.hid (HG17.out.modp hm)
       have HF18 := Lib.hid (HF17.out.modp hm)
       have HS18 := Lib.hid (HS17.out.pure hm)
       clear hm HEF HM17 HG17 HF17 HS17
       have hX := HG18.out
       have hY := HF18.out
       have x0 := hX.cell 0; have x1 := hX.cell 1; simp at x0 x1
       have y0 := hY.cell 0; simp at y0
       clear hX hY
       go_wp2_with fail
       refine (HSAX.out _ HM18.out).mono ?_
       rintro e w19 ⟨A19, m19, c19, rfl, hcr, hm⟩
       have HEF := Lib.hid (equalSco_calls w19 _ _ SL (HS18.out.pure hm) hcr)
       have HM19 := Lib.hid (HM18.out.trans hm)
       clear hm hcr HSAX x0 x1 y0 HM18 HG18 HF18 HS18
       go_wp2_with fail
       refine HEF.out.mono ?_
       rintro e w20 ⟨rfl, hm⟩
       have HM20 := Lib.hid (HM19.out.trans hm)
       clear hm HEF HM19
       go_wp2_with fail
       refine (HDC.out _ HM20.out).mono ?_
       rintro e w21 ⟨rfl, hm⟩
       have HPF := Lib.hid ((HP4.out.trans HM20.out).trans hm)
       clear hm HDC
       go_wp2_with fail
       go_ret
       exact BoolPost.of rfl HPF.out
      ·have h1' : (qo != 0) = true := by simpa using h1
       obtain rfl := HK9.out h1
       clear h1 HSAX HS9
       have hX := HG15.out
       have x0 := hX.cell 0; have x1 := hX.cell 1; simp at x0 x1
       clear hX
       go_wp2_with fail
       refine (HCAX.out _ HM15.out).mono ?_
       rintro e w17 ⟨A17, m17, c17, rfl, hcr, hm⟩
       have HEF := Lib.hid (equalCla_calls w17 _ _ CL (HSX.out.pure hm) hcr)
       have HM17 := Lib.hid (HM15.out.trans hm)
       have HG17 := Lib.hid (HG15.out.modp hm)
       have HF17 := Lib.hid (HF15.out.modp hm)
       clear hm hcr HCAX x0 x1 HM15 HG15 HF15 HSX HG17 HF17
       go_wp2_with fail
       refine HEF.out.mono ?_
       rintro e w18 ⟨rfl, hm⟩
       have HM18 := Lib.hid (HM17.out.trans hm)
       clear hm HEF HM17
       go_wp2_with fail
       refine (HDC.out _ HM18.out).mono ?_
       rintro e w21 ⟨rfl, hm⟩
       have HPF := Lib.hid ((HP4.out.trans HM18.out).trans hm)
       clear hm HDC
       go_wp2_with fail
       go_ret
       exact BoolPost.of rfl HPF.out
     ·have h2' : (qf != 0) = true := by simpa using h2
      obtain rfl := HK8.out h2
      have h1 : qo ≠ 0 := fun h => h2 (HQT.out h)
      have h1' : (qo != 0) = true := by simpa using h1
      obtain rfl := HK9.out h1
      clear h1 h2 HCA HSA HQS HQT
      go_wp2_with fail
      refine (HDC.out _ HM15.out).mono ?_
      rintro e w21 ⟨rfl, hm⟩
      have HPF := Lib.hid ((HP4.out.trans HM15.out).trans hm)
      clear hm HDC
      go_wp2_with fail
      go_ret
      exact BoolPost.of rfl HPF.out

end Go.Proofs.YtkkndblcejmmjaaGreatDoor
